/-
  From a contract to a row: arguments opened, told; what is left of the world behind the call. Proved over any program. A slice of structs of two numbers and a text, opened as a list of parts. Proved over any program. A slice of slices of parts, opened as a list of lists. Proved over any program.
-/
import Derived.Test.YtmhpninemdmbkaaGreatDoorRwE
import Derived.ProofKit
import Derived.OpenShut
import Derived.Carry
import Derived.Test.YtmhpninemdmbkaaGreatDoorRwF
import Derived.Deep.Slices
set_option linter.unusedSimpArgs false
set_option linter.unusedVariables false
set_option linter.defProp false

-- RwRow
section
namespace Go.Rw
open Go Go.RowKit Go.ChangeShapes Go.WideShapes Go.ChangeAt
set_option linter.unusedSimpArgs false
set_option linter.unusedVariables false

/-- How many cells of a block are told: all. -/
def Fw (W : World) (g : Nat) : Nat := match W.heap[g]? with
  | some (.cells c _ _) => c.size
  | _ => 0
theorem Fw_lt {W : World} {g : Nat} (h : 0 < Fw W g) : g < W.heap.size := by
  unfold Fw at h
  cases hg : W.heap[g]? with
  | none => rw [hg] at h; simp at h
  | some o => exact (Array.getElem?_eq_some_iff.1 hg).1
theorem Fw_cell {W : World} {g i : Nat} {v : Value} (h : W.cell? ⟨g, i, none⟩ = some v) : i < Fw W g := by
  unfold Fw
  simp only [World.cell?] at h
  cases hg : W.heap[g]? with
  | none => rw [hg] at h; cases h
  | some o =>
    rw [hg] at h
    cases o with
    | cells c e f => simp at h; exact (Array.getElem?_eq_some_iff.1 h).1
    | _ => cases h

/-- A law's function, called. -/
theorem Good.law [Tabs] {P : Program} {f : FuncId} {C : Con} (hg : Rw.Good P f C) (ht : C.take = none) (ho : C.own = none) {i : C.ι} (hpost : ∀ r, C.post i r → r = .v (.bool true)) {W : World} {vs : Array Value} (htb : TabOk W (k8 none)) (hs : vs.size = (C.args i).length)
    (hv : ∀ k, VR (Gin (Fw W) none) W (vs.getD k undef) ((C.args i).getD k .any)) : Calls P f vs W fun e w' => e = .returned (.bool true) ∧ Below W.heap.size W w' := by
  refine (hg.2 W (Fw W) i vs none (fun g h => Fw_lt h) htb (by rw [ht]; rfl) hs hv).mono ?_
  rintro e w' ⟨v, r, F', ow, rfl, hp, hr, hb, _, _⟩
  rw [hpost r hp] at hr
  rw [hr.v_inv]
  exact ⟨rfl, hb.os, hb.tape, hb.output, hb.size, fun k hk => hb.block k hk (by rintro ⟨_, h3, _⟩; cases h3)⟩

section
variable [Tabs] {H : Type} {enc : TypeId × Value → H} {P : Program} {W W' : World}

omit [Tabs] in
theorem kCP (hl : laidOutB P = true) (hb : Below W.heap.size W W') {sp : Nat → Bool} : ∀ {ts : List TypeId} {vs : List Value} {ds : List (DataW H)} {ps : List MemPlace}, ts.all (fun t => P.readableRec t && decide (t < P.types.size)) = true →
    DataW.TrodAll enc P W 0 (fun _ => true) true ts vs ds ps → (∀ x ∈ ps, x.block < W.heap.size) → (∀ x ∈ ps, sp x.block = true) → DataW.TrodAll enc P W' 0 sp true ts vs ds ps
  | [], vs, ds, ps, _, h, _, _ => by
    obtain ⟨rfl, rfl, rfl⟩ := trodAll_nil h
    exact trodAll_mk0
  | t :: ts, vs, ds, ps, hall, h, hlt, hsp => by
    simp only [List.all_cons, Bool.and_eq_true, decide_eq_true_eq] at hall
    obtain ⟨v, vs', d, ds', p, q, rfl, rfl, rfl, h1, h2⟩ := trodAll_cons h
    exact trodAll_cons_mk (WideElems.Trod_stays hl hall.1.1 hall.1.2 h1 (fun x hx => hb.same (hlt x (List.mem_append_left _ hx))) fun x hx => hsp x (List.mem_append_left _ hx))
      (kCP hl hb (by simpa using hall.2) h2 (fun x hx => hlt x (List.mem_append_right _ hx)) fun x hx => hsp x (List.mem_append_right _ hx))

omit [Tabs] in
/-- What a row asks behind the call, where the call answers true and leaves all that was there. -/
theorem law_post {f : Func} {s : ChangeSpec} {apart fresh handsOn again : Bool} {args : Array Value} {ds gs : List (DataW H)} {before : List MemPlace} {tb : TypeId}
    (hl : laidOutB P = true) (hall : f.params.toList.all (fun t => P.readableRec t && decide (t < P.types.size)) = true) (hvs : s.vars = []) (hres : (s.fn H (ds ++ gs)).results = [.lit (.bool true)]) (hargs : (s.fn H (ds ++ gs)).args = ds)
    (hvars : (s.fn H (ds ++ gs)).vars = []) (hrt : f.resultTypes = #[tb]) (htb : P.underlying tb = some .bool) 
    (hW : DataW.Whole enc P f.params.toList s.vars apart W args.toList ds gs before) (hb : Below W.heap.size W W') : s.post enc P f apart fresh handsOn again W args (.bool true) W' := by
  have hW' := hW
  obtain ⟨p, q, hA0, hV, rfl, hfz, hnd⟩ := hW
  have hA : DataW.TrodAll enc P W 0 (fun _ => true) true f.params.toList args.toList ds p := hA0
  rw [hvs] at hV
  obtain ⟨rfl, rfl⟩ := trodVars_none hV
  have hlt : ∀ x ∈ p, x.block < W.heap.size := fun x hx => by simpa using hW'.lt x (by simpa using hx)
  have hbl : ∀ x ∈ p ++ [], (fun b => decide (b < W.heap.size)) x.block = true := fun x hx => by simpa using hW'.lt x hx
  have ha : ∀ sp : Nat → Bool, (∀ x ∈ p, sp x.block = true) → DataW.TrodAll enc P W' 0 sp true f.params.toList args.toList (s.fn H (ds ++ [])).args p := fun sp hs => by
    rw [hargs]; exact kCP hl hb hall hA hlt hs
  have hr : ∀ (b : Nat) (sp : Nat → Bool) (hd : Bool), DataW.TrodAll enc P W' b sp hd f.resultTypes.toList ((Value.bool true).resultList f.resultTypes.size) (s.fn H (ds ++ [])).results [] := fun b sp hd => by
    rw [hres, hrt]
    exact trodAll_cons_mk (shut_bool htb _) trodAll_mk0
  have hv : ∀ sp : Nat → Bool, DataW.TrodVars enc P W' sp s.vars (s.fn H (ds ++ [])).vars [] := fun sp => by rw [hvs, hvars]; rfl
  refine ⟨ds, [], p ++ [], [], p, [], hW', hr _ _ _, ha _ (fun x hx => by simpa using hlt x hx), hv _, World.keptBut_mono (fun x hx => ⟨hx, ?_⟩) (hb.frame (· ∈ p ++ [])), fun _ => ?_⟩
  · exact Or.inr (by simpa using hx)
  · refine ⟨ok_one hrt rfl (okWide_bool_mk htb _), _, _, ([] ++ p) ++ [], ⟨[] ++ p, [], trodAll_append (ha _ (fun _ _ => rfl)) (hr _ _ _), hv _, rfl, ?_, ?_⟩, ?_⟩
    · intro b off hp
      have hp2 := hp
      simp only [List.nil_append, List.append_nil] at hp2
      rw [hb.frozen (hlt _ hp2)]
      exact hfz b off (by simpa using hp2)
    · intro h
      simpa using hnd h
    · intro x hx _
      simpa using hx

end
end Go.Rw
end

-- RwRow2
section
namespace Go.Rw
open Go Go.RowKit Go.ChangeShapes Go.WideShapes Go.ChangeAt Go.Deep
set_option linter.unusedSimpArgs false
set_option linter.unusedVariables false

/-- A struct of two numbers and a text. -/
def is3 (P : Program) (t ti ts : TypeId) : Bool := match P.underlying t with
  | some (.struct fs) => match fs.toList with
    | [f1, f2, f3] => (f1.type == ti && (f1.offset == 0 && f1.name != "_")) && ((f2.type == ti && (f2.offset == 1 && f2.name != "_")) && (f3.type == ts && (f3.offset == 2 && f3.name != "_")))
    | _ => false
  | _ => false
theorem kFL : ∀ (l : List Cp) (i : Nat) (h : i < l.length), (flat (kN l)).getD (3 * i) .any = .v (.int .i64 l[i].k) ∧ (flat (kN l)).getD (3 * i + 1) .any = .v (.int .i64 l[i].n) ∧ (flat (kN l)).getD (3 * i + 2) .any = .v (sv l[i].t)
  | c :: r, 0, _ => ⟨rfl, rfl, rfl⟩
  | c :: r, i + 1, h => by
    have := kFL r i (by simpa using h)
    exact this
/-- A part that a slice of them may hold. -/
def cOk (c : Cp) : Prop := (-9223372036854775808 ≤ c.k ∧ c.k ≤ 9223372036854775807) ∧ (-9223372036854775808 ≤ c.n ∧ c.n ≤ 9223372036854775807) ∧ c.t.length ≤ 9223372036854775807
theorem kEx {n : Int} (h : (Lit.int .i64 n).wf = true) : -9223372036854775808 ≤ n ∧ n ≤ 9223372036854775807 := by
  simpa [Lit.wf, IntKind.min, IntKind.max, IntKind.signed, IntKind.bits] using h
section
variable {H : Type} {enc : TypeId × Value → H} {P : Program} {W : World}
theorem kEu {t e ti ts : TypeId} (ht : P.underlying t = some (.slice e)) (h3 : is3 P e ti ts = true) (hce : P.cellsOf e = 3) (ci : P.cellsOf ti = 1) (cs : P.cellsOf ts = 1) (hi : P.underlying ti = some (.int .i64)) (hs : P.underlying ts = some .string)
    {v : Value} {d : DataW H} {p : List MemPlace} (hv : ∃ A n c, v = .slice A n c) (h : DataW.Trod enc P W 0 (fun _ => true) true t v d p) :
    ∃ l : List Cp, l.length ≤ 9223372036854775807 ∧ (∀ c ∈ l, cOk c) ∧ VR (Gin (Fw W) none) W v (.sl 0 3 (kN l)) := by
  obtain ⟨A0, len, cap, rfl⟩ := hv
  obtain ⟨fuel, hf⟩ := h
  replace hf : DataW.trod enc P W 0 (fun _ => true) true fuel t [.slice A0 len cap] = some (d, p) := hf
  rcases open_slice ht hf with ⟨hc, hx⟩ | ⟨a, len', cap', m, n, D, Pl, hc, hb, hl, hm, hmm, hx, hel⟩
  · obtain ⟨rfl, rfl, rfl⟩ : A0 = none ∧ len = 0 ∧ cap = 0 := by simpa using hc
    refine ⟨[], by simp, by simp, ?_⟩
    exact .sl none 0 0 3 [] 0 0 (fun _ => undef) (show 0 < 3 by decide) (by decide) (by simp) (fun n e h => by cases h) (fun h => absurd rfl h) (by simp) (fun h => absurd rfl h) (by simp) (by simp)
  · obtain ⟨rfl, rfl, rfl⟩ : A0 = some a ∧ len = len' ∧ cap = cap' := by simpa using hc
    have hlm : len ≤ m := by rw [hmm]; split <;> omega
    unfold is3 at h3
    split at h3
    · rename_i fs hfs
      split at h3
      · rename_i f1 f2 f3 hfl
        have hfa : fs = #[f1, f2, f3] := by rw [← hfl]
        subst hfa
        simp only [Bool.and_eq_true, beq_iff_eq, bne_iff_ne] at h3
        obtain ⟨⟨t1, o1, _⟩, ⟨t2, o2, _⟩, ⟨t3, o3, _⟩⟩ := h3
        have each : ∀ i, i < len → ∃ c : Cp, cOk c ∧ W.cell? (a.add (i * 3)) = some (.int .i64 c.k) ∧ W.cell? (a.add (i * 3 + 1)) = some (.int .i64 c.n) ∧ W.cell? (a.add (i * 3 + 2)) = some (sv c.t) := by
          intro i hil
          obtain ⟨cs', h1, h2⟩ := hel i (by omega)
          rw [hce] at h1
          obtain ⟨_, hlen, hcell⟩ := World.cells?_some h1
          obtain ⟨xs, k, hk, hxy, _, hxl, hf⟩ := DataW.trod_struct hfs h2
          match xs, hxl, cs', hlen with
          | [y0, y1, y2], _, [v0, v1, v2], _ =>
            have g0 := hf 0 f1 rfl
            have g1 := hf 1 f2 rfl
            have g2 := hf 2 f3 rfl
            simp [o1, o2, o3, t1, t2, t3, ci, cs] at g0 g1 g2
            have e0 := hcell 0 (by omega)
            have e1 := hcell 1 (by omega)
            have e2 := hcell 2 (by omega)
            rw [add_add] at e0 e1 e2
            obtain ⟨n0, q0, _, w0⟩ := DataW.trod_int hi g0
            obtain ⟨n1, q1, _, w1⟩ := DataW.trod_int hi g1
            obtain ⟨s2, q2, _, w2⟩ := DataW.trod_string hs g2
            simp only [List.cons.injEq, and_true] at q0 q1 q2
            subst q0; subst q1; subst q2
            refine ⟨⟨n0, n1, s2.data.toList⟩, ⟨kEx w0, kEx w1, ?_⟩, by simpa using e0, by simpa using e1, by simpa [sv] using e2⟩
            have : s2.data.toList.length = s2.size := by rw [Array.length_toList]; rfl
            simp only [this]
            exact w2
        obtain ⟨f, hfc⟩ := choose_lt (α := Cp) each
        have hll : ((List.range len).map f).length = len := by simp
        have hlg : ∀ i (h : i < ((List.range len).map f).length), ((List.range len).map f)[i] = f i := by simp
        refine ⟨(List.range len).map f, by rw [hll]; exact Nat.le_trans hl hm, ?_, ?_⟩
        · intro c hc
          simp only [List.mem_map, List.mem_range] at hc
          obtain ⟨i, hi', rfl⟩ := hc
          exact (hfc i hi').1
        · have hcl : (kN ((List.range len).map f)).length = len := by rw [kF, hll]
          have hspot : 0 < len → a.spot = none := fun h0 => by
            have h1 := (hfc 0 h0).2.1
            simp only [World.cell?, Addr.add] at h1
            cases hsp : a.spot with
            | none => rfl
            | some x =>
              simp [hsp] at h1
              split at h1 <;> cases h1
          obtain ⟨g, off, spot⟩ := a
          simp only at hspot
          have hadd : ∀ j, 0 < len → (⟨g, off, spot⟩ : Addr).add j = ⟨g, off + j, none⟩ := fun j h0 => by
            rw [hspot h0]
            unfold Addr.add
            by_cases hj : j = 0 <;> simp [hj]
          have cell : ∀ k, k < len * 3 → ∃ u, W.cell? ⟨g, off + k, none⟩ = some u ∧ u.oneCell' = true ∧ VR (Gin (Fw W) none) W u ((flat (kN ((List.range len).map f))).getD k .any) := by
            intro k hk
            have hlen0 : 0 < len := by omega
            have hik : k / 3 < len := by omega
            obtain ⟨_, c0, c1, c2⟩ := hfc (k / 3) hik
            obtain ⟨f0, f1, f2⟩ := kFL ((List.range len).map f) (k / 3) (by rw [hll]; exact hik)
            rw [hlg] at f0 f1 f2
            rw [hadd _ hlen0] at c0 c1 c2
            have h3 : k % 3 = 0 ∨ k % 3 = 1 ∨ k % 3 = 2 := by omega
            rcases h3 with h3 | h3 | h3
            · rw [show k = 3 * (k / 3) by omega, f0, show 3 * (k / 3) = k / 3 * 3 by omega]
              exact ⟨_, c0, rfl, .v _⟩
            · rw [show k = 3 * (k / 3) + 1 by omega, f1, show 3 * (k / 3) + 1 = k / 3 * 3 + 1 by omega]
              exact ⟨_, c1, rfl, .v _⟩
            · rw [show k = 3 * (k / 3) + 2 by omega, f2, show 3 * (k / 3) + 2 = k / 3 * 3 + 2 by omega]
              exact ⟨_, c2, rfl, .v _⟩
          obtain ⟨us, hus⟩ := choose_lt (α := Value) cell
          have := VR.sl (G := Gin (Fw W) none) (w := W) (some ⟨g, off, spot⟩) cap 0 3 (kN ((List.range len).map f)) g off us (show 0 < 3 by decide) (by decide) (by rw [hcl]; exact hl) (fun n e h => by cases h) ?_ ?_ (fun _ => by decide) ?_ ?_
          · rw [hcl] at this; exact this
          · intro hne
            have h0 : 0 < len := by
              rw [← hcl]; exact List.length_pos_iff.2 hne
            refine ⟨by rw [hspot h0], .inr (by simp [Gin, k8]), ?_⟩
            rw [hcl]
            obtain ⟨c, _⟩ := hus (len * 3 - 1) (by omega)
            have := Fw_cell c
            show off + len * 3 ≤ Fw W g
            omega
          · intro x hx
            simp only [kN, List.mem_map] at hx
            obtain ⟨c, _, rfl⟩ := hx
            exact ⟨rfl, rfl⟩
          · intro k hk
            rw [hcl] at hk
            exact ⟨(hus k hk).1, (hus k hk).2.1⟩
          · intro k hk
            rw [hcl] at hk
            exact (hus k hk).2.2
      · cases h3
    · cases h3
end
end Go.Rw
end

-- RwRow3
section
namespace Go.Rw
open Go Go.RowKit Go.ChangeShapes Go.WideShapes Go.ChangeAt Go.Deep
set_option linter.unusedSimpArgs false
set_option linter.unusedVariables false

theorem flat_sls : ∀ (l : List (List Cp)) (i : Nat) (h : i < l.length), (flat (l.map fun x => AV.sl 0 3 (kN x))).getD i .any = .sl 0 3 (kN l[i])
  | c :: r, 0, _ => rfl
  | c :: r, i + 1, h => flat_sls r i (by simpa using h)
section
variable {H : Type} {enc : TypeId × Value → H} {P : Program} {W : World}
theorem open_edits {t e c ti ts : TypeId} (ht : P.underlying t = some (.slice e)) (hce : P.cellsOf e = 1) (he : P.underlying e = some (.slice c)) (h3 : is3 P c ti ts = true) (hcc : P.cellsOf c = 3) (ci : P.cellsOf ti = 1) (cs : P.cellsOf ts = 1) (hi : P.underlying ti = some (.int .i64)) (hs : P.underlying ts = some .string)
    {v : Value} {d : DataW H} {p : List MemPlace} (hv : ∃ A n c, v = .slice A n c) (h : DataW.Trod enc P W 0 (fun _ => true) true t v d p) :
    ∃ l : List (List Cp), l.length ≤ 9223372036854775807 ∧ (∀ x ∈ l, x.length ≤ 9223372036854775807 ∧ ∀ c ∈ x, cOk c) ∧ VR (Gin (Fw W) none) W v (.sl 0 1 (l.map fun x => .sl 0 3 (kN x))) := by
  obtain ⟨A0, len, cap, rfl⟩ := hv
  obtain ⟨fuel, hf⟩ := h
  replace hf : DataW.trod enc P W 0 (fun _ => true) true fuel t [.slice A0 len cap] = some (d, p) := hf
  rcases open_slice1 ht hce hf with ⟨hc, hx⟩ | ⟨a, len', cap', m, n, V, D, Pl, hc, hb, hl, hm, hmm, hx, hel⟩
  · obtain ⟨rfl, rfl, rfl⟩ : A0 = none ∧ len = 0 ∧ cap = 0 := by simpa using hc
    refine ⟨[], by simp, by simp, ?_⟩
    exact .sl none 0 0 1 [] 0 0 (fun _ => undef) (show 0 < 3 by decide) (by decide) (by simp) (fun n e h => by cases h) (fun h => absurd rfl h) (by simp) (fun h => absurd rfl h) (by simp) (by simp)
  · obtain ⟨rfl, rfl, rfl⟩ : A0 = some a ∧ len = len' ∧ cap = cap' := by simpa using hc
    have hlm : len ≤ m := by rw [hmm]; split <;> omega
    have each : ∀ i, i < len → ∃ x : List Cp, (x.length ≤ 9223372036854775807 ∧ ∀ c ∈ x, cOk c) ∧ W.cell? (a.add i) = some (V i) ∧ (V i).oneCell' = true ∧ VR (Gin (Fw W) none) W (V i) (.sl 0 3 (kN x)) := by
      intro i hil
      obtain ⟨h1, h2⟩ := hel i (by omega)
      have hsl : ∃ A n c, V i = .slice A n c := by
        rcases open_slice he h2 with ⟨hc2, _⟩ | ⟨a2, l2, c2, _, _, _, _, hc2, _⟩
        · exact ⟨_, _, _, by simpa using hc2⟩
        · exact ⟨_, _, _, by simpa using hc2⟩
      obtain ⟨A2, n2, c2, hV⟩ := hsl
      rw [hV] at h2
      obtain ⟨x, g1, g2, g3⟩ := kEu he h3 hcc ci cs hi hs (v := V i) (d := D i) (p := Pl i) ⟨A2, n2, c2, hV⟩ ⟨n, by rw [hV]; exact h2⟩
      exact ⟨x, ⟨g1, g2⟩, h1, by rw [hV]; rfl, g3⟩
    obtain ⟨f, hfc⟩ := choose_lt (α := List Cp) each
    have hll : ((List.range len).map f).length = len := by simp
    have hlg : ∀ i (h : i < ((List.range len).map f).length), ((List.range len).map f)[i] = f i := by simp
    refine ⟨(List.range len).map f, by rw [hll]; exact Nat.le_trans hl hm, ?_, ?_⟩
    · intro x hx'
      simp only [List.mem_map, List.mem_range] at hx'
      obtain ⟨i, hi', rfl⟩ := hx'
      exact (hfc i hi').1
    · have hcl : (((List.range len).map f).map fun x => AV.sl 0 3 (kN x)).length = len := by rw [List.length_map, hll]
      have hspot : 0 < len → a.spot = none := fun h0 => by
        have h1 := (hfc 0 h0).2.1
        simp only [World.cell?, Addr.add] at h1
        cases hsp : a.spot with
        | none => rfl
        | some x =>
          have h4 := (hfc 0 h0).2.2.1
          simp [hsp] at h1
          split at h1 <;> first | (cases h1; done) | (rw [← Option.some.inj h1] at h4; cases h4; done) | skip
          all_goals (exfalso; simp_all)
      obtain ⟨g, off, spot⟩ := a
      simp only at hspot
      have hadd : ∀ j, 0 < len → (⟨g, off, spot⟩ : Addr).add j = ⟨g, off + j, none⟩ := fun j h0 => by
        rw [hspot h0]
        unfold Addr.add
        by_cases hj : j = 0 <;> simp [hj]
      have cell : ∀ k, k < len * 1 → ∃ u, W.cell? ⟨g, off + k, none⟩ = some u ∧ u.oneCell' = true ∧ VR (Gin (Fw W) none) W u ((flat (((List.range len).map f).map fun x => AV.sl 0 3 (kN x))).getD k .any) := by
        intro k hk
        have hlen0 : 0 < len := by omega
        have hik : k < len := by omega
        obtain ⟨_, c0, c1, c2⟩ := hfc k hik
        rw [hadd _ hlen0] at c0
        rw [flat_sls _ _ (by rw [hll]; exact hik), hlg]
        exact ⟨_, c0, c1, c2⟩
      obtain ⟨us, hus⟩ := choose_lt (α := Value) cell
      have := VR.sl (G := Gin (Fw W) none) (w := W) (some ⟨g, off, spot⟩) cap 0 1 (((List.range len).map f).map fun x => AV.sl 0 3 (kN x)) g off us (show 0 < 3 by decide) (by decide) (by rw [hcl]; exact hl) (fun n e h => by cases h) ?_ ?_ (fun _ => by decide) ?_ ?_
      · rw [hcl] at this; exact this
      · intro hne
        have h0 : 0 < len := by
          rw [← hcl]; exact List.length_pos_iff.2 hne
        refine ⟨by rw [hspot h0], .inr (by simp [Gin, k8]), ?_⟩
        rw [hcl]
        obtain ⟨c, _⟩ := hus (len * 1 - 1) (by omega)
        have := Fw_cell c
        show off + len * 1 ≤ Fw W g
        omega
      · intro x hx'
        simp only [List.mem_map] at hx'
        obtain ⟨c, _, rfl⟩ := hx'
        exact ⟨rfl, rfl⟩
      · intro k hk
        rw [hcl] at hk
        exact ⟨(hus k hk).1, (hus k hk).2.1⟩
      · intro k hk
        rw [hcl] at hk
        exact (hus k hk).2.2
end
end Go.Rw
end
