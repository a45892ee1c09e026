/-
  From a contract to a row: arguments opened, told; what is left of the world behind the call. Proved over any program. A slice of structs of two numbers and a text, opened as a list of parts. Proved over any program. A slice of slices of parts, opened as a list of lists. Proved over any program.
-/
import Derived.Test.YtnpofobcbfbfnaaDoorRwE
import Derived.ProofKit
import Derived.OpenShut
import Derived.Carry
import Derived.Test.YtnpofobcbfbfnaaDoorRwF
import Derived.Deep.Slices
set_option linter.unusedSimpArgs false
set_option linter.unusedVariables false
set_option linter.defProp false
set_option linter.unusedSectionVars false

-- RwRow
section
namespace Go.Rw
open Go Go.RowKit Go.ChangeShapes Go.WideShapes Go.ChangeAt
set_option linter.unusedSimpArgs false
set_option linter.unusedVariables false

/-- How many cells of a block are told: all. -/
def Fw (W : World) (g : Nat) : Nat := match W.heap[g]? with
  | some (.cells c _ _) => c.size
  | _ => 0
theorem Fw_lt {W : World} {g : Nat} (h : 0 < Fw W g) : g < W.heap.size := by
  unfold Fw at h
  cases hg : W.heap[g]? with
  | none => rw [hg] at h; simp at h
  | some o => exact (Array.getElem?_eq_some_iff.1 hg).1
theorem Fw_cell {W : World} {g i : Nat} {v : Value} (h : W.cell? ⟨g, i, none⟩ = some v) : i < Fw W g := by
  unfold Fw
  simp only [World.cell?] at h
  cases hg : W.heap[g]? with
  | none => rw [hg] at h; cases h
  | some o =>
    rw [hg] at h
    cases o with
    | cells c e f => simp at h; exact (Array.getElem?_eq_some_iff.1 h).1
    | _ => cases h

/-- A law's function, called. -/
theorem Good.law [Tabs] {P : Program} {f : FuncId} {C : Con} (hg : Rw.Good P f C) (ht : C.take = none) (ho : C.own = none) {i : C.ι} (hpost : ∀ r, C.post i r → r = .v (.bool true)) {W : World} {vs : Array Value} (htb : TabOk W (tkBlock none)) (hs : vs.size = (C.args i).length)
    (hv : ∀ k, VR (Gin (Fw W) none) W (vs.getD k undef) ((C.args i).getD k .any)) : Calls P f vs W fun e w' => e = .returned (.bool true) ∧ Below W.heap.size W w' := by
  refine (hg.2 W (Fw W) i vs none (fun g h => Fw_lt h) htb (by rw [ht]; rfl) hs hv).mono ?_
  rintro e w' ⟨v, r, F', ow, rfl, hp, hr, hb, _, _⟩
  rw [hpost r hp] at hr
  rw [hr.v_inv]
  exact ⟨rfl, hb.os, hb.tape, hb.output, hb.size, fun k hk => hb.block k hk (by rintro ⟨_, h3, _⟩; cases h3)⟩

section
variable [Tabs] {H : Type} {enc : TypeId × Value → H} {P : Program} {W W' : World}

omit [Tabs] in
theorem trodAll_below (hl : laidOutB P = true) (hb : Below W.heap.size W W') {sp : Nat → Bool} : ∀ {ts : List TypeId} {vs : List Value} {ds : List (DataW H)} {ps : List MemPlace}, ts.all (fun t => P.readableRec t && decide (t < P.types.size)) = true →
    DataW.TrodAll enc P W 0 (fun _ => true) true ts vs ds ps → (∀ x ∈ ps, x.block < W.heap.size) → (∀ x ∈ ps, sp x.block = true) → DataW.TrodAll enc P W' 0 sp true ts vs ds ps
  | [], vs, ds, ps, _, h, _, _ => by
    obtain ⟨rfl, rfl, rfl⟩ := trodAll_nil h
    exact trodAll_mk0
  | t :: ts, vs, ds, ps, hall, h, hlt, hsp => by
    simp only [List.all_cons, Bool.and_eq_true, decide_eq_true_eq] at hall
    obtain ⟨v, vs', d, ds', p, q, rfl, rfl, rfl, h1, h2⟩ := trodAll_cons h
    exact trodAll_cons_mk (WideElems.Trod_stays hl hall.1.1 hall.1.2 h1 (fun x hx => hb.same (hlt x (List.mem_append_left _ hx))) fun x hx => hsp x (List.mem_append_left _ hx))
      (trodAll_below hl hb (by simpa using hall.2) h2 (fun x hx => hlt x (List.mem_append_right _ hx)) fun x hx => hsp x (List.mem_append_right _ hx))

omit [Tabs] in
/-- What a row asks behind the call, where the call answers true and leaves all that was there. -/
theorem law_post {f : Func} {s : ChangeSpec} {apart fresh handsOn again : Bool} {args : Array Value} {ds gs : List (DataW H)} {before : List MemPlace} {tb : TypeId}
    (hl : laidOutB P = true) (hall : f.params.toList.all (fun t => P.readableRec t && decide (t < P.types.size)) = true) (hvs : s.vars = []) (hres : (s.fn H (ds ++ gs)).results = [.lit (.bool true)]) (hargs : (s.fn H (ds ++ gs)).args = ds)
    (hvars : (s.fn H (ds ++ gs)).vars = []) (hrt : f.resultTypes = #[tb]) (htb : P.underlying tb = some .bool) 
    (hW : DataW.Whole enc P f.params.toList s.vars apart W args.toList ds gs before) (hb : Below W.heap.size W W') : s.post enc P f apart fresh handsOn again W args (.bool true) W' := by
  have hW' := hW
  obtain ⟨p, q, hA0, hV, rfl, hfz, hnd⟩ := hW
  have hA : DataW.TrodAll enc P W 0 (fun _ => true) true f.params.toList args.toList ds p := hA0
  rw [hvs] at hV
  obtain ⟨rfl, rfl⟩ := trodVars_none hV
  have hlt : ∀ x ∈ p, x.block < W.heap.size := fun x hx => by simpa using hW'.lt x (by simpa using hx)
  have hbl : ∀ x ∈ p ++ [], (fun b => decide (b < W.heap.size)) x.block = true := fun x hx => by simpa using hW'.lt x hx
  have ha : ∀ sp : Nat → Bool, (∀ x ∈ p, sp x.block = true) → DataW.TrodAll enc P W' 0 sp true f.params.toList args.toList (s.fn H (ds ++ [])).args p := fun sp hs => by
    rw [hargs]; exact trodAll_below hl hb hall hA hlt hs
  have hr : ∀ (b : Nat) (sp : Nat → Bool) (hd : Bool), DataW.TrodAll enc P W' b sp hd f.resultTypes.toList ((Value.bool true).resultList f.resultTypes.size) (s.fn H (ds ++ [])).results [] := fun b sp hd => by
    rw [hres, hrt]
    exact trodAll_cons_mk (shut_bool htb _) trodAll_mk0
  have hv : ∀ sp : Nat → Bool, DataW.TrodVars enc P W' sp s.vars (s.fn H (ds ++ [])).vars [] := fun sp => by rw [hvs, hvars]; rfl
  refine ⟨ds, [], p ++ [], [], p, [], hW', hr _ _ _, ha _ (fun x hx => by simpa using hlt x hx), hv _, World.keptBut_mono (fun x hx => ⟨hx, ?_⟩) (hb.frame (· ∈ p ++ [])), fun _ => ?_⟩
  · exact Or.inr (by simpa using hx)
  · refine ⟨ok_one hrt rfl (okWide_bool_mk htb _), _, _, ([] ++ p) ++ [], ⟨[] ++ p, [], trodAll_append (ha _ (fun _ _ => rfl)) (hr _ _ _), hv _, rfl, ?_, ?_⟩, ?_⟩
    · intro b off hp
      have hp2 := hp
      simp only [List.nil_append, List.append_nil] at hp2
      rw [hb.frozen (hlt _ hp2)]
      exact hfz b off (by simpa using hp2)
    · intro h
      simpa using hnd h
    · intro x hx _
      simpa using hx

end
end Go.Rw
end

-- RwRow2
section
namespace Go.Rw
open Go Go.RowKit Go.ChangeShapes Go.WideShapes Go.ChangeAt Go.Deep
set_option linter.unusedSimpArgs false
set_option linter.unusedVariables false

section
variable {H : Type} {enc : TypeId × Value → H} {P : Program} {W : World}
end
end Go.Rw
end

-- RwRow3
section
namespace Go.Rw
open Go Go.RowKit Go.ChangeShapes Go.WideShapes Go.ChangeAt Go.Deep
set_option linter.unusedSimpArgs false
set_option linter.unusedVariables false

section
variable {H : Type} {enc : TypeId × Value → H} {P : Program} {W : World}
end
end Go.Rw
end
