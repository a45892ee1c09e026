/-
  A live slice's elements turned in place. Proved over any program. A store into a live slice's row; a row made; structs held against each other. Proved over any program. Contracts, and how a caller goes on behind a call. Proved over any program. How a caller goes on behind a call. Proved over any program. A call by its contract. Proved over any program. Each operation, as 'vcOp' has it. Proved over any program. Regions that draw their order: what each operation answers, told by abstract values, is the same whenever it comes up. Proved over any program. Regions and code, reckoned. Proved over any program.
-/
import Derived.Test.YtnpofobcbfbfnaaDoorRwB
import Derived.Laws.MakeOwn
import Derived.Laws.Tables
import Derived.Laws.RangeString
import Derived.Laws.BytesArg
import Derived.Laws.IdiomStrings
import Derived.Orders
import Derived.Still
import Derived.Scope
set_option linter.unusedSimpArgs false
set_option linter.unusedVariables false
set_option linter.defProp false
set_option linter.unusedSectionVars false

-- RwTurn
section
namespace Go.Rw
open Go Go.RowKit
set_option linter.unusedSimpArgs false
set_option linter.unusedVariables false

theorem turnL_eq {fm : Nat → Nat} {l n : Nat} {zs : List AV} : ∀ cs : List AV, AV.turnL fm l n zs cs = cs.map (AV.turn fm l n zs)
  | [] => rfl
  | a :: r => by simp only [AV.turnL, List.map_cons, turnL_eq r]
theorem turnL_getD {fm : Nat → Nat} {l n : Nat} {zs : List AV} (cs : List AV) (k : Nat) : (AV.turnL fm l n zs cs).getD k .any = (cs.getD k .any).turn fm l n zs := by
  rw [turnL_eq]
  simp only [List.getD_eq_getElem?_getD, List.getElem?_map]
  cases cs[k]? <;> rfl
mutual
theorem turn_closed {fm : Nat → Nat} {l n : Nat} {zs : List AV} (h0 : fm 0 ≠ fm l) : ∀ a : AV, a.er = a → a.turn fm l n zs = a
  | .any, _ => rfl
  | .v x, _ => rfl
  | .agg cs, h => by simp only [AV.er, AV.agg.injEq] at h; simp only [AV.turn, turnL_closed h0 cs h]
  | .tup cs, h => by simp only [AV.er, AV.tup.injEq] at h; simp only [AV.turn, turnL_closed h0 cs h]
  | .sl l' sz xs, h => by simp only [AV.er, AV.sl.injEq] at h; simp only [AV.turn, ← h.1, h0, if_false]
  | .ep .., h => by simp [AV.er] at h
  | .ptr .., _ => rfl
  | .mp .., _ => rfl
  | .fn f cs, h => by simp only [AV.er, AV.fn.injEq, true_and] at h; simp only [AV.turn, turnL_closed h0 cs h]
theorem turnL_closed {fm : Nat → Nat} {l n : Nat} {zs : List AV} (h0 : fm 0 ≠ fm l) : ∀ cs : List AV, AV.erL cs = cs → AV.turnL fm l n zs cs = cs
  | [], _ => rfl
  | a :: r, h => by simp only [AV.erL, List.cons.injEq] at h; simp only [AV.turnL, turn_closed h0 a h.1, turnL_closed h0 r h.2]
end

section
variable {P : Program} [Tabs] {w0 : World} {F0 : Nat → Nat} {Fp : Nat → Prop} {X : Nat → Nat → Value} {G : Gh} {w w' : World} {a : Act} {σ : AS} {m : AM} {g : Nat}

/-- What is asked of a turn in place: the row's first cells, now. -/
structure Turn (G : Gh) (w w' : World) (l n e g o cap : Nat) (cur : Array Value) (zs : List AV) : Prop where
  lv : G.lv l = some (n, e)
  la : G.la l = (some ⟨g, o, none⟩, cap)
  lin : G.lin g = G.fm l
  two : 2 ≤ G.fm l
  fr : G.fr g = o + n * G.ls l
  s0 : 0 < G.ls l
  only : Only w w' g
  row : w'.heap[g]? = some (.cells cur e (0, 0))
  size : cur.size = o + cap * G.ls l
  len : zs.length = n
  cap : n ≤ cap
  each : ∀ z ∈ zs, z.cells.length = G.ls l ∧ z.er = z
  cell : ∀ k, k < n * G.ls l → VR G w (cur.getD (o + k) default) ((flat zs).getD k .any) ∧ (cur.getD (o + k) default).oneCell' = true

variable {l n e o cap : Nat} {cur : Array Value} {zs : List AV}

omit [Tabs] in
theorem Turn.at (t : Turn G w w' l n e g o cap cur zs) {k : Nat} (hk : k < n * G.ls l) : w'.cell? ⟨g, o + k, none⟩ = some (cur.getD (o + k) default) := by
  have h1 : o + k < cur.size := by
    rw [t.size]; exact Nat.add_lt_add_left (Nat.lt_of_lt_of_le hk (Nat.mul_le_mul_right _ t.cap)) o
  simp only [World.cell?, t.row, Option.isSome_none, Bool.false_eq_true, if_false]
  rw [Array.getElem?_eq_getElem h1, Array.getD_eq_getD_getElem?, Array.getElem?_eq_getElem h1]
  rfl

omit [Tabs] in
theorem Turn.other (t : Turn G w w' l n e g o cap cur zs) {l' g' : Nat} (hne : G.fm l' ≠ G.fm l) (hg : G.lin g' = G.fm l' ∨ G.lin g' = 0) : g' ≠ g := by
  rintro rfl
  have h1 := t.lin
  have h2 := t.two
  rcases hg with h3 | h3
  · exact hne (h3.symm.trans h1)
  · omega

omit [Tabs] in
theorem VR.closed_turn (t : Turn G w w' l n e g o cap cur zs) (h0 : G.fm 0 = 0) {x : Value} {b : AV} (h : VR G w x b) (hb : b.er = b) : VR G w' x b := by
  induction h with
  | any x => exact .any x
  | v x => exact .v x
  | agg arr cs hs _ ih =>
    simp only [AV.er, AV.agg.injEq] at hb
    exact .agg arr cs hs fun k hk => ih k hk (by rw [← erL_getD, hb])
  | tup arr cs hs _ ih =>
    simp only [AV.er, AV.tup.injEq] at hb
    exact .tup arr cs hs fun k hk => ih k hk (by rw [← erL_getD, hb])
  | nil sz => exact .nil sz
  | sl A cp l' sz xs g' off us hl h1 hc hlive hA hsz h0' hcell hh ih =>
    simp only [AV.er, AV.sl.injEq] at hb
    have hl0 : l' = 0 := hb.1.symm
    subst hl0
    refine .sl A cp 0 sz xs g' off us hl h1 hc hlive hA hsz h0' (fun k hk => ?_) (fun k hk => ih k hk (flat_closed hsz k))
    have hx : xs ≠ [] := by rintro rfl; simp at hk
    have hne := t.other (l' := 0) (g' := g') (by have := t.two; omega) (hA hx).2.1
    rw [t.only.cell hne]
    exact hcell k hk
  | ep => simp [AV.er] at hb
  | ptr => simp [AV.er] at hb
  | mp => simp [AV.er] at hb
  | fn f arr caps hs _ ih =>
    simp only [AV.er, AV.fn.injEq, true_and] at hb
    exact .fn f arr caps hs fun k hk => ih k hk (by rw [← erL_getD, hb])

omit [Tabs] in
theorem Turn.flat (t : Turn G w w' l n e g o cap cur zs) (h0 : G.fm 0 = 0) {k : Nat} (hk : k < n * G.ls l) : VR G w' (cur.getD (o + k) default) ((flat zs).getD k .any) :=
  VR.closed_turn t h0 (t.cell k hk).1 (flat_closed t.each k)

omit [Tabs] in
theorem VR.turned (t : Turn G w w' l n e g o cap cur zs) (h0 : G.fm 0 = 0) {x : Value} {b : AV} (h : VR G w x b) : VR G w' x (b.turn G.fm l n zs) := by
  induction h with
  | any x => exact .any x
  | v x => exact .v x
  | agg arr cs hs _ ih =>
    refine .agg arr _ (by rw [turnL_eq, List.length_map]; exact hs) fun k hk => ?_
    rw [turnL_eq, List.length_map] at hk
    rw [turnL_getD]; exact ih k hk
  | tup arr cs hs _ ih =>
    refine .tup arr _ (by rw [turnL_eq, List.length_map]; exact hs) fun k hk => ?_
    rw [turnL_eq, List.length_map] at hk
    rw [turnL_getD]; exact ih k hk
  | nil sz =>
    simp only [AV.turn]
    split
    · split
      · rename_i hn
        have : zs = [] := List.eq_nil_of_length_eq_zero (by rw [t.len, ← hn.2]; rfl)
        subst this
        exact .nil sz
      · exact .any _
    · exact .nil sz
  | sl A cp l' sz xs g' off us hl h1 hc hlive hA hsz h0' hcell hh ih =>
    simp only [AV.turn]
    split
    · split
      · rename_i hn
        obtain ⟨rfl, hn⟩ := hn
        obtain ⟨_, h3⟩ := hlive n e t.lv
        obtain ⟨h4, h5⟩ := h3 hn
        have e1 : zs.length = xs.length := by rw [t.len, hn]
        rw [← e1]
        rw [t.la] at h4
        simp only [Prod.mk.injEq] at h4
        obtain ⟨rfl, rfl⟩ := h4
        subst h5
        refine .sl _ _ l' _ zs g o (fun k => cur.getD (o + k) default) hl h1 (by rw [t.len]; exact t.cap) ?_ ?_ t.each (fun _ => t.s0) ?_ ?_
        · intro n' e' hn'
          rw [t.lv] at hn'
          simp only [Option.some.injEq, Prod.mk.injEq] at hn'
          obtain ⟨rfl, rfl⟩ := hn'
          exact ⟨by rw [t.len]; exact Nat.le_refl _, fun _ => ⟨t.la.symm, rfl⟩⟩
        · intro _
          exact ⟨rfl, .inl t.lin, by rw [t.fr, t.len]; omega⟩
        · intro k hk
          rw [t.len] at hk
          exact ⟨t.at hk, (t.cell k hk).2⟩
        · intro k hk
          rw [t.len] at hk
          exact t.flat h0 hk
      · exact .any _
    · rename_i hne
      refine .sl A cp l' sz xs g' off us hl h1 hc hlive hA hsz h0' (fun k hk => ?_) (fun k hk => VR.closed_turn t h0 (hh k hk) (flat_closed hsz k))
      have hx : xs ≠ [] := by rintro rfl; simp at hk
      rw [t.only.cell (t.other hne (hA hx).2.1)]
      exact hcell k hk
  | ep l' sz xs i j g' off us hl hlive hA hi hj hsz h0' hcell hh ih =>
    simp only [AV.turn]
    split
    · split
      · rename_i hn
        obtain ⟨rfl, hn⟩ := hn
        obtain ⟨_, h3⟩ := hlive n e t.lv
        obtain ⟨h4, h6⟩ := h3 hn
        rw [t.la] at h4
        simp only [Option.some.injEq, Addr.mk.injEq, and_true] at h4
        obtain ⟨rfl, rfl⟩ := h4
        subst h6
        refine .ep l' _ zs i j g o (fun k => cur.getD (o + k) default) hl ?_ ⟨.inl t.lin, by rw [t.fr, t.len]; omega⟩ (by rw [t.len, ← hn]; exact hi) hj t.each t.s0 ?_ ?_
        · intro n' e' hn'
          rw [t.lv] at hn'
          simp only [Option.some.injEq, Prod.mk.injEq] at hn'
          obtain ⟨rfl, rfl⟩ := hn'
          exact ⟨by rw [t.len]; exact Nat.le_refl _, fun _ => ⟨by rw [t.la], rfl⟩⟩
        · intro k hk
          rw [t.len] at hk
          exact ⟨t.at hk, (t.cell k hk).2⟩
        · intro k hk
          rw [t.len] at hk
          exact t.flat h0 hk
      · exact .any _
    · rename_i hne
      refine .ep l' sz xs i j g' off us hl hlive hA hi hj hsz h0' (fun k hk => ?_) (fun k hk => VR.closed_turn t h0 (hh k hk) (flat_closed hsz k))
      rw [t.only.cell (t.other hne hA.1)]
      exact hcell k hk
  | ptr o k ho => exact .ptr o k ho
  | mp o ho => exact .mp o ho
  | fn f arr caps hs _ ih =>
    refine .fn f arr _ (by rw [turnL_eq, List.length_map]; exact hs) fun k hk => ?_
    rw [turnL_eq, List.length_map] at hk
    rw [turnL_getD]; exact ih k hk

omit [Tabs] in
theorem Mem.turned (t : Turn G w w' l n e g o cap cur zs) (h : Mem w0 F0 Fp G w m) (hmu : m.mu = true) (hcap : cap ≤ maxLen) : Mem w0 F0 Fp G w' (m.turned l n zs) := by
  have hlive := h.live l n e t.lv
  have hB : w0.heap.size ≤ g ∨ Fp g := by
    rcases hlive.2.2.2 with h1 | ⟨g', oF, cap', cur', h1, h2, _⟩
    · rw [t.la] at h1
      -- an empty row: nothing to be told
      have hc : cap = 0 := h1.2
      have hg := (Array.getElem?_eq_some_iff.1 t.row).1
      rw [t.only.size] at hg
      rcases Nat.lt_or_ge g w0.heap.size with h3 | h3
      · by_cases h4 : Fp g
        · exact .inr h4
        · have := (h.old g h3 h4).1
          have := t.lin; have := t.two; omega
      · exact .inl h3
    · rw [t.la] at h1
      simp only [Prod.mk.injEq, Option.some.injEq, Addr.mk.injEq, and_true] at h1
      obtain ⟨⟨rfl, _⟩, _⟩ := h1
      exact h2
  have hF0 : F0 g = 0 := by
    rcases hB with h1 | h1
    · rcases Nat.eq_zero_or_pos (F0 g) with h2 | h2
      · exact h2
      · have := h.f0 g h2; omega
    · exact h.mu hmu g h1
  refine { h with obl := ?_, obj := ?_, live := ?_, frl := ?_, linl := ?_, old := ?_, keep := ?_, size := ?_, os := t.only.os.trans h.os, tape := t.only.tape.trans h.tape, output := t.only.output.trans h.output }
  · intro o ho; rw [t.only.size]; exact h.obl o ho
  · intro o y hy
    simp only [AM.turned] at hy
    cases hx : m.h o with
    | none => rw [hx] at hy; cases hy
    | some x =>
      rw [hx] at hy
      simp only [Option.map_some, Option.some.injEq] at hy
      subst hy
      obtain ⟨h1, h2⟩ := h.obj o x hx
      have hne : G.ob o ≠ g := by
        intro he
        have h3 := (h.obl o h1).1
        rw [he, t.lin] at h3
        have := t.two; omega
      refine ⟨h1, ?_⟩
      rw [← h.fm]
      cases h2 with
      | cells cs arr e' hh hs hc =>
        refine .cells _ arr e' (by rw [t.only.block _ hne]; exact hh) (by rw [turnL_eq, List.length_map]; exact hs) fun k hk => ?_
        rw [turnL_eq, List.length_map] at hk
        rw [turnL_getD]; exact VR.turned t h.fm0 (hc k hk)
      | iter s p hh => exact .iter s p (by rw [t.only.block _ hne]; exact hh)
      | map es c hh => exact .map es c (by rw [t.only.block _ hne]; exact hh)
      | mit ob si se la ho hh => exact .mit ob si se la ho (by rw [t.only.block _ hne]; exact hh)
  · intro l2 n2 e2 hl2
    obtain ⟨h1, h2, h3, h4⟩ := h.live l2 n2 e2 hl2
    refine ⟨h1, h2, h3, ?_⟩
    rcases h4 with h4 | ⟨g2, oF, cap2, cur2, q1, q2, q3, q4, q5, q6, q7, q8⟩
    · exact .inl h4
    · by_cases hg2 : g2 = g
      · subst hg2
        have : l2 = l := h.fmi l2 l _ _ hl2 t.lv (q7.symm.trans t.lin)
        subst this
        rw [t.lv] at hl2
        simp only [Option.some.injEq, Prod.mk.injEq] at hl2
        obtain ⟨rfl, rfl⟩ := hl2
        exact .inr ⟨g2, o, cap, cur, t.la, q2, t.row, t.cap, hcap, t.size, q7, t.fr⟩
      · exact .inr ⟨g2, oF, cap2, cur2, q1, q2, by rw [t.only.block _ hg2]; exact q3, q4, q5, q6, q7, q8⟩
  · intro k hk; rw [t.only.size]; exact h.frl k hk
  · intro k hk; rw [t.only.size] at hk; exact h.linl k hk
  · intro k h1 h2
    obtain ⟨h3, h4, h5⟩ := h.old k h1 h2
    have hne : k ≠ g := by
      rintro rfl
      have := t.lin; have := t.two; omega
    exact ⟨h3, by rw [t.only.block _ hne]; exact h4, h5⟩
  · intro k i hi
    rw [← h.keep k i hi]
    refine t.only.cell ?_
    rintro rfl
    omega
  · rw [t.only.size]; exact h.size

theorem Rel.turned (t : Turn G w w' l n e g o cap cur zs) (h : Rel w0 F0 Fp X G w a σ) (hmu : σ.m.mu = true) (hcap : cap ≤ maxLen) : Rel w0 F0 Fp X G w' a (σ.turned l n zs) :=
  ⟨h.sz, h.df, fun i => by
    show VR G w' _ ((σ.t i).turn σ.m.fm l n zs)
    rw [← h.mm.fm]; exact VR.turned t h.mm.fm0 (h.tm i), fun j i => by
    show VR G w' _ ((σ.hd j i).turn σ.m.fm l n zs)
    rw [← h.mm.fm]; exact VR.turned t h.mm.fm0 (h.hd j i), h.mm.turned t hmu hcap, h.tb⟩

omit [Tabs] in
theorem ints_length (k : IntKind) (l : List Int) : (ints k l).length = l.length := by simp [ints]
omit [Tabs] in
theorem ints_flat (k : IntKind) : ∀ l : List Int, flat (ints k l) = ints k l
  | [] => rfl
  | x :: l => by
    have := ints_flat k l
    simp only [ints, flat, List.map_cons, List.flatMap_cons, AV.cells] at this ⊢
    rw [this]; rfl
omit [Tabs] in
theorem ints_get (k : IntKind) (l : List Int) {j : Nat} (hj : j < l.length) : (ints k l).getD j .any = .v (.int k (l.getD j 0)) := by
  simp [ints, List.getD_eq_getElem?_getD, List.getElem?_eq_getElem hj]

/-- A call of a function that turns what it is handed, in place. -/
theorem mut_call (h : Rel w0 F0 Fp X G w a σ) {f : FuncId} {as : List AV} {vs : Array Value} {d : Option Nat} {K : AS → Prop} (hlen : vs.size = as.length) (hv : ∀ k, VR G w (vs.getD k undef) (as.getD k .any)) (hm : vcMut P σ f as d K) :
    FnOk P f ∧ Calls P f vs w fun ed w' => ∃ v σ1 r, ed = .returned v ∧ Rel w0 F0 Fp X G w' a σ1 ∧ VR G w' v r ∧ cont σ1 d r K := by
  unfold vcMut at hm
  split at hm
  · rename_i l s ys
    obtain ⟨rfl, e, k, F, xs, hM, rfl, hl2, hlv, hmu, hk0, hk1⟩ := hm
    refine ⟨hM.fn, ?_⟩
    have hlvG : G.lv l = some (xs.length, e) := by rw [h.mm.lv]; exact hlv
    have hvs : vs = #[vs.getD 0 undef] := by
      apply Array.ext (by simpa using hlen)
      intro i h1 h2
      simp only [List.size_toArray, List.length_cons, List.length_nil, Nat.zero_add] at h2
      have : i = 0 := by omega
      subst this
      simp [Array.getD_eq_getD_getElem?, h1]
    have hx := hv 0
    simp only [List.getD_cons_zero] at hx
    rw [hvs]
    generalize vs.getD 0 undef = x at hx
    clear hv hlen hvs
    generalize hys : ints k xs = ys at hx
    have hyl : ys.length = xs.length := by rw [← hys]; exact ints_length k xs
    cases hx with
    | nil => omega
    | sl A cap _ _ _ g off us hl' h1' hcap hlive hA hsz h0 hcell hh =>
      obtain ⟨_, h3⟩ := hlive _ _ hlvG
      obtain ⟨h4, h5⟩ := h3 hyl
      by_cases hne : xs = []
      · subst hne
        simp only [List.length_nil] at hyl
        rw [hyl]
        refine (hM.empty w A cap).mono ?_
        rintro ed w' ⟨rfl, hb⟩
        exact ⟨_, σ, .tup [], rfl, h.below hb, .tup #[] [] rfl (fun j hj => by simp at hj), hk0 rfl⟩
      · rw [hyl]
        obtain ⟨_, _, hls, hlo⟩ := h.mm.live l _ e hlvG
        have hpos : 0 < xs.length := List.length_pos_iff.2 hne
        rcases hlo with h6 | ⟨g', oF, cap', cur, h6, h7, h8, h9, h10, h11, h12, h13⟩
        · omega
        · rw [h6] at h4
          simp only [Prod.mk.injEq] at h4
          obtain ⟨rfl, rfl⟩ := h4
          rw [← h5, Nat.mul_one] at h11
          have hcur : ∀ j, j < xs.length → cur[oF + j]? = some (.int k (xs.getD j 0)) := by
            intro j hj
            have h14 := (hcell j (by omega)).1
            have hyne : ys ≠ [] := by rintro rfl; simp at hyl; omega
            obtain ⟨h15, _, _⟩ := hA hyne
            simp only [Option.some.injEq, Addr.mk.injEq, and_true] at h15
            obtain ⟨rfl, rfl⟩ := h15
            have h16 := hh j (by omega)
            rw [← hys, ints_flat, ints_get k xs hj] at h16
            have h17 := h16.v_inv
            rw [h17] at h14
            simpa [World.cell?, h8] using h14
          refine (hM.run w g' oF cap cur xs h8 h11 h9 h10 hne hcur).mono ?_
          rintro ed w' ⟨rfl, honly, cur', hrow, hsize, hnew⟩
          have hfl := h.mm.fm2 l hl2 (h.mm.lv_lt hlvG)
          have ht : Turn G w w' l xs.length e g' oF cap cur' (ints k (F xs)) := by
            refine ⟨hlvG, h6, h12, hfl, h13, hls, honly, hrow, by rw [hsize, h11, ← h5, Nat.mul_one], by rw [ints_length, hM.len], h9, ?_, ?_⟩
            · intro z hz
              simp only [ints, List.mem_map] at hz
              obtain ⟨q, _, rfl⟩ := hz
              exact ⟨by simp [AV.cells, ← h5], rfl⟩
            · intro j hj
              rw [← h5, Nat.mul_one] at hj
              have h18 := hnew j hj
              rw [ints_flat, ints_get k _ (by rw [hM.len]; exact hj), Array.getD_eq_getD_getElem?, h18]
              exact ⟨.v _, rfl⟩
          exact ⟨_, _, .tup [], rfl, h.turned ht hmu h10, .tup #[] [] rfl (fun j hj => by simp at hj), hk1 hne⟩
  · exact hm.elim
end
end Go.Rw
end

-- RwMore
section
namespace Go.Rw
open Go Go.RowKit
set_option linter.unusedSimpArgs false
set_option linter.unusedVariables false

theorem flat_set {sz : Nat} {xs : List AV} {i : Nat} {x : AV} (hall : ∀ y ∈ xs, y.cells.length = sz) (hx : x.cells.length = sz) (h0 : 0 < sz) (hi : i < xs.length) {k : Nat} (hk : k < xs.length * sz) :
    (flat (xs.set i x)).getD k .any = if i * sz ≤ k ∧ k < i * sz + sz then x.cells.getD (k - i * sz) .any else (flat xs).getD k .any := by
  have hall2 : ∀ y ∈ xs.set i x, y.cells.length = sz := fun y hy => by
    rcases List.mem_or_eq_of_mem_set hy with h | rfl
    · exact hall y h
    · exact hx
  have hr : k % sz < sz := Nat.mod_lt _ h0
  have e1 : k = (k / sz) * sz + k % sz := by rw [Nat.mul_comm]; exact (Nat.div_add_mod k sz).symm
  have hq : k / sz < xs.length := by rw [Nat.div_lt_iff_lt_mul h0]; exact hk
  generalize k / sz = q at e1 hq
  generalize k % sz = r at e1 hr
  subst e1
  rw [flat_getD hall2 hr, flat_getD hall hr]
  by_cases hqi : q = i
  · subst hqi
    rw [if_pos (by omega), List.getElem?_set_self (by omega)]
    simp
  · have hne : ¬ (i * sz ≤ q * sz + r ∧ q * sz + r < i * sz + sz) := by
      rintro ⟨h1, h2⟩
      rcases Nat.lt_or_ge q i with h3 | h3
      · have : (q + 1) * sz ≤ i * sz := Nat.mul_le_mul_right _ h3
        rw [Nat.add_mul] at this; omega
      · have : (i + 1) * sz ≤ q * sz := Nat.mul_le_mul_right _ (by omega)
        rw [Nat.add_mul] at this; omega
    rw [if_neg hne, List.getElem?_set_ne (fun e => hqi e.symm)]

theorem setEl_cells {x : AV} {j sz : Nat} {vs : List AV} (hx : x.cells.length = sz) (hj : j + vs.length ≤ sz) (h0 : 0 < vs.length) (hone : ∀ v ∈ vs, v.cells = [v]) : (setEl x j vs).cells = x.cells.take j ++ vs ++ x.cells.drop (j + vs.length) := by
  unfold setEl
  split
  · rfl
  · rename_i hna
    have hc : x.cells = [x] := by cases x <;> first | rfl | exact absurd rfl (hna _)
    rw [hc] at hx
    simp only [List.length_cons, List.length_nil] at hx
    have : vs.length = 1 := by omega
    have hj0 : j = 0 := by omega
    subst hj0
    match vs, this with
    | [v], _ => simp [hone v (by simp), hc]

theorem cellsOf_one {a : AV} {cs : List AV} (h : cellsOf a = some cs) : ∀ v ∈ cs, v.one = true := by
  unfold cellsOf at h
  split at h
  · split at h
    · rename_i hall
      simp only [Option.some.injEq] at h; subst h
      exact fun v hv => List.all_eq_true.1 hall v hv
    · cases h
  · split at h
    · rename_i ho
      simp only [Option.some.injEq] at h; subst h
      intro v hv
      rw [List.mem_singleton] at hv; subst hv; exact ho
    · cases h
theorem one_er {v : AV} (h : v.one = true) : v.er.cells = [v.er] := by cases v <;> first | rfl | cases h
theorem setEl_closed {x : AV} {j : Nat} {vs : List AV} (hx : x.er = x) (hv : AV.erL vs = vs) : (setEl x j vs).er = setEl x j vs := by
  unfold setEl
  split
  · rename_i cs
    simp only [AV.er, AV.agg.injEq] at hx ⊢
    rw [erL_eq] at hx hv ⊢
    rw [List.map_append, List.map_append, List.map_take, List.map_drop, hx, hv]
  · cases vs with
    | nil => rfl
    | cons v r => simp only [AV.erL, List.cons.injEq] at hv; exact hv.1

section
variable {P : Program} [Tabs] {w0 : World} {F0 : Nat → Nat} {Fp : Nat → Prop} {X : Nat → Nat → Value} {G : Gh} {w w' : World} {a : Act} {σ : AS} {m : AM} {g : Nat}

omit [Tabs] in
theorem erL_length (l : List AV) : (AV.erL l).length = l.length := by rw [erL_eq, List.length_map]

/-- A store into a live slice's row. -/
theorem store_ep_ok (h : Rel w0 F0 Fp X G w a σ) {t : TypeId} {ti : TI} (hti : tiOf P t = some ti) {l sz i j e : Nat} {xs : List AV} {x : AV} {p y : Value} {v : AV} {vs : List AV} (hp : VR G w p (.ep l sz xs i j)) (hx : xs[i]? = some x)
    (hy : VR G w y v) (hvs : cellsOf v = some vs) (hsz : vs.length = ti.size) (hv0 : 0 < vs.length) (hj : j + vs.length ≤ sz) (hl2 : 2 ≤ l) (hlv : σ.m.lv l = some (xs.length, e)) (hmu : σ.m.mu = true) (hfm : ¬ (AV.tagsL vs).any (fun t => σ.m.fm t == σ.m.fm l)) :
    ∃ w' G', (Instr.storeAt t p y).run P w = .ok () w' ∧ Rel w0 F0 Fp X G' w' a (AS.turned { σ with m := σ.m.killed (AV.tagsL vs) } l xs.length (xs.set i (setEl x j (AV.erL vs)))) := by
  have hk := h.killed (AV.tagsL vs)
  have hlvK : (G.killed (AV.tagsL vs)).lv l = some (xs.length, e) := by
    rw [hk.mm.lv]
    show kill σ.m.fm (AV.tagsL vs) σ.m.lv l = _
    unfold kill
    rw [if_neg hfm]; exact hlv
  have hlvG : G.lv l = some (xs.length, e) := by rw [h.mm.lv]; exact hlv
  have hll := h.mm.lv_lt hlvG
  have hlive := hk.mm.live l _ e hlvK
  obtain ⟨hs1, hs2, hs3⟩ := cellsOf_ok hy hvs
  cases hp with
  | ep _ _ _ _ _ g off us hl hlv' hA hi hjj hszx h0 hcell hh =>
    obtain ⟨_, h3⟩ := hlv' _ _ hlvG
    obtain ⟨h4, h6⟩ := h3 rfl
    obtain ⟨_, _, hls, hlo⟩ := hlive
    rcases hlo with ⟨h7, _⟩ | ⟨g', oF, cap, cur, h7, h8, h9, h10, h11, h12, h13, h14⟩
    · omega
    have h7' : G.la l = (some ⟨g', oF, none⟩, cap) := h7
    rw [h7'] at h4
    simp only [Option.some.injEq, Addr.mk.injEq, and_true] at h4
    obtain ⟨rfl, rfl⟩ := h4
    have hls' : (G.killed (AV.tagsL vs)).ls l = sz := h6.symm
    rw [hls'] at h12 h14 hls
    have hxx : x = xs[i] := by rw [List.getElem?_eq_getElem hi] at hx; exact (Option.some.inj hx).symm
    have hxc := hszx x (by rw [hxx]; exact List.getElem_mem hi)
    have hpos : i * sz + sz ≤ xs.length * sz := by
      have := Nat.mul_le_mul_right sz hi
      rw [Nat.succ_mul] at this; omega
    have hcap : xs.length * sz ≤ cap * sz := Nat.mul_le_mul_right _ h10
    have hlen : y.cells.toList.length = vs.length := by simpa using hs1
    have hone : ∀ u ∈ y.cells.toList, u.oneCell' = true := by
      intro u hu
      obtain ⟨q, hq, rfl⟩ := List.mem_iff_getElem.1 hu
      have := (hs2 q (by simp at hq; omega)).2
      simp at hq
      simpa [Array.getD_eq_getD_getElem?, hq] using this
    have hst := run_storeCells_at P g' (oF + (i * sz + j)) e y.cells.toList 0 cur w h9 (by simp at hlen ⊢; omega) hone
    simp only [Nat.add_zero] at hst
    generalize harr : (cur.toList.take (oF + (i * sz + j)) ++ y.cells.toList ++ cur.toList.drop (oF + (i * sz + j) + y.cells.toList.length)).toArray = arr' at hst
    have hsize : arr'.size = cur.size := by rw [← harr]; simp at hlen ⊢; omega
    have hw := setRow_only w g' arr'
    have e1 : ∀ q, arr'.getD (oF + q) default = if q < i * sz + j then cur.getD (oF + q) default else if q < i * sz + j + vs.length then y.cells.getD (q - (i * sz + j)) default else cur.getD (oF + q) default := by
      intro q
      rw [← harr]
      simp only [Array.getD_eq_getD_getElem?, List.getElem?_toArray]
      have hk1 : (cur.toList.take (oF + (i * sz + j))).length = oF + (i * sz + j) := by simp; omega
      have hk2 : (cur.toList.take (oF + (i * sz + j)) ++ y.cells.toList).length = oF + (i * sz + j) + vs.length := by rw [List.length_append, hk1, hlen]
      by_cases c1 : q < i * sz + j
      · rw [if_pos c1, List.getElem?_append_left (by omega), List.getElem?_append_left (by omega), List.getElem?_take, if_pos (by omega), Array.getElem?_toList]
      · rw [if_neg c1]
        by_cases c2 : q < i * sz + j + vs.length
        · rw [if_pos c2, List.getElem?_append_left (by omega), List.getElem?_append_right (by omega), hk1, Array.getElem?_toList, show oF + q - (oF + (i * sz + j)) = q - (i * sz + j) by omega]
        · rw [if_neg c2, List.getElem?_append_right (by omega), hk2, List.getElem?_drop, hlen, Array.getElem?_toList]
          congr 2; omega
    have hel : (setEl x j (AV.erL vs)).cells = x.cells.take j ++ AV.erL vs ++ x.cells.drop (j + vs.length) := by
      rw [setEl_cells hxc.1 (by rw [erL_length]; exact hj) (by rw [erL_length]; omega) (fun u hu => ?_), erL_length]
      rw [erL_eq, List.mem_map] at hu
      obtain ⟨u', hu', rfl⟩ := hu
      exact one_er (cellsOf_one hvs u' hu')
    have hellen : (setEl x j (AV.erL vs)).cells.length = sz := by
      rw [hel]; simp [erL_length]; have := hxc.1; omega
    have ht : Turn (G.killed (AV.tagsL vs)) w (w.setRow g' arr') l xs.length e g' oF cap arr' (xs.set i (setEl x j (AV.erL vs))) := by
      refine ⟨hlvK, h7, h13, hk.mm.fm2 l hl2 hll, by rw [hls']; exact h14, by rw [hls']; exact h0, hw, setRow_heap w _ cur _ e _ h9, by rw [hsize, h12, hls'], by simp, h10, ?_, ?_⟩
      · intro z hz
        rw [hls']
        rcases List.mem_or_eq_of_mem_set hz with h15 | rfl
        · exact hszx z h15
        · exact ⟨hellen, setEl_closed hxc.2 (erL_erL vs)⟩
      · intro q hq
        rw [hls'] at hq
        have hqc : cur.getD (oF + q) default = us q := by
          have h15 := (hcell q hq).1
          simp only [World.cell?, h9, Option.isSome_none, Bool.false_eq_true, if_false] at h15
          rw [Array.getD_eq_getD_getElem?, h15]; rfl
        have hold : VR (G.killed (AV.tagsL vs)) w (cur.getD (oF + q) default) ((flat xs).getD q .any) := by
          rw [hqc]; exact (hh q hq).mono (GLe.killed G w (AV.tagsL vs))
        have hold2 : (cur.getD (oF + q) default).oneCell' = true := by rw [hqc]; exact (hcell q hq).2
        rw [flat_set (fun y hy => (hszx y hy).1) hellen h0 hi hq, e1 q]
        have hflat : ∀ r, r < sz → (flat xs).getD (i * sz + r) .any = x.cells.getD r .any := fun r hr => by
          rw [flat_getD (fun y hy => (hszx y hy).1) hr, hx]
        by_cases c0 : i * sz ≤ q ∧ q < i * sz + sz
        · rw [if_pos c0, hel]
          obtain ⟨r, rfl⟩ : ∃ r, q = i * sz + r := ⟨q - i * sz, by omega⟩
          have hr : r < sz := by omega
          rw [show i * sz + r - i * sz = r by omega]
          have hcl : x.cells.length = sz := hxc.1
          have hk1 : (x.cells.take j).length = j := by simp; omega
          have hk2 : (x.cells.take j ++ AV.erL vs).length = j + vs.length := by rw [List.length_append, hk1, erL_length]
          have e2 : (x.cells.take j ++ AV.erL vs ++ x.cells.drop (j + vs.length)).getD r .any = if r < j then x.cells.getD r .any else if r < j + vs.length then (AV.erL vs).getD (r - j) .any else x.cells.getD r .any := by
            simp only [List.getD_eq_getElem?_getD]
            by_cases c1 : r < j
            · rw [if_pos c1, List.getElem?_append_left (by omega), List.getElem?_append_left (by omega), List.getElem?_take, if_pos c1]
            · rw [if_neg c1]
              by_cases c2 : r < j + vs.length
              · rw [if_pos c2, List.getElem?_append_left (by omega), List.getElem?_append_right (by omega), hk1]
              · rw [if_neg c2, List.getElem?_append_right (by omega), hk2, List.getElem?_drop]
                congr 2; omega
          rw [e2]
          by_cases c1 : r < j
          · rw [if_pos (by omega), if_pos c1, ← hflat r hr]; exact ⟨hold, hold2⟩
          · rw [if_neg (by omega), if_neg c1]
            by_cases c2 : r < j + vs.length
            · rw [if_pos (by omega), if_pos c2, show i * sz + r - (i * sz + j) = r - j by omega, erL_getD]
              obtain ⟨h15, h16⟩ := hs2 (r - j) (by omega)
              exact ⟨VR.er h.mm h15 (fun t ht h2 => mem_tagsL (by omega) ht), h16⟩
            · rw [if_neg (by omega), if_neg c2, ← hflat r hr]; exact ⟨hold, hold2⟩
        · rw [if_neg c0]
          by_cases c1 : q < i * sz + j
          · rw [if_pos c1]; exact ⟨hold, hold2⟩
          · rw [if_neg c1, if_neg (by omega)]; exact ⟨hold, hold2⟩
    refine ⟨_, _, ?_, Rel.turned ht hk hmu h11⟩
    simp [Instr.storeAt, Instr.sureAddr, storeVar, sizeOf_run hti, hs1, hsz, hst]

/-- A row made of zeros. -/
theorem makeSlice_ok (h : Rel w0 F0 Fp X G w a σ) {t e s : Nat} {ti : TI} {zv : Value} {zs : List AV} {c : Int} {k k' : IntKind} (hs : slcOf P t = some (e, s)) (hti : tiOf P e = some ti) (hz : ti.zero = some zv) (hzs : cellsOf (ofVh ti.hints zv).er = some zs) (hzl : zs.length = s) (h0 : 0 < s)
    (hc : 0 ≤ c) (hm : c ≤ maxLen) (hb2 : c * ti.bytes ≤ 140737488355328) :
    ∃ w' G' x, (Instr.makeSlice t (.int k c) (.int k' c)).run P w = .ok x w' ∧ Rel w0 F0 Fp X G' w' a { σ with m := σ.m.newLin c.toNat e } ∧
      VR G' w' x (.sl σ.m.nl s (List.replicate c.toNat (ofVh ti.hints zv).er)) := by
  obtain ⟨hu, ie, hie, hsz⟩ := slcOf_some hs
  rw [hie] at hti
  obtain rfl := Option.some.inj hti
  obtain ⟨i, dd, hi, hd, hi1, hi2, hi3, _⟩ := tiOf_some hie
  have hk := h.killed []
  have hzero := tells_zero (G := G.killed []) (w := w) (n := c.toNat) h0 (VR.er h.mm (ts := []) (ofVh_ok ie.hints G w zv) (fun t ht h2 => absurd (ofVh_tags _ _ t ht) (by omega))) hzs hzl (er_er _)
  have hb := alloc_below w (.cells ((Array.range (c.toNat * s)).map (zv.cells[· % zv.cells.size]!)) e)
  have hlen : (List.replicate c.toNat (ofVh ie.hints zv).er).length = c.toNat := by simp
  have hsize : ((Array.range (c.toNat * s)).map (zv.cells[· % zv.cells.size]!)).size = c.toNat * s := by simp
  have hcap : c.toNat ≤ maxLen := by omega
  have hrel := hk.newRow (g := w.heap.size) (n := c.toNat) (e := e) (sz := s) (cap := c.toNat) hb (Nat.le_refl _) (by simp) h0 ⟨_, heap_alloc_new w _, hsize⟩ (Nat.le_refl _) hcap
  have hvr := row_VR (g := w.heap.size) (n := c.toNat) (e := e) (s := s) (cap := c.toNat) (rest := #[]) hk.mm hzero hlen h0 (Nat.le_refl _) hb (Nat.le_refl _) (by simpa using heap_alloc_new w _)
  have hnl : (G.killed []).nl = σ.m.nl := h.mm.nl
  rw [hnl] at hvr
  refine ⟨_, _, _, ?_, hrel, hvr⟩
  have hrun := run_make (P := P) w t e i zv hu hi (hi3.trans hz) k k' c c hc (Int.le_refl _) (by rw [hi2, Int.mul_comm]; omega) (by have : (maxLen : Int) = 9223372036854775807 := rfl; omega)
  rw [hrun, hi1, hsz]
  rfl

omit [Tabs] in
theorem plainVs_ok {cs : List AV} {vs : List Value} (hp : plainVs cs = some vs) {arr : Array Value} (hs : arr.size = cs.length) (hc : ∀ k, k < cs.length → VR G w (arr.getD k default) (cs.getD k .any)) : arr = vs.toArray := by
  have key : ∀ (cs : List AV) (vs : List Value) (l : List Value), plainVs cs = some vs → l.length = cs.length → (∀ k, k < cs.length → VR G w (l.getD k default) (cs.getD k .any)) → l = vs := by
    intro cs
    induction cs with
    | nil =>
      intro vs l h1 h2 _
      simp only [plainVs, Option.some.injEq] at h1; subst h1
      exact List.eq_nil_of_length_eq_zero h2
    | cons c cs ih =>
      intro vs l h1 h2 h3
      cases l with
      | nil => simp at h2
      | cons x l =>
        cases c with
        | v y =>
          simp only [plainVs] at h1
          cases hr : plainVs cs with
          | none => rw [hr] at h1; cases h1
          | some us =>
            rw [hr] at h1
            simp only [Option.map_some, Option.some.injEq] at h1
            subst h1
            have h4 := h3 0 (by simp)
            simp only [List.getD_cons_zero] at h4
            rw [h4.v_inv, ih us l hr (by simpa using h2) fun k hk => by simpa using h3 (k + 1) (by simpa using hk)]
        | _ => simp [plainVs] at h1
  have := key cs vs arr.toList hp (by simpa using hs) fun k hk => by
    have := hc k hk
    simpa [Array.getD_eq_getD_getElem?, List.getD_eq_getElem?_getD] using this
  rw [← this]

/-- Structs and arrays held against each other; a pointer held against nil. -/
theorem aggBin_ok (h : Rel w0 F0 Fp X G w a σ) {op : BinOp} {t : TypeId} {x y : Operand} {b : AV} (hb : aggBin P op t x y (ev σ x) (ev σ y) = some b) :
    ∃ z, (∀ w', (do eqGuard op t x y (a.eval x) (a.eval y); binOp op t (a.eval x) (a.eval y) : Sem Value).run P w' = .ok z w') ∧ VR G w z b := by
  unfold aggBin at hb
  split at hb
  · rename_i cs ds hx hy
    split at hb
    · rename_i us vs hus hvs
      obtain ⟨z, hz, hr⟩ := res_ok G w hb
      have hxv := ev_ok h x
      have hyv := ev_ok h y
      rw [hx] at hxv; rw [hy] at hyv
      generalize a.eval x = p at hxv
      generalize a.eval y = q at hyv
      cases hxv with
      | agg arr1 _ hs1 hc1 =>
        cases hyv with
        | agg arr2 _ hs2 hc2 =>
          rw [plainVs_ok hus hs1 hc1, plainVs_ok hvs hs2 hc2]
          exact ⟨z, hz, hr⟩
    · cases hb
  · cases hb

omit [Tabs] in
/-- A slice held against nil. -/
theorem nil_run {op : BinOp} {t : TypeId} {x y : Operand} {e : TypeId} {A : Option Addr} {n c : Nat} (hu : P.underlying t = some (.slice e)) (hop : op = .eql ∨ op = .neq) (w' : World) :
    (do eqGuard op t x y (.slice A n c) (.slice none 0 0); binOp op t (.slice A n c) (.slice none 0 0) : Sem Value).run P w' = .ok (.bool (A.isNone == (op == .eql))) w' := by
  have e1 : Op.maxDepth = 9999 + 1 := rfl
  have hg : (eqGuard op t x y (.slice A n c) (.slice none 0 0)).run P w' = .ok () w' := by
    unfold eqGuard
    rcases hop with rfl | rfl <;> rfl
  have heq : (Op.equal t (.slice A n c) (.slice none 0 0)).run P w' = .ok A.isNone w' := by
    cases A with
    | none =>
      rw [Op.equal, e1]
      generalize 9999 = d
      simp [Op.equalIn, run_underlying hu]
    | some A =>
      rw [Op.equal, e1]
      generalize 9999 = d
      simp [Op.equalIn, run_underlying hu]
  simp only [Sem.run_bind, hg, Result.andThen_ok]
  rcases hop with rfl | rfl <;> cases A <;> simp [binOp, heq] <;> rfl
omit [Tabs] in
theorem nil_inv {z : Value} {s : Nat} (h : VR G w z (.sl 1 s [])) : z = .slice none 0 0 := by
  generalize ha : AV.sl 1 s [] = a at h
  cases h with
  | nil => rfl
  | sl A cap l sz xs g off us hl h1 =>
    simp only [AV.sl.injEq] at ha
    exact absurd ha.1.symm h1
  | _ => cases ha
theorem nil_ok (h : Rel w0 F0 Fp X G w a σ) {op : BinOp} {t : TypeId} {x y : Operand} {d : Option Nat} {K : AS → Prop} (hv : nilB (tiOf P t) op (ev σ x) (ev σ y) d K σ) :
    ∃ b : Bool, (do eqGuard op t x y (a.eval x) (a.eval y); binOp op t (a.eval x) (a.eval y) : Sem Value).run P w = .ok (.bool b) w ∧ cont σ d (.v (.bool b)) K := by
  have hxv := ev_ok h x
  have hyv := ev_ok h y
  have key : ∀ (l s : Nat) (xs : List AV) (e : TypeId) (v : Bool), ev σ x = .sl l s xs → P.underlying t = some (.slice e) → (op = .eql ∨ op = .neq) → v = (op == .eql) → nilK l xs v d K σ → a.eval y = .slice none 0 0 →
      ∃ b : Bool, (do eqGuard op t x y (a.eval x) (a.eval y); binOp op t (a.eval x) (a.eval y) : Sem Value).run P w = .ok (.bool b) w ∧ cont σ d (.v (.bool b)) K := by
    intro l s xs e v hx hu hop hvv hk hy
    rw [hx] at hxv
    rw [hy]
    generalize a.eval x = z at hxv
    refine match z, hxv with
      | _, .nil _ => ⟨_, nil_run hu hop w, ?_⟩
      | _, .sl A cap _ _ _ g off us hl h1 hc hlive hA hsz h0 hcell hh => ⟨_, nil_run hu hop w, ?_⟩
    · have := hk.1 (.inl rfl)
      rw [hvv] at this
      simpa using this
    · cases A with
      | none =>
        have hxs : xs = [] := Classical.byContradiction fun hne => by have := (hA hne).1; cases this
        have := hk.1 (.inr hxs)
        rw [hvv] at this
        simpa using this
      | some A =>
        have := hk.2 h1
        rw [hvv] at this
        simpa using this
  unfold nilB at hv
  split at hv
  · rename_i hti hx hy
    rw [hy] at hyv
    exact key _ _ _ _ true hx (und_slc hti rfl) (.inl rfl) rfl hv (nil_inv hyv)
  · rename_i hti hx hy
    rw [hy] at hyv
    exact key _ _ _ _ false hx (und_slc hti rfl) (.inr rfl) rfl hv (nil_inv hyv)
  · exact hv.elim
/-- A field of a struct's value. -/
theorem field_ok (h : Rel w0 F0 Fp X G w a σ) {t : TypeId} {x : Operand} {i : Nat} {b : AV} (hp : fieldA P t (ev σ x) i = some b) :
    ∃ y, (∀ w', Ext w w' → (Instr.field t (a.eval x) i).run P w' = .ok y w') ∧ VR G w y b := by
  have hv := ev_ok h x
  unfold fieldA at hp
  split at hp
  · rename_i cs fs hx hu
    rw [hx] at hv
    generalize a.eval x = z at hv
    cases hv with
    | agg arr _ hs hc =>
      split at hp
      · rename_i f hf
        unfold loadA at hp
        cases hti : tiOf P f.type with
        | none => rw [hti] at hp; cases hp
        | some ie =>
          rw [hti] at hp
          simp only at hp
          cases hagg : ie.kind.isAgg with
          | true =>
            simp only [hagg, cond_true] at hp
            split at hp
            · rename_i hle
              simp only [Option.some.injEq] at hp; subst hp
              refine ⟨.agg (arr.extract f.offset (f.offset + ie.size)), fun w' hext => ?_, ?_⟩
              · simp [Instr.field, asAgg, run_underlying hu, hf, sizeOf_run hti, part, isAgg_run hti, hagg]
              · refine .agg _ _ (by simp; omega) fun j hj => ?_
                have hj' : j < ie.size := by simp at hj; omega
                have := hc (f.offset + j) (by omega)
                have e1 : (arr.extract f.offset (f.offset + ie.size)).getD j default = arr.getD (f.offset + j) default := by
                  simp only [Array.getD_eq_getD_getElem?]
                  rw [Array.getElem?_extract, if_pos (by omega)]
                rw [e1]
                simpa [List.getD_eq_getElem?_getD, List.getElem?_take, hj', List.getElem?_drop] using this
            · cases hp
          | false =>
            simp only [hagg, cond_false] at hp
            have hk : f.offset < cs.length := by
              rcases Nat.lt_or_ge f.offset cs.length with h' | h'
              · exact h'
              · simp [List.getElem?_eq_none h'] at hp
            have h6 := hc f.offset hk
            rw [List.getD_eq_getElem?_getD, hp] at h6
            refine ⟨arr.getD f.offset default, fun w' hext => ?_, h6⟩
            have hk2 : f.offset < arr.size := by omega
            simp [Instr.field, asAgg, run_underlying hu, hf, part, isAgg_run hti, hagg, Array.getD_eq_getD_getElem?, hk2]
      · cases hp
  · cases hp
theorem ptrBin_ok (h : Rel w0 F0 Fp X G w a σ) {op : BinOp} {t : TypeId} {x y : Operand} {b : AV} (hb : ptrBin P op t (ev σ x) (ev σ y) = some b) :
    ∃ z, (∀ w', (do eqGuard op t x y (a.eval x) (a.eval y); binOp op t (a.eval x) (a.eval y) : Sem Value).run P w' = .ok z w') ∧ VR G w z b := by
  have key : ∀ (op : BinOp) (e : TypeId) (p q : Value), P.underlying t = some (.pointer e) → (∃ ad, (p = .pointer (some ad) ∧ q = .pointer none) ∨ (p = .pointer none ∧ q = .pointer (some ad))) → (op = .eql ∨ op = .neq) →
      ∀ w', (do eqGuard op t x y p q; binOp op t p q : Sem Value).run P w' = .ok (.bool (op == .neq)) w' := by
    intro op e p q hu hpq hop w'
    have e1 : Op.maxDepth = 9999 + 1 := rfl
    have hg : ∀ p q : Value, (match p, q with | .pointer _, .pointer _ => True | _, _ => False) → (eqGuard op t x y p q).run P w' = .ok () w' := by
      intro p q hpq
      cases p <;> cases q <;> first | exact hpq.elim | skip
      unfold eqGuard
      rcases hop with rfl | rfl <;> rfl
    have heq : ∀ p q : Value, (∃ ad, (p = .pointer (some ad) ∧ q = .pointer none) ∨ (p = .pointer none ∧ q = .pointer (some ad))) → (Op.equal t p q).run P w' = .ok false w' := by
      rintro p q ⟨ad, ⟨rfl, rfl⟩ | ⟨rfl, rfl⟩⟩ <;>
      · rw [Op.equal, e1]
        generalize 9999 = d
        simp [Op.equalIn, run_underlying hu]
    obtain ⟨ad, hpq⟩ := hpq
    have h1 := hg p q (by rcases hpq with ⟨rfl, rfl⟩ | ⟨rfl, rfl⟩ <;> trivial)
    have h2 := heq p q ⟨ad, hpq⟩
    simp only [Sem.run_bind, h1, Result.andThen_ok]
    rcases hop with rfl | rfl <;> rcases hpq with ⟨rfl, rfl⟩ | ⟨rfl, rfl⟩ <;> simp [binOp, h2] <;> rfl
  unfold ptrBin at hb
  have hxv := ev_ok h x
  have hyv := ev_ok h y
  split at hb
  · rename_i e o k hu hx hy
    simp only [Option.some.injEq] at hb; subst hb
    rw [hx] at hxv; rw [hy] at hyv
    have e2 := hyv.v_inv
    generalize a.eval x = p at hxv ⊢
    cases hxv with
    | ptr _ _ _ => rw [e2]; exact ⟨_, key .eql e _ _ hu ⟨_, .inl ⟨rfl, rfl⟩⟩ (.inl rfl), .v _⟩
  · rename_i e o k hu hx hy
    simp only [Option.some.injEq] at hb; subst hb
    rw [hx] at hxv; rw [hy] at hyv
    have e2 := hxv.v_inv
    generalize a.eval y = p at hyv ⊢
    cases hyv with
    | ptr _ _ _ => rw [e2]; exact ⟨_, key .eql e _ _ hu ⟨_, .inr ⟨rfl, rfl⟩⟩ (.inl rfl), .v _⟩
  · rename_i e o k hu hx hy
    simp only [Option.some.injEq] at hb; subst hb
    rw [hx] at hxv; rw [hy] at hyv
    have e2 := hyv.v_inv
    generalize a.eval x = p at hxv ⊢
    cases hxv with
    | ptr _ _ _ => rw [e2]; exact ⟨_, key .neq e _ _ hu ⟨_, .inl ⟨rfl, rfl⟩⟩ (.inr rfl), .v _⟩
  · rename_i e o k hu hx hy
    simp only [Option.some.injEq] at hb; subst hb
    rw [hx] at hxv; rw [hy] at hyv
    have e2 := hxv.v_inv
    generalize a.eval y = p at hyv ⊢
    cases hyv with
    | ptr _ _ _ => rw [e2]; exact ⟨_, key .neq e _ _ hu ⟨_, .inr ⟨rfl, rfl⟩⟩ (.inr rfl), .v _⟩
  · cases hb
end
end Go.Rw
end

-- RwCall
section
namespace Go.Rw
open Go Go.RowKit
set_option linter.unusedSimpArgs false
set_option linter.unusedVariables false

/-- A slice that is handed over to be gone on with. -/
structure Tk where
  A : Option Addr
  cap : Nat
  sz : Nat
  len : Nat
  e : Nat

def tkBlock (tk : Option Tk) (g : Nat) : Prop := ∃ k, tk = some k ∧ 0 < k.cap ∧ k.A.map (·.block) = some g

open Classical in
/-- The ghosts at a function's begin, and of what it hands back. -/
noncomputable def Gin (F : Nat → Nat) (tk : Option Tk) : Gh where
  nh := 0
  ob := fun _ => 0
  nl := 3
  lin := fun g => if tkBlock tk g then 2 else 0
  fm := fun l => l
  fr := F
  lv := fun l => if l = 2 then tk.map (fun k => (k.len, k.e)) else none
  la := fun _ => match tk with | some k => (k.A, k.cap) | none => (none, 0)
  ls := fun _ => match tk with | some k => k.sz | none => 0

/-- What a callee may have turned. -/
structure Back (w w' : World) (F F' : Nat → Nat) (tk : Option Tk) : Prop where
  os : w'.os = w.os
  tape : w'.tape = w.tape
  output : w'.output = w.output
  size : w.heap.size ≤ w'.heap.size
  block : ∀ g, g < w.heap.size → ¬ tkBlock tk g → w'.heap[g]? = w.heap[g]?
  same : ∀ g, g < w.heap.size → ¬ tkBlock tk g → F' g = F g
  cell : ∀ g i, i < F g → w'.cell? ⟨g, i, none⟩ = w.cell? ⟨g, i, none⟩
  more : ∀ g, F g ≤ F' g
  lt : ∀ g, 0 < F' g → g < w'.heap.size

def TakeIn (take : Option (Nat × Nat)) (as : List AV) (F : Nat → Nat) (tk : Option Tk) (w : World) : Prop :=
  match take with
  | none => tk = none
  | some (k, e) => ∃ K sz xs, tk = some K ∧ as[k]? = some (.sl 2 sz xs) ∧ K.len = xs.length ∧ K.e = e ∧ LiveOk (Gin F tk) w w.heap.size (tkBlock tk) 2 xs.length e

def OwnOut (own : Option (Nat × Nat)) (r : AV) (F' : Nat → Nat) (tk ow : Option Tk) (w w' : World) : Prop :=
  match own with
  | none => ow = none
  | some (k, e) => ∃ K sz xs, ow = some K ∧ comp k r = .sl 2 sz xs ∧ (∀ cs, r = .tup cs → ∀ j, j ≠ k → 2 ∉ (cs.getD j .any).tags) ∧ K.len = xs.length ∧ K.e = e ∧ LiveOk (Gin F' ow) w' w.heap.size (tkBlock tk) 2 xs.length e

/-- The function f meets the contract C. -/
def Good [Tabs] (P : Program) (f : FuncId) (C : Con) : Prop := FnOk P f ∧
  ∀ (w : World) (F : Nat → Nat) (i : C.ι) (vs : Array Value) (tk : Option Tk), (∀ g, 0 < F g → g < w.heap.size) → TabOk w (tkBlock tk) → TakeIn C.take (C.args i) F tk w →
    vs.size = (C.args i).length → (∀ k, VR (Gin F tk) w (vs.getD k undef) ((C.args i).getD k .any)) →
    Calls P f vs w fun e w' => ∃ v r F' ow, e = .returned v ∧ C.post i r ∧ VR (Gin F' ow) w' v r ∧ Back w w' F F' tk ∧ OwnOut C.own r F' tk ow w w' ∧ (C.plain = true → r.plain = true)

def GoodEnv [Tabs] (P : Program) (Γ : Env) : Prop := ∀ f C, Γ.get f = some C → Good P f C

section
variable {P : Program} [Tabs] {w0 : World} {F0 : Nat → Nat} {Fp : Nat → Prop} {X : Nat → Nat → Value} {G G' : Gh} {w w' : World} {a : Act} {σ : AS} {m : AM} {g : Nat}

omit [Tabs] in
/-- A plain value hangs on no world. -/
theorem VR.plain {x : Value} {b : AV} (h : VR G w x b) (hp : b.plain = true) : VR G' w' x b := by
  induction h with
  | any => simp [AV.plain] at hp
  | v x => exact .v x
  | agg arr cs hs _ ih =>
    refine .agg arr cs hs fun k hk => ih k hk ?_
    simp only [AV.plain, plainL_eq, List.all_eq_true] at hp
    refine hp _ ?_
    rw [List.getD_eq_getElem?_getD, List.getElem?_eq_getElem hk]
    exact List.getElem_mem hk
  | tup arr cs hs _ ih =>
    refine .tup arr cs hs fun k hk => ih k hk ?_
    simp only [AV.plain, plainL_eq, List.all_eq_true] at hp
    refine hp _ ?_
    rw [List.getD_eq_getElem?_getD, List.getElem?_eq_getElem hk]
    exact List.getElem_mem hk
  | _ => simp [AV.plain] at hp

/-- What makes a view of some lineages one of none elsewhere. -/
structure Sees (G G' : Gh) (w w' : World) (ts : List Nat) : Prop where
  nl : 0 < G'.nl
  fm : G'.fm 0 = 0
  lv : G'.lv 0 = none
  lin : ∀ t, t < G.nl → (t = 0 ∨ (2 ≤ t ∧ t ∈ ts)) → ∀ g, 0 < G.fr g → (G.lin g = G.fm t ∨ G.lin g = 0) → G'.lin g = 0 ∧ G.fr g ≤ G'.fr g
  cell : ∀ g i, i < G.fr g → G'.lin g = 0 → w'.cell? ⟨g, i, none⟩ = w.cell? ⟨g, i, none⟩

omit [Tabs] in
theorem VR.sees_in {ts : List Nat} (hs : Sees G G' w w' ts) (h0 : G.fm 0 = 0) {x : Value} {b : AV} (hv : VR G w x b) : (∀ t ∈ b.tags, 2 ≤ t → t ∈ ts) → VR G' w' x b.er := by
  induction hv with
  | any x => exact fun _ => .any x
  | v x => exact fun _ => .v x
  | agg arr cs hsz _ ih =>
    refine fun ht => .agg arr _ (by rw [erL_eq, List.length_map]; exact hsz) fun k hk => ?_
    rw [erL_eq, List.length_map] at hk
    rw [erL_getD]
    exact ih k hk fun t h1 => ht t (mem_tagsL hk h1)
  | tup arr cs hsz _ ih =>
    refine fun ht => .tup arr _ (by rw [erL_eq, List.length_map]; exact hsz) fun k hk => ?_
    rw [erL_eq, List.length_map] at hk
    rw [erL_getD]
    exact ih k hk fun t h1 => ht t (mem_tagsL hk h1)
  | nil sz =>
    refine fun _ => .sl none 0 0 sz [] 0 0 (fun _ => default) hs.nl (by omega) (by simp) ?_ (fun h => absurd rfl h) (by simp) (fun h => absurd rfl h) (by simp) (by simp)
    intro n e hn
    rw [hs.lv] at hn; cases hn
  | sl A cap l sz xs g off us hl h1 hc hlive hA hsz h0' hcell hh ih =>
    intro ht
    -- elements are of no lineage: their views go along, too
    refine .sl A cap 0 sz xs g off us hs.nl (by omega) hc ?_ ?_ hsz h0' ?_ fun k hk => ?_
    · intro n e hn
      rw [hs.lv] at hn; cases hn
    · intro hx
      obtain ⟨h2, h3, h4⟩ := hA hx
      have hpos : 0 < G.fr g := by
        have := List.length_pos_iff.2 hx
        have := Nat.mul_pos this (h0' hx)
        omega
      obtain ⟨h5, h6⟩ := hs.lin l hl (by rcases Nat.lt_or_ge l 2 with h7 | h7; exact .inl (by omega); exact .inr ⟨h7, ht l (by simp [AV.tags, h7]) h7⟩) g hpos h3
      exact ⟨h2, .inr h5, by omega⟩
    · intro k hk
      have hx : xs ≠ [] := by rintro rfl; simp at hk
      obtain ⟨h2, h3, h4⟩ := hA hx
      obtain ⟨h5, h6⟩ := hs.lin l hl (by rcases Nat.lt_or_ge l 2 with h7 | h7; exact .inl (by omega); exact .inr ⟨h7, ht l (by simp [AV.tags, h7]) h7⟩) g (by omega) h3
      rw [hs.cell g (off + k) (by omega) h5]
      exact hcell k hk
    · have := ih k hk
      rw [flat_closed hsz k] at this
      exact this fun t ht' h2 => by have := closed_tags _ (flat_closed hsz k) t ht'; omega
  | ep => exact fun _ => .any _
  | ptr => exact fun _ => .any _
  | mp => exact fun _ => .any _
  | fn f arr caps hsz _ ih =>
    refine fun ht => .fn f arr _ (by rw [erL_eq, List.length_map]; exact hsz) fun k hk => ?_
    rw [erL_eq, List.length_map] at hk
    rw [erL_getD]
    exact ih k hk fun t h1 => ht t (mem_tagsL hk h1)
end
end Go.Rw
end

-- RwCall2
section
namespace Go.Rw
open Go Go.RowKit
set_option linter.unusedSimpArgs false
set_option linter.unusedVariables false

section
variable {P : Program} [Tabs] {w0 : World} {F0 : Nat → Nat} {Fp : Nat → Prop} {X : Nat → Nat → Value} {G G' : Gh} {w w' : World} {a : Act} {σ : AS} {m : AM} {g : Nat}

omit [Tabs] in
theorem Gin_lin (F : Nat → Nat) (tk : Option Tk) (g : Nat) : (tkBlock tk g → (Gin F tk).lin g = 2) ∧ (¬ tkBlock tk g → (Gin F tk).lin g = 0) := by
  simp only [Gin]
  exact ⟨fun h => if_pos h, fun h => if_neg h⟩

open Classical in
noncomputable def seen (G : Gh) (ts : List Nat) (g : Nat) : Nat := if G.lin g = 0 ∨ ∃ t, t ∈ ts ∧ 2 ≤ t ∧ t < G.nl ∧ G.lin g = G.fm t then G.fr g else 0

/-- The slice that is handed over. -/
def tkMk (G : Gh) (l n e : Nat) : Tk := ⟨(G.la l).1, (G.la l).2, G.ls l, n, e⟩

open Classical in
/-- The ghosts behind a call. 'pl': nothing comes back that could see memory; 'tl': the lineage that was handed over. -/
noncomputable def Gh.back (G : Gh) (w : World) (pl : Bool) (ts : List Nat) (tl : Option Nat) (F' : Nat → Nat) (tk ow : Option Tk) : Gh :=
  let fmn := match tl with | none => G.nl | some l => G.fm l
  let lv2 := lvCall G.fm pl ts tl G.lv
  { nh := G.nh, ob := G.ob
    nl := match ow with | none => G.nl | some _ => G.nl + 1
    fm := match ow with | none => G.fm | some _ => upd G.fm G.nl fmn
    lin := fun g => if tkBlock ow g then fmn else if pl = false ∧ ∃ t, t ∈ ts ∧ 2 ≤ t ∧ t < G.nl ∧ G.lin g = G.fm t then 0 else G.lin g
    fr := fun g => if g < w.heap.size ∧ ¬ tkBlock tk g then G.fr g else F' g
    lv := match ow with | none => lv2 | some k => upd lv2 G.nl (some (k.len, k.e))
    la := match ow with | none => G.la | some k => upd G.la G.nl (k.A, k.cap)
    ls := match ow with | none => G.ls | some k => upd G.ls G.nl k.sz }

/-- What was handed over, and what came back. -/
structure Deal (w0 : World) (Fp : Nat → Prop) (G : Gh) (w w' : World) (ts : List Nat) (tl : Option Nat) (F' : Nat → Nat) (tk ow : Option Tk) : Prop where
  bk : Back w w' (seen G ts) F' tk
  tl0 : tl = none → tk = none
  tl1 : ∀ l, tl = some l → l ∈ ts ∧ 2 ≤ l ∧ l < G.nl ∧ ∃ n e, G.lv l = some (n, e) ∧ tk = some (tkMk G l n e)
  ow : ∀ k, ow = some k → LiveOk (Gin F' ow) w' w.heap.size (tkBlock tk) 2 k.len k.e

variable {pl : Bool} {ts : List Nat} {tl : Option Nat} {F' : Nat → Nat} {tk ow : Option Tk}

omit [Tabs] in
theorem Deal.tkb (h : Mem w0 F0 Fp G w m) (d : Deal w0 Fp G w w' ts tl F' tk ow) {g : Nat} (hg : tkBlock tk g) : ∃ l n e, tl = some l ∧ l ∈ ts ∧ 2 ≤ l ∧ l < G.nl ∧ G.lv l = some (n, e) ∧ G.lin g = G.fm l ∧ (w0.heap.size ≤ g ∨ Fp g) ∧ g < w.heap.size := by
  cases htl : tl with
  | none => rw [d.tl0 htl] at hg; obtain ⟨k, hk, _⟩ := hg; cases hk
  | some l =>
    obtain ⟨h1, h2, h3, n, e, h4, h5⟩ := d.tl1 l htl
    subst h5
    obtain ⟨k, hk, hc, hb⟩ := hg
    obtain rfl := Option.some.inj hk
    rcases (h.live l n e h4).2.2.2 with h6 | ⟨g', oF, cap, cur, h6, h7, h8, h9, h10, h11, h12, h13⟩
    · simp only [tkMk] at hc; omega
    · simp only [tkMk, h6, Option.map_some, Option.some.injEq] at hb
      subst hb
      exact ⟨l, n, e, rfl, h1, h2, h3, h4, h12, h7, (Array.getElem?_eq_some_iff.1 h8).1⟩

omit [Tabs] in
theorem Deal.owb (d : Deal w0 Fp G w w' ts tl F' tk ow) {g : Nat} (hg : tkBlock ow g) : ∃ k oF cap cur, ow = some k ∧ (k.A, k.cap) = (some ⟨g, oF, none⟩, cap) ∧ (w.heap.size ≤ g ∨ tkBlock tk g) ∧ w'.heap[g]? = some (.cells cur k.e (0, 0)) ∧ k.len ≤ cap ∧ cap ≤ maxLen ∧ cur.size = oF + cap * k.sz ∧ F' g = oF + k.len * k.sz := by
  obtain ⟨k, hk, hc, hb⟩ := hg
  rcases (d.ow k hk).2.2.2 with h6 | ⟨g', oF, cap, cur, h6, h7, h8, h9, h10, h11, h12, h13⟩
  · simp only [Gin, hk] at h6; omega
  · simp only [Gin, hk] at h6 h11 h13
    simp only [Prod.mk.injEq] at h6
    rw [h6.1] at hb
    simp only [Option.map_some, Option.some.injEq] at hb
    subst hb
    exact ⟨k, oF, cap, cur, hk, by rw [h6.1, h6.2], h7, h8, h9, h10, h11, h13⟩

omit [Tabs] in
theorem Deal.gle (h : Mem w0 F0 Fp G w m) (d : Deal w0 Fp G w w' ts tl F' tk ow) : GLe G w (G.back w pl ts tl F' tk ow) w' where
  nh := Nat.le_refl _
  ob := fun _ _ => rfl
  nl := by simp only [Gh.back]; cases ow <;> simp
  fm := fun l hl => by
    simp only [Gh.back]
    cases ow
    · rfl
    · exact upd_other _ _ (by omega)
  lin := fun k hk => by
    simp only [Gh.back]
    split
    · rename_i hob
      obtain ⟨_, oF, cap, cur, _, _, h7, _⟩ := d.owb hob
      rcases h7 with h8 | h8
      · have := h.frl k hk; omega
      · obtain ⟨l, n, e, h9, _, _, _, _, h10, _⟩ := d.tkb h h8
        subst h9
        exact .inl h10.symm
    · split
      · exact .inr rfl
      · exact .inl rfl
  fr := fun k => by
    simp only [Gh.back]
    split
    · exact Nat.le_refl _
    · rename_i hn
      by_cases hk : k < w.heap.size
      · have hb : tkBlock tk k := Classical.byContradiction fun h1 => hn ⟨hk, h1⟩
        obtain ⟨l, n, e, h9, h1, h2, h3, _, h10, _⟩ := d.tkb h hb
        have h4 := d.bk.more k
        simp only [seen] at h4
        rw [if_pos (.inr ⟨l, h1, h2, h3, h10⟩)] at h4
        exact h4
      · rcases Nat.eq_zero_or_pos (G.fr k) with h1 | h1
        · omega
        · have := h.frl k h1; omega
  lv := fun l hl n' e' hl' => by
    simp only [Gh.back] at hl' ⊢
    cases ow with
    | none => exact ⟨n', e', (lvCall_some hl').1, Nat.le_refl _, fun _ => ⟨rfl, rfl⟩⟩
    | some k =>
      simp only at hl' ⊢
      rw [upd_other _ _ (by omega)] at hl'
      exact ⟨n', e', (lvCall_some hl').1, Nat.le_refl _, fun _ => ⟨upd_other _ _ (by omega), upd_other _ _ (by omega)⟩⟩
  cell := fun k i hi => by
    have hk := h.frl k (by omega)
    by_cases hb : tkBlock tk k
    · obtain ⟨l, n, e, h9, h1, h2, h3, _, h10, _⟩ := d.tkb h hb
      refine d.bk.cell k i ?_
      simp only [seen]
      rw [if_pos (.inr ⟨l, h1, h2, h3, h10⟩)]
      exact hi
    · exact World.cell?_of_block (a := ⟨k, i, none⟩) (d.bk.block k hk hb)

omit [Tabs] in
theorem back_lv {l n e : Nat} (hl : (G.back w pl ts tl F' tk ow).lv l = some (n, e)) : (∃ k, ow = some k ∧ l = G.nl ∧ n = k.len ∧ e = k.e) ∨ (G.lv l = some (n, e) ∧ tl ≠ some l ∧ (pl = false → ∀ t ∈ ts, G.fm t ≠ G.fm l)) := by
  simp only [Gh.back] at hl
  cases ow with
  | none => exact .inr (lvCall_some hl)
  | some k =>
    simp only [upd] at hl
    split at hl
    · rename_i h1
      simp only [Option.some.injEq, Prod.mk.injEq] at hl
      exact .inl ⟨k, rfl, h1, hl.1.symm, hl.2.symm⟩
    · exact .inr (lvCall_some hl)

omit [Tabs] in
theorem Mem.back (h : Mem w0 F0 Fp G w m) (d : Deal w0 Fp G w w' ts tl F' tk ow) (hsz : ∀ k, ow = some k → 0 < k.sz) (m' : AM) (hm : m' = { m with nl := (G.back w pl ts tl F' tk ow).nl, fm := (G.back w pl ts tl F' tk ow).fm, lv := (G.back w pl ts tl F' tk ow).lv }) :
    Mem w0 F0 Fp (G.back w pl ts tl F' tk ow) w' m' := by
  have hgle := d.gle (pl := pl) h
  have htwo := h.two
  have hfmn : ∀ l, tl = some l → 2 ≤ G.fm l ∧ G.fm l < G.nl := fun l hl => by
    obtain ⟨_, h2, h3, _⟩ := d.tl1 l hl
    have := h.fml l h3; exact ⟨h.fm2 l h2 h3, by omega⟩
  -- a block of old that is not the one handed over
  have hnb : ∀ {k : Nat}, k < w.heap.size → ¬ tkBlock tk k → ¬ tkBlock ow k := fun hk hn ho => by
    obtain ⟨_, _, _, _, _, _, h7, _⟩ := d.owb ho
    rcases h7 with h8 | h8
    · omega
    · exact hn h8
  have hob : ∀ o, o < G.nh → ¬ tkBlock tk (G.ob o) := fun o ho hb => by
    obtain ⟨l, n, e, h9, h1, h2, h3, _, h10, _⟩ := d.tkb h hb
    have := (h.obl o ho).1
    have := h.fm2 l h2 h3
    omega
  have hfm : (G.back w pl ts tl F' tk ow).nl = (match (generalizing := false) ow with | none => G.nl | some _ => G.nl + 1) := rfl
  subst hm
  exact {
    nh := h.nh
    nl := rfl
    fm := rfl
    lv := rfl
    two := by rw [hfm]; cases ow <;> simp <;> omega
    fm0 := by rw [hgle.fm 0 (by omega)]; exact h.fm0
    fml := fun l hl => by
      rw [hfm] at hl
      cases ow with
      | none => exact h.fml l hl
      | some k =>
        simp only [Gh.back, upd] at hl ⊢
        split
        · cases tl with
          | none => simp only; omega
          | some t => have := (hfmn t rfl).2; simp only; omega
        · exact h.fml l (by omega)
    fm2 := fun l hl hl' => by
      rw [hfm] at hl'
      cases ow with
      | none => exact h.fm2 l hl hl'
      | some k =>
        simp only [Gh.back, upd] at hl' ⊢
        split
        · cases tl with
          | none => exact htwo
          | some t => exact (hfmn t rfl).1
        · exact h.fm2 l hl (by omega)
    fmi := by
      intro l l' x y hx hy he
      have old : ∀ {k : Nat}, k < G.nl → (G.back w pl ts tl F' tk ow).fm k = G.fm k := fun hk => hgle.fm _ hk
      have new : ∀ q, ow = some q → (G.back w pl ts tl F' tk ow).fm G.nl = (match (generalizing := false) tl with | none => G.nl | some t => G.fm t) := fun q hq => by subst hq; simp [Gh.back]
      have clash : ∀ {k : Nat} {z : Nat × Nat} {q : Tk}, ow = some q → G.lv k = some z → tl ≠ some k → (match (generalizing := false) tl with | none => G.nl | some t => G.fm t) ≠ G.fm k := by
        intro k z q hq hz hne he2
        cases htl : tl with
        | none => rw [htl] at he2; have := h.fml k (h.lv_lt hz); have := h.lv_lt hz; simp only at he2; omega
        | some t =>
          rw [htl] at he2 hne
          obtain ⟨_, _, _, n, e, h4, _⟩ := d.tl1 t htl
          exact hne (by rw [h.fmi t k _ _ h4 hz he2])
      rcases back_lv (n := x.1) (e := x.2) hx with ⟨q, hq, rfl, _⟩ | ⟨h1, h2, _⟩ <;> rcases back_lv (n := y.1) (e := y.2) hy with ⟨q', hq', rfl, _⟩ | ⟨h3, h4, _⟩
      · rfl
      · rw [new q hq, old (h.lv_lt h3)] at he; exact absurd he (clash hq h3 h4)
      · rw [new q' hq', old (h.lv_lt h1)] at he; exact absurd he.symm (clash hq' h1 h2)
      · rw [old (h.lv_lt h1), old (h.lv_lt h3)] at he; exact h.fmi l l' _ _ h1 h3 he
    inj := h.inj
    obl := fun o ho => by
      obtain ⟨h1, h2, h3, h4⟩ := h.obl o ho
      have hb := hob o ho
      refine ⟨?_, ?_, Nat.lt_of_lt_of_le h3 d.bk.size, h4⟩
      · simp only [Gh.back]
        rw [if_neg (hnb h3 hb), if_neg]
        · exact h1
        · rintro ⟨_, t, _, ht2, htl, he⟩
          have := h.fm2 t ht2 htl
          omega
      · simp only [Gh.back]
        rw [if_pos ⟨h3, hb⟩]; exact h2
    obj := fun o x hx => by
      obtain ⟨h1, h2⟩ := h.obj o x hx
      exact ⟨h1, h2.mono hgle (d.bk.block _ (h.obl o h1).2.2.1 (hob o h1))⟩
    live := by
      intro l n e hl
      rcases back_lv hl with ⟨k, hk, rfl, rfl, rfl⟩ | ⟨h1, h2, h3⟩
      · refine ⟨htwo, by rw [hfm, hk]; simp, by have := hsz k hk; simp only [Gh.back, hk, upd_same]; exact this, ?_⟩
        have hfmg : (G.back w pl ts tl F' tk ow).fm G.nl = (match (generalizing := false) tl with | none => G.nl | some t => G.fm t) := by rw [hk]; simp [Gh.back]
        rcases (d.ow k hk).2.2.2 with h6 | ⟨g, oF, cap, cur, h6, h7, h8, h9, h10, h11, h12, h13⟩
        · simp only [Gin, hk] at h6
          exact .inl (by simp only [Gh.back, hk, upd_same]; exact h6)
        · have hob : tkBlock ow g := Classical.byContradiction fun hn => by
            have := (Gin_lin F' ow g).2 hn
            rw [this] at h12
            simp [Gin] at h12
          simp only [Gin, hk] at h6 h11 h13
          refine .inr ⟨g, oF, cap, cur, by simp only [Gh.back, hk, upd_same]; exact h6, ?_, h8, h9, h10, by simp only [Gh.back, hk, upd_same]; exact h11, ?_, ?_⟩
          · rcases h7 with h7 | h7
            · exact .inl (Nat.le_trans h.size h7)
            · obtain ⟨l, n, e, _, _, _, _, _, _, h10, _⟩ := d.tkb h h7
              exact h10
          · rw [hfmg]
            simp only [Gh.back]
            rw [if_pos hob]
          · have : ¬ (g < w.heap.size ∧ ¬ tkBlock tk g) := by
              rintro ⟨ha, hb⟩
              rcases h7 with h7 | h7
              · omega
              · exact hb h7
            simp only [Gh.back]
            rw [if_neg this, hk]
            simp only [upd_same]
            exact h13
      · obtain ⟨h4, h5, h6, h7⟩ := h.live l n e h1
        have f1 : (G.back w pl ts tl F' tk ow).ls l = G.ls l := by simp only [Gh.back]; cases ow <;> first | rfl | exact upd_other _ _ (by omega)
        have f2 : (G.back w pl ts tl F' tk ow).la l = G.la l := by simp only [Gh.back]; cases ow <;> first | rfl | exact upd_other _ _ (by omega)
        refine ⟨h4, Nat.lt_of_lt_of_le h5 hgle.nl, by rw [f1]; exact h6, ?_⟩
        rw [f1, f2, hgle.fm l h5]
        rcases h7 with h7 | ⟨g, oF, cap, cur, g5, g6, g7, g8, g9, g10, g11, g12⟩
        · exact .inl h7
        · have hgl := (Array.getElem?_eq_some_iff.1 g7).1
          have hnt : ¬ tkBlock tk g := fun hb => by
            obtain ⟨l2, n2, e2, q9, q1, q2, q3, q4, q10, _⟩ := d.tkb h hb
            have : l2 = l := h.fmi l2 l _ _ q4 h1 (q10.symm.trans g11)
            exact h2 (by rw [q9, this])
          refine .inr ⟨g, oF, cap, cur, g5, g6, by rw [d.bk.block g hgl hnt]; exact g7, g8, g9, g10, ?_, ?_⟩
          · simp only [Gh.back]
            rw [if_neg (hnb hgl hnt), if_neg]
            · exact g11
            · rintro ⟨hp, t, ht, _, _, he⟩
              exact h3 hp t ht (he.symm.trans g11)
          · simp only [Gh.back]
            rw [if_pos ⟨hgl, hnt⟩]; exact g12
    frl := fun k hk => by
      simp only [Gh.back] at hk
      split at hk
      · exact Nat.lt_of_lt_of_le (h.frl k hk) d.bk.size
      · exact d.bk.lt k hk
    linl := fun k hk => by
      have hk2 : w.heap.size ≤ k := Nat.le_trans d.bk.size hk
      simp only [Gh.back]
      rw [if_neg]
      · split
        · rfl
        · exact h.linl k hk2
      · intro hb
        obtain ⟨_, _, _, cur, _, _, _, h8, _⟩ := d.owb hb
        have := (Array.getElem?_eq_some_iff.1 h8).1
        omega
    linn := fun k => by
      have hle := hgle.nl
      simp only [Gh.back]
      split
      · rename_i hb
        obtain ⟨q, _, _, _, hq, _⟩ := d.owb hb
        subst hq
        cases tl with
        | none => simp
        | some t => have := (hfmn t rfl).2; simp only; omega
      · split
        · cases ow <;> simp <;> omega
        · have := h.linn k; cases ow <;> simp only <;> omega
    old := fun k hk hf => by
      obtain ⟨h1, h2, h3⟩ := h.old k hk hf
      have hk2 : k < w.heap.size := Nat.lt_of_lt_of_le hk h.size
      have hnt : ¬ tkBlock tk k := fun hb => by
        obtain ⟨l2, n2, e2, q9, q1, q2, q3, q4, q10, _⟩ := d.tkb h hb
        have := h.fm2 l2 q2 q3
        omega
      refine ⟨?_, (d.bk.block k hk2 hnt).trans h2, ?_⟩
      · simp only [Gh.back]
        rw [if_neg (hnb hk2 hnt)]
        split
        · rfl
        · exact h1
      · simp only [Gh.back]
        rw [if_pos ⟨hk2, hnt⟩]; exact h3
    f0 := h.f0
    mu := h.mu
    keep := fun k i hi => by
      rw [← h.keep k i hi]
      exact hgle.cell k i (Nat.lt_of_lt_of_le hi (h.keepf k))
    keepf := fun k => Nat.le_trans (h.keepf k) (hgle.fr k)
    size := Nat.le_trans h.size d.bk.size
    os := d.bk.os.trans h.os
    tape := d.bk.tape.trans h.tape
    output := d.bk.output.trans h.output }
end
end Go.Rw
end

-- RwCall3
section
namespace Go.Rw
open Go Go.RowKit
set_option linter.unusedSimpArgs false
set_option linter.unusedVariables false

mutual
theorem er_plain : ∀ b : AV, b.plain = true → b.er = b
  | .v _, _ => rfl
  | .agg cs, h => by simp only [AV.plain] at h; simp only [AV.er, erL_plain cs h]
  | .tup cs, h => by simp only [AV.plain] at h; simp only [AV.er, erL_plain cs h]
  | .any, h => by simp [AV.plain] at h
  | .sl .., h => by simp [AV.plain] at h
  | .ep .., h => by simp [AV.plain] at h
  | .ptr .., h => by simp [AV.plain] at h
  | .mp .., h => by simp [AV.plain] at h
  | .fn .., h => by simp [AV.plain] at h
theorem erL_plain : ∀ cs : List AV, AV.plainL cs = true → AV.erL cs = cs
  | [], _ => rfl
  | b :: r, h => by simp only [AV.plainL, Bool.and_eq_true] at h; simp only [AV.erL, er_plain b h.1, erL_plain r h.2]
end

section
variable {P : Program} [Tabs] {w0 : World} {F0 : Nat → Nat} {Fp : Nat → Prop} {X : Nat → Nat → Value} {G G' : Gh} {w w' : World} {a : Act} {σ : AS} {m : AM} {g : Nat}
variable {pl : Bool} {ts : List Nat} {tl : Option Nat} {F' : Nat → Nat} {tk ow : Option Tk}

omit [Tabs] in
theorem seen_le (G : Gh) (ts : List Nat) (g : Nat) : seen G ts g ≤ G.fr g := by
  unfold seen; split
  · exact Nat.le_refl _
  · exact Nat.zero_le _

open Classical in
omit [Tabs] in
theorem Deal.sees {m' : AM} (h : Mem w0 F0 Fp G w m) (d : Deal w0 Fp G w w' ts tl F' tk ow) (hm : Mem w0 F0 Fp (G.back w false ts tl F' tk ow) w' m') (h0 : ∀ g, 0 < F' g → g < w.heap.size → ¬ tkBlock tk g → True) (ts2 : List Nat) (hts : 2 ∈ ts2 → ow = none) :
    Sees (Gin F' ow) (G.back w false ts tl F' tk ow) w' w' ts2 := by
  have key : ∀ g, 0 < F' g → ¬ tkBlock ow g → (G.back w false ts tl F' tk ow).lin g = 0 ∧ F' g ≤ (G.back w false ts tl F' tk ow).fr g := by
    intro g hp hn
    have e1 : (∃ t, t ∈ ts ∧ 2 ≤ t ∧ t < G.nl ∧ G.lin g = G.fm t) ∨ G.lin g = 0 → (G.back w false ts tl F' tk ow).lin g = 0 := by
      intro hv
      simp only [Gh.back]
      rw [if_neg hn]
      rcases hv with hv | hv
      · rw [if_pos ⟨trivial, hv⟩]
      · rw [hv]; split <;> rfl
    have e2 : (G.back w false ts tl F' tk ow).fr g = if g < w.heap.size ∧ ¬ tkBlock tk g then G.fr g else F' g := rfl
    rw [e2]
    by_cases hk : g < w.heap.size
    · by_cases hb : tkBlock tk g
      · obtain ⟨l, n, e, h9, h1, h2, h3, _, h10, _⟩ := d.tkb h hb
        rw [if_neg (fun hc => hc.2 hb)]
        exact ⟨e1 (.inl ⟨l, h1, h2, h3, h10⟩), Nat.le_refl _⟩
      · have he := d.bk.same g hk hb
        rw [he] at hp
        have hv : G.lin g = 0 ∨ ∃ t, t ∈ ts ∧ 2 ≤ t ∧ t < G.nl ∧ G.lin g = G.fm t := Classical.byContradiction fun hc => by
          simp only [seen] at hp; rw [if_neg hc] at hp; omega
        rw [if_pos ⟨hk, hb⟩, he]
        exact ⟨e1 hv.symm, seen_le _ _ _⟩
    · rw [if_neg (fun hc => hk hc.1)]
      exact ⟨e1 (.inr (h.linl g (by omega))), Nat.le_refl _⟩
  have h1 := hm.two
  refine ⟨by omega, hm.fm0, hm.lv_two (by omega), ?_, fun _ _ _ _ => rfl⟩
  intro t ht ho g hp hl
  refine key g hp fun hb => ?_
  rw [(Gin_lin F' ow g).1 hb] at hl
  rcases ho with rfl | ⟨h2, h3⟩
  · simp [Gin] at hl
  · have : t = 2 := by simp only [Gin] at ht; omega
    subst this
    rw [hts h3] at hb
    obtain ⟨_, hb, _⟩ := hb; cases hb

theorem tab_call (h : Rel w0 F0 Fp X G w a σ) {tl : Option Nat} {tk : Option Tk} (h0 : tl = none → tk = none) (h1 : ∀ l, tl = some l → l ∈ ts ∧ 2 ≤ l ∧ l < G.nl ∧ ∃ n e, G.lv l = some (n, e) ∧ tk = some (tkMk G l n e)) : TabOk w (tkBlock tk) := by
  refine ⟨Tabs.stable w0 w (fun g hg => (h.mm.old g (h.tb.2 g hg).1 (h.tb.2 g hg).2).2.1) h.tb.1, fun g hg => ?_⟩
  obtain ⟨h2, h3⟩ := h.tb.2 g hg
  obtain ⟨h5, h6, _⟩ := h.mm.old g h2 h3
  refine ⟨Nat.lt_of_lt_of_le h2 h.mm.size, fun hb => ?_⟩
  cases tl with
  | none =>
    rw [h0 rfl] at hb
    obtain ⟨k, hk, _⟩ := hb; cases hk
  | some l =>
    obtain ⟨_, h7, h8, n, e, h9, h10⟩ := h1 l rfl
    subst h10
    obtain ⟨q, hq, hc, hbk⟩ := hb
    obtain rfl := Option.some.inj hq
    obtain ⟨_, _, _, hlo⟩ := h.mm.live l n e h9
    have hf := h.mm.fm2 l h7 h8
    rcases hlo with h6 | ⟨g', oF, cap, cur, h6, _, _, _, _, _, h12, _⟩
    · simp only [tkMk] at hc; omega
    · simp only [tkMk, h6, Option.map_some, Option.some.injEq] at hbk
      subst hbk; omega

theorem call_ok {f : FuncId} {C : Con} (hg : Good P f C) (h : Rel w0 F0 Fp X G w a σ) {as : List AV} {vs : Array Value} (hlen : vs.size = as.length) (hv : ∀ k, VR G w (vs.getD k undef) (as.getD k .any)) {i : C.ι}
    (hi : argsIn C.take as = C.args i) (ht : takeOk σ C.take as) :
    Calls P f vs w fun e w' => ∃ v r G', e = .returned v ∧ C.post i r ∧ Rel w0 F0 Fp X G' w' a { σ with m := after C σ.m as r } ∧
      VR G' w' v (match C.own with | none => r.er | some _ => r.rt σ.m.nl) := by
  have htwo := h.mm.two
  generalize hts : AV.tagsL as = ts
  -- what is handed over
  have hprep : ∃ tk, True ∧ TakeIn C.take (C.args i) (seen G ts) tk w ∧ (∀ k, VR (Gin (seen G ts) tk) w (vs.getD k undef) ((C.args i).getD k .any)) ∧ vs.size = (C.args i).length ∧
      (tlOf C.take as = none → tk = none) ∧ (∀ l, tlOf C.take as = some l → l ∈ ts ∧ 2 ≤ l ∧ l < G.nl ∧ ∃ n e, G.lv l = some (n, e) ∧ tk = some (tkMk G l n e)) := by
    have hseen : ∀ g, G.lin g = 0 → G.fr g ≤ seen G ts g := fun g hg => by unfold seen; rw [if_pos (.inl hg)]; exact Nat.le_refl _
    have hseen2 : ∀ g t, t ∈ ts → 2 ≤ t → t < G.nl → G.lin g = G.fm t → G.fr g ≤ seen G ts g := fun g t h1 h2 h3 h4 => by unfold seen; rw [if_pos (.inr ⟨t, h1, h2, h3, h4⟩)]; exact Nat.le_refl _
    have htag : ∀ k, ∀ t ∈ (as.getD k .any).tags, t ∈ ts := fun k t h1 => by
      rw [← hts]
      by_cases hk : k < as.length
      · exact mem_tagsL hk h1
      · rw [List.getD_eq_getElem?_getD, List.getElem?_eq_none (by omega)] at h1
        simp [AV.tags] at h1
    cases hC : C.take with
    | none =>
      rw [hC] at hi
      simp only [argsIn] at hi
      refine ⟨none, trivial, by simp [TakeIn], fun k => ?_, by rw [← hi, erL_eq, List.length_map]; exact hlen, fun _ => rfl, fun l hl => by simp [tlOf] at hl⟩
      rw [← hi, erL_getD]
      refine VR.sees_in (G' := Gin (seen G ts) none) (w' := w) (ts := ts) ⟨by simp [Gin], rfl, by simp [Gin], ?_, fun _ _ _ _ => rfl⟩ h.mm.fm0 (hv k) (fun t h1 _ => htag k t h1)
      intro t htl ho g hp hl
      refine ⟨(Gin_lin _ none g).2 (by rintro ⟨_, h3, _⟩; cases h3), ?_⟩
      rcases hl with hl | hl
      · rcases ho with rfl | ⟨h1, h2⟩
        · rw [h.mm.fm0] at hl; exact hseen g hl
        · exact hseen2 g t h2 h1 htl hl
      · exact hseen g hl
    | some ke =>
      obtain ⟨k0, e⟩ := ke
      rw [hC] at hi ht
      simp only [takeOk] at ht
      cases hk0 : as[k0]? with
      | none => rw [hk0] at ht; exact ht.elim
      | some b =>
        rw [hk0] at ht
        cases b with
        | sl l sz xs =>
          obtain ⟨hl2, hlv, hfm⟩ := ht
          simp only [argsIn, hk0] at hi
          have hlvG : G.lv l = some (xs.length, e) := by rw [h.mm.lv]; exact hlv
          have hll := h.mm.lv_lt hlvG
          have hk0l : k0 < as.length := by
            rcases Nat.lt_or_ge k0 as.length with h1 | h1
            · exact h1
            · rw [List.getElem?_eq_none h1] at hk0; cases hk0
          have hget : as.getD k0 .any = .sl l sz xs := by rw [List.getD_eq_getElem?_getD, hk0]; rfl
          have hlts : l ∈ ts := htag k0 l (by rw [hget]; simp [AV.tags, hl2])
          obtain ⟨_, _, hls, hlo⟩ := h.mm.live l _ e hlvG
          have htkl : ∀ g, tkBlock (some (tkMk G l xs.length e)) g → G.lin g = G.fm l := by
            rintro g ⟨q, hq, hc, hb⟩
            obtain rfl := Option.some.inj hq
            rcases hlo with h6 | ⟨g', oF, cap, cur, h6, h7, h8, h9, h10, h11, h12, h13⟩
            · simp only [tkMk] at hc; omega
            · simp only [tkMk, h6, Option.map_some, Option.some.injEq] at hb
              subst hb; exact h12
          have hfl := h.mm.fm2 l hl2 hll
          refine ⟨some (tkMk G l xs.length e), trivial, ?_, fun k => ?_, by rw [← hi, List.length_set, erL_eq, List.length_map]; exact hlen, fun h1 => by simp [tlOf] at h1, ?_⟩
          · refine ⟨tkMk G l xs.length e, sz, xs, rfl, ?_, rfl, rfl, by omega, by simp [Gin], by simpa [Gin, tkMk] using hls, ?_⟩
            · rw [← hi, List.getElem?_set_self (by rw [erL_eq, List.length_map]; exact hk0l)]
            · rcases hlo with h6 | ⟨g, oF, cap, cur, h6, h7, h8, h9, h10, h11, h12, h13⟩
              · exact .inl (by simpa [Gin, tkMk] using h6)
              · by_cases hc : cap = 0
                · subst hc
                  exact .inl ⟨by omega, by simp [Gin, tkMk, h6]⟩
                · have hb : tkBlock (some (tkMk G l xs.length e)) g := ⟨_, rfl, by simp only [tkMk, h6]; omega, by simp [tkMk, h6]⟩
                  refine .inr ⟨g, oF, cap, cur, by simp [Gin, tkMk, h6], .inr hb, h8, h9, h10, by simpa [Gin, tkMk] using h11, by rw [(Gin_lin _ _ g).1 hb]; rfl, ?_⟩
                  show seen G ts g = _
                  have : seen G ts g = G.fr g := by unfold seen; rw [if_pos (.inr ⟨l, hlts, hl2, hll, h12⟩)]
                  rw [this, h13]; simp [Gin, tkMk]
          · by_cases hk : k = k0
            · subst hk
              have e1 : (C.args i).getD k .any = .sl 2 sz xs := by
                rw [← hi, List.getD_eq_getElem?_getD, List.getElem?_set_self (by rw [erL_eq, List.length_map]; exact hk0l)]; rfl
              rw [e1]
              have hvk := hv k
              rw [hget] at hvk
              generalize vs.getD k undef = x at hvk
              cases hvk with
              | nil => omega
              | sl A cap _ _ _ g off us hl' h1' hcap hlive hA hsz h0 hcell hh =>
                obtain ⟨_, h3⟩ := hlive _ _ hlvG
                obtain ⟨h4, h5⟩ := h3 rfl
                refine .sl A cap 2 sz xs g off us (by simp [Gin]) (by omega) hcap ?_ ?_ hsz h0 hcell fun j hj => ?_
                · intro n' e' hn'
                  simp only [Gin, if_true, Option.map_some, Option.some.injEq, Prod.mk.injEq] at hn'
                  obtain ⟨rfl, rfl⟩ := hn'
                  refine ⟨Nat.le_refl _, fun _ => ⟨?_, by simpa [Gin, tkMk] using h5⟩⟩
                  simp only [Gin, tkMk]; exact h4
                · intro hx
                  obtain ⟨h6, h7, h8⟩ := hA hx
                  rcases hlo with h9 | ⟨g', oF, cap', cur, h9, h10, h11, h12, h13, h14, h15, h16⟩
                  · exfalso; have := List.length_pos_iff.2 hx; omega
                  · rw [h9] at h4
                    simp only [Prod.mk.injEq] at h4
                    obtain ⟨h17, h18⟩ := h4
                    rw [h6] at h17
                    simp only [Option.some.injEq, Addr.mk.injEq, and_true] at h17
                    obtain ⟨rfl, rfl⟩ := h17
                    have hb : tkBlock (some (tkMk G l xs.length e)) g := ⟨_, rfl, by simp only [tkMk, h9]; have := List.length_pos_iff.2 hx; omega, by simp [tkMk, h9]⟩
                    refine ⟨h6, .inl ?_, ?_⟩
                    · rw [(Gin_lin _ _ g).1 hb]; rfl
                    · exact Nat.le_trans h8 (hseen2 g l hlts hl2 hll h15)
                · -- elements are of no lineage
                  have h6 := hh j hj
                  rw [← flat_closed hsz j]
                  refine VR.sees_in (G' := Gin (seen G ts) (some (tkMk G l xs.length e))) (w' := w) (ts := []) ⟨by simp [Gin], rfl, by simp [Gin], ?_, fun _ _ _ _ => rfl⟩ h.mm.fm0 h6 (fun t h1 h2 => by have := closed_tags _ (flat_closed hsz j) t h1; omega)
                  intro t htl ho g2 hp hl2'
                  have hz : G.lin g2 = 0 := by
                    rcases ho with rfl | ⟨_, h2⟩
                    · rw [h.mm.fm0] at hl2'; omega
                    · cases h2
                  exact ⟨(Gin_lin _ _ g2).2 fun hb => by have := htkl g2 hb; omega, hseen g2 hz⟩
            · have e1 : (C.args i).getD k .any = (as.getD k .any).er := by
                rw [← hi, List.getD_eq_getElem?_getD, List.getElem?_set_ne (fun e => hk e.symm), ← List.getD_eq_getElem?_getD, erL_getD]
              rw [e1]
              refine VR.sees_in (G' := Gin (seen G ts) (some (tkMk G l xs.length e))) (w' := w) (ts := AV.tagsL (as.eraseIdx k0)) ⟨by simp [Gin], rfl, by simp [Gin], ?_, fun _ _ _ _ => rfl⟩ h.mm.fm0 (hv k) (fun t h1 _ => ?_)
              · intro t htl ho g hp hl
                have hne : 2 ≤ t ∧ t ∈ AV.tagsL (as.eraseIdx k0) → G.fm t ≠ G.fm l := fun h2 h3 => by
                  apply hfm
                  rw [List.any_eq_true]
                  refine ⟨t, h2.2, ?_⟩
                  rw [← h.mm.fm]; simp [h3]
                have hsub : t ∈ AV.tagsL (as.eraseIdx k0) → t ∈ ts := fun h2 => by
                  rw [← hts]
                  rw [tagsL_eq, List.mem_flatMap] at h2 ⊢
                  obtain ⟨b, h3, h4⟩ := h2
                  exact ⟨b, List.mem_of_mem_eraseIdx h3, h4⟩
                refine ⟨(Gin_lin _ _ g).2 fun hb => ?_, ?_⟩
                · have h5 := htkl g hb
                  rcases hl with hl | hl
                  · rcases ho with rfl | ho
                    · rw [h.mm.fm0] at hl; omega
                    · exact hne ho (hl.symm.trans h5)
                  · omega
                · rcases hl with hl | hl
                  · rcases ho with rfl | ho
                    · rw [h.mm.fm0] at hl; exact hseen g hl
                    · exact hseen2 g t (hsub ho.2) ho.1 htl hl
                  · exact hseen g hl
              · rw [tagsL_eq, List.mem_flatMap]
                by_cases hkl : k < as.length
                · refine ⟨as.getD k .any, ?_, h1⟩
                  rw [List.getD_eq_getElem?_getD, List.getElem?_eq_getElem hkl]
                  simp only [Option.getD_some]
                  rw [List.mem_eraseIdx_iff_getElem]
                  exact ⟨k, hkl, hk, rfl⟩
                · rw [List.getD_eq_getElem?_getD, List.getElem?_eq_none (by omega)] at h1
                  simp [AV.tags] at h1
          · intro l' hl'
            simp only [tlOf, hget, slTag, Option.some.injEq] at hl'
            subst hl'
            exact ⟨hlts, hl2, hll, xs.length, e, hlvG, rfl⟩
        | _ => exact ht.elim
  obtain ⟨tk, _, hti, hvr, hsz, htl0, htl1⟩ := hprep
  refine (hg.2 w (seen G ts) i vs tk (fun g hg => h.mm.frl g (Nat.lt_of_lt_of_le hg (seen_le _ _ _))) (tab_call h htl0 htl1) hti hsz hvr).mono ?_
  rintro ed w' ⟨v, r, F', ow, he, hpost, hres, hbk, hown, hplain⟩
  have hd : Deal w0 Fp G w w' ts (tlOf C.take as) F' tk ow := by
    refine ⟨hbk, htl0, htl1, fun k hk => ?_⟩
    cases hO : C.own with
    | none => rw [hO] at hown; simp only [OwnOut] at hown; rw [hown] at hk; cases hk
    | some ke =>
      rw [hO] at hown
      obtain ⟨K, sz, xs, hK, h1, _, h2, h3, h4⟩ := hown
      rw [hK] at hk
      obtain rfl := Option.some.inj hk
      rw [h2, h3]; exact h4
  have hsz2 : ∀ k, ow = some k → 0 < k.sz := fun k hk => by
    have := (hd.ow k hk).2.2.1
    simpa [Gin, hk] using this
  have hm : Mem w0 F0 Fp (G.back w C.plain ts (tlOf C.take as) F' tk ow) w' (after C σ.m as r) := by
    refine h.mm.back hd hsz2 _ ?_
    unfold after
    cases hO : C.own with
    | none =>
      rw [hO] at hown; simp only [OwnOut] at hown; subst hown
      simp only [Gh.back, h.mm.nl, h.mm.fm, h.mm.lv, hts]
    | some ke =>
      rw [hO] at hown
      obtain ⟨K, sz, xs, hK, h1, _, h2, h3, h4⟩ := hown
      subst hK
      simp only [Gh.back, h.mm.nl, h.mm.fm, h.mm.lv, hts, h1, slLen, h2, h3]
      cases tlOf C.take as <;> rfl
  have hgle := hd.gle (pl := C.plain) h.mm
  refine ⟨v, r, _, he, hpost, ⟨h.sz, h.df, fun k => (h.tm k).mono hgle, fun j k => (h.hd j k).mono hgle, hm, h.tb⟩, ?_⟩
  -- what came back
  cases hpl : C.plain with
  | true =>
    have hp := hplain hpl
    cases hO : C.own with
    | none => simp only; rw [er_plain r hp]; exact hres.plain hp
    | some ke =>
      exfalso
      rw [hO] at hown
      obtain ⟨K, sz, xs, hK, h1, _⟩ := hown
      cases r with
      | tup cs =>
        simp only [comp] at h1
        simp only [AV.plain, plainL_eq, List.all_eq_true] at hp
        have hk : ke.1 < cs.length := by
          rcases Nat.lt_or_ge ke.1 cs.length with h2 | h2
          · exact h2
          · rw [List.getD_eq_getElem?_getD, List.getElem?_eq_none h2] at h1; cases h1
        rw [List.getD_eq_getElem?_getD, List.getElem?_eq_getElem hk] at h1
        simp only [Option.getD_some] at h1
        have := hp _ (List.getElem_mem hk)
        rw [h1] at this; simp [AV.plain] at this
      | sl => simp [AV.plain] at hp
      | _ => simp only [comp] at h1; cases h1
  | false =>
    rw [hpl] at hm
    cases hO : C.own with
    | none =>
      rw [hO] at hown; simp only [OwnOut] at hown; subst hown
      simp only
      have hs := hd.sees h.mm hm (fun _ _ _ _ => trivial) r.tags (fun _ => rfl)
      exact VR.sees_in hs rfl hres fun t h1 _ => h1
    | some ke =>
      rw [hO] at hown
      obtain ⟨K, sz, xs, hK, h1, h1b, h2, h3, h4⟩ := hown
      subst hK
      simp only
      have hownVR : ∀ y, VR (Gin F' (some K)) w' y (.sl 2 sz xs) → VR (G.back w false ts (tlOf C.take as) F' tk (some K)) w' y (.sl σ.m.nl sz xs) := by
        intro y hy
        rw [← h.mm.nl]
        have hnl : (G.back w false ts (tlOf C.take as) F' tk (some K)).nl = G.nl + 1 := rfl
        cases hy with
        | sl A cap _ _ _ g off us hl' h1' hcap hlive hA hsz h0 hcell hh =>
          obtain ⟨_, h5⟩ := hlive K.len K.e (by simp [Gin])
          obtain ⟨h6, h7⟩ := h5 h2.symm
          refine .sl A cap G.nl sz xs g off us (by rw [hnl]; omega) (by omega) hcap ?_ ?_ hsz h0 hcell fun j hj => ?_
          · intro n' e' hn'
            simp only [Gh.back, upd_same, Option.some.injEq, Prod.mk.injEq] at hn'
            obtain ⟨rfl, rfl⟩ := hn'
            exact ⟨by omega, fun _ => ⟨by simpa [Gh.back, Gin] using h6, by simpa [Gh.back, Gin] using h7⟩⟩
          · intro hx
            obtain ⟨h8, h9, h10⟩ := hA hx
            have hpos : 0 < xs.length := List.length_pos_iff.2 hx
            rcases (hd.ow K rfl).2.2.2 with h11 | ⟨g', oF, cap', cur, h11, h12, h13, h14, h15, h16, h17, h18⟩
            · omega
            · rw [h11] at h6
              simp only [Prod.mk.injEq] at h6
              rw [h8] at h6
              obtain ⟨h19, h20⟩ := h6
              simp only [Option.some.injEq, Addr.mk.injEq, and_true] at h19
              obtain ⟨rfl, rfl⟩ := h19
              have hb : tkBlock (some K) g := Classical.byContradiction fun hn => by
                rw [(Gin_lin F' (some K) g).2 hn] at h17; simp [Gin] at h17
              refine ⟨h8, .inl ?_, ?_⟩
              · simp only [Gh.back, upd_same]; rw [if_pos hb]
              · have : ¬ (g < w.heap.size ∧ ¬ tkBlock tk g) := by
                  rintro ⟨ha, hb2⟩
                  rcases h12 with h21 | h21
                  · omega
                  · exact hb2 h21
                simp only [Gh.back]; rw [if_neg this]; exact h10
          · have h8 := hh j hj
            rw [← flat_closed hsz j]
            exact VR.sees_in (hd.sees h.mm hm (fun _ _ _ _ => trivial) [] (fun h => by cases h)) rfl h8 (fun t h9 h10 => by have := closed_tags _ (flat_closed hsz j) t h9; omega)
      cases r with
      | tup cs =>
        simp only [AV.rt]
        simp only [comp] at h1
        cases hres with
        | tup arr _ hs hc =>
          refine .tup arr _ (by rw [List.length_map]; exact hs) fun k hk => ?_
          rw [List.length_map] at hk
          have e1 : (cs.map (AV.rt1 σ.m.nl)).getD k .any = (cs.getD k .any).rt1 σ.m.nl := by
            simp only [List.getD_eq_getElem?_getD, List.getElem?_map]
            rw [List.getElem?_eq_getElem hk]; rfl
          rw [e1]
          by_cases hkk : k = ke.1
          · subst hkk
            have hck := hc ke.1 hk
            rw [h1] at hck ⊢
            simp only [AV.rt1, if_true]
            exact hownVR _ hck
          · have hck := hc k hk
            have hnt := h1b cs rfl k hkk
            have hs2 := hd.sees h.mm hm (fun _ _ _ _ => trivial) (cs.getD k .any).tags (fun h => absurd h hnt)
            have h5 := VR.sees_in hs2 rfl hck fun t h6 _ => h6
            have e2 : (cs.getD k .any).rt1 σ.m.nl = (cs.getD k .any).er := by
              generalize hb : cs.getD k .any = b at hnt
              cases b with
              | sl l s2 ys =>
                simp only [AV.rt1, AV.er]
                rw [if_neg (fun e => hnt (by simp [AV.tags, e]))]
              | _ => rfl
            rw [e2]; exact h5
      | sl l s2 ys =>
        simp only [comp, AV.sl.injEq] at h1
        obtain ⟨rfl, rfl, rfl⟩ := h1
        simp only [AV.rt, AV.rt1, if_true]
        exact hownVR _ hres
      | _ => simp only [comp] at h1; cases h1
end
end Go.Rw
end

-- RwOp
section
namespace Go.Rw
open Go Go.RowKit
set_option linter.unusedSimpArgs false
set_option linter.unusedVariables false

section
variable {P : Program} [Tabs] {w0 : World} {F0 : Nat → Nat} {Fp : Nat → Prop} {X : Nat → Nat → Value} {G G' : Gh} {w w' : World} {a : Act} {σ : AS} {m : AM} {g : Nat}

/-- Cells in an array, told by a list. -/
def Row (G : Gh) (w : World) (arr : Array Value) (cs : List AV) : Prop := arr.size = cs.length ∧ ∀ k, k < cs.length → VR G w (arr.getD k default) (cs.getD k .any)

theorem fill_ok (h : Rel w0 F0 Fp X G w a σ) {place : Nat → Option (Nat × Nat)} : ∀ (ps : List (Nat × Operand)) {arr : Array Value} {cs cs' : List AV}, Row G w arr cs → fillA place cs (ps.map fun p => (p.1, ev σ p.2)) = some cs' →
    ∃ arr', Instr.fill place arr (ps.map fun p => (p.1, a.eval p.2)) = some arr' ∧ Row G w arr' cs'
  | [], arr, cs, cs', hr, hf => by simp only [List.map_nil, fillA, Option.some.injEq] at hf; subst hf; exact ⟨arr, rfl, hr⟩
  | p :: ps, arr, cs, cs', hr, hf => by
    simp only [List.map_cons, fillA] at hf
    cases hp : place p.1 with
    | none => rw [hp] at hf; cases hf
    | some os =>
      obtain ⟨off, size⟩ := os
      cases hc : cellsOf (ev σ p.2) with
      | none => rw [hp, hc] at hf; cases hf
      | some vs =>
        rw [hp, hc] at hf
        simp only at hf
        split at hf
        · rename_i hok
          obtain ⟨h1, h2, _⟩ := cellsOf_ok (ev_ok h p.2) hc
          have hsz : (a.eval p.2).cells.size = size := by rw [h1]; exact hok.1
          have hset := fun k => foldl_set_getD off (a.eval p.2).cells.toList 0 arr k (by simp; have := hr.1; omega)
          have e : (a.eval p.2).cells.zipIdx.toList = (a.eval p.2).cells.toList.zipIdx := by simp
          have hrow : Row G w ((a.eval p.2).cells.zipIdx.foldl (fun (cs : Array Value) (q : Value × Nat) => cs.setIfInBounds (off + q.2) q.1) arr) (cs.take off ++ vs ++ cs.drop (off + size)) := by
            rw [← Array.foldl_toList, e]
            have hlen : (cs.take off ++ vs ++ cs.drop (off + size)).length = cs.length := by simp; omega
            refine ⟨by rw [(hset 0).1, hr.1, hlen], fun k hk => ?_⟩
            rw [hlen] at hk
            rw [(hset k).2]
            have e2 : (cs.take off ++ vs ++ cs.drop (off + size)).getD k .any = if off ≤ k ∧ k < off + size then vs.getD (k - off) .any else cs.getD k .any := by
              simp only [List.getD_eq_getElem?_getD]
              have hk1 : (cs.take off).length = off := by simp; omega
              have hk2 : (cs.take off ++ vs).length = off + size := by simp; omega
              by_cases c1 : k < off
              · rw [if_neg (by omega), List.getElem?_append_left (by omega), List.getElem?_append_left (by omega), List.getElem?_take, if_pos c1]
              · by_cases c2 : k < off + size
                · rw [if_pos (by omega), List.getElem?_append_left (by omega), List.getElem?_append_right (by omega), hk1]
                · rw [if_neg (by omega), List.getElem?_append_right (by omega), hk2, List.getElem?_drop]
                  congr 2; omega
            rw [e2]
            simp only [Nat.add_zero, Array.length_toList, hsz]
            split
            · have := (h2 (k - off) (by omega)).1
              simpa [List.getD_eq_getElem?_getD, Array.getD_eq_getD_getElem?] using this
            · exact hr.2 k hk
          obtain ⟨arr', h3, h4⟩ := fill_ok h ps hrow hf
          refine ⟨arr', ?_, h4⟩
          simp only [List.map_cons, Instr.fill, hp]
          rw [if_neg]
          · exact h3
          · simp only [Bool.or_eq_true, decide_eq_true_eq, not_or, Decidable.not_not]
            refine ⟨hsz, ?_⟩
            rw [hsz, hr.1]; omega
        · cases hf

omit [Tabs] in
theorem row_zero (G : Gh) (w : World) (z : Array Value) : Row G w z (z.toList.map ofV1) := by
  refine ⟨by simp, fun k hk => ?_⟩
  simp at hk
  simp only [Array.getD_eq_getD_getElem?, List.getD_eq_getElem?_getD, List.getElem?_map, Array.getElem?_toList]
  rw [Array.getElem?_eq_getElem hk]
  simpa using ofV1_ok G w _

omit [Tabs] in
theorem hintV_ok {G : Gh} {w : World} {x : Value} {b : AV} (n : Nat) (h : VR G w x b) : VR G w x (hintV n b) := by
  unfold hintV
  split
  · cases h with
    | nil => exact .nil _
    | sl A cp l sz xs g off us hl h1 => exact absurd rfl h1
  · exact h
omit [Tabs] in
theorem zeroL_len : ∀ (hs : List Nat) (z : List Value), (zeroL hs z).length = z.length
  | _, [] => rfl
  | hs, v :: r => by simp only [zeroL, List.length_cons, zeroL_len hs.tail r]
omit [Tabs] in
theorem zeroL_ok (G : Gh) (w : World) : ∀ (hs : List Nat) (z : List Value) (k : Nat), k < z.length → VR G w (z.getD k default) ((zeroL hs z).getD k .any)
  | hs, v :: r, 0, _ => hintV_ok _ (ofV1_ok G w v)
  | hs, v :: r, k + 1, h => by
    simp only [zeroL, List.getD_cons_succ]
    exact zeroL_ok G w hs.tail r k (by simpa using h)
omit [Tabs] in
theorem row_zeroH (G : Gh) (w : World) (hs : List Nat) (z : Array Value) : Row G w z (zeroL hs z.toList) := by
  refine ⟨by simp [zeroL_len], fun k hk => ?_⟩
  simp only [zeroL_len, Array.length_toList] at hk
  have := zeroL_ok G w hs z.toList k (by simpa using hk)
  simpa [Array.getD_eq_getD_getElem?, List.getD_eq_getElem?_getD] using this
theorem build_ok (h : Rel w0 F0 Fp X G w a σ) {t : TypeId} {parts : Array (Nat × Operand)} {b : AV} (hb : buildA P t (parts.toList.map fun p => (p.1, ev σ p.2)) = some b) :
    ∃ x, (∀ w', (Instr.build t (parts.map fun p => (p.1, a.eval p.2))).run P w' = .ok x w') ∧ VR G w x b := by
  have hpl : (parts.map fun (p : Nat × Operand) => (p.1, a.eval p.2)).toList = parts.toList.map fun p => (p.1, a.eval p.2) := by simp
  unfold buildA at hb
  split at hb
  · rename_i si by_ z fs hh hti
    obtain ⟨i, d, hi, hd, _, _, hz, _⟩ := tiOf_some hti
    obtain ⟨fa, hu, hfs⟩ := und_st hti rfl
    split at hb
    · rename_i hall
      cases hf : fillA (fs[·]?) (zeroL hh z.toList) (parts.toList.map fun p => (p.1, ev σ p.2)) with
      | none => rw [hf] at hb; cases hb
      | some cs' =>
        rw [hf] at hb
        simp only [Option.map_some, Option.some.injEq] at hb
        subst hb
        obtain ⟨arr', h1, h2⟩ := fill_ok h parts.toList (row_zeroH G w hh z) hf
        have hmap : (fa.toList.mapM fun f => (P.info? f.type).map fun i => (f.offset, i.size)) = some fs := by
          have : ∀ (l : List Field) (ls : List (Nat × Nat)), ls = l.map (fun f => (f.offset, P.cellsOf f.type)) → ls.all (fun p => 0 < p.2) = true → (l.mapM fun f => (P.info? f.type).map fun i => (f.offset, i.size)) = some ls := by
            intro l
            induction l with
            | nil => intro ls h1 _; subst h1; rfl
            | cons f l ih =>
              intro ls h1 h2
              subst h1
              simp only [List.map_cons, List.all_cons, Bool.and_eq_true, decide_eq_true_eq] at h2
              have h3 := ih _ rfl h2.2
              cases hi : P.info? f.type with
              | none => have := h2.1; simp [Program.cellsOf, hi] at this
              | some i => simp [List.mapM_cons, hi, h3, Program.cellsOf]
          exact this _ _ hfs hall
        refine ⟨.agg arr', fun w' => ?_, .agg arr' cs' h2.1 h2.2⟩
        refine run_build w' t _ arr' ?_
        unfold Program.built
        have hz' : i.zero = some (.agg z) := hz
        simp only [hi, hu, hz', hmap, hpl, Value.cells]
        simpa using h1
    · cases hb
  · rename_i si by_ z n e hh hti
    obtain ⟨i, d, hi, hd, _, _, hz, _⟩ := tiOf_some hti
    have hu := und_arr hti rfl
    split at hb
    · rename_i ie hie
      obtain ⟨j, d2, hj, _, hj1, _⟩ := tiOf_some hie
      cases hf : fillA (fun i => some (i * ie.size, ie.size)) (z.toList.map ofV1) (parts.toList.map fun p => (p.1, ev σ p.2)) with
      | none => rw [hf] at hb; cases hb
      | some cs' =>
        rw [hf] at hb
        simp only [Option.map_some, Option.some.injEq] at hb
        subst hb
        obtain ⟨arr', h1, h2⟩ := fill_ok h parts.toList (row_zero G w z) hf
        refine ⟨.agg arr', fun w' => ?_, .agg arr' cs' h2.1 h2.2⟩
        refine run_build w' t _ arr' ?_
        unfold Program.built
        have hz' : i.zero = some (.agg z) := hz
        simp only [hi, hu, hz', hj, hpl, Value.cells, hj1]
        exact h1
    · cases hb
  · cases hb

omit [Tabs] in
theorem bytesOf_some : ∀ {xs : List AV} {l : List UInt8}, bytesOf xs = some l → ∃ ns : List Int, xs = ns.map (fun n => .v (.int .u8 n)) ∧ l = ns.map fun n => UInt8.ofNat n.toNat
  | [], l, h => by simp [bytesOf] at h; subst h; exact ⟨[], rfl, rfl⟩
  | x :: xs, l, h => by
    unfold bytesOf at h
    split at h
    · rename_i heq; cases heq
    · rename_i n r heq
      simp only [List.cons.injEq] at heq
      obtain ⟨rfl, rfl⟩ := heq
      cases hr : bytesOf xs with
      | none => rw [hr] at h; cases h
      | some l' =>
        rw [hr] at h
        simp only [Option.map_some, Option.some.injEq] at h
        subst h
        obtain ⟨ns, h1, h2⟩ := bytesOf_some hr
        exact ⟨n :: ns, by simp [h1], by simp [h2]⟩
    · cases h

omit [Tabs] in
theorem i32sOf_some : ∀ {xs : List AV} {l : List Int}, i32sOf xs = some l → ∃ ns : List Int, xs = ns.map (fun n => .v (.int .i32 n)) ∧ ns = l
  | [], l, h => by simp [i32sOf] at h; subst h; exact ⟨[], rfl, rfl⟩
  | x :: xs, l, h => by
    unfold i32sOf at h
    split at h
    · rename_i heq; cases heq
    · rename_i n r heq
      simp only [List.cons.injEq] at heq
      obtain ⟨rfl, rfl⟩ := heq
      cases hr : i32sOf xs with
      | none => rw [hr] at h; cases h
      | some l' =>
        rw [hr] at h
        simp only [Option.map_some, Option.some.injEq] at h
        subst h
        obtain ⟨ns, h1, h2⟩ := i32sOf_some hr
        exact ⟨n :: ns, by simp [h1], by simp [h2]⟩
    · cases h

theorem text_ok (h : Rel w0 F0 Fp X G w a σ) {s d : TypeId} {x : Operand} {b : AV} (hb : textA P s d (ev σ x) = some b) :
    ∃ y, (∀ w', Ext w w' → (convert s d (a.eval x)).run P w' = .ok y w') ∧ VR G w y b := by
  unfold textA at hb
  split at hb
  · rename_i l sz xs e es si by_ z hh hx hs hd
    obtain ⟨hu, ie, hie, _⟩ := slcOf_some hs
    have hdst := und_str hd rfl
    split at hb
    · rename_i si2 by2 z2 hh2 hie2
      have he := und_int hie2 rfl
      cases hbs : bytesOf xs with
      | none => rw [hbs] at hb; cases hb
      | some l' =>
        rw [hbs] at hb
        simp only [Option.map_some, Option.some.injEq] at hb
        subst hb
        obtain ⟨ns, rfl, rfl⟩ := bytesOf_some hbs
        have hv := ev_ok h x
        rw [hx] at hv
        generalize a.eval x = y at hv
        by_cases hne : ns = []
        · subst hne
          obtain ⟨A, cap, rfl⟩ := sl_empty hv
          refine ⟨.string ⟨#[]⟩, fun w' _ => ?_, .v _⟩
          rw [run_convert_bytes_string w' s d e A 0 cap hu he hdst]
          cases A with
          | none => simp [Conv.bytesToString]; rfl
          | some ad => simp [Conv.bytesToString, loadCells, loadCellsFrom]; rfl
        · have hne' : ns.map (fun n => AV.v (.int .u8 n)) ≠ [] := by simpa using hne
          generalize hxs : ns.map (fun n => AV.v (.int .u8 n)) = xs at hv hne'
          cases hv with
          | nil => exact absurd rfl hne'
          | sl A cap _ _ _ g off us hl h1 hc hlive hA hsz h0 hcell hh =>
            obtain ⟨rfl, _⟩ := hA hne'
            subst hxs
            have hsz1 : sz = 1 := by
              cases ns with
              | nil => exact absurd rfl hne
              | cons n ns => have := (hsz (.v (.int .u8 n)) (by simp)).1; simpa [AV.cells] using this.symm
            subst hsz1
            refine ⟨.string (strOfNums ns), fun w' hx' => ?_, .v _⟩
            rw [List.length_map]
            refine run_convert_bytes_arg w' s e hu he g off ns.length cap ns rfl (fun i hi => ?_) d hdst
            have hk : i < (ns.map (fun n => AV.v (.int .u8 n))).length * 1 := by simpa using hi
            have h3 := hh i hk
            rw [hx' _ _ (hcell i hk).1]
            have e1 : (flat (ns.map (fun n => AV.v (.int .u8 n)))).getD i .any = .v (.int .u8 (ns.getD i 0)) := by
              have := flat_getD (sz := 1) (xs := ns.map (fun n => AV.v (.int .u8 n))) (i := i) (j := 0) (fun x hx => (hsz x hx).1) (by omega)
              rw [Nat.mul_one, Nat.add_zero] at this
              rw [this, List.getElem?_map, List.getElem?_eq_getElem hi]
              simp [AV.cells, List.getD_eq_getElem?_getD, hi]
            rw [e1] at h3
            rw [h3.v_inv]
    · rename_i si2 by2 z2 hh2 hie2
      have he := und_int hie2 rfl
      cases hbs : i32sOf xs with
      | none => rw [hbs] at hb; cases hb
      | some l' =>
        rw [hbs] at hb
        simp only [Option.map_some, Option.some.injEq] at hb
        subst hb
        obtain ⟨ns, rfl, rfl⟩ := i32sOf_some hbs
        have hv := ev_ok h x
        rw [hx] at hv
        generalize a.eval x = y at hv
        by_cases hne : ns = []
        · subst hne
          obtain ⟨A, cap, rfl⟩ := sl_empty hv
          refine ⟨.string .empty, fun w' _ => ?_, .v _⟩
          rw [run_convert_runes_string w' s d e A 0 cap hu he hdst]
          cases A with
          | none => simp [Conv.runesToString]
          | some ad => simp [Conv.runesToString, loadCells, loadCellsFrom]
        · have hne' : ns.map (fun n => AV.v (.int .i32 n)) ≠ [] := by simpa using hne
          generalize hxs : ns.map (fun n => AV.v (.int .i32 n)) = xs at hv hne'
          cases hv with
          | nil => exact absurd rfl hne'
          | sl A cap _ _ _ g off us hl h1 hc hlive hA hsz h0 hcell hh =>
            obtain ⟨rfl, _⟩ := hA hne'
            subst hxs
            have hsz1 : sz = 1 := by
              cases ns with
              | nil => exact absurd rfl hne
              | cons n ns => have := (hsz (.v (.int .i32 n)) (by simp)).1; simpa [AV.cells] using this.symm
            subst hsz1
            refine ⟨.string (runesBytes ns), fun w' hx' => ?_, .v _⟩
            rw [List.length_map]
            have key := run_convert_runes (P := P) w' s d e ⟨g, off, none⟩ ns.length cap ns (Nat.le_refl _) hu he hdst
            rw [List.take_length] at key
            refine key fun i hi => ?_
            rw [addr_add]
            have hk : i < (ns.map (fun n => AV.v (.int .i32 n))).length * 1 := by simpa using hi
            have h3 := hh i hk
            rw [hx' _ _ (hcell i hk).1]
            have e1 : (flat (ns.map (fun n => AV.v (.int .i32 n)))).getD i .any = .v (.int .i32 (ns.getD i 0)) := by
              have := flat_getD (sz := 1) (xs := ns.map (fun n => AV.v (.int .i32 n))) (i := i) (j := 0) (fun x hx => (hsz x hx).1) (by omega)
              rw [Nat.mul_one, Nat.add_zero] at this
              rw [this, List.getElem?_map, List.getElem?_eq_getElem hi]
              simp [AV.cells, List.getD_eq_getElem?_getD, hi]
            rw [e1] at h3
            rw [h3.v_inv]
    · cases hb
  · cases hb

theorem popAll_ok (h : Rel w0 F0 Fp X G w a σ) {o : Oper} {b : AV} (hp : popAll P σ o = some b) : ∃ x, (∀ w', Ext w w' → (execOp a.eval o).run P w' = .ok (.value x) w') ∧ VR G w x b := by
  unfold popAll at hp
  cases h1 : pop P σ o with
  | some c => rw [h1] at hp; simp only [Option.some_or, Option.some.injEq] at hp; subst hp; exact pop_ok h h1
  | none =>
    rw [h1] at hp
    simp only [Option.none_or] at hp
    unfold pop2 at hp
    split at hp
    · rename_i t parts ho
      obtain ⟨x, hx, hr⟩ := build_ok h hp
      exact ⟨x, fun w' _ => by simp only [execOp, ho, Sem.run_bind, hx w', Result.andThen_ok, Sem.run_pure], hr⟩
    · rename_i s d x ho
      obtain ⟨y, hy, hr⟩ := text_ok h hp
      exact ⟨y, fun w' hw => by simp only [execOp, ho, Sem.run_bind, hy w' hw, Result.andThen_ok, Sem.run_pure], hr⟩
    · rename_i op t x y yt ho
      have hz : ∃ z, (∀ w', (do eqGuard op t x y (a.eval x) (a.eval y); binOp op t (a.eval x) (a.eval y) : Sem Value).run P w' = .ok z w') ∧ VR G w z b := by
        cases h2 : aggBin P op t x y (ev σ x) (ev σ y) with
        | some c =>
          rw [h2] at hp; simp only [Option.some_or, Option.some.injEq] at hp; subst hp
          exact aggBin_ok h h2
        | none =>
          rw [h2] at hp; simp only [Option.none_or] at hp
          exact ptrBin_ok h hp
      obtain ⟨z, hz, hr⟩ := hz
      refine ⟨z, fun w' hext => ?_, hr⟩
      have hz' := hz w'
      simp only [Sem.run_bind] at hz'
      simp only [execOp, ho, Sem.run_bind, hz', Result.andThen_ok, Sem.run_pure]
    · rename_i t x i ho
      obtain ⟨y, hy, hr⟩ := field_ok h hp
      exact ⟨y, fun w' hw => by simp only [execOp, ho, Sem.run_bind, hy w' hw, Result.andThen_ok, Sem.run_pure], hr⟩
    · rename_i f first caps ho
      split at hp
      · rename_i hf
        subst hf
        simp only [Option.some.injEq] at hp; subst hp
        refine ⟨.func (.func f) #[] (caps.map a.eval), fun w' _ => by simp [execOp, ho, Instr.makeFunc, Sem.run_bind, Result.andThen_ok, Sem.run_pure], ?_⟩
        refine .fn f _ _ (by simp) fun k hk => ?_
        simp only [List.length_map, Array.length_toList] at hk
        have := ev_ok h caps[k]
        simpa [Array.getD_eq_getD_getElem?, List.getD_eq_getElem?_getD, hk] using this
      · cases hp
    · cases hp

theorem Env_get {Γ : Env} (hΓ : GoodEnv P Γ) {f : FuncId} {C : Con} (h : Γ.get f = some C) : Good P f C := hΓ f C h

/-- What comes of a call's operands. -/
theorem call_args (h : Rel w0 F0 Fp X G w a σ) {args : List Operand} {ts : List TypeId} {caps : List AV} {arr : Array Value} (hl : args.length = ts.length) (hs : arr.size = caps.length) (hc : ∀ k, k < caps.length → VR G w (arr.getD k default) (caps.getD k .any)) :
    ((args.map a.eval).toArray ++ arr).size = (List.zipWith (fun x t => evT P t σ x) args ts ++ caps).length ∧
    ∀ k, VR G w (((args.map a.eval).toArray ++ arr).getD k undef) ((List.zipWith (fun x t => evT P t σ x) args ts ++ caps).getD k .any) := by
  have hz : (List.zipWith (fun x t => evT P t σ x) args ts).length = args.length := by simp; omega
  refine ⟨by simp [hs]; omega, fun k => ?_⟩
  simp only [Array.getD_eq_getD_getElem?, List.getD_eq_getElem?_getD]
  by_cases hk : k < args.length
  · rw [Array.getElem?_append_left (by simpa using hk), List.getElem?_append_left (by omega)]
    simp only [List.getElem?_toArray, List.getElem?_map, List.getElem?_zipWith]
    rw [List.getElem?_eq_getElem hk, List.getElem?_eq_getElem (show k < ts.length by omega)]
    simpa using evT_ok (P := P) (t := ts[k]'(by omega)) h args[k]
  · rw [Array.getElem?_append_right (by simp; omega), List.getElem?_append_right (by omega), hz]
    simp only [List.size_toArray, List.length_map]
    by_cases hk2 : k - args.length < caps.length
    · have := hc _ hk2
      simpa [Array.getD_eq_getD_getElem?, List.getD_eq_getElem?_getD, Array.getElem?_eq_getElem (show k - args.length < arr.size by omega)] using this
    · rw [List.getElem?_eq_none (by omega)]
      exact .any _

omit [Tabs] in
/-- What runs at a call of a function's value. -/
theorem call_run {f : Operand} {args : Array Operand} {argTypes : Array TypeId} {o : Oper} (ho : o.op = .call { callee := .value f, args, argTypes }) {g : FuncId} {arr : Array Value} (hf : a.eval f = .func (.func g) #[] arr) (hfn : FnOk P g) (w : World) :
    (execOp a.eval o).run P w = .ok (.enter g (args.map a.eval ++ arr)) w := by
  obtain ⟨fn, h1, h2, h3⟩ := hfn
  simp only [execOp, ho, resolve, Deferred.ofValue, hf, Sem.run_bind, Sem.run_pure, Result.andThen_ok, invoke, callFunc]
  have h4 : ¬ fn.name = "runtime.NumGoroutine" := by simpa using h2
  have h5 : ¬ fn.body = none := by intro e; rw [e] at h3; cases h3
  simp [program, Sem.run, h1, h4, h5, Array.append_assoc]

def resSem (tmps : Array Value) : ResultVar → Sem Value
  | .tmp t => pure (tmps.getD t undef)
  | .cell a t => do loadVar t (← asAddr (tmps.getD a undef))

theorem resA_ok (h : Rel w0 F0 Fp X G w a σ) {r : ResultVar} {b : AV} (hr : resA P σ r = some b) : ∃ x, (resSem a.tmps r).run P w = .ok x w ∧ VR G w x b := by
  cases r with
  | tmp t => simp only [resA, Option.some.injEq] at hr; subst hr; exact ⟨_, rfl, h.tm t⟩
  | cell ad t =>
    simp only [resA] at hr
    split at hr
    · rename_i o k hp
      split at hr
      · rename_i cs hh
        have hx := h.tm ad
        rw [hp] at hx
        obtain ⟨e1, e2⟩ := VR.ptr_cells h hx hh
        obtain ⟨x, h1, h2⟩ := load_ok hr e2
        refine ⟨x, ?_, h2⟩
        have h3 := h1 w (Ext.refl w)
        simp only [resSem]
        rw [e1]
        exact h3
      · cases hr
    · cases hr

theorem resL_ok (h : Rel w0 F0 Fp X G w a σ) : ∀ {rs : List ResultVar} {bs : List AV}, resL P σ rs = some bs →
    ∃ xs : List Value, (rs.mapM (resSem a.tmps)).run P w = .ok xs w ∧ xs.length = bs.length ∧ ∀ k, k < bs.length → VR G w (xs.getD k default) (bs.getD k .any)
  | [], bs, hb => by
    simp only [resL, Option.some.injEq] at hb; subst hb
    exact ⟨[], rfl, rfl, fun k hk => by simp at hk⟩
  | r :: rs, bs, hb => by
    simp only [resL] at hb
    split at hb
    · rename_i b bs' h1 h2
      simp only [Option.some.injEq] at hb; subst hb
      obtain ⟨x, hx1, hx2⟩ := resA_ok h h1
      obtain ⟨xs, hx3, hx4, hx5⟩ := resL_ok h h2
      refine ⟨x :: xs, ?_, by simp [hx4], fun k hk => ?_⟩
      · rw [List.mapM_cons]
        simp only [Sem.run_bind, hx1, Result.andThen_ok, hx3]
        rfl
      · cases k with
        | zero => simpa using hx2
        | succ k => simpa using hx5 k (by simpa using hk)
    · cases hb

theorem results_ok (h : Rel w0 F0 Fp X G w a σ) {fn : Func} {bs : List AV} (hr : resL P σ fn.results.toList = some bs) : ∃ x, (results fn a.tmps).run P w = .ok x w ∧ VR G w x (oneOf bs) := by
  obtain ⟨xs, h1, h2, h3⟩ := resL_ok h hr
  have e1 : (results fn a.tmps).run P w = .ok (if hh : xs.toArray.size = 1 then xs.toArray[0] else .tuple xs.toArray) w := by
    show (do let vs ← fn.results.mapM (resSem a.tmps); pure (if h : vs.size = 1 then vs[0] else .tuple vs) : Sem Value).run P w = _
    rw [Array.mapM_eq_mapM_toList]
    simp only [Sem.run_bind, Sem.run_map, h1, Result.andThen_ok]
    rfl
  refine ⟨_, e1, ?_⟩
  match xs, bs, h2, h3 with
  | [], [], _, h3 => exact .tup #[] [] rfl fun k hk => by simp at hk
  | [x], [b], _, h3 => simpa [oneOf] using h3 0 (by simp)
  | x :: y :: r, b :: c :: s, h2, h3 =>
    simp only [oneOf, List.size_toArray, List.length_cons]
    rw [dif_neg (by omega)]
    refine .tup _ _ (by simpa using h2) fun k hk => ?_
    have := h3 k hk
    simpa [Array.getD_eq_getD_getElem?, List.getD_eq_getElem?_getD] using this

/-- A call whose body is reckoned in place. -/
theorem inl_call (h : Rel w0 F0 Fp X G w a σ) {as : List AV} {vs : Array Value} (hlen : vs.size = as.length) (hv : ∀ k, VR G w (vs.getD k undef) (as.getD k .any)) {f : FuncId} {d : Option Nat} {K : AS → Prop} (hc : InlC P σ f as d K) :
    FnOk P f ∧ Calls P f vs w fun ed w' => ∃ v σ1 r G', ed = .returned v ∧ Rel w0 F0 Fp X G' w' a σ1 ∧ VR G' w' v r ∧ cont σ1 d r K := by
  obtain ⟨fn, c, hf, hn, hb, hw⟩ := hc
  refine ⟨⟨fn, hf, hn, by rw [hb]; rfl⟩, ?_⟩
  let X' : Nat → Nat → Value := fun j i => match j with | 0 => a.tmps.getD i undef | j + 1 => X j i
  have hr : Rel w0 F0 Fp X' G w { tmps := vs ++ Array.replicate (fn.ntmps - vs.size) undef, defers := [] } (σ.enter fn.ntmps as) := by
    refine ⟨by simp [AS.enter, hlen], rfl, fun i => ?_, fun j i => ?_, h.mm, h.tb⟩
    · simp only [AS.enter]
      by_cases hi : i < as.length
      · have h1 := hv i
        have e1 : (vs ++ Array.replicate (fn.ntmps - vs.size) undef).getD i undef = vs.getD i undef := by
          simp only [Array.getD_eq_getD_getElem?]
          rw [Array.getElem?_append_left (by omega)]
        have e2 : as.getD i (.v undef) = as.getD i .any := by
          simp only [List.getD_eq_getElem?_getD, List.getElem?_eq_getElem hi, Option.getD_some]
        rw [e1, e2]; exact h1
      · have e1 : (vs ++ Array.replicate (fn.ntmps - vs.size) undef).getD i undef = undef := by
          simp only [Array.getD_eq_getD_getElem?]
          rw [Array.getElem?_append_right (by omega), Array.getElem?_replicate]
          split <;> rfl
        have e2 : as.getD i (.v undef) = .v undef := by
          rw [List.getD_eq_getElem?_getD, List.getElem?_eq_none (by omega)]; rfl
        rw [e1, e2]; exact .v _
    · cases j with
      | zero => exact h.tm i
      | succ j => exact h.hd j i
  refine calls_of_wp hf hb (wp_mono (hw w0 F0 Fp X' G w _ hr) ?_)
  rintro e a' w' ⟨G', σ', hr', hq⟩
  have fin : (match resL P σ' fn.results.toList with | some bs => cont (σ'.leave σ.n) d (oneOf bs) K | none => False) →
      a'.defers = [] ∧ ∃ v, (results fn a'.tmps).run P w' = .ok v w' ∧ ∃ v' σ1 r G', Ending.returned v = .returned v' ∧ Rel w0 F0 Fp X G' w' a σ1 ∧ VR G' w' v' r ∧ cont σ1 d r K := by
    intro hq
    refine ⟨hr'.df, ?_⟩
    split at hq
    · rename_i bs hbs
      obtain ⟨x, h2, h3⟩ := results_ok hr' hbs
      exact ⟨x, h2, x, σ'.leave σ.n, _, G', rfl, ⟨h.sz, h.df, fun i => hr'.hd 0 i, fun j i => hr'.hd (j + 1) i, hr'.mm, h.tb⟩, h3, hq⟩
    · exact hq.elim
  cases e with
  | normal => exact fin hq
  | ret => exact fin hq
  | _ => exact hq.elim

omit [Tabs] in
theorem runesFrom_i32 (s : ByteArray) : ∀ (bound i : Nat) (acc : Array Value), (∀ x ∈ acc.toList, ∃ n, x = .int .i32 n) → ∀ x ∈ (Conv.runesFrom s bound i acc).toList, ∃ n, x = .int .i32 n
  | 0, _, acc, h => by simpa [Conv.runesFrom] using h
  | bound + 1, i, acc, h => by
    unfold Conv.runesFrom
    split
    · refine runesFrom_i32 s bound _ _ fun x hx => ?_
      rw [Array.toList_push] at hx
      rcases List.mem_append.1 hx with hx | hx
      · exact h x hx
      · rw [List.mem_singleton] at hx; exact ⟨_, hx⟩
    · exact h
omit [Tabs] in
theorem flat_vs : ∀ l : List Value, flat (l.map AV.v) = l.map AV.v
  | [] => rfl
  | x :: l => by
    have := flat_vs l
    simp only [flat, List.map_cons, List.flatMap_cons] at this ⊢
    rw [this]; rfl
omit [Tabs] in
theorem tells_runes (s : ByteArray) : Tells G w 1 (Conv.runesFrom s s.size 0 #[]) (runesL s) := by
  refine ⟨by simp [runesL], fun x hx => ?_, fun k hk => ?_⟩
  · simp only [runesL, List.mem_map] at hx
    obtain ⟨y, _, rfl⟩ := hx
    exact ⟨rfl, rfl⟩
  · rw [show flat (runesL s) = runesL s from flat_vs _]
    have hk' : k < (Conv.runesFrom s s.size 0 #[]).size := by simpa [runesL] using hk
    have e1 : (Conv.runesFrom s s.size 0 #[]).getD k default = (Conv.runesFrom s s.size 0 #[])[k] := by
      rw [Array.getD_eq_getD_getElem?, Array.getElem?_eq_getElem hk']; rfl
    have e2 : (runesL s).getD k .any = .v (Conv.runesFrom s s.size 0 #[])[k] := by
      simp [runesL, List.getD_eq_getElem?_getD, hk']
    rw [e1, e2]
    refine ⟨.v _, ?_⟩
    obtain ⟨n, hn⟩ := runesFrom_i32 s s.size 0 #[] (by simp) ((Conv.runesFrom s s.size 0 #[])[k]) (by rw [Array.mem_toList_iff]; exact Array.getElem_mem hk')
    rw [hn]; rfl
/-- A text taken apart into a row of code points. -/
theorem runes_ok (h : Rel w0 F0 Fp X G w a σ) {s d e : Nat} {ti ts : TI} {b : ByteArray} (hd : slcOf P d = some (e, 1)) (hti : tiOf P e = some ti) (hk : ti.kind = .int .i32) (hts : tiOf P s = some ts) (hks : ts.kind = .str) (hb : b.size ≤ 70368744177664) :
    ∃ w' G' x, (convert s d (.string b)).run P w = .ok x w' ∧ Rel w0 F0 Fp X G' w' a { σ with m := σ.m.newLin (runesL b).length e } ∧ VR G' w' x (.sl σ.m.nl 1 (runesL b)) := by
  obtain ⟨hu, _, _, _⟩ := slcOf_some hd
  have hlen : (runesL b).length = (Conv.runesFrom b b.size 0 #[]).size := by simp [runesL]
  have hsz := size_runesFrom b b.size 0 #[]
  simp only [List.size_toArray, List.length_nil, Nat.zero_add] at hsz
  have hrun := run_runes_of_string (P := P) w s d e b (und_str hts hks) hu (und_int hti hk) (by omega)
  have hc1 := grownCap_ge w (Conv.runesFrom b b.size 0 #[]).size 0 e
  have hc2 := grownCap_le_maxLen w (Conv.runesFrom b b.size 0 #[]).size 0 e (by have : maxLen = 9223372036854775807 := rfl; omega)
  generalize grownCap w (Conv.runesFrom b b.size 0 #[]).size 0 e = cap at *
  have hbel : Below w.heap.size w (w.drew.alloc (.cells (Conv.runesFrom b b.size 0 #[] ++ Array.replicate (cap - (Conv.runesFrom b b.size 0 #[]).size) (.int .i32 0)) e)) := (Below.drew (Below.refl _ _)).alloc (by simp) _
  have hrow := heap_alloc_new w.drew (.cells (Conv.runesFrom b b.size 0 #[] ++ Array.replicate (cap - (Conv.runesFrom b b.size 0 #[]).size) (.int .i32 0)) e)
  have hsz2 : (Conv.runesFrom b b.size 0 #[] ++ Array.replicate (cap - (Conv.runesFrom b b.size 0 #[]).size) (Value.int .i32 0)).size = cap * 1 := by
    rw [Array.size_append, Array.size_replicate]; omega
  rw [← h.mm.nl, hlen]
  exact ⟨_, _, _, hrun, h.newRow (g := w.heap.size) hbel (Nat.le_refl _) (by simp) (by omega) ⟨_, hrow, hsz2⟩ (by omega) hc2, row_VR h.mm (tells_runes b) hlen (by omega) (by omega) hbel (Nat.le_refl _) hrow⟩

omit [Tabs] in
theorem tells_bytes (s : ByteArray) : Tells G w 1 (s.data.map fun b => Value.int .u8 b.toNat) (bytesL s) := by
  have e0 : bytesL s = (s.data.toList.map fun b => Value.int .u8 b.toNat).map AV.v := by simp [bytesL]
  refine ⟨by simp [bytesL], fun x hx => ?_, fun k hk => ?_⟩
  · simp only [bytesL, List.mem_map] at hx
    obtain ⟨y, _, rfl⟩ := hx
    exact ⟨rfl, rfl⟩
  · rw [show flat (bytesL s) = bytesL s by rw [e0]; exact flat_vs _]
    have hk' : k < s.data.size := by simpa [bytesL] using hk
    have e1 : (s.data.map fun b => Value.int .u8 b.toNat).getD k default = .int .u8 (s.data[k]).toNat := by
      rw [Array.getD_eq_getD_getElem?, Array.getElem?_map, Array.getElem?_eq_getElem hk']; rfl
    have e2 : (bytesL s).getD k .any = .v (.int .u8 (s.data[k]).toNat) := by
      rw [List.getD_eq_getElem?_getD]
      simp only [bytesL, List.getElem?_map, Array.getElem?_toList]
      rw [Array.getElem?_eq_getElem hk']; rfl
    rw [e1, e2]
    exact ⟨.v _, rfl⟩
/-- A text taken apart into a row of bytes. -/
theorem bytes_ok (h : Rel w0 F0 Fp X G w a σ) {s d e : Nat} {ti ts : TI} {b : ByteArray} (hd : slcOf P d = some (e, 1)) (hti : tiOf P e = some ti) (hk : ti.kind = .int .u8) (hts : tiOf P s = some ts) (hks : ts.kind = .str) (hb : b.size ≤ 70368744177664) :
    ∃ w' G' x, (convert s d (.string b)).run P w = .ok x w' ∧ Rel w0 F0 Fp X G' w' a σ ∧ VR G' w' x (.sl 0 1 (bytesL b)) := by
  obtain ⟨hu, _, _, _⟩ := slcOf_some hd
  have hlen : (bytesL b).length = b.size := by
    unfold bytesL
    rw [List.length_map]; rfl
  have hrun := run_bytes_of_string (P := P) w s d e b (und_str hts hks) hu (und_int hti hk)
  have hc1 := grownCap_ge w b.size 0 e
  generalize grownCap w b.size 0 e = cap at *
  generalize hfz : ((bytesRow b cap).size, (bytesRow b cap).size + 1) = fz at hrun
  have hbel : Below w.heap.size w (w.drew.alloc (.cells (bytesRow b cap) e fz)) := (Below.drew (Below.refl _ _)).alloc (by simp) _
  have hrow : (w.drew.alloc (.cells (bytesRow b cap) e fz)).heap[w.heap.size]? = some (.cells (bytesRow b cap) e fz) := heap_alloc_new w.drew _
  have hfr : G.fr w.heap.size = 0 := by
    rcases Nat.eq_zero_or_pos (G.fr w.heap.size) with h1 | h1
    · exact h1
    · have := h.mm.frl _ h1; omega
  have hlin : G.lin w.heap.size = 0 := h.mm.linl _ (Nat.le_refl _)
  have hr2 := (h.below hbel).newDead (n := b.size) hfr (Array.getElem?_eq_some_iff.1 hrow).1 h.mm.size hlin
  have ht := tells_bytes (G := G.newDead w.heap.size b.size) (w := w.drew.alloc (.cells (bytesRow b cap) e fz)) b
  refine ⟨_, _, _, hrun, hr2, ?_⟩
  have htwo := h.mm.two
  have goal : VR (G.newDead w.heap.size b.size) (w.drew.alloc (.cells (bytesRow b cap) e fz)) (.slice (some ⟨w.heap.size, 0, none⟩) (bytesL b).length cap) (.sl 0 1 (bytesL b)) := ?_
  · rw [hlen] at goal; exact goal
  refine .sl _ cap 0 1 (bytesL b) w.heap.size 0 (fun k => (b.data.map fun (x : UInt8) => Value.int .u8 x.toNat).getD k default) (by simp only [Gh.newDead]; omega) (by omega) (by omega) ?_ ?_ ht.each (fun _ => by omega) ?_ (fun k hk => (ht.cell k hk).1)
  · intro n' e' hn'
    have h3 : G.lv 0 = none := h.mm.lv_two (by omega)
    simp only [Gh.newDead] at hn'
    rw [h3] at hn'; cases hn'
  · intro _
    refine ⟨rfl, .inr hlin, ?_⟩
    simp only [Gh.newDead, upd_same, hlen]; omega
  · intro k hk
    have hk' : k < b.data.size := by rw [hlen, Nat.mul_one] at hk; exact hk
    refine ⟨?_, (ht.cell k hk).2⟩
    simp only [World.cell?, hrow, Nat.zero_add, Option.isSome_none, Bool.false_eq_true, if_false]
    have hk2 : k < (b.data.map fun (x : UInt8) => Value.int .u8 x.toNat).size := by rw [Array.size_map]; exact hk'
    rw [bytesRow, Array.getElem?_append_left hk2, Array.getD_eq_getD_getElem?, Array.getElem?_eq_getElem hk2]
    rfl

theorem mp_of_ptr {x : Value} {g o : Nat} (h : VR G w x (.ptr o 0)) (hx : x = .pointer (some ⟨g, 0, none⟩)) : VR G w (.map (some g)) (.mp o) := by
  cases h with
  | ptr _ _ ho =>
    obtain rfl : G.ob o = g := by simpa using hx
    exact .mp _ ho
theorem keyT_und {t : TypeId} {d : TypeDesc} (h : keyT P t = some d) : ∃ k e, P.underlying t = some (.map k e) ∧ P.underlying k = some d ∧ ((∃ j, d = .int j) ∨ d = .string) := by
  unfold keyT at h
  split at h
  · rename_i k e hu
    refine ⟨k, e, hu, ?_⟩
    split at h
    · rename_i j hk; cases h; exact ⟨hk, .inl ⟨j, rfl⟩⟩
    · rename_i hk; cases h; exact ⟨hk, .inr rfl⟩
    · cases h
  · cases h
theorem checkKey_run {k : TypeId} {d : TypeDesc} (h : P.underlying k = some d) (hd : (∃ j, d = .int j) ∨ d = .string) (b : Bool) (v : Value) (w : World) : (Instr.checkKey b 10000 k v).run P w = .ok () w := by
  unfold Instr.checkKey
  rw [Sem.run_bind, run_underlying h]
  simp only [Result.andThen_ok]
  rcases hd with ⟨j, rfl⟩ | rfl <;> rfl
theorem findKey_run {k : TypeId} {d : TypeDesc} (h : P.underlying k = some d) {v : Value} {es : List MapEntry} {r : Option (Nat × Value)} (hf : Instr.findNow d v es 0 = some r) (w : World) : (Instr.findKey k v es).run P w = .ok r w := by
  unfold Instr.findKey
  rw [Sem.run_bind, run_underlying h]
  simp only [Result.andThen_ok, hf]
  rfl
theorem upd_run {t : TypeId} {d : TypeDesc} {k v : Value} {es : Array MapEntry} {cl g : Nat} {x : AO} (hk : keyT P t = some d) (hu : updO d k v (some (.map es cl)) = some x) (hg : w.heap[g]? = some (.map es cl)) :
    ∃ es' cl', x = .map es' cl' ∧ (Instr.mapUpdate t (.map (some g)) k v).run P w = .ok () { w with heap := w.heap.setIfInBounds g (.map es' cl') } := by
  obtain ⟨kt, et, h1, h2, h3⟩ := keyT_und hk
  have hgo : (getObj g).run P w = .ok (.map es cl) w := by simp [getObj, Sem.run, hg]
  have hso : ∀ o, (setObj g o).run P w = .ok () { w with heap := w.heap.setIfInBounds g o } := fun o => by simp [setObj, Sem.run, hg]
  simp only [updO] at hu
  split at hu
  · rename_i i v' hf
    split at hu
    · rename_i hs
      obtain rfl := Option.some.inj hu
      refine ⟨_, _, rfl, ?_⟩
      have hks : (Instr.keyThatStays (((es[i]?).map (·.key)).getD k) k).run P w = .ok k w := by simp only [Instr.keyThatStays, hs, if_true, Sem.run_pure]
      simp only [Instr.mapUpdate, Sem.run_bind, run_underlying h1, Result.andThen_ok, Sem.run_pure, hgo, checkKey_run h2 h3, findKey_run h2 hf, hks, hso]
    · cases hu
  · rename_i hf
    obtain rfl := Option.some.inj hu
    refine ⟨_, _, rfl, ?_⟩
    simp only [Instr.mapUpdate, Sem.run_bind, run_underlying h1, Result.andThen_ok, Sem.run_pure, hgo, checkKey_run h2 h3, findKey_run h2 hf, hso]
  · cases hu
theorem del_run {t : TypeId} {d : TypeDesc} {ts : List TypeId} {ty : TypeId} {k : Value} {es : Array MapEntry} {cl g : Nat} {x : AO} (hk : keyT P t = some d) (hu : delO d k (some (.map es cl)) = some x) (hg : w.heap[g]? = some (.map es cl)) :
    ∃ es' cl', x = .map es' cl' ∧ (Builtin.delete_ (t :: ts).toArray ty #[.map (some g), k]).run P w = .ok (.tuple #[]) { w with heap := w.heap.setIfInBounds g (.map es' cl') } := by
  obtain ⟨kt, et, h1, h2, h3⟩ := keyT_und hk
  have hgo : (getObj g).run P w = .ok (.map es cl) w := by simp [getObj, Sem.run, hg]
  have hso : ∀ o, (setObj g o).run P w = .ok () { w with heap := w.heap.setIfInBounds g o } := fun o => by simp [setObj, Sem.run, hg]
  have h0 : (t :: ts).toArray[0]? = some t := by simp
  simp only [delO] at hu
  split at hu
  · rename_i i v' hf
    obtain rfl := Option.some.inj hu
    refine ⟨_, _, rfl, ?_⟩
    simp only [Builtin.delete_, h0, List.getElem?_toArray, List.getElem?_cons_zero, List.getElem?_cons_succ, Sem.run_bind, run_underlying h1, Result.andThen_ok, Sem.run_pure, hgo, checkKey_run h2 h3, findKey_run h2 hf, hso]
  · rename_i hf
    obtain rfl := Option.some.inj hu
    refine ⟨_, _, rfl, ?_⟩
    simp only [Builtin.delete_, h0, List.getElem?_toArray, List.getElem?_cons_zero, List.getElem?_cons_succ, Sem.run_bind, run_underlying h1, Result.andThen_ok, Sem.run_pure, hgo, checkKey_run h2 h3, findKey_run h2 hf, hso]
  · cases hu
theorem look_run {t : TypeId} {d : TypeDesc} {k : Value} {es : Array MapEntry} {c : Bool} {r : AV} {x : Value} (hk : keyT P t = some d) (hl : lookIn P t d k es.toList c = some r)
    (hx : (x = .map none ∧ es = #[]) ∨ ∃ g cl, x = .map (some g) ∧ w.heap[g]? = some (.map es cl)) : ∃ v, (Instr.lookup t x k c).run P w = .ok v w ∧ VR G w v r := by
  obtain ⟨kt, et, h1, h2, h3⟩ := keyT_und hk
  have he : elemT P t = some et := by unfold elemT; rw [h1]
  have pack : ∀ (v : Value) (b : AV) (q : Bool), VR G w v b → VR G w (if c then .tuple #[v, .bool q] else v) (packA c b q) := fun v b q hv => by
    unfold packA
    cases c
    · exact hv
    · refine .tup _ _ rfl fun n hn => ?_
      match n, hn with
      | 0, _ => exact hv
      | 1, _ => exact .v _
  have go : ∀ (f : Option (Nat × Value)), Instr.findNow d k es.toList 0 = some f → (Instr.lookup t x k c).run P w = ((match f with
      | some (_, v) => pure (v, true)
      | none => do pure (← zeroValue et, false)) >>= fun (p : Value × Bool) => (pure (if c then .tuple #[p.1, .bool p.2] else p.1) : Sem Value)).run P w := fun f hf => by
    rcases hx with ⟨rfl, rfl⟩ | ⟨g, cl, rfl, hg⟩
    · simp only [Instr.lookup, Sem.run_bind, run_underlying h1, Result.andThen_ok, Sem.run_pure, checkKey_run h2 h3, findKey_run h2 hf]
      rcases f with _ | ⟨n, v⟩
      · cases hz : (zeroValue et).run P w <;> simp [Sem.run_bind, hz, Result.andThen, Sem.run_pure]
      · simp only [Sem.run_bind, Sem.run_pure, Result.andThen_ok]
    · have hgo : (getObj g).run P w = .ok (.map es cl) w := by simp [getObj, Sem.run, hg]
      simp only [Instr.lookup, Sem.run_bind, run_underlying h1, Result.andThen_ok, Sem.run_pure, hgo, checkKey_run h2 h3, findKey_run h2 hf]
      rcases f with _ | ⟨n, v⟩
      · cases hz : (zeroValue et).run P w <;> simp [Sem.run_bind, hz, Result.andThen, Sem.run_pure]
      · simp only [Sem.run_bind, Sem.run_pure, Result.andThen_ok]
  unfold lookIn at hl
  split at hl
  · rename_i n v hf
    obtain rfl := Option.some.inj hl
    refine ⟨_, ?_, pack v _ true (flatV_ok _ _ _)⟩
    rw [go _ hf]; rfl
  · rename_i hf
    rw [he] at hl
    obtain ⟨z, hz, rfl⟩ := Option.map_eq_some_iff.1 hl
    obtain ⟨ti, zv, hti, hzv, rfl⟩ := zeroOf_ok hz
    refine ⟨_, ?_, pack zv _ false (ofVh_ok _ _ _ _)⟩
    rw [go _ hf]
    simp only [Sem.run_bind, zero_run hti hzv, Result.andThen_ok, Sem.run_pure]
  · cases hl
theorem vcOp_ok {Γ : Env} (hΓ : GoodEnv P Γ) (h : Rel w0 F0 Fp X G w a σ) {o : Oper} {K : AS → Prop} {next : Act → World → Prop} {Q : Exit → Act → World → Prop}
    (hK : ∀ G' w' a' σ', Rel w0 F0 Fp X G' w' a' σ' → K σ' → next a' w') (hv : vcOp P Γ false σ o K) : o.wp P a w next Q := by
  have fin : ∀ {w' : World} {G' : Gh} {σ' : AS} {x : Value} {b : AV}, (execOp a.eval o).run P w = .ok (.value x) w' → Rel w0 F0 Fp X G' w' a σ' → VR G' w' x b → cont σ' o.dst b K → o.wp P a w next Q := by
    intro w' G' σ' x b hrun hr hx hc
    obtain ⟨σ2, h2, h3⟩ := hr.cont hx hc
    unfold Oper.wp
    rw [hrun, Oper.upon_value]
    exact hK _ _ _ _ h2 h3
  have dflt : (∃ b, popAll P σ o = some b ∧ cont σ o.dst b K) → o.wp P a w next Q := by
    rintro ⟨b, hb, hc⟩
    obtain ⟨x, hx, hr⟩ := popAll_ok h hb
    exact fin (hx w (Ext.refl w)) h hr hc
  unfold vcOp at hv
  split at hv
  · rename_i e ho   -- alloc
    obtain ⟨_, z, cs, hz, hcs, hc⟩ := hv
    obtain ⟨ti, zv, hti, hzv, rfl⟩ := zeroOf_ok hz
    obtain ⟨h1, h2, _⟩ := cellsOf_ok (ofVh_ok ti.hints G w zv) hcs
    obtain ⟨hr, hp⟩ := h.newObj (.cells zv.cells e) (.cells cs) (OR.of_cells h.mm h1 fun k hk => (h2 k hk).1)
    refine fin ?_ hr hp hc
    simp only [execOp, ho, Instr.alloc, Sem.run_bind, zero_run hti hzv, Result.andThen_ok, newVar, newRow, run_newObj, Sem.run_pure, World.alloc_eq]
  · rename_i e x ho   -- box
    obtain ⟨_, cs, hcs, hc⟩ := hv
    obtain ⟨h1, h2, _⟩ := cellsOf_ok (ev_ok h x) hcs
    obtain ⟨hr, hp⟩ := h.newObj (.cells (a.eval x).cells e) (.cells cs) (OR.of_cells h.mm h1 fun k hk => (h2 k hk).1)
    refine fin ?_ hr hp hc
    simp only [execOp, ho, Instr.box, Sem.run_bind, Result.andThen_ok, newVar, newRow, run_newObj, Sem.run_pure, World.alloc_eq]
  · rename_i t x y ho   -- store
    obtain ⟨_, hv⟩ := hv
    split at hv
    · rename_i ob k hx
      obtain ⟨ti, cs, vs, hti, hob, hvs, hsz, hk, hc⟩ := hv
      have hxv := ev_ok h x
      rw [hx] at hxv
      obtain ⟨e1, _⟩ := VR.ptr_cells h hxv hob
      obtain ⟨w', hrun, hr⟩ := store_ok h hti hob (ev_ok h y) hvs hsz hk
      obtain ⟨σ2, h2, h3⟩ := hr.cont (VR.v undef) hc
      unfold Oper.wp
      have : (execOp a.eval o).run P w = .ok .skip w' := by
        simp only [execOp, ho, e1, Nat.zero_add, Sem.run_bind, hrun, Result.andThen_ok, Sem.run_pure]
      rw [this, Oper.upon_skip]
      exact hK _ _ _ _ h2 h3
    · rename_i l sz xs i j hx
      obtain ⟨ti, e, vs, x1, hti, hx1, hvs, hsz, hv0, hj, hl2, hlv, hmu, hfm, hc⟩ := hv
      have hxv := ev_ok h x
      rw [hx] at hxv
      obtain ⟨w', G', hrun, hr⟩ := store_ep_ok h hti hxv hx1 (ev_ok h y) hvs hsz hv0 hj hl2 hlv hmu hfm
      obtain ⟨σ2, h2, h3⟩ := hr.cont (VR.v undef) hc
      unfold Oper.wp
      have : (execOp a.eval o).run P w = .ok .skip w' := by
        simp only [execOp, ho, Sem.run_bind, hrun, Result.andThen_ok, Sem.run_pure]
      rw [this, Oper.upon_skip]
      exact hK _ _ _ _ h2 h3
    · exact hv.elim
  · rename_i t lo hi ho   -- makeSlice
    obtain ⟨_, e, s, ti, zv, zs, c, k, k', hs, hti, hz, hzs, hzl, h0, hlo, hhi, hc0, hm, hb, hc⟩ := hv
    obtain ⟨w', G', x, hrun, hr, hx⟩ := makeSlice_ok (k := k) (k' := k') h hs hti hz hzs hzl h0 hc0 hm hb
    refine fin ?_ hr hx hc
    simp only [execOp, ho, ev_v h hlo, ev_v h hhi, Sem.run_bind, hrun, Result.andThen_ok, Sem.run_pure]
  · rename_i t n parts ho   -- buildSlice
    obtain ⟨_, e, s, z, zs, hs, hz, hzs, hzl, h0, hsm, hok, hc⟩ := hv
    obtain ⟨w', G', x, hrun, hr, hx⟩ := buildSlice_ok h hs hz hzs hzl h0 hsm hok
    refine fin ?_ hr hx hc
    simp only [execOp, ho, Sem.run_bind, hrun, Result.andThen_ok, Sem.run_pure]
  · rename_i t x ho   -- range
    obtain ⟨_, hv⟩ := hv
    split at hv
    · rename_i s _ _ _ _ hx hti
      obtain ⟨hr, hp⟩ := h.newObj (.stringIter s 0) (.iter s 0) (.iter s 0 (heap_alloc_new w _))
      refine fin ?_ hr hp hv
      simp only [execOp, ho, ev_v h hx, Sem.run_bind, run_range_string w t s (und_str hti rfl), Result.andThen_ok, Sem.run_pure]
      rfl
    · exact hv.elim
  · rename_i x ho   -- next
    obtain ⟨_, hv⟩ := hv
    split at hv
    · rename_i ob hx
      split at hv
      · rename_i s pos hob
        obtain ⟨hol, hor⟩ := h.mm.obj ob _ hob
        have hxv := ev_ok h x
        rw [hx] at hxv
        generalize hz : a.eval x = z at hxv
        cases hxv with
        | ptr _ _ _ =>
          cases hor with
          | iter _ _ hh =>
            split at hv
            · rename_i hlt
              have hset : (w.heap.setIfInBounds (G.ob ob) (.stringIter s (pos + (Utf8.decode s pos).2)))[G.ob ob]? = some (.stringIter s (pos + (Utf8.decode s pos).2)) := by
                rw [Array.getElem?_setIfInBounds_self_of_lt (Array.getElem?_eq_some_iff.1 hh).1]
              have hw : Only w { w with heap := w.heap.setIfInBounds (G.ob ob) (.stringIter s (pos + (Utf8.decode s pos).2)) } (G.ob ob) :=
                ⟨rfl, rfl, rfl, by simp, fun k hk => by simp only; rw [Array.getElem?_setIfInBounds_ne (fun e => hk e.symm)]⟩
              have hgl := GLe.only (G := G) hw (h.mm.obl ob hol).2.1
              have hr : Rel w0 F0 Fp X G _ a { σ with m := σ.m.setObj ob (.iter s (pos + (Utf8.decode s pos).2)) } :=
                ⟨h.sz, h.df, fun k => (h.tm k).mono hgl, fun j k => (h.hd j k).mono hgl, h.mm.setOb hol hw (.iter s _ hset), h.tb⟩
              refine fin (x := .tuple #[.bool true, .int .i64 pos, .int .i32 (Utf8.decode s pos).1]) ?_ hr (.tup _ _ rfl fun k hk => ?_) hv
              · simp only [execOp, ho, hz, Instr.next, getObj, setObj, Sem.run_bind, Sem.run, hh, Result.andThen, hlt, if_true]
                simp [goInt, Sem.run, hh]
              · match k, hk with
                | 0, _ => exact .v _
                | 1, _ => exact .v _
                | 2, _ => exact .v _
            · rename_i hlt
              refine fin (x := .tuple #[.bool false]) ?_ h (.tup _ _ rfl fun k hk => ?_) hv
              · simp [execOp, ho, hz, Instr.next, getObj, Sem.run, hh, hlt]
              · match k, hk with
                | 0, _ => exact .v _
      · exact hv.elim
    · exact hv.elim
  · rename_i f args argTypes ho   -- a function's call
    obtain ⟨hsz, hv⟩ := hv
    split at hv
    · rename_i g caps hf
      have hfv := ev_ok h f
      rw [hf] at hfv
      generalize hz : a.eval f = z at hfv
      cases hfv with
      | fn _ arr _ hs hcs =>
        unfold vcCall at hv
        split at hv
        · obtain ⟨_, hv⟩ := hv
          obtain ⟨h1, h2⟩ := call_args (P := P) h (args := args.toList) (ts := argTypes.toList) (by simpa using hsz) hs hcs
          obtain ⟨hfn, hcall⟩ := hv.elim (fun hv => (let ⟨p, q⟩ := mut_call h h1 h2 hv; (⟨p, q.mono fun _ _ ⟨v, σ1, r, h3, h4, h5, h6⟩ => ⟨v, σ1, r, G, h3, h4, h5, h6⟩⟩ : FnOk P g ∧ Calls P g _ w fun ed w' => ∃ v σ1 r G', ed = .returned v ∧ Rel w0 F0 Fp X G' w' a σ1 ∧ VR G' w' v r ∧ cont σ1 o.dst r K))) (fun hv => hv.elim (fun hv => inl_call h h1 h2 hv) (fun hv => ⟨hv.1, hv.2 _ _ _ _ _ _ _ _ h h1 h2⟩))
          unfold Oper.wp
          rw [call_run ho hz hfn w, Oper.upon_enter]
          have e1 : (args.toList.map a.eval).toArray = args.map a.eval := by rw [← Array.toList_map, Array.toArray_toList]
          rw [e1] at hcall
          refine hcall.mono ?_
          rintro ed w' ⟨v, σ1, r, G', rfl, hr, hvr, hc⟩
          obtain ⟨σ2, h3, h4⟩ := hr.cont hvr hc
          exact hK _ _ _ _ h3 h4
        · rename_i C hC
          obtain ⟨i, hi, hv⟩ := hv
          simp only [Bool.false_eq_true, if_false] at hv
          obtain ⟨ht, hv⟩ := hv
          have hg := Env_get hΓ hC
          obtain ⟨h1, h2⟩ := call_args (P := P) h (args := args.toList) (ts := argTypes.toList) (by simpa using hsz) hs hcs
          have hcall := call_ok hg h h1 h2 hi ht
          unfold Oper.wp
          rw [call_run ho hz hg.1 w, Oper.upon_enter]
          have e1 : (args.toList.map a.eval).toArray = args.map a.eval := by rw [← Array.toList_map, Array.toArray_toList]
          rw [e1] at hcall
          refine hcall.mono ?_
          rintro ed w' ⟨v, r, G', rfl, hpost, hr, hvr⟩
          obtain ⟨σ2, h3, h4⟩ := hr.cont hvr (hv r hpost)
          exact hK _ _ _ _ h3 h4
    · exact hv.elim
  · rename_i args argTypes ho   -- append
    obtain ⟨_, hv⟩ := hv
    split at hv
    · rename_i x y t t' hax hat
      obtain ⟨rfl, e, s, ti, zv, hs, hti, hzv, hzs, h0, hv⟩ := hv
      have e1 : args = #[x, y] := by cases args; simp_all
      have e2 : argTypes = #[t, t] := by cases argTypes; simp_all
      subst e1; subst e2
      split at hv
      · rename_i l s1 xs l2 s2 ys hx hy
        obtain ⟨hb, hm, hs2, hv⟩ := hv
        have hxv := ev_ok h x
        have hyv := ev_ok h y
        rw [hx] at hxv; rw [hy] at hyv
        have hrunE : ∀ (v : Value) (w' : World), (Builtin.append_ #[t, t] o.type #[a.eval x, a.eval y]).run P w = .ok v w' → (execOp a.eval o).run P w = .ok (.value v) w' := by
          intro v w' hr
          simp only [execOp, ho, resolve, Sem.run_bind, Sem.run_pure, Result.andThen_ok, invoke, builtin, List.map_toArray, List.map_cons, List.map_nil, hr]
        split at hv
        · rename_i hl
          subst hl
          have hxs : xs = [] := by
            generalize a.eval x = z at hxv
            cases hxv with
            | nil => rfl
            | sl A cap l sz xs g off us hl h1 => exact absurd rfl h1
          subst hxs
          obtain ⟨w', G', v, hrun, hr, hvr⟩ := append_nil_ok (ty := o.type) h hs hti hzv hzs h0 hxv hyv (by simpa using hb) (by simpa using hm) hs2
          exact fin (hrunE v w' hrun) hr hvr hv
        · rename_i hl
          obtain ⟨hlv, hs1, hv⟩ := hv
          obtain ⟨w', G', v, hrun, hr, hvr⟩ := append_live_ok (ty := o.type) h hs hti hzv hzs h0 hlv hl hxv hyv hb hm hs2 hs1
          exact fin (hrunE v w' hrun) hr hvr hv
      · exact hv.elim
    · exact hv.elim
  · rename_i s d x ho   -- convert
    rcases hv with hv | ⟨_, ⟨b, e, ti, ts, hx, hd, hti, hk, hts, hks, hb, hc⟩ | ⟨b, e, ti, ts, hx, hd, hti, hk, hts, hks, hb, hc⟩⟩
    · exact dflt hv
    · obtain ⟨w', G', y, hrun, hr, hvr⟩ := runes_ok h hd hti hk hts hks hb
      refine fin ?_ hr hvr hc
      simp only [execOp, ho, ev_v h hx, Sem.run_bind, hrun, Result.andThen_ok, Sem.run_pure]
    · obtain ⟨w', G', y, hrun, hr, hvr⟩ := bytes_ok h hd hti hk hts hks hb
      refine fin ?_ hr hvr hc
      simp only [execOp, ho, ev_v h hx, Sem.run_bind, hrun, Result.andThen_ok, Sem.run_pure]
  · rename_i op t x y yt ho   -- a slice against nil
    rcases hv with hv | ⟨_, hv⟩
    · exact dflt hv
    · obtain ⟨b, hrun, hc⟩ := nil_ok h hv
      refine fin (x := .bool b) (w' := w) ?_ h (.v _) hc
      simp only [Sem.run_bind] at hrun
      simp only [execOp, ho, Sem.run_bind, hrun, Result.andThen_ok, Sem.run_pure]
  · rename_i args argTypes ho   -- delete
    obtain ⟨_, m, k, t, r, ob, d, k', x, ha, hat, hx, hk, hk2, hu, hc⟩ := hv
    have a1 : args = #[m, k] := by cases args; simp_all
    have a2 : argTypes = (t :: r).toArray := by cases argTypes; simp_all
    subst a1; subst a2
    have e1 := toV_ok (ev_ok h k) hk2
    have hxv := ev_ok h m
    rw [hx] at hxv
    generalize hz : a.eval m = z at hxv
    cases hxv with
    | mp _ _ =>
      cases hob : σ.m.h ob with
      | none => rw [hob] at hu; cases hu
      | some y =>
        rw [hob] at hu
        obtain ⟨hol, hor⟩ := h.mm.obj ob _ hob
        cases y with
        | map es cl =>
          cases hor with
          | map _ _ hh =>
            obtain ⟨es', cl', rfl, hrun⟩ := del_run (w := w) (ts := r) (ty := o.type) hk hu hh
            have hset : (w.heap.setIfInBounds (G.ob ob) (.map es' cl'))[G.ob ob]? = some (.map es' cl') := by
              rw [Array.getElem?_setIfInBounds_self_of_lt (Array.getElem?_eq_some_iff.1 hh).1]
            have hw : Only w { w with heap := w.heap.setIfInBounds (G.ob ob) (.map es' cl') } (G.ob ob) :=
              ⟨rfl, rfl, rfl, by simp, fun k hk => by simp only; rw [Array.getElem?_setIfInBounds_ne (fun e => hk e.symm)]⟩
            have hgl := GLe.only (G := G) hw (h.mm.obl ob hol).2.1
            have hr : Rel w0 F0 Fp X G _ a { σ with m := σ.m.setObj ob (.map es' cl') } :=
              ⟨h.sz, h.df, fun k => (h.tm k).mono hgl, fun j k => (h.hd j k).mono hgl, h.mm.setOb hol hw (.map es' cl' hset), h.tb⟩
            refine fin (x := .tuple #[]) ?_ hr (.tup _ _ rfl fun k hk => absurd hk (by simp)) hc
            simp only [execOp, ho, resolve, Sem.run_bind, Sem.run_pure, Result.andThen_ok, invoke, builtin, List.map_toArray, List.map_cons, List.map_nil, hz, e1, hrun]
        | _ => cases hu
  · rename_i t ho   -- makeMap
    obtain ⟨_, hc⟩ := hv
    obtain ⟨hr, hp⟩ := h.newObj (.map #[] 0) (.map #[] 0) (.map #[] 0 (heap_alloc_new w _))
    refine fin ?_ hr (mp_of_ptr hp rfl) hc
    simp only [execOp, ho, Option.map_none, Instr.makeMap, Sem.run_bind, run_newObj, Result.andThen_ok, Sem.run_pure]
    rfl
  · rename_i t x i c ho   -- lookup
    obtain ⟨_, r, hl, hc⟩ := hv
    unfold lookA at hl
    split at hl
    · rename_i d k hk hv2
      have hkv := toV_ok (ev_ok h i) hv2
      have hxv := ev_ok h x
      split at hl
      · rename_i ob hx
        split at hl
        · rename_i es cl hob
          obtain ⟨hol, hor⟩ := h.mm.obj ob _ hob
          rw [hx] at hxv
          generalize hz : a.eval x = z at hxv
          cases hxv with
          | mp _ _ =>
            cases hor with
            | map _ _ hh =>
              obtain ⟨v, hrun, hvr⟩ := look_run (w := w) (G := G) hk hl (.inr ⟨_, _, rfl, hh⟩)
              refine fin (x := v) (w' := w) ?_ h hvr hc
              simp only [execOp, ho, hz, hkv, Sem.run_bind, hrun, Result.andThen_ok, Sem.run_pure]
        · cases hl
      · rename_i hx
        rw [hx] at hxv
        generalize hz : a.eval x = z at hxv
        cases hxv with
        | v _ =>
          obtain ⟨v, hrun, hvr⟩ := look_run (w := w) (G := G) (es := #[]) hk hl (.inl ⟨rfl, rfl⟩)
          refine fin (x := v) (w' := w) ?_ h hvr hc
          simp only [execOp, ho, hz, hkv, Sem.run_bind, hrun, Result.andThen_ok, Sem.run_pure]
      · cases hl
    · cases hl
  · rename_i t m k v ho   -- mapUpdate
    obtain ⟨_, ob, d, k', v', x, hx, hk, hk2, hv2, hu, hc⟩ := hv
    have e1 := toV_ok (ev_ok h k) hk2
    have e2 := toV_ok (ev_ok h v) hv2
    have hxv := ev_ok h m
    rw [hx] at hxv
    generalize hz : a.eval m = z at hxv
    cases hxv with
    | mp _ _ =>
      cases hob : σ.m.h ob with
      | none => rw [hob] at hu; cases hu
      | some y =>
        rw [hob] at hu
        obtain ⟨hol, hor⟩ := h.mm.obj ob _ hob
        cases y with
        | map es cl =>
          cases hor with
          | map _ _ hh =>
            obtain ⟨es', cl', rfl, hrun⟩ := upd_run (w := w) hk hu hh
            have hset : (w.heap.setIfInBounds (G.ob ob) (.map es' cl'))[G.ob ob]? = some (.map es' cl') := by
              rw [Array.getElem?_setIfInBounds_self_of_lt (Array.getElem?_eq_some_iff.1 hh).1]
            have hw : Only w { w with heap := w.heap.setIfInBounds (G.ob ob) (.map es' cl') } (G.ob ob) :=
              ⟨rfl, rfl, rfl, by simp, fun k hk => by simp only; rw [Array.getElem?_setIfInBounds_ne (fun e => hk e.symm)]⟩
            have hgl := GLe.only (G := G) hw (h.mm.obl ob hol).2.1
            have hr : Rel w0 F0 Fp X G _ a { σ with m := σ.m.setObj ob (.map es' cl') } :=
              ⟨h.sz, h.df, fun k => (h.tm k).mono hgl, fun j k => (h.hd j k).mono hgl, h.mm.setOb hol hw (.map es' cl' hset), h.tb⟩
            obtain ⟨σ2, h2, h3⟩ := hr.cont (VR.v undef) hc
            unfold Oper.wp
            have : (execOp a.eval o).run P w = .ok .skip { w with heap := w.heap.setIfInBounds (G.ob ob) (.map es' cl') } := by
              simp only [execOp, ho, hz, e1, e2, Sem.run_bind, hrun, Result.andThen_ok, Sem.run_pure]
            rw [this, Oper.upon_skip]
            exact hK _ _ _ _ h2 h3
        | _ => cases hu
  · exact dflt hv
end
end Go.Rw
end

-- RwDraw
section
namespace Go.Rw
open Go Go.RowKit
set_option linter.unusedSimpArgs false
set_option linter.unusedVariables false

def AS.putO (σ : AS) (d : Option Nat) (r : AV) : AS := match d with
  | none => σ
  | some d => σ.put d r

/-- How an operation's guard stands. -/
def gval (ops : Array Oper) (σ : AS) (o : Oper) : Option Bool :=
  match o.guard with
  | none => some true
  | some (j, want) => match (ops[j]?).bind (·.dst) with
    | none => some false
    | some d => match σ.t d with
      | .v (.bool b) => some (decide (b = want))
      | .v (.tuple _) => some false
      | _ => none

def aCall (P : Program) (Γ : Env) (f : AV) (as : List AV) (r : AV) : Prop := match f with
  | .fn g caps => ∃ C, Γ.get g = some C ∧ ∃ i : C.ι, argsIn C.take (as ++ caps) = C.args i ∧ (C.plain = true ∨ AV.tagsL (as ++ caps) = []) ∧ C.own = none ∧ C.take = none ∧ ∃ r0, (∀ r', C.post i r' → r' = r0) ∧ r = r0.er
  | _ => False
/-- What an operation answers. -/
def aRes (P : Program) (Γ : Env) (σ : AS) (o : Oper) (r : AV) : Prop :=
  match o.op with
  | .call { callee := .value f, args, argTypes } => args.size = argTypes.size ∧ aCall P Γ (ev σ f) (List.zipWith (fun x t => evT P t σ x) args.toList argTypes.toList) r
  | .buildSlice t n parts => deadR P σ t n parts r
  | _ => popAll P σ o = some r

def Yld (P : Program) (Γ : Env) (ops : Array Oper) (σ : AS) (o : Oper) (r : AV) : Prop :=
  (∀ d, o.dst = some d → d < σ.n) ∧ ((gval ops σ o = some true ∧ aRes P Γ σ o r) ∨ (gval ops σ o = some false ∧ r = .v undef))

/-- What turns the memory, and may stand in a region that draws its order. -/
def isMem (o : Oper) : Bool := match o.op with
  | .alloc _ => true
  | .store _ _ _ => true
  | _ => false
def isStore (o : Oper) : Bool := match o.op with
  | .store _ _ _ => true
  | _ => false
def isLoad (o : Oper) : Bool := match o.op with
  | .load _ _ => true
  | _ => false
/-- Whether x, ahead of y in the text and not bound to y, may be taken first. -/
def memOk (x y : Oper) : Bool := !isMem x && !(isStore y && isLoad x)
def boundTo (i : Nat) (y : Oper) : Bool := y.after.any fun e => Region.binds .any e && e.on == i
def memB (ops : Array Oper) : Bool := !ops.any isMem || (List.range ops.size).all fun i => (List.range ops.size).all fun j => match ops[i]?, ops[j]? with
  | some x, some y => decide (j ≤ i) || boundTo i y || memOk x y
  | _, _ => true
/-- The order of the text speaks for all. -/
def lexM (ops : Array Oper) : Bool := Region.lexB .any ops && memB ops

theorem cont_putO {σ : AS} {d : Option Nat} {r : AV} {K : AS → Prop} (h : cont σ d r K) : (∀ k, d = some k → k < σ.n) ∧ K (σ.putO d r) := by
  cases d with
  | none => exact ⟨(fun k hk => by cases hk), h⟩
  | some k => exact ⟨(fun j hj => by cases hj; exact h.1), h.2⟩

section
variable {P : Program} [Tabs] {Γ : Env} {ops : Array Oper} {K : AS → Prop}

/-- An operation is taken: it answers, or turns the memory. -/
def Stp (P : Program) (Γ : Env) (ops : Array Oper) (σ : AS) (o : Oper) (σ' : AS) : Prop :=
  (∃ r, Yld P Γ ops σ o r ∧ σ' = σ.putO o.dst r) ∨ (isMem o = true ∧ gval ops σ o = some true ∧ vcOp P Γ true σ o (fun s => s = σ'))
omit [Tabs] in
theorem cont_is {σ : AS} {d : Option Nat} {r : AV} {K : AS → Prop} (h : cont σ d r K) : ∃ σ', cont σ d r (fun s => s = σ') ∧ K σ' := by
  cases d with
  | none => exact ⟨_, rfl, h⟩
  | some k => exact ⟨_, ⟨h.1, rfl⟩, h.2⟩
theorem mem_is {σ : AS} {o : Oper} {K : AS → Prop} (hm : isMem o = true) (h : vcOp P Γ true σ o K) : ∃ σ', vcOp P Γ true σ o (fun s => s = σ') ∧ K σ' := by
  obtain ⟨dst, op, type, pos, aft, guard⟩ := o
  cases op <;> try (simp [isMem] at hm; done)
  · obtain ⟨h0, z, cs, hz, hcs, hc⟩ := h
    obtain ⟨σ', h1, h2⟩ := cont_is hc
    exact ⟨σ', ⟨h0, z, cs, hz, hcs, h1⟩, h2⟩
  · obtain ⟨h0, hv⟩ := h
    obtain ⟨ob, k, hx⟩ := h0 rfl
    rw [hx] at hv
    obtain ⟨ti, cs, vs, h1, h2, h3, h4, h5, hc⟩ := hv
    obtain ⟨σ', h6, h7⟩ := cont_is hc
    refine ⟨σ', ⟨fun _ => ⟨ob, k, hx⟩, ?_⟩, h7⟩
    rw [hx]
    exact ⟨ti, cs, vs, h1, h2, h3, h4, h5, h6⟩
theorem mem_false {σ : AS} {o : Oper} {K : AS → Prop} (hm : isMem o = true) (h : vcOp P Γ true σ o K) : vcOp P Γ false σ o K := by
  obtain ⟨dst, op, type, pos, aft, guard⟩ := o
  cases op <;> try (simp [isMem] at hm; done)
  · exact ⟨(fun hf => by cases hf), h.2⟩
  · exact ⟨(fun hf => by cases hf), h.2⟩

/-- The walk in the order of the text tells what each operation does. -/
theorem stp_of {σ : AS} {o : Oper} {l : List Oper} (h : vcOps P Γ true ops (o :: l) K σ) : ∃ σ', Stp P Γ ops σ o σ' ∧ vcOps P Γ true ops l K σ' := by
  unfold vcOps at h
  have yes0 : ∀ {K' : AS → Prop}, isMem o = false → vcOp P Γ true σ o K' → ∃ r, (∀ d, o.dst = some d → d < σ.n) ∧ aRes P Γ σ o r ∧ K' (σ.putO o.dst r) := by
    intro K' hnm hv
    have dflt : (∃ b, popAll P σ o = some b ∧ cont σ o.dst b K') → (∀ r, popAll P σ o = some r → aRes P Γ σ o r) → ∃ r, (∀ d, o.dst = some d → d < σ.n) ∧ aRes P Γ σ o r ∧ K' (σ.putO o.dst r) := by
      rintro ⟨b, hb, hc⟩ hr
      obtain ⟨h1, h2⟩ := cont_putO hc
      exact ⟨b, h1, hr b hb, h2⟩
    unfold vcOp at hv
    split at hv
    · rename_i e ho; simp [isMem, ho] at hnm
    · exact absurd hv.1 (by simp)
    · rename_i t x y ho; simp [isMem, ho] at hnm
    · exact absurd hv.1 (by simp)
    · rename_i t n parts ho
      obtain ⟨r, hr, hc⟩ := hv
      obtain ⟨h1, h2⟩ := cont_putO hc
      exact ⟨r, h1, (by unfold aRes; rw [ho]; exact hr), h2⟩
    · exact absurd hv.1 (by simp)
    · exact absurd hv.1 (by simp)
    · rename_i f args argTypes ho
      obtain ⟨hsz, hv⟩ := hv
      split at hv
      · rename_i g caps hf
        unfold vcCall at hv
        split at hv
        · exact absurd hv.1 (by simp)
        · rename_i C hC
          obtain ⟨i, hi, hv⟩ := hv
          simp only [if_true] at hv
          obtain ⟨hpl, hown, htk, r, hr, hc⟩ := hv
          obtain ⟨h1, h2⟩ := cont_putO hc
          refine ⟨r.er, h1, ?_, h2⟩
          unfold aRes
          rw [ho]
          refine ⟨hsz, ?_⟩
          rw [hf]
          exact ⟨C, hC, i, hi, hpl, hown, htk, r, hr, rfl⟩
      · exact hv.elim
    · exact absurd hv.1 (by simp)
    · rename_i s d x ho
      rcases hv with hv | hv
      · refine dflt hv fun r hr => ?_
        unfold aRes
        rw [ho]; exact hr
      · exact absurd hv.1 (by simp)
    · rename_i op t x y t2 ho
      rcases hv with hv | hv
      · refine dflt hv fun r hr => ?_
        unfold aRes
        rw [ho]; exact hr
      · exact absurd hv.1 (by simp)
    · exact absurd hv.1 (by simp)
    · exact absurd hv.1 (by simp)
    · exact absurd hv.1 (by simp)
    · exact absurd hv.1 (by simp)
    · rename_i hn1 hn2 hn3 hn4 hn5 hn6 hn0 hn7 hn8 hn9 hn10 hn11 hn12 hn13 hn14
      refine dflt hv fun r hr => ?_
      unfold aRes
      split
      · rename_i f args argTypes ho
        exact absurd ho (hn7 f args argTypes)
      · rename_i t n parts ho
        exact absurd ho (hn5 t n parts)
      · exact hr
  have yes : ∀ {K' : AS → Prop}, gval ops σ o = some true → vcOp P Γ true σ o K' → ∃ σ', Stp P Γ ops σ o σ' ∧ K' σ' := by
    intro K' hg hv
    cases hm : isMem o with
    | true =>
      obtain ⟨σ', h1, h2⟩ := mem_is hm hv
      exact ⟨σ', .inr ⟨hm, hg, h1⟩, h2⟩
    | false =>
      obtain ⟨r, h1, h2, h3⟩ := yes0 hm hv
      exact ⟨_, .inl ⟨r, ⟨h1, .inl ⟨hg, h2⟩⟩, rfl⟩, h3⟩
  have no : gval ops σ o = some false → ∀ {K' : AS → Prop}, cont σ o.dst (.v undef) K' → ∃ σ', Stp P Γ ops σ o σ' ∧ K' σ' := by
    intro hg K' hc
    obtain ⟨h1, h2⟩ := cont_putO hc
    exact ⟨_, .inl ⟨_, ⟨h1, .inr ⟨hg, rfl⟩⟩, rfl⟩, h2⟩
  unfold guarded at h
  cases hg : o.guard with
  | none =>
    rw [hg] at h
    exact yes (by simp [gval, hg]) h
  | some jw =>
    obtain ⟨j, want⟩ := jw
    rw [hg] at h
    simp only at h
    cases hd : (ops[j]?).bind (·.dst) with
    | none =>
      rw [hd] at h
      exact no (by simp [gval, hg, hd]) h
    | some d =>
      rw [hd] at h
      simp only at h
      split at h
      · rename_i b hb
        split at h
        · rename_i hbw
          exact yes (by simp [gval, hg, hd, hb, hbw]) h
        · rename_i hbw
          exact no (by simp [gval, hg, hd, hb, hbw]) h
      · rename_i t hb
        exact no (by simp [gval, hg, hd, hb]) h
      · exact h.elim

-- what an operation does not look at makes no difference
omit [Tabs] in
theorem evT_congr {σ σ' : AS} {t : TypeId} {x : Operand} (h : ev σ x = ev σ' x) : evT P t σ x = evT P t σ' x := by
  unfold evT
  cases x <;> first | rfl | exact h

omit [Tabs] in
theorem zip_congr {σ σ' : AS} : ∀ {xs : List Operand} {ts : List TypeId}, (∀ x ∈ xs, ev σ x = ev σ' x) → List.zipWith (fun x t => evT P t σ x) xs ts = List.zipWith (fun x t => evT P t σ' x) xs ts
  | [], _, _ => by simp
  | _ :: _, [], _ => by simp
  | x :: xs, t :: ts, h => by
    simp only [List.zipWith_cons_cons]
    rw [evT_congr (h x (List.mem_cons_self ..)), zip_congr fun y hy => h y (List.mem_cons_of_mem _ hy)]

omit [Tabs] in
theorem map_congr' {σ σ' : AS} : ∀ {ps : List (Nat × Operand)}, (∀ x ∈ ps.map (·.2), ev σ x = ev σ' x) → ps.map (fun p => (p.1, ev σ p.2)) = ps.map (fun p => (p.1, ev σ' p.2))
  | [], _ => rfl
  | p :: r, h => by
    simp only [List.map_cons]
    rw [h p.2 (by simp), map_congr' fun x hx => h x (by simp at hx ⊢; exact .inr hx)]

omit [Tabs] in
theorem mapM_congr' {σ σ' : AS} : ∀ {xs : List Operand}, (∀ x ∈ xs, ev σ x = ev σ' x) → (xs.mapM fun x => match ev σ x with | .v y => some y | _ => none) = (xs.mapM fun x => match ev σ' x with | .v y => some y | _ => none)
  | [], _ => rfl
  | x :: r, h => by
    simp only [List.mapM_cons]
    rw [h x (List.mem_cons_self ..), mapM_congr' fun y hy => h y (List.mem_cons_of_mem _ hy)]

omit [Tabs] in
theorem optV_congr {σ σ' : AS} {x : Option Operand} (h : ∀ y, x = some y → ev σ y = ev σ' y) : optV σ x = optV σ' x := by
  cases x with
  | none => rfl
  | some y => simp only [optV, h y rfl]

omit [Tabs] in
theorem popAll_congr {σ σ' : AS} {o : Oper} (hm : σ.m = σ'.m) (h : ∀ x ∈ o.op.operands, ev σ x = ev σ' x) : popAll P σ o = popAll P σ' o := by
  obtain ⟨dst, op, type, pos, aft, guard⟩ := o
  simp only at h
  unfold popAll
  have h1 : pop P σ ⟨dst, op, type, pos, aft, guard⟩ = pop P σ' ⟨dst, op, type, pos, aft, guard⟩ := by
    cases op <;> simp only [Op.operands] at h <;> simp only [pop]
    case move x => rw [evT_congr (h x (by simp))]
    case assign x => rw [evT_congr (h x (by simp))]
    case pick c a b => rw [h c (by simp), h a (by simp), h b (by simp)]
    case binOp op t x y t2 => rw [h x (by simp), h y (by simp)]
    case unOp op t x => rw [h x (by simp)]
    case convert s d x => rw [h x (by simp)]
    case extract x i => rw [h x (by simp)]
    case fieldAddr t x i => rw [h x (by simp)]
    case indexAddr t x i => rw [h x (by simp), h i (by simp)]
    case index t x i => rw [h x (by simp), h i (by simp)]
    case load t x => rw [h x (by simp), hm]
    case nilCheck x => rw [h x (by simp)]
    case slice t x lo hi mx =>
      rw [h x (by simp), optV_congr (x := lo) (σ' := σ') (fun y hy => h y (by subst hy; simp)), optV_congr (x := hi) (σ' := σ') (fun y hy => h y (by subst hy; simp))]
    case call c =>
      obtain ⟨callee, args, argTypes⟩ := c
      cases callee with
      | builtin b =>
        have ha : ∀ x ∈ args.toList, ev σ x = ev σ' x := fun x hx => h x (by simp [Call.operands]; simpa using hx)
        have hargs : argV σ args = argV σ' args := by unfold argV; exact mapM_congr' ha
        cases b <;> simp only [hargs]
        generalize args.toList = l at ha
        generalize argTypes.toList = ts
        match l, ts, ha with
        | [x], [t], ha => simp only [ha x (by simp)]
        | [], _, _ => rfl
        | [x], [], _ => rfl
        | [x], _ :: _ :: _, _ => rfl
        | _ :: _ :: _, _, _ => rfl
      | _ => rfl
  have h2 : pop2 P σ ⟨dst, op, type, pos, aft, guard⟩ = pop2 P σ' ⟨dst, op, type, pos, aft, guard⟩ := by
    cases op <;> simp only [Op.operands] at h <;> simp only [pop2]
    case build t ps => rw [map_congr' fun x hx => h x (by simpa using hx)]
    case convert s d x => rw [h x (by simp)]
    case binOp op t x y t2 => rw [h x (by simp), h y (by simp)]
    case field t x i => rw [h x (by simp)]
    case makeFunc fn first caps =>
      cases fn <;> try rfl
      have e : caps.toList.map (ev σ) = caps.toList.map (ev σ') := List.map_congr_left fun x hx => h x (by simp only [Array.mem_append]; exact .inr (by simpa using hx))
      simp only [e]
  rw [h1, h2]

omit [Tabs] in
theorem dead_congr {σ σ' : AS} {t n : Nat} {parts : Array (Nat × Operand)} {r : AV} (h : ∀ p ∈ parts.toList, ev σ p.2 = ev σ' p.2) (hr : deadR P σ t n parts r) : deadR P σ' t n parts r := by
  unfold deadR at hr ⊢
  have e1 : (parts.toList.map fun (p : Nat × Operand) => (p.1, ev σ' p.2)) = parts.toList.map fun (p : Nat × Operand) => (p.1, ev σ p.2) := List.map_congr_left fun p hp => by rw [h p hp]
  have e2 : (parts.toList.map fun (p : Nat × Operand) => ev σ' p.2) = parts.toList.map fun (p : Nat × Operand) => ev σ p.2 := List.map_congr_left fun p hp => (h p hp).symm
  have e3 : (parts.toList.map fun (p : Nat × Operand) => (p.1, (ev σ' p.2).er)) = parts.toList.map fun (p : Nat × Operand) => (p.1, (ev σ p.2).er) := List.map_congr_left fun p hp => by rw [h p hp]
  rw [e1, e2, e3]
  exact hr
omit [Tabs] in
theorem aRes_congr {σ σ' : AS} {o : Oper} {r : AV} (hm : σ.m = σ'.m) (h : ∀ x ∈ o.op.operands, ev σ x = ev σ' x) (hr : aRes P Γ σ o r) : aRes P Γ σ' o r := by
  unfold aRes at hr ⊢
  split at hr
  · rename_i f args argTypes ho
    rw [ho] at h
    obtain ⟨hs, hr⟩ := hr
    refine ⟨hs, ?_⟩
    rw [← h f (by simp [Op.operands, Call.operands]), ← zip_congr fun x hx => h x (by simp [Op.operands, Call.operands]; exact .inr (by simpa using hx))]
    exact hr
  · rename_i t n parts ho
    exact dead_congr (fun p hp => h p.2 (by rw [ho]; simp only [Op.operands]; simp only [List.mem_toArray, List.mem_map]; exact ⟨p, hp, rfl⟩)) hr
  · rw [← popAll_congr hm h]; exact hr

omit [Tabs] in
theorem ev_putO {σ : AS} {d : Option Nat} {u : AV} {x : Operand} (h : ∀ k, d = some k → x ≠ .tmp k) : ev (σ.putO d u) x = ev σ x := by
  cases d with
  | none => rfl
  | some k =>
    cases x with
    | tmp t => exact upd_other _ _ (fun e => h k rfl (by rw [e]))
    | _ => rfl

omit [Tabs] in
theorem gval_putO {σ : AS} {o : Oper} {d : Option Nat} {u : AV} (h : ∀ k, d = some k → k ∉ o.looksAt ops) : gval ops (σ.putO d u) o = gval ops σ o := by
  cases d with
  | none => rfl
  | some k =>
    unfold gval
    cases hg : o.guard with
    | none => rfl
    | some jw =>
      obtain ⟨j, want⟩ := jw
      simp only
      cases hd : (ops[j]?).bind (·.dst) with
      | none => rfl
      | some e =>
        have hne : e ≠ k := by
          rintro rfl
          exact h e rfl (by simp [Oper.looksAt, hg, hd])
        simp only
        rw [show (σ.putO (some k) u).t e = σ.t e from upd_other _ _ hne]

omit [Tabs] in
theorem yld_putO {σ : AS} {o : Oper} {d : Option Nat} {u r : AV} (h : ∀ k, d = some k → k ∉ o.looksAt ops) : Yld P Γ ops (σ.putO d u) o r ↔ Yld P Γ ops σ o r := by
  have hn : (σ.putO d u).n = σ.n := by cases d <;> rfl
  have hm : (σ.putO d u).m = σ.m := by cases d <;> rfl
  have he : ∀ x ∈ o.op.operands, ev (σ.putO d u) x = ev σ x := fun x hx => ev_putO fun k hk hxk => h k hk (by
    subst hxk
    exact List.mem_append_left _ (List.mem_filterMap.2 ⟨.tmp k, by simpa using hx, rfl⟩))
  unfold Yld
  rw [gval_putO h, hn]
  constructor
  · rintro ⟨h1, h2⟩
    exact ⟨h1, h2.imp_left fun ⟨h3, h4⟩ => ⟨h3, aRes_congr hm he h4⟩⟩
  · rintro ⟨h1, h2⟩
    exact ⟨h1, h2.imp_left fun ⟨h3, h4⟩ => ⟨h3, aRes_congr hm.symm (fun x hx => (he x hx).symm) h4⟩⟩

omit [Tabs] in
theorem putO_comm (σ : AS) {x y : Option Nat} (v u : AV) (h : ∀ d, x = some d → y ≠ some d) : (σ.putO x v).putO y u = (σ.putO y u).putO x v := by
  cases x with
  | none => rfl
  | some d =>
    cases y with
    | none => rfl
    | some e =>
      have hne : d ≠ e := fun he => h d rfl (by rw [he])
      simp only [AS.putO, AS.put]
      congr 1
      funext i
      simp only [upd]
      by_cases h1 : i = e
      · rw [if_pos h1, if_neg (by omega), if_pos h1]
      · rw [if_neg h1, if_neg h1]

omit [Tabs] in
theorem ev_mem {σ : AS} {m : AM} {x : Operand} : ev { σ with m := m } x = ev σ x := by cases x <;> rfl
omit [Tabs] in
theorem pop_call {σ : AS} {m : AM} {dst : Option Nat} {c : Call} {type : TypeId} {pos : String} {aft : Array Edge} {guard : Option (Nat × Bool)} : pop P { σ with m := m } ⟨dst, .call c, type, pos, aft, guard⟩ = pop P σ ⟨dst, .call c, type, pos, aft, guard⟩ := by
  obtain ⟨callee, args, argTypes⟩ := c
  cases callee with
  | builtin b =>
    have hargs : argV { σ with m := m } args = argV σ args := by unfold argV; exact mapM_congr' fun x _ => ev_mem
    cases b <;> simp only [pop, hargs, ev_mem]
  | _ => rfl
omit [Tabs] in
/-- What is answered of memory stays, when more is laid, or other objects are turned. -/
theorem popAll_new {σ : AS} {o : Oper} {c : AO} {r : AV} (h0 : σ.m.h σ.m.nh = none) (h : popAll P σ o = some r) : popAll P (σ.new c) o = some r := by
  obtain ⟨dst, op, type, pos, aft, guard⟩ := o
  unfold popAll at h ⊢
  have h2 : pop2 P (σ.new c) ⟨dst, op, type, pos, aft, guard⟩ = pop2 P σ ⟨dst, op, type, pos, aft, guard⟩ := by cases op <;> rfl
  rw [h2]
  cases op
  case load t x =>
    simp only [pop, show ev (σ.new c) x = ev σ x by cases x <;> rfl] at h ⊢
    split at h
    · rename_i ob k hx
      by_cases hb : ob = σ.m.nh
      · subst hb
        rw [h0] at h
        simp [pop2] at h
      · have e : (σ.new c).m.h ob = σ.m.h ob := by show upd σ.m.h σ.m.nh _ ob = _; exact upd_other _ _ hb
        rw [e]; exact h
    · exact h
    · exact h
  case call c => rw [← pop_call (m := (σ.new _).m)] at h; exact h
  all_goals exact h
omit [Tabs] in
theorem popAll_mem {σ : AS} {m : AM} {o : Oper} (hl : isLoad o = false) : popAll P { σ with m := m } o = popAll P σ o := by
  obtain ⟨dst, op, type, pos, aft, guard⟩ := o
  unfold popAll
  have h2 : pop2 P { σ with m := m } ⟨dst, op, type, pos, aft, guard⟩ = pop2 P σ ⟨dst, op, type, pos, aft, guard⟩ := by cases op <;> rfl
  rw [h2]
  cases op
  case load t x => simp [isLoad] at hl
  case call c => rw [pop_call]
  all_goals rfl
omit [Tabs] in
theorem yld_new {σ : AS} {o : Oper} {c : AO} {r : AV} (h0 : σ.m.h σ.m.nh = none) (h : Yld P Γ ops σ o r) : Yld P Γ ops (σ.new c) o r := by
  refine ⟨h.1, h.2.imp_left fun ⟨h1, h2⟩ => ⟨h1, ?_⟩⟩
  unfold aRes at h2 ⊢
  split at h2
  · exact h2
  · exact dead_congr (fun p _ => by cases p.2 <;> rfl) h2
  · exact popAll_new h0 h2
omit [Tabs] in
theorem yld_mem {σ : AS} {m : AM} {o : Oper} {r : AV} (hl : isLoad o = false) (h : Yld P Γ ops σ o r) : Yld P Γ ops { σ with m := m } o r := by
  refine ⟨h.1, h.2.imp_left fun ⟨h1, h2⟩ => ⟨h1, ?_⟩⟩
  unfold aRes at h2 ⊢
  split at h2
  · exact h2
  · exact dead_congr (fun p _ => by cases p.2 <;> rfl) h2
  · rw [popAll_mem hl]; exact h2
omit [Tabs] in
theorem cont_eq {σ σ' : AS} {d : Option Nat} {r : AV} (h : cont σ d r (fun s => s = σ')) : σ' = σ.putO d r ∧ ∀ k, d = some k → k < σ.n := by
  obtain ⟨h1, h2⟩ := cont_putO h
  exact ⟨h2.symm, h1⟩
omit [Tabs] in
theorem cont_of {σ : AS} {d : Option Nat} {r : AV} (h : ∀ k, d = some k → k < σ.n) : cont σ d r (fun s => s = σ.putO d r) := by
  cases d with
  | none => rfl
  | some k => exact ⟨h k rfl, rfl⟩
/-- What turns the memory, and what answers, may change places. -/
theorem mem_comm {σ σ' : AS} {x y : Oper} {r : AV} (hm : isMem y = true) (hok : memOk x y = true) (a1 : ∀ d, x.dst = some d → d ∉ y.looksAt ops) (a2 : ∀ d, x.dst = some d → y.dst ≠ some d) (a3 : ∀ d, y.dst = some d → d ∉ x.looksAt ops)
    (hy : Yld P Γ ops σ x r) (h : vcOp P Γ true (σ.putO x.dst r) y (fun s => s = σ')) : ∃ σm, vcOp P Γ true σ y (fun s => s = σm) ∧ Yld P Γ ops σm x r ∧ σ' = σm.putO x.dst r := by
  have hmm : (σ.putO x.dst r).m = σ.m := by cases x.dst <;> rfl
  have hnn : (σ.putO x.dst r).n = σ.n := by cases x.dst <;> rfl
  have he : ∀ z ∈ y.op.operands, ev (σ.putO x.dst r) z = ev σ z := fun z hz => ev_putO fun k hk hxk => a1 k hk (by
    subst hxk
    exact List.mem_append_left _ (List.mem_filterMap.2 ⟨.tmp k, by simpa using hz, rfl⟩))
  have put : ∀ m : AM, ({ σ.putO x.dst r with m := m } : AS) = ({ σ with m := m } : AS).putO x.dst r := fun m => by cases x.dst <;> rfl
  obtain ⟨dst, op, type, pos, aft, guard⟩ := y
  cases op <;> try (simp [isMem] at hm; done)
  · obtain ⟨h0, z, cs, hz, hcs, hc⟩ := h
    rw [hmm] at h0
    obtain ⟨e1, e2⟩ := cont_eq hc
    refine ⟨(σ.new (.cells cs)).putO dst (.ptr σ.m.nh 0), ⟨h0, z, cs, hz, hcs, cont_of fun k hk => by have := e2 k hk; have e3 : ((σ.putO x.dst r).new (.cells cs)).n = σ.n := hnn; rw [e3] at this; exact this⟩, ?_, ?_⟩
    · exact (yld_putO a3).2 (yld_new (h0 rfl) hy)
    · rw [e1, hmm]
      have e4 : (σ.putO x.dst r).new (.cells cs) = (σ.new (.cells cs)).putO x.dst r := by cases x.dst <;> rfl
      rw [e4]
      exact putO_comm _ r _ a2
  · rename_i t px py
    obtain ⟨h0, hv⟩ := h
    obtain ⟨ob, k, hx⟩ := h0 rfl
    rw [hx] at hv
    obtain ⟨ti, cs, vs, h1, h2, h3, h4, h5, hc⟩ := hv
    rw [he px (by simp [Op.operands])] at hx
    rw [he py (by simp [Op.operands])] at h3
    rw [hmm] at h2 hc
    obtain ⟨e1, e2⟩ := cont_eq hc
    rw [put] at e1 e2
    have hl : isLoad x = false := by
      simp only [memOk, isStore, Bool.true_and, Bool.and_eq_true, Bool.not_eq_true'] at hok
      exact hok.2
    refine ⟨({ σ with m := σ.m.setObj ob (.cells (cs.take k ++ vs ++ cs.drop (k + vs.length))) } : AS).putO dst (.v undef), ⟨fun _ => ⟨ob, k, hx⟩, ?_⟩, ?_, ?_⟩
    · rw [hx]
      exact ⟨ti, cs, vs, h1, h2, h3, h4, h5, cont_of fun j hj => by have := e2 j hj; rw [show (AS.putO { σ with m := σ.m.setObj ob (.cells (cs.take k ++ vs ++ cs.drop (k + vs.length))) } x.dst r).n = σ.n by cases x.dst <;> rfl] at this; exact this⟩
    · exact (yld_putO a3).2 (yld_mem hl hy)
    · rw [e1]
      exact putO_comm _ r _ a2

/-- Whatever order is picked from here on. -/
def anyA (P : Program) (Γ : Env) (ops : Array Oper) (K : AS → Prop) : Nat → Array Bool → AS → Prop
  | 0, L, σ => Region.ready .any ops L = [] ∧ K σ
  | f + 1, L, σ => (Region.ready .any ops L = [] → K σ) ∧ ∀ i ∈ Region.ready .any ops L, ∃ o σ', ops[i]? = some o ∧ Stp P Γ ops σ o σ' ∧ anyA P Γ ops K f (L.setIfInBounds i true) σ'

/-- What may come up now may be taken first. -/
theorem anyA_first {i : Nat} {oi : Oper} {r : AV} (hi : ops[i]? = some oi) : ∀ (f : Nat) (L : Array Bool) (σ : AS),
    (∀ j oj, ops[j]? = some oj → j ≠ i → L.getD j true = false → (∀ e ∈ oj.after, Region.binds .any e = true → e.on ≠ i) → oi.apart ops oj = true ∧ memOk oi oj = true) →
    i ∈ Region.ready .any ops L → Yld P Γ ops σ oi r → anyA P Γ ops K f (L.setIfInBounds i true) (σ.putO oi.dst r) → anyA P Γ ops K (f + 1) L σ := by
  intro f
  induction f with
  | zero =>
    intro L σ _ hr hy H
    refine ⟨fun h => (by rw [h] at hr; cases hr), fun j hj => ?_⟩
    by_cases hji : j = i
    · subst hji; exact ⟨oi, _, hi, .inl ⟨r, hy, rfl⟩, H⟩
    · have := ready_mono hj hji
      rw [H.1] at this
      cases this
  | succ f ih =>
    intro L σ hfree hr hy H
    refine ⟨fun h => (by rw [h] at hr; cases hr), fun j hj => ?_⟩
    by_cases hji : j = i
    · subst hji; exact ⟨oi, _, hi, .inl ⟨r, hy, rfl⟩, H⟩
    · obtain ⟨oj, σ', hoj, hyj, hK⟩ := H.2 j (ready_mono hj hji)
      obtain ⟨hjun, oj', hoj', hall⟩ := mem_ready.1 hj
      rw [hoj] at hoj'
      obtain rfl := Option.some.inj hoj'
      have hnot : ∀ e ∈ oj.after, Region.binds .any e = true → e.on ≠ i := fun e he hb heq => by
        have h1 := hall e he hb
        have h0 := (mem_ready.1 hr).1
        rw [heq] at h1
        rcases Nat.lt_or_ge i L.size with h' | h'
        · simp [h'] at h0 h1; rw [h0] at h1; cases h1
        · simp [Array.getElem?_eq_none h'] at h1
      obtain ⟨hap, hmo⟩ := hfree j oj hoj hji hjun hnot
      obtain ⟨a1, a2, a3⟩ := Oper.apart_spec hap
      have hfree' : ∀ k ok, ops[k]? = some ok → k ≠ i → (L.setIfInBounds j true).getD k true = false → (∀ e ∈ ok.after, Region.binds .any e = true → e.on ≠ i) → oi.apart ops ok = true ∧ memOk oi ok = true := by
        intro k ok hk hki hun hno
        refine hfree k ok hk hki ?_ hno
        by_cases hjk : j = k
        · subst hjk; exact hjun
        · rw [getD_set_ne true hjk] at hun; exact hun
      rcases hyj with ⟨rj, hyj, rfl⟩ | ⟨hm, hg, hv⟩
      · refine ⟨oj, _, hoj, .inl ⟨rj, (yld_putO a1).1 hyj, rfl⟩, ?_⟩
        refine ih (L.setIfInBounds j true) (σ.putO oj.dst rj) hfree' (ready_mono hr (Ne.symm hji)) ((yld_putO a3).2 hy) ?_
        rw [Array.setIfInBounds_comm _ _ hji, ← putO_comm σ r rj a2]
        exact hK
      · obtain ⟨σm, h1, h2, h3⟩ := mem_comm hm hmo a1 a2 a3 hy hv
        refine ⟨oj, σm, hoj, .inr ⟨hm, by rw [← gval_putO a1]; exact hg, h1⟩, ?_⟩
        refine ih (L.setIfInBounds j true) σm hfree' (ready_mono hr (Ne.symm hji)) h2 ?_
        rw [Array.setIfInBounds_comm _ _ hji, ← h3]
        exact hK
/-- What turns the memory comes alone. -/
theorem anyA_alone {i : Nat} {oi : Oper} {σ' : AS} (hi : ops[i]? = some oi) (f : Nat) (L : Array Bool) (σ : AS)
    (halone : ∀ j oj, ops[j]? = some oj → j ≠ i → L.getD j true = false → ¬ (∀ e ∈ oj.after, Region.binds .any e = true → e.on ≠ i))
    (hr : i ∈ Region.ready .any ops L) (hs : Stp P Γ ops σ oi σ') (H : anyA P Γ ops K f (L.setIfInBounds i true) σ') : anyA P Γ ops K (f + 1) L σ := by
  refine ⟨fun h => (by rw [h] at hr; cases hr), fun j hj => ?_⟩
  by_cases hji : j = i
  · subst hji; exact ⟨oi, _, hi, hs, H⟩
  · exfalso
    obtain ⟨hjun, oj, hoj, hall⟩ := mem_ready.1 hj
    refine halone j oj hoj hji hjun fun e he hb heq => ?_
    have h1 := hall e he hb
    have h0 := (mem_ready.1 hr).1
    rw [heq] at h1
    rcases Nat.lt_or_ge i L.size with h' | h'
    · simp [h'] at h0 h1; rw [h0] at h1; cases h1
    · simp [Array.getElem?_eq_none h'] at h1

omit [Tabs] in
theorem memB_spec (h : memB ops = true) {i j : Nat} {x y : Oper} (hx : ops[i]? = some x) (hy : ops[j]? = some y) (hij : i < j) : (∀ e ∈ y.after, Region.binds .any e = true → e.on ≠ i) → memOk x y = true := by
  intro hno
  unfold memB at h
  rw [Bool.or_eq_true] at h
  rcases h with h | h
  · have hall : ∀ o ∈ ops, isMem o = false := by
      intro o ho
      have : ops.any isMem = false := by simpa using h
      rw [Array.any_eq_false'] at this
      simpa using this o ho
    have h1 := hall x (Array.mem_of_getElem? hx)
    have h2 := hall y (Array.mem_of_getElem? hy)
    have h3 : isStore y = false := by
      unfold isMem at h2
      unfold isStore
      split <;> simp_all
    simp [memOk, h1, h3]
  · have hil := (Array.getElem?_eq_some_iff.1 hx).1
    have hjl := (Array.getElem?_eq_some_iff.1 hy).1
    have h1 := List.all_eq_true.1 (List.all_eq_true.1 h i (by simpa using hil)) j (by simpa using hjl)
    rw [hx, hy] at h1
    simp only [Bool.or_eq_true, decide_eq_true_eq] at h1
    rcases h1 with (h1 | h1) | h1
    · omega
    · exfalso
      unfold boundTo at h1
      rw [Array.any_eq_true'] at h1
      obtain ⟨e, he, h2⟩ := h1
      simp only [Bool.and_eq_true, beq_iff_eq] at h2
      exact hno e he h2.1 h2.2
    · exact h1

theorem anyA_lex (hM : memB ops = true) : ∀ (l : List Oper) (k : Nat) (L : Array Bool) (σ : AS), (∀ j : Nat, l[j]? = ops[k + j]?) → (∀ j, j < k → L.getD j true = true) → Region.lexFrom .any ops l.length k L = true → vcOps P Γ true ops l K σ → anyA P Γ ops K l.length L σ
  | [], _, _, _, _, _, hB, h => ⟨by simpa [Region.lexFrom] using hB, h⟩
  | o :: l, k, L, σ, hl, hd, hB, h => by
    have h0 : ops[k]? = some o := by simpa using (hl 0).symm
    simp only [List.length_cons, Region.lexFrom, Bool.and_eq_true] at hB
    obtain ⟨⟨hr, hf⟩, hB'⟩ := hB
    obtain ⟨σ', hs, hK⟩ := stp_of h
    have hfree := Region.free_spec h0 hf
    have hgt : ∀ j, j ≠ k → L.getD j true = false → k < j := fun j hj hu => by
      rcases Nat.lt_or_ge k j with h | h
      · exact h
      · have := hd j (by omega)
        rw [this] at hu; cases hu
    have hnext := anyA_lex hM l (k + 1) (L.setIfInBounds k true) σ' (fun j => by have := hl (j + 1); simpa [Nat.add_assoc, Nat.add_comm 1 j] using this) (fun j hj => by
      by_cases hjk : k = j
      · subst hjk
        rcases Nat.lt_or_ge k L.size with h' | h'
        · simp [Array.getD_eq_getD_getElem?, h']
        · simp [Array.getD_eq_getD_getElem?, h']
      · rw [getD_set_ne true hjk]; exact hd j (by omega)) hB' hK
    have hmo : ∀ j oj, ops[j]? = some oj → j ≠ k → L.getD j true = false → (∀ e ∈ oj.after, Region.binds .any e = true → e.on ≠ k) → memOk o oj = true := fun j oj hoj hjk hun hno => memB_spec hM h0 hoj (hgt j hjk hun) hno
    cases hm : isMem o with
    | true =>
      refine anyA_alone h0 l.length L σ (fun j oj hoj hjk hun hno => ?_) (by simpa using hr) hs hnext
      have := hmo j oj hoj hjk hun hno
      simp [memOk, hm] at this
    | false =>
      rcases hs with ⟨r, hy, rfl⟩ | ⟨h1, _⟩
      · exact anyA_first h0 l.length L σ (fun j oj hoj hjk hun hno => ⟨hfree j oj hoj hjk hun hno, hmo j oj hoj hjk hun hno⟩) (by simpa using hr) hy hnext
      · rw [hm] at h1; cases h1

variable {w0 : World} {F0 : Nat → Nat} {Fp : Nat → Prop} {X : Nat → Nat → Value} {G : Gh} {w : World} {a : Act} {σ : AS}

theorem gval_ok (h : Rel w0 F0 Fp X G w a σ) {o : Oper} {b : Bool} (hg : gval ops σ o = some b) : Region.wanted o (yielded ops a.tmps) = b := by
  unfold gval at hg
  cases hgd : o.guard with
  | none => rw [hgd] at hg; simp at hg; subst hg; simp [Region.wanted, hgd]
  | some jw =>
    obtain ⟨j, want⟩ := jw
    rw [hgd] at hg
    simp only at hg
    have hw : Region.wanted o (yielded ops a.tmps) = (yielded ops a.tmps j == some want) := by simp [Region.wanted, hgd]
    cases hd : (ops[j]?).bind (·.dst) with
    | none =>
      rw [hd] at hg; simp at hg
      rw [hw, hg]; simp [yielded, hd]
    | some d =>
      rw [hd] at hg
      simp only at hg
      have ht := h.tm d
      split at hg
      · rename_i c hc
        simp only [Option.some.injEq] at hg
        rw [hc] at ht
        have e1 := ht.v_inv
        have e2 : a.tmps[d]? = some (.bool c) := by
          rw [Array.getD_eq_getD_getElem?] at e1
          cases hx : a.tmps[d]? with
          | none => rw [hx] at e1; cases e1
          | some x => rw [hx] at e1; simp only [Option.getD_some] at e1; rw [e1]
        have e3 : yielded ops a.tmps j = some c := by simp [yielded, hd, e2]
        rw [hw, e3, ← hg]
        cases c <;> cases want <;> rfl
      · rename_i t hc
        simp only [Option.some.injEq] at hg
        rw [hc] at ht
        have e1 := ht.v_inv
        have e3 : yielded ops a.tmps j = none := by
          unfold yielded
          rw [hd]
          simp only [Option.bind_some]
          rw [Array.getD_eq_getD_getElem?] at e1
          cases hx : a.tmps[d]? with
          | none => rfl
          | some x => rw [hx] at e1; simp only [Option.getD_some] at e1; rw [e1]
        rw [hw, e3, ← hg]; rfl
      · cases hg

theorem putO_ok (h : Rel w0 F0 Fp X G w a σ) {d : Option Nat} {x : Value} {r : AV} (hx : VR G w x r) (hd : ∀ k, d = some k → k < σ.n) : Rel w0 F0 Fp X G w (a.put d x) (σ.putO d r) := by
  cases d with
  | none => exact h
  | some k => exact h.put hx (hd k rfl)

/-- An operation, run, answers what it is told to. -/
theorem aRes_ok (hΓ : GoodEnv P Γ) (h : Rel w0 F0 Fp X G w a σ) {o : Oper} {r : AV} (hr : aRes P Γ σ o r) (hd : ∀ k, o.dst = some k → k < σ.n) {next : Act → World → Prop} {Q : Exit → Act → World → Prop}
    (hK : ∀ G' w' x, Rel w0 F0 Fp X G' w' (a.put o.dst x) (σ.putO o.dst r) → next (a.put o.dst x) w') : o.wp P a w next Q := by
  unfold aRes at hr
  split at hr
  · rename_i f args argTypes ho
    obtain ⟨hs, hr⟩ := hr
    have hfv := ev_ok h f
    unfold aCall at hr
    cases hf : ev σ f with
    | fn g caps =>
      rw [hf] at hr hfv
      obtain ⟨C, hC, i, hi, hp, hown, htk, r0, hu, rfl⟩ := hr
      generalize hz : a.eval f = z at hfv
      cases hfv with
      | fn _ arr _ hsz hcs =>
        have hg := Env_get hΓ hC
        obtain ⟨h1, h2⟩ := call_args (P := P) h (args := args.toList) (ts := argTypes.toList) (by simpa using hs) hsz hcs
        have hcall := call_ok hg h h1 h2 hi (by rw [htk]; trivial)
        unfold Oper.wp
        rw [call_run ho hz hg.1 w, Oper.upon_enter]
        have e1 : (args.toList.map a.eval).toArray = args.map a.eval := by rw [← Array.toList_map, Array.toArray_toList]
        rw [e1] at hcall
        refine hcall.mono ?_
        rintro ed w' ⟨v, r', G', rfl, hpost, hr2, hvr⟩
        have e2 := hu r' hpost
        subst e2
        have hm : after C σ.m (List.zipWith (fun x t => evT P t σ x) args.toList argTypes.toList ++ caps) r' = σ.m := by
          unfold after
          rw [hown]
          simp only [htk, tlOf, lvCall]
          rcases hp with hp | hp
          · simp [hp]
          · rw [hp]
            have : kill σ.m.fm [] σ.m.lv = σ.m.lv := by funext l; simp [kill]
            rw [this]; simp
        rw [hm] at hr2
        rw [hown] at hvr
        exact hK G' w' v (putO_ok hr2 hvr hd)
    | _ => rw [hf] at hr; exact hr.elim
  · rename_i t n parts ho
    obtain ⟨w', G', x, hrun, hr', hvr⟩ := dead_ok h hr
    unfold Oper.wp
    have : (execOp a.eval o).run P w = .ok (.value x) w' := by simp only [execOp, ho, Sem.run_bind, hrun, Result.andThen_ok, Sem.run_pure]
    rw [this, Oper.upon_value]
    exact hK G' w' x (putO_ok hr' hvr hd)
  · obtain ⟨x, hx, hvr⟩ := popAll_ok h hr
    unfold Oper.wp
    rw [hx w (Ext.refl w), Oper.upon_value]
    exact hK G w x (putO_ok h hvr hd)

theorem anyA_ok (hΓ : GoodEnv P Γ) {Q : Exit → Act → World → Prop} (hQ : ∀ G w a σ, Rel w0 F0 Fp X G w a σ → K σ → Q .normal a w) : ∀ (f : Nat) (L : Array Bool) {G : Gh} {w : World} {a : Act} {σ : AS}, Rel w0 F0 Fp X G w a σ →
    anyA P Γ ops K f L σ → wpAny P .any ops Q f L a w
  | 0, L, _, _, _, _, hr, h => ⟨h.1, hQ _ _ _ _ hr h.2⟩
  | f + 1, L, _, _, _, _, hr, h => ⟨fun h0 => hQ _ _ _ _ hr (h.1 h0), fun i hi => by
    obtain ⟨o, σ', ho, hs, hK⟩ := h.2 i hi
    unfold wpOp
    rw [ho]
    simp only
    rcases hs with ⟨r, ⟨hd, hy⟩, rfl⟩ | ⟨hm, hg, hv⟩
    · rcases hy with ⟨h1, h2⟩ | ⟨h1, rfl⟩
      · rw [if_pos (gval_ok hr h1)]
        exact .inl (aRes_ok hΓ hr h2 hd fun G' w' x hr' => anyA_ok hΓ hQ f _ hr' hK)
      · rw [if_neg (by rw [gval_ok hr h1]; simp)]
        exact anyA_ok hΓ hQ f _ (putO_ok hr (VR.v undef) hd) hK
    · rw [if_pos (gval_ok hr hg)]
      exact .inl (vcOp_ok hΓ hr (fun G' w' a' s hr' hs' => anyA_ok hΓ hQ f _ hr' (by rw [hs']; exact hK)) (mem_false hm hv))⟩

/-- A region that draws its order. -/
theorem drawn_ok (hΓ : GoodEnv P Γ) (h : Rel w0 F0 Fp X G w a σ) {id : Nat} {Q : Exit → Act → World → Prop} (hm : P.follows .mixedOrders = true) (hB : lexM ops = true) (hv : vcOps P Γ true ops ops.toList K σ)
    (hQ : ∀ G w a σ, Rel w0 F0 Fp X G w a σ → K σ → Q .normal a w) : (Code.region id ops true).wp P Q a w := by
  simp only [lexM, Region.lexB, Bool.and_eq_true] at hB
  refine wp_region_any hm ?_
  have h1 := anyA_lex hB.2 ops.toList 0 (Array.replicate ops.size false) σ (by simp) (fun j hj => absurd hj (Nat.not_lt_zero _)) (by simpa using hB.1.2) hv
  have hb : Below w.heap.size w { w with drawn := w.drawn + 1 } := Below.drew (Below.refl _ _)
  exact anyA_ok hΓ hQ _ _ (h.below hb) (by simpa using h1)
end
end Go.Rw
end

-- RwCode
section
namespace Go.Rw
open Go Go.RowKit
set_option linter.unusedSimpArgs false
set_option linter.unusedVariables false

section
variable {P : Program} [Tabs] {w0 : World} {F0 : Nat → Nat} {Fp : Nat → Prop} {X : Nat → Nat → Value} {G G' : Gh} {w w' : World} {a : Act} {σ : AS} {m : AM} {g : Nat}

theorem guarded_ok (h : Rel w0 F0 Fp X G w a σ) {ops : Array Oper} {o : Oper} {yes no : Prop} (hg : guarded ops σ o yes no) :
    (Region.wanted o (yielded ops a.tmps) = true ∧ yes) ∨ (Region.wanted o (yielded ops a.tmps) = false ∧ no) := by
  unfold guarded at hg
  cases hgd : o.guard with
  | none => rw [hgd] at hg; exact .inl ⟨by simp [Region.wanted, hgd], hg⟩
  | some jw =>
    obtain ⟨j, want⟩ := jw
    rw [hgd] at hg
    simp only at hg
    have hw : Region.wanted o (yielded ops a.tmps) = (yielded ops a.tmps j == some want) := by simp [Region.wanted, hgd]
    cases hd : (ops[j]?).bind (·.dst) with
    | none =>
      rw [hd] at hg
      refine .inr ⟨?_, hg⟩
      rw [hw]; simp [yielded, hd]
    | some d =>
      rw [hd] at hg
      simp only at hg
      have ht := h.tm d
      split at hg
      · rename_i b hb
        rw [hb] at ht
        have e1 := ht.v_inv
        have e2 : a.tmps[d]? = some (.bool b) := by
          rw [Array.getD_eq_getD_getElem?] at e1
          cases hx : a.tmps[d]? with
          | none => rw [hx] at e1; cases e1
          | some x => rw [hx] at e1; simp only [Option.getD_some] at e1; rw [e1]
        have e3 : yielded ops a.tmps j = some b := by simp [yielded, hd, e2]
        rw [hw, e3]
        split at hg
        · rename_i hbw; exact .inl ⟨by simp [hbw], hg⟩
        · rename_i hbw; exact .inr ⟨by simp [hbw], hg⟩
      · rename_i t hb
        rw [hb] at ht
        have e1 := ht.v_inv
        have e3 : yielded ops a.tmps j = none := by
          unfold yielded
          rw [hd]
          simp only [Option.bind_some]
          rw [Array.getD_eq_getD_getElem?] at e1
          cases hx : a.tmps[d]? with
          | none => rfl
          | some x => rw [hx] at e1; simp only [Option.getD_some] at e1; rw [e1]
        rw [hw, e3]
        exact .inr ⟨rfl, hg⟩
      · exact hg.elim

/-- A region in the order of its text. -/
theorem vcOps_ok {Γ : Env} (hΓ : GoodEnv P Γ) {ops : Array Oper} {K : AS → Prop} {Q : Exit → Act → World → Prop} (hK : ∀ G' w' a' σ', Rel w0 F0 Fp X G' w' a' σ' → K σ' → Q .normal a' w') :
    ∀ (l : List Oper) {G : Gh} {w : World} {a : Act} {σ : AS}, Rel w0 F0 Fp X G w a σ → vcOps P Γ false ops l K σ → wpList P ops Q l a w
  | [], G, w, a, σ, h, hv => hK _ _ _ _ h hv
  | o :: r, G, w, a, σ, h, hv => by
    unfold vcOps at hv
    unfold wpList
    rcases guarded_ok h hv with ⟨hw, hv⟩ | ⟨hw, hv⟩
    · rw [if_pos hw]
      exact .inl (vcOp_ok hΓ h (fun G' w' a' σ' h' hk => vcOps_ok hΓ hK r h' hk) hv)
    · rw [if_neg (by simp [hw])]
      obtain ⟨σ', h1, h2⟩ := h.cont (VR.v undef) hv
      exact vcOps_ok hΓ hK r h1 h2

def thenQ (K : AS → Prop) (Q : Exit → AS → Prop) : Exit → AS → Prop
  | .normal, σ => K σ
  | e, σ => Q e σ
def blockQ (id : Nat) (Q : Exit → AS → Prop) : Exit → AS → Prop
  | .exit j, σ => if j = id then Q .normal σ else Q (.exit j) σ
  | e, σ => Q e σ

theorem AWP.mono {c : Code} {Q Q' : Exit → AS → Prop} (h : AWP P c Q σ) (hq : ∀ e σ, Q e σ → Q' e σ) : AWP P c Q' σ :=
  fun w0 F0 Fp X G w a hr => wp_mono (h w0 F0 Fp X G w a hr) fun _ _ _ ⟨G, σ, h1, h2⟩ => ⟨G, σ, h1, hq _ _ h2⟩

theorem AWP.seq {x y : Code} {Q : Exit → AS → Prop} (h : AWP P x (thenQ (AWP P y Q) Q) σ) : AWP P (.seq x y) Q σ := by
  intro w0 F0 Fp X G w a hr
  refine wp_seq (wp_mono (h w0 F0 Fp X G w a hr) ?_)
  rintro e a' w' ⟨G', σ', h1, h2⟩
  cases e with
  | normal => exact h2 w0 F0 Fp X G' w' a' h1
  | _ => exact ⟨G', σ', h1, h2⟩

theorem AWP.block {id : Nat} {c : Code} {Q : Exit → AS → Prop} (h : AWP P c (blockQ id Q) σ) : AWP P (.block id c) Q σ := by
  intro w0 F0 Fp X G w a hr
  refine wp_block (wp_mono (h w0 F0 Fp X G w a hr) ?_)
  rintro e a' w' ⟨G', σ', h1, h2⟩
  cases e with
  | exit j =>
    simp only [blockQ] at h2
    simp only [Exit.inBlock]
    split
    · rename_i hj; rw [if_pos hj] at h2; exact ⟨G', σ', h1, h2⟩
    · rename_i hj; rw [if_neg hj] at h2; exact ⟨G', σ', h1, h2⟩
  | _ => exact ⟨G', σ', h1, h2⟩

/-- The code, reckoned but for loops and scopes. -/
def vc (P : Program) (Γ : Env) : Code → (Exit → AS → Prop) → AS → Prop
  | .skip, Q, σ => Q .normal σ
  | .region _ ops false, Q, σ => vcOps P Γ false ops ops.toList (Q .normal) σ
  | .region _ ops true, Q, σ => P.follows .mixedOrders = true ∧ lexM ops = true ∧ vcOps P Γ true ops ops.toList (Q .normal) σ
  | .seq x y, Q, σ => vc P Γ x (thenQ (vc P Γ y Q) Q) σ
  | .cond c x y, Q, σ => match ev σ c with
    | .v (.bool b) => if b = true then vc P Γ x Q σ else vc P Γ y Q σ
    | _ => False
  | .block id c, Q, σ => vc P Γ c (blockQ id Q) σ
  | .exit id, Q, σ => Q (.exit id) σ
  | .label _, Q, σ => Q .normal σ
  | .goto l, Q, σ => Q (.goto l) σ
  | .ret, Q, σ => Q .ret σ
  | c, Q, σ => AWP P c Q σ

theorem vc_ok {Γ : Env} (hΓ : GoodEnv P Γ) : ∀ (c : Code) {Q : Exit → AS → Prop} {σ : AS}, vc P Γ c Q σ → AWP P c Q σ
  | .skip, Q, σ, h => fun _ _ _ _ G w a hr => wp_skip ⟨G, σ, hr, h⟩
  | .region _ ops false, Q, σ, h => fun w0 F0 Fp X G w a hr => wp_region_list (vcOps_ok hΓ (K := Q .normal) (fun G' w' a' σ' h1 h2 => ⟨G', σ', h1, h2⟩) _ hr h)
  | .region _ ops true, Q, σ, h => fun w0 F0 Fp X G w a hr =>
    drawn_ok hΓ hr (K := Q .normal) h.1 h.2.1 h.2.2 fun G' w' a' σ' h1 h2 => ⟨G', σ', h1, h2⟩
  | .seq x y, Q, σ, h => AWP.seq ((vc_ok hΓ x h).mono fun e σ' h2 => by
      cases e with
      | normal => exact vc_ok hΓ y h2
      | _ => exact h2)
  | .cond c x y, Q, σ, h => fun w0 F0 Fp X G w a hr => by
    simp only [vc] at h
    split at h
    · rename_i b hb
      have hc : a.eval c = .bool b := ev_v hr hb
      refine wp_cond hc ?_
      split at h
      · rename_i hbt; subst hbt; exact vc_ok hΓ x h w0 F0 Fp X G w a hr
      · rename_i hbt
        have : b = false := by simpa using hbt
        subst this
        exact vc_ok hΓ y h w0 F0 Fp X G w a hr
    · exact h.elim
  | .block id c, Q, σ, h => AWP.block (vc_ok hΓ c h)
  | .exit id, Q, σ, h => fun _ _ _ _ G w a hr => wp_exit ⟨G, σ, hr, h⟩
  | .label l, Q, σ, h => fun _ _ _ _ G w a hr => wp_label ⟨G, σ, hr, h⟩
  | .goto l, Q, σ, h => fun _ _ _ _ G w a hr => wp_goto ⟨G, σ, hr, h⟩
  | .ret, Q, σ, h => fun _ _ _ _ G w a hr => wp_ret ⟨G, σ, hr, h⟩
  | .loop c, _, _, h => h
  | .scope c, _, _, h => h
  | .rangeFunc _ _ _ _, _, _, h => h
  | .refuse _, _, _, h => h

/-- Whoever tells σ tells σ', too. -/
def Weak (σ σ' : AS) : Prop := ∀ w0 F0 Fp X G w a, Rel w0 F0 Fp X G w a σ → ∃ G', Rel w0 F0 Fp X G' w a σ'

theorem Weak.refl (σ : AS) : Weak σ σ := fun _ _ _ _ G _ _ h => ⟨G, h⟩

theorem AWP.weak {c : Code} {Q : Exit → AS → Prop} {σ' : AS} (hw : Weak σ σ') (h : AWP P c Q σ') : AWP P c Q σ := fun w0 F0 Fp X G w a hr => by
  obtain ⟨G', hr'⟩ := hw _ _ _ _ _ _ _ hr
  exact h _ _ _ _ _ _ _ hr'

/-- A loop: what holds at each round's head, a state for each of its numbers; a measure that falls. -/
theorem AWP.loop {α : Type} {c : Code} {Q : Exit → AS → Prop} (St : α → AS) (μ : α → Nat) (x0 : α) (h0 : Weak σ (St x0))
    (hr : ∀ x, AWP P c (fun e σ' => match e with | .normal => ∃ y, μ y < μ x ∧ Weak σ' (St y) | e => Q e σ') (St x)) : AWP P (.loop c) Q σ := by
  intro w0 F0 Fp X G w a hrel
  let I : Nat → Act → World → Prop := fun n a w => ∃ x G, μ x = n ∧ Rel w0 F0 Fp X G w a (St x)
  have hex : ∀ {a w}, (∃ n, I n a w) → ∃ n, I n a w ∧ ∀ k, k < n → ¬ I k a w := by
    intro a w ⟨n, hn⟩
    induction n using Nat.strongRecOn with
    | _ n ih =>
      by_cases hk : ∃ k, k < n ∧ I k a w
      · obtain ⟨k, hk1, hk2⟩ := hk
        exact ih k hk1 hk2
      · exact ⟨n, hn, fun k hk1 hk2 => hk ⟨k, hk1, hk2⟩⟩
  let ν : Act → World → Nat := fun a w => Classical.epsilon fun n => I n a w ∧ ∀ k, k < n → ¬ I k a w
  have hν : ∀ {a w}, (∃ n, I n a w) → I (ν a w) a w ∧ ∀ k, k < ν a w → ¬ I k a w := fun h => Classical.epsilon_spec (hex h)
  obtain ⟨G1, h1⟩ := h0 _ _ _ _ _ _ _ hrel
  refine wp_loop (fun a w => ∃ n, I n a w) ν ⟨_, x0, G1, rfl, h1⟩ fun a w hI => ?_
  obtain ⟨⟨x, G2, hx, h2⟩, hmin⟩ := hν hI
  refine wp_mono (hr x w0 F0 Fp X G2 w a h2) ?_
  rintro e a' w' ⟨G3, σ', h3, h4⟩
  cases e with
  | normal =>
    obtain ⟨y, hy, hw⟩ := h4
    obtain ⟨G4, h5⟩ := hw _ _ _ _ _ _ _ h3
    have hIy : I (μ y) a' w' := ⟨y, G4, rfl, h5⟩
    refine ⟨⟨_, hIy⟩, ?_⟩
    have h6 := (hν ⟨_, hIy⟩).2
    rcases Nat.lt_or_ge (μ y) (ν a' w') with h7 | h7
    · exact absurd hIy (h6 _ h7)
    · omega
  | _ => exact ⟨G3, σ', h3, h4⟩

/-- Behind a jump to the label l: J l n, n below a bound. -/
def hopQ (J : Nat → Nat → AS → Prop) (b : Option Nat) (Q : Exit → AS → Prop) : Exit → AS → Prop
  | .goto l, σ => ∃ n, (∀ k, b = some k → n < k) ∧ ∃ σ', Weak σ σ' ∧ J l n σ'
  | e, σ => Q e σ

/-- A scope of labels. What holds at each label, with a measure that each jump lowers. -/
theorem AWP.scope {c : Code} {Q : Exit → AS → Prop} (J : Nat → Nat → AS → Prop)
    (hr : ∀ l n σ, J l n σ → ∃ rest, findLabel c l = some rest ∧ AWP P rest (hopQ J (some n) Q) σ)
    (h0 : AWP P c (hopQ J none Q) σ) : AWP P (.scope c) Q σ := by
  intro w0 F0 Fp X G w a hrel b k cs
  have hg : ∀ l rest, findLabel c l = some rest → gotoIn l (.inScope c :: k) = some (.code rest :: .inScope c :: k) := fun l rest hf => by simp [gotoIn, hf]
  have key : ∀ n l σ G a w, J l n σ → Rel w0 F0 Fp X G w a σ → ∀ rest, findLabel c l = some rest →
      ∃ e a' w', LQ w0 F0 Fp X Q e a' w' ∧ Arrives P (lone (b.at a (.code rest :: .inScope c :: k)) cs w) b k cs e a' w' := by
    intro n
    induction n using Nat.strongRecOn with
    | _ n ih =>
      intro l σ G a w hJ hrel rest hf
      obtain ⟨rest', hf', hwp⟩ := hr l n σ hJ
      rw [hf] at hf'
      obtain rfl := Option.some.inj hf'
      obtain ⟨e, a₁, w₁, ⟨G1, σ1, hr1, hq⟩, harr⟩ := hwp w0 F0 Fp X G w a hrel b (.inScope c :: k) cs
      cases e with
      | normal => exact ⟨.normal, a₁, w₁, ⟨G1, σ1, hr1, hq⟩, Steps.trans harr (.one step_inScope)⟩
      | exit id => exact ⟨.exit id, a₁, w₁, ⟨G1, σ1, hr1, hq⟩, fun k' hk => harr k' (by simp [exitTo, hk])⟩
      | goto l' =>
        obtain ⟨n', hlt, σ2, hw, hJ'⟩ := hq
        obtain ⟨G2, hr2⟩ := hw _ _ _ _ _ _ _ hr1
        obtain ⟨rest2, hf2, _⟩ := hr l' n' σ2 hJ'
        obtain ⟨e₂, a₂, w₂, hq₂, harr₂⟩ := ih n' (hlt n rfl) l' σ2 G2 a₁ w₁ hJ' hr2 rest2 hf2
        exact ⟨e₂, a₂, w₂, hq₂, .of_steps (harr _ (hg l' rest2 hf2)) harr₂⟩
      | ret => exact ⟨_, a₁, w₁, ⟨G1, σ1, hr1, hq⟩, harr⟩
      | panic ch => exact ⟨_, a₁, w₁, ⟨G1, σ1, hr1, hq⟩, harr⟩
      | outgrown => exact ⟨_, a₁, w₁, ⟨G1, σ1, hr1, hq⟩, harr⟩
  obtain ⟨e, a₁, w₁, ⟨G1, σ1, hr1, hq⟩, harr⟩ := h0 w0 F0 Fp X G w a hrel b (.inScope c :: k) cs
  cases e with
  | normal => exact ⟨.normal, a₁, w₁, ⟨G1, σ1, hr1, hq⟩, .head step_scope (Steps.trans harr (.one step_inScope))⟩
  | exit id => exact ⟨.exit id, a₁, w₁, ⟨G1, σ1, hr1, hq⟩, fun k' hk => .head step_scope (harr k' (by simp [exitTo, hk]))⟩
  | goto l' =>
    obtain ⟨n', hlt, σ2, hw, hJ'⟩ := hq
    obtain ⟨G2, hr2⟩ := hw _ _ _ _ _ _ _ hr1
    obtain ⟨rest2, hf2, _⟩ := hr l' n' σ2 hJ'
    obtain ⟨e₂, a₂, w₂, hq₂, harr₂⟩ := key n' l' σ2 G2 a₁ w₁ hJ' hr2 rest2 hf2
    exact ⟨e₂, a₂, w₂, hq₂, .of_steps (.head step_scope (harr _ (hg l' rest2 hf2))) harr₂⟩
  | ret => exact ⟨_, a₁, w₁, ⟨G1, σ1, hr1, hq⟩, .of_steps (.one step_scope) harr⟩
  | panic ch => exact ⟨_, a₁, w₁, ⟨G1, σ1, hr1, hq⟩, .of_steps (.one step_scope) harr⟩
  | outgrown => exact ⟨_, a₁, w₁, ⟨G1, σ1, hr1, hq⟩, .of_steps (.one step_scope) harr⟩
end
end Go.Rw
end
