/-
  Walks along an edit: their Kind, Len and Take, reckoned in place.
-/
import Derived.Test.YtmenbocckhbdjaaDoorXAAw0
set_option linter.unusedSimpArgs false
set_option linter.unusedVariables false
set_option linter.defProp false

-- AAw1
section
namespace Go.Proofs
open Go Go.Rw
open _root_.Nat renaming reduceAdd → N0, reduceSub → N1, reduceMul → N2, reduceLT → N3, reduceLeDiff → N4, reduceEqDiff → N5
open _root_.Int renaming reduceNeg → Z0, reduceAdd → Z1, reduceSub → Z2, reduceMul → Z3, reduceGT → Z4, reduceGE → Z5, reduceLT → Z6, reduceLE → Z7, reduceEq → Z8, reduceNe → Z9, reduceToNat → Z10, cast_ofNat_Int → Zc
set_option maxRecDepth 100000
set_option linter.unusedSimpArgs false
set_option linter.unusedVariables false

def kindL : List Cp → Int
  | [] => 0
  | c :: _ => c.k
theorem call_wkind {Γ : Env} (hΓ : GoodEnv Tryd.prog Γ) (hC : Γ.get 68 = none) {n : Nat} {t : Nat → AV} {hd : Nat → Nat → AV} {nh nl : Nat} {h : Nat → Option AO} {fm : Nat → Nat} {lv : Nat → Option (Nat × Nat)} {mu : Bool} {o : Nat} {r : List Cp} {dn : Int} {d : Option Nat} {K : AS → Prop}
    (ho : h o = some (.cells [.sl 0 3 (comps r), .v (.int .i64 dn)])) (hl : r.length ≤ 1099511627776)
    (hk : cont ⟨n, t, hd, ⟨nh, h, nl, fm, lv, mu⟩⟩ d (.v (.int .i64 (kindL r))) K) : vcCall Tryd.prog Γ false ⟨n, t, hd, ⟨nh, h, nl, fm, lv, mu⟩⟩ 68 [.ptr o 0] d K := by
  refine vcCall_inl (nn := 16) hΓ (by first | assumption | simp [get_cons, get_nil]) Tryd.func68 (by kernel_rfl) rfl (show Tryd.f68.results.toList = [.tmp 2] from rfl) rfl ?_
  simp only [goRules, coreRules, tiRules, unRules, AS_of_eq, ← decide_not, N0, N1, N2, N3, N4, N5, Z0, Z1, Z2, Z3, Z4, Z5, Z6, Z7, Z8, Z9, Z10, Zc, ↓reduceIte, reduceCtorEq, ho, comps_len]
  cases r with
  | nil =>
    simp only [goRules, coreRules, tiRules, unRules, AS_of_eq, ← decide_not, N0, N1, N2, N3, N4, N5, Z0, Z1, Z2, Z3, Z4, Z5, Z6, Z7, Z8, Z9, Z10, Zc, ↓reduceIte, reduceCtorEq, ho, comps_len, List.length_nil]
    exact hk
  | cons c r =>
    have e1 := comps_getD (c :: r) (i := 0) (by simp)
    simp only [List.getElem_cons_zero] at e1
    simp only [List.length_cons] at hl
    simp only [goRules, coreRules, tiRules, unRules, AS_of_eq, ← decide_not, N0, N1, N2, N3, N4, N5, Z0, Z1, Z2, Z3, Z4, Z5, Z6, Z7, Z8, Z9, Z10, Zc, ↓reduceIte, reduceCtorEq, ho, comps_len, e1, List.length_cons, show (((r.length + 1 : Nat) : Int) = 0) = False from eq_false (by omega)]
    (repeat (with_reducible refine And.intro ?_ ?_; focus (first | omega | exact mixed1 | kernel_rfl)))
    exact hk
def lenW : List Cp → Nat → Nat
  | [], _ => 0
  | c :: _, dn => size c - dn
theorem call_wlen {Γ : Env} (hΓ : GoodEnv Tryd.prog Γ) (hC : Γ.get 70 = none) (hD : Γ.get 68 = none) (hR : Γ.get 66 = some rcCon) {n : Nat} {t : Nat → AV} {hd : Nat → Nat → AV} {nh nl : Nat} {h : Nat → Option AO} {fm : Nat → Nat} {lv : Nat → Option (Nat × Nat)} {mu : Bool} {o : Nat} {r : List Cp} {dn : Nat} {d : Option Nat} {K : AS → Prop}
    (ho : h o = some (.cells [.sl 0 3 (comps r), .v (.int .i64 dn)])) (hl : okL r) (hs : ∀ c ∈ r, sound c = true) (hdn : dn ≤ 1099511627776) (hdl : r ≠ [] → dn ≤ size (r.headD ⟨0, 0, []⟩))
    (hk : cont ⟨n, t, hd, ⟨nh, h, nl, fm, lv, mu⟩⟩ d (.v (.int .i64 (lenW r dn))) K) : vcCall Tryd.prog Γ false ⟨n, t, hd, ⟨nh, h, nl, fm, lv, mu⟩⟩ 70 [.ptr o 0] d K := by
  refine vcCall_inl (nn := 34) hΓ (by first | assumption | simp [get_cons, get_nil]) Tryd.func70 (by kernel_rfl) rfl (show Tryd.f70.results.toList = [.tmp 2] from rfl) rfl ?_
  simp only [goRules, coreRules, tiRules, unRules, AS_of_eq, ← decide_not, N0, N1, N2, N3, N4, N5, Z0, Z1, Z2, Z3, Z4, Z5, Z6, Z7, Z8, Z9, Z10, Zc, ↓reduceIte, reduceCtorEq, ho, comps_len]
  refine call_wkind hΓ hD ho hl.1 ?_
  cases r with
  | nil =>
    simp only [goRules, coreRules, tiRules, unRules, AS_of_eq, ← decide_not, N0, N1, N2, N3, N4, N5, Z0, Z1, Z2, Z3, Z4, Z5, Z6, Z7, Z8, Z9, Z10, Zc, ↓reduceIte, reduceCtorEq, kindL]
    exact hk
  | cons c r =>
    have e1 := comps_getD (c :: r) (i := 0) (by simp)
    have hsc := sound_cases (hs c (by simp))
    have htl := hl.text (c := c) (by simp)
    have hcn := hl.2.2 c (by simp)
    have hz := hdl (by simp)
    simp only [List.getElem_cons_zero] at e1
    simp only [List.headD_cons] at hz
    have hll := hl.1
    simp only [List.length_cons] at hll
    simp only [lenW] at hk
    obtain ⟨ck, cn, ct⟩ := c
    rw [kindL]
    by_cases h2 : ck = 2
    · subst h2
      rcases hsc with ⟨_, _, _, hv⟩ | ⟨h, _⟩
      case inr => simp at h
      rw [size, if_pos rfl] at hz hk
      dsimp only at hz hk htl hcn
      have hcl := cpts_len ct
      simp only [goRules, coreRules, tiRules, unRules, AS_of_eq, ← decide_not, N0, N1, N2, N3, N4, N5, Z0, Z1, Z2, Z3, Z4, Z5, Z6, Z7, Z8, Z9, Z10, Zc, ↓reduceIte, reduceCtorEq, ho, comps_len, e1, List.length_cons]
      (repeat (with_reducible refine And.intro ?_ ?_; focus (first | omega | exact mixed1 | kernel_rfl)))
      refine call_rc (by first | assumption | simp [get_cons]) htl ?_
      rw [lc_cpts hv]
      simp only [goRules, coreRules, tiRules, unRules, AS_of_eq, ← decide_not, N0, N1, N2, N3, N4, N5, Z0, Z1, Z2, Z3, Z4, Z5, Z6, Z7, Z8, Z9, Z10, Zc, ↓reduceIte, reduceCtorEq, ho, comps_len, e1, List.length_cons, wrap_i64 (n := ((cpts ct).length : Int) - dn) (by omega) (by omega)]
      rw [show ((cpts ct).length : Int) - dn = (((cpts ct).length - dn : Nat) : Int) by omega]
      exact hk
    · have hne : ¬ ck = 0 := by
        rcases hsc with ⟨h, _⟩ | ⟨h, _⟩
        · exact absurd h h2
        · simp only at h; omega
      rcases hsc with ⟨h, _⟩ | ⟨_, hp, _⟩
      · exact absurd h h2
      rw [size, if_neg h2] at hz hk
      dsimp only at hz hk hp hcn
      simp only [goRules, coreRules, tiRules, unRules, AS_of_eq, ← decide_not, N0, N1, N2, N3, N4, N5, Z0, Z1, Z2, Z3, Z4, Z5, Z6, Z7, Z8, Z9, Z10, Zc, ↓reduceIte, reduceCtorEq, ho, comps_len, e1, List.length_cons, h2, hne, wrap_i64 (n := cn - dn) (by omega) (by omega)]
      (repeat (with_reducible refine And.intro ?_ ?_; focus (first | omega | exact mixed1 | kernel_rfl)))
      rw [show cn - dn = ((cn.toNat - dn : Nat) : Int) by omega]
      exact hk
theorem comps_tail (c : Cp) (r : List Cp) : partA 0 3 (comps (c :: r)) 1 (r.length + 1) = .sl 0 3 (comps r) := by
  unfold partA
  rw [if_neg (by omega)]
  simp only [comps, List.map_cons, List.drop_succ_cons, List.drop_zero, Nat.add_sub_cancel]
  rw [List.take_of_length_le (by simp)]
def part (c : Cp) (dn m : Nat) : Cp := if c.k = 2 then ⟨c.k, c.n, encs (((cpts c.t).drop dn).take m)⟩ else ⟨c.k, m, c.t⟩
def advR (c : Cp) (r : List Cp) (dn m : Nat) : List Cp := if dn + m = size c then r else c :: r
def advD (c : Cp) (dn m : Nat) : Nat := if dn + m = size c then 0 else dn + m
theorem call_wtake {Γ : Env} (hΓ : GoodEnv Tryd.prog Γ) (hC : Γ.get 69 = none) (hE : Γ.get 70 = none) (hD : Γ.get 68 = none) (hR : Γ.get 66 = some rcCon) (hS : Γ.get 88 = some sliceCon) {n : Nat} {t : Nat → AV} {hd : Nat → Nat → AV} {nh nl : Nat} {h : Nat → Option AO} {fm : Nat → Nat} {lv : Nat → Option (Nat × Nat)} {mu : Bool} {o : Nat} {c : Cp} {r : List Cp} {dn m : Nat} {d : Option Nat} {K : AS → Prop}
    (hn : o < nh) (ho : h o = some (.cells [.sl 0 3 (comps (c :: r)), .v (.int .i64 dn)])) (hl : okL (c :: r)) (hs : ∀ x ∈ c :: r, sound x = true) (hdn : dn + m ≤ size c) (hb : size c ≤ 1099511627776)
    (hk : ∀ h' : Nat → Option AO, h' o = some (.cells [.sl 0 3 (comps (advR c r dn m)), .v (.int .i64 (advD c dn m))]) → (∀ j, j < nh → j ≠ o → h' j = h j) → cont ⟨n, t, hd, ⟨nh + 2, h', nl, fm, lv, mu⟩⟩ d (cA (part c dn m)) K) :
    vcCall Tryd.prog Γ false ⟨n, t, hd, ⟨nh, h, nl, fm, lv, mu⟩⟩ 69 [.ptr o 0, .v (.int .i64 m)] d K := by
  have e1 := comps_getD (c :: r) (i := 0) (by simp)
  have hsc := sound_cases (hs c (by simp))
  have htl := hl.text (c := c) (by simp)
  have hcn := hl.2.2 c (by simp)
  simp only [List.getElem_cons_zero] at e1
  have hll := hl.1
  simp only [List.length_cons] at hll
  have hcl := cpts_len c.t
  have q1 : (o = nh) = False := eq_false (by omega)
  have q2 : (o = nh + 1) = False := eq_false (by omega)
  have q3 : (nh = o) = False := eq_false (by omega)
  have q4 : (nh + 1 = o) = False := eq_false (by omega)
  have q5 : (nh = nh + 1) = False := eq_false (by omega)
  have q6 : (nh + 1 = nh) = False := eq_false (by omega)
  refine vcCall_inl (nn := 60) hΓ (by first | assumption | simp [get_cons, get_nil]) Tryd.func69 (by kernel_rfl) rfl (show Tryd.f69.results.toList = [.cell 4 32] from rfl) rfl ?_
  simp only [goRules, coreRules, tiRules, unRules, AS_of_eq, ← decide_not, N0, N1, N2, N3, N4, N5, Z0, Z1, Z2, Z3, Z4, Z5, Z6, Z7, Z8, Z9, Z10, Zc, ↓reduceIte, reduceCtorEq, ho, comps_len, e1, List.length_cons, q1, q2, q3, q4, q5, q6]
  (repeat (with_reducible refine And.intro ?_ ?_; focus (first | omega | exact mixed1 | kernel_rfl)))
  refine call_wlen hΓ hE hD hR (dn := dn) (r := c :: r) (by simp only [upd, q1, q2, if_false]; exact ho) hl hs (by omega) (by simp; omega) ?_
  rw [lenW]
  have q7 : IntKind.wrap .i64 ((dn : Int) + m) = ((dn + m : Nat) : Int) := by rw [wrap_i64 (by omega) (by omega)]; omega
  by_cases h2 : c.k = 2
  · rw [part, if_pos h2] at hk
    have hz : size c = (cpts c.t).length := by rw [size, if_pos h2]
    have hv : pts c.t = some (cpts c.t) := by
      rcases hsc with ⟨_, _, _, hv⟩ | ⟨h, _⟩
      · exact isSome_cpts hv
      · omega
    have hr : sliceR c.t dn ((dn + m : Nat) : Int) = res2 (.v (sv (encs (((cpts c.t).drop dn).take m)))) 0 := by
      unfold sliceR
      rw [hv]
      simp only
      rw [if_pos (by omega), Int.toNat_natCast, Int.toNat_natCast, show dn + m - dn = m by omega]
    simp only [goRules, coreRules, tiRules, unRules, AS_of_eq, ← decide_not, N0, N1, N2, N3, N4, N5, Z0, Z1, Z2, Z3, Z4, Z5, Z6, Z7, Z8, Z9, Z10, Zc, ↓reduceIte, reduceCtorEq, ho, comps_len, e1, List.length_cons, comps_tail, h2, q1, q2, q3, q4, q5, q6, q7]
    (repeat (with_reducible refine And.intro ?_ ?_; focus (first | omega | exact mixed1 | kernel_rfl)))
    refine call_slice (by first | assumption | simp [get_cons]) htl (by omega) (by omega) ?_
    rw [hr]
    by_cases h3 : dn + m = size c
    · rw [advR, if_pos h3, advD, if_pos h3] at hk
      simp only [goRules, coreRules, tiRules, unRules, AS_of_eq, ← decide_not, N0, N1, N2, N3, N4, N5, Z0, Z1, Z2, Z3, Z4, Z5, Z6, Z7, Z8, Z9, Z10, Zc, ↓reduceIte, reduceCtorEq, ho, comps_len, e1, List.length_cons, comps_tail, h2, q1, q2, q3, q4, q5, q6, q7, res2, show ((m : Int) = ((size c - dn : Nat) : Int)) = True from eq_true (by omega)]
      (repeat (with_reducible refine And.intro ?_ ?_; focus (first | omega | exact mixed1 | kernel_rfl)))
      try rw [h2] at hk
      refine hk _ ?_ ?_
      · simp only [upd, q1, q2, if_true, if_false] <;> rfl
      · intro j hj hne
        simp only [upd, if_neg hne, if_neg (show ¬ j = nh by omega), if_neg (show ¬ j = nh + 1 by omega)]
    · rw [advR, if_neg h3, advD, if_neg h3] at hk
      simp only [goRules, coreRules, tiRules, unRules, AS_of_eq, ← decide_not, N0, N1, N2, N3, N4, N5, Z0, Z1, Z2, Z3, Z4, Z5, Z6, Z7, Z8, Z9, Z10, Zc, ↓reduceIte, reduceCtorEq, ho, comps_len, e1, List.length_cons, comps_tail, h2, q1, q2, q3, q4, q5, q6, q7, res2, show ((m : Int) = ((size c - dn : Nat) : Int)) = False from eq_false (by omega)]
      (repeat (with_reducible refine And.intro ?_ ?_; focus (first | omega | exact mixed1 | kernel_rfl)))
      try rw [h2] at hk
      refine hk _ ?_ ?_
      · simp only [upd, q1, q2, if_true, if_false] <;> rfl
      · intro j hj hne
        simp only [upd, if_neg hne, if_neg (show ¬ j = nh by omega), if_neg (show ¬ j = nh + 1 by omega)]
  · rw [part, if_neg h2] at hk
    by_cases h3 : dn + m = size c
    · rw [advR, if_pos h3, advD, if_pos h3] at hk
      simp only [goRules, coreRules, tiRules, unRules, AS_of_eq, ← decide_not, N0, N1, N2, N3, N4, N5, Z0, Z1, Z2, Z3, Z4, Z5, Z6, Z7, Z8, Z9, Z10, Zc, ↓reduceIte, reduceCtorEq, ho, comps_len, e1, List.length_cons, comps_tail, h2, q1, q2, q3, q4, q5, q6, q7, show ((m : Int) = ((size c - dn : Nat) : Int)) = True from eq_true (by omega)]
      (repeat (with_reducible refine And.intro ?_ ?_; focus (first | omega | exact mixed1 | kernel_rfl)))
      try rw [h2] at hk
      refine hk _ ?_ ?_
      · simp only [upd, q1, q2, if_true, if_false] <;> rfl
      · intro j hj hne
        simp only [upd, if_neg hne, if_neg (show ¬ j = nh by omega), if_neg (show ¬ j = nh + 1 by omega)]
    · rw [advR, if_neg h3, advD, if_neg h3] at hk
      simp only [goRules, coreRules, tiRules, unRules, AS_of_eq, ← decide_not, N0, N1, N2, N3, N4, N5, Z0, Z1, Z2, Z3, Z4, Z5, Z6, Z7, Z8, Z9, Z10, Zc, ↓reduceIte, reduceCtorEq, ho, comps_len, e1, List.length_cons, comps_tail, h2, q1, q2, q3, q4, q5, q6, q7, show ((m : Int) = ((size c - dn : Nat) : Int)) = False from eq_false (by omega)]
      (repeat (with_reducible refine And.intro ?_ ?_; focus (first | omega | exact mixed1 | kernel_rfl)))
      try rw [h2] at hk
      refine hk _ ?_ ?_
      · simp only [upd, q1, q2, if_true, if_false] <;> rfl
      · intro j hj hne
        simp only [upd, if_neg hne, if_neg (show ¬ j = nh by omega), if_neg (show ¬ j = nh + 1 by omega)]
end Go.Proofs
end
