/-
  CursorOdd answers true.
-/
import Derived.Test.YtknbfkmgoijncaaDoorXBUc4
set_option linter.unusedSimpArgs false
set_option linter.unusedVariables false
set_option linter.defProp false

-- BUc7
section
namespace Go.Proofs
open Go Go.Rw
open _root_.Nat renaming reduceAdd → N0, reduceSub → N1, reduceMul → N2, reduceLT → N3, reduceLeDiff → N4, reduceEqDiff → N5
open _root_.Int renaming reduceNeg → Z0, reduceAdd → Z1, reduceSub → Z2, reduceMul → Z3, reduceGT → Z4, reduceGE → Z5, reduceLT → Z6, reduceLE → Z7, reduceEq → Z8, reduceNe → Z9, reduceToNat → Z10, cast_ofNat_Int → Zc
set_option maxRecDepth 100000
set_option linter.unusedSimpArgs false
set_option linter.unusedVariables false

theorem fl2 : Value.float .f64 4611686018427387904 = .float .f64 (qf 8) := by rw [show qf 8 = 4611686018427387904 from by decide +kernel]
abbrev coddCon : Con where
  ι := Num × Num × Given
  args := fun p => [.v (.int .i64 p.1.1), .v (.int .i64 p.2.1.1), .sl 0 3 (comps p.2.2.1)]
  post := fun _ r => r = .v (.bool true)
  plain := true
theorem codd_good : Rw.Good Tryd.prog 9 coddCon := by
  have hΓ : GoodEnv Tryd.prog [(24, trueCon), (23, weighCon), (29, placesCon), (30, turnCon), (33, spanCon), (34, withinCon), (35, shiftCon), (26, thrCon), (27, checkCon)] := (goodEnv_cons awake11_good (goodEnv_cons weigh_good (goodEnv_cons places_good (goodEnv_cons turn_good (goodEnv_cons span_good (goodEnv_cons within_good (goodEnv_cons shift_good (goodEnv_cons through_good (goodEnv_cons rcheck_good goodEnv_nil)))))))))
  refine good_fn (nn := 164) hΓ Tryd.func9 (by kernel_rfl) rfl (show Tryd.f9.results.toList = [.tmp 6] from rfl) (fun _ => rfl) (fun _ => rfl) ?_
  rintro ⟨⟨a, ha⟩, ⟨b, hb⟩, ⟨l, hl, hcl⟩⟩
  simp only [goRules, coreRules, tiRules, unRules, AS_of_eq, ← decide_not, N0, N1, N2, N3, N4, N5, Z0, Z1, Z2, Z3, Z4, Z5, Z6, Z7, Z8, Z9, Z10, Zc, ↓reduceIte, reduceCtorEq]
  refine call_weigh (by simp [get_cons]) rfl hl (fun c h => (hcl c h).2) (by omega) ?_
  by_cases h1 : compsF 1000 0 l > 1000
  · simp only [goRules, coreRules, tiRules, unRules, AS_of_eq, ← decide_not, N0, N1, N2, N3, N4, N5, Z0, Z1, Z2, Z3, Z4, Z5, Z6, Z7, Z8, Z9, Z10, Zc, ↓reduceIte, reduceCtorEq, h1]
    refine call_awake11 (by simp [get_cons]) ?_
    simp only [goRules, coreRules, tiRules, unRules, AS_of_eq, ← decide_not, N0, N1, N2, N3, N4, N5, Z0, Z1, Z2, Z3, Z4, Z5, Z6, Z7, Z8, Z9, Z10, Zc, ↓reduceIte, reduceCtorEq]
  by_cases h2 : a < -1000
  · simp only [goRules, coreRules, tiRules, unRules, AS_of_eq, ← decide_not, N0, N1, N2, N3, N4, N5, Z0, Z1, Z2, Z3, Z4, Z5, Z6, Z7, Z8, Z9, Z10, Zc, ↓reduceIte, reduceCtorEq, h1, h2]
    refine call_awake11 (by simp [get_cons]) ?_
    simp only [goRules, coreRules, tiRules, unRules, AS_of_eq, ← decide_not, N0, N1, N2, N3, N4, N5, Z0, Z1, Z2, Z3, Z4, Z5, Z6, Z7, Z8, Z9, Z10, Zc, ↓reduceIte, reduceCtorEq]
  by_cases h3 : a > 1000
  · simp only [goRules, coreRules, tiRules, unRules, AS_of_eq, ← decide_not, N0, N1, N2, N3, N4, N5, Z0, Z1, Z2, Z3, Z4, Z5, Z6, Z7, Z8, Z9, Z10, Zc, ↓reduceIte, reduceCtorEq, h1, h2, h3]
    refine call_awake11 (by simp [get_cons]) ?_
    simp only [goRules, coreRules, tiRules, unRules, AS_of_eq, ← decide_not, N0, N1, N2, N3, N4, N5, Z0, Z1, Z2, Z3, Z4, Z5, Z6, Z7, Z8, Z9, Z10, Zc, ↓reduceIte, reduceCtorEq]
  by_cases h4 : b < -1000
  · simp only [goRules, coreRules, tiRules, unRules, AS_of_eq, ← decide_not, N0, N1, N2, N3, N4, N5, Z0, Z1, Z2, Z3, Z4, Z5, Z6, Z7, Z8, Z9, Z10, Zc, ↓reduceIte, reduceCtorEq, h1, h2, h3, h4]
    refine call_awake11 (by simp [get_cons]) ?_
    simp only [goRules, coreRules, tiRules, unRules, AS_of_eq, ← decide_not, N0, N1, N2, N3, N4, N5, Z0, Z1, Z2, Z3, Z4, Z5, Z6, Z7, Z8, Z9, Z10, Zc, ↓reduceIte, reduceCtorEq]
  by_cases h5 : b > 1000
  · simp only [goRules, coreRules, tiRules, unRules, AS_of_eq, ← decide_not, N0, N1, N2, N3, N4, N5, Z0, Z1, Z2, Z3, Z4, Z5, Z6, Z7, Z8, Z9, Z10, Zc, ↓reduceIte, reduceCtorEq, h1, h2, h3, h4, h5]
    refine call_awake11 (by simp [get_cons]) ?_
    simp only [goRules, coreRules, tiRules, unRules, AS_of_eq, ← decide_not, N0, N1, N2, N3, N4, N5, Z0, Z1, Z2, Z3, Z4, Z5, Z6, Z7, Z8, Z9, Z10, Zc, ↓reduceIte, reduceCtorEq]
  obtain ⟨ol, hw⟩ := weigh_ok (by omega) hcl (show compsF 1000 0 l ≤ 1000 by omega)
  have hn1 : FloatKind.nearest .f64 a = qf (4 * a) := near_qf (by omega) (by omega)
  have hn2 : FloatKind.nearest .f64 b = qf (4 * b) := near_qf (by omega) (by omega)
  have hd1 := fun (P : Program) (t : TypeId) (x y : Operand) => binq_half (P := P) (t := t) (x := x) (y := y) (z := a) (by omega) (by omega)
  have hd2 := fun (P : Program) (t : TypeId) (x y : Operand) => binq_half (P := P) (t := t) (x := x) (y := y) (z := b) (by omega) (by omega)
  have hd3 : FloatKind.f64.format.div (qf (4 * a)) (qf 8) = some (qf (2 * a)) := by have := qf_half (z := 4 * a) (by omega) (by omega); rw [show 4 * a / 2 = 2 * a by omega] at this; exact this
  have hd4 : FloatKind.f64.format.div (qf (4 * b)) (qf 8) = some (qf (2 * b)) := by have := qf_half (z := 4 * b) (by omega) (by omega); rw [show 4 * b / 2 = 2 * b by omega] at this; exact this
  have t0 : ∀ n : Int, 0 ≤ n → n.tmod 2 = n % 2 := fun n h => Int.tmod_eq_emod_of_nonneg h
  have hK : (a ≥ 0 ∧ a.tmod 2 = 0 ∧ b ≥ 0 ∧ b.tmod 2 = 0 ∧ selOk (2 * a) (2 * b)) ∨ (¬ selOk (2 * a) (2 * b) ∧ ((¬ a ≥ 0) ∨ (a ≥ 0 ∧ ¬ a.tmod 2 = 0) ∨ (a ≥ 0 ∧ a.tmod 2 = 0 ∧ ¬ b ≥ 0) ∨ (a ≥ 0 ∧ a.tmod 2 = 0 ∧ b ≥ 0 ∧ ¬ b.tmod 2 = 0))) := by
    by_cases k1 : a ≥ 0
    · have e1 := t0 a (by omega)
      by_cases k2 : a.tmod 2 = 0
      · by_cases k3 : b ≥ 0
        · have e2 := t0 b (by omega)
          by_cases k4 : b.tmod 2 = 0
          · exact .inl ⟨k1, k2, k3, k4, by unfold selOk plOk; omega⟩
          · exact .inr ⟨by unfold selOk plOk; omega, .inr (.inr (.inr ⟨k1, k2, k3, k4⟩))⟩
        · exact .inr ⟨by unfold selOk plOk; omega, .inr (.inr (.inl ⟨k1, k2, k3⟩))⟩
      · exact .inr ⟨by unfold selOk plOk; omega, .inr (.inl ⟨k1, k2⟩)⟩
    · exact .inr ⟨by unfold selOk plOk; omega, .inl k1⟩
  simp only [goRules, coreRules, tiRules, unRules, AS_of_eq, ← decide_not, N0, N1, N2, N3, N4, N5, Z0, Z1, Z2, Z3, Z4, Z5, Z6, Z7, Z8, Z9, Z10, Zc, ↓reduceIte, reduceCtorEq, h1, h2, h3, h4, h5, hn1, hn2, fl2, hd1, hd2, hd3, hd4]
  have o0 := ordq (z := 0) (w := 0) (by omega) (by omega) (by omega) (by omega)
  have o1 := ordq (z := 2 * a) (w := 2 * a) (by omega) (by omega) (by omega) (by omega)
  have o2 := ordq (z := 2 * b) (w := 2 * b) (by omega) (by omega) (by omega) (by omega)
  rcases hK with ⟨k1, k2, k3, k4, hs⟩ | ⟨hs, hk⟩
  · have e1 := t0 a (by omega)
    have e2 := t0 b (by omega)
    have e3 : a.tdiv 2 = 2 * a / 4 := by rw [Int.tdiv_eq_ediv_of_nonneg (by omega)]; omega
    have e4 : b.tdiv 2 = 2 * b / 4 := by rw [Int.tdiv_eq_ediv_of_nonneg (by omega)]; omega
    have hS : shR (2 * a) (2 * b) 0 = .tup [.v (.complex .f64 (qf (2 * a)) (qf (2 * b))), .v (.int .i64 0)] := by
      have g1 : shOk (2 * a) (2 * b) 0 := ⟨hs, by omega, by omega⟩
      have g2 : ofcOk (2 * a / 4 + 0) (2 * b / 4 + 0) := ⟨by omega, by omega, by omega, by omega⟩
      unfold shR ofcR
      rw [if_pos g1, if_pos g2, show 4 * (2 * a / 4 + 0) = 2 * a by omega, show 4 * (2 * b / 4 + 0) = 2 * b by omega]; rfl
    simp only [goRules, coreRules, tiRules, unRules, AS_of_eq, ← decide_not, N0, N1, N2, N3, N4, N5, Z0, Z1, Z2, Z3, Z4, Z5, Z6, Z7, Z8, Z9, Z10, Zc, ↓reduceIte, reduceCtorEq, k1, k2, k3, k4, wrap_i64 (n := a.tmod 2) (by omega) (by omega)]
    refine call_places (by simp [get_cons]) (by omega) (by omega) ?_
    simp only [goRules, coreRules, tiRules, unRules, AS_of_eq, ← decide_not, N0, N1, N2, N3, N4, N5, Z0, Z1, Z2, Z3, Z4, Z5, Z6, Z7, Z8, Z9, Z10, Zc, ↓reduceIte, reduceCtorEq, selR, hs]
    refine call_span (by simp [get_cons]) (by omega) (by omega) ?_
    simp only [goRules, coreRules, tiRules, unRules, AS_of_eq, ← decide_not, N0, N1, N2, N3, N4, N5, Z0, Z1, Z2, Z3, Z4, Z5, Z6, Z7, Z8, Z9, Z10, Zc, ↓reduceIte, reduceCtorEq, hs]
    refine call_shift (by simp [get_cons]) (by omega) (by omega) (by omega) ?_
    simp only [goRules, coreRules, tiRules, unRules, AS_of_eq, ← decide_not, N0, N1, N2, N3, N4, N5, Z0, Z1, Z2, Z3, Z4, Z5, Z6, Z7, Z8, Z9, Z10, Zc, ↓reduceIte, reduceCtorEq, hS]
    refine call_through (by simp [get_cons]) (by omega) (by omega) rfl ol (by omega) ?_
    obtain ⟨u, v, e, hT⟩ : ∃ u v e, thrR (2 * a) (2 * b) l true = .tup [.v (.complex .f64 u v), .v (.int .i64 e)] := by
      unfold thrR; split
      · exact ⟨_, _, _, rfl⟩
      · exact ⟨_, _, _, rfl⟩
    simp only [goRules, coreRules, tiRules, unRules, AS_of_eq, ← decide_not, N0, N1, N2, N3, N4, N5, Z0, Z1, Z2, Z3, Z4, Z5, Z6, Z7, Z8, Z9, Z10, Zc, ↓reduceIte, reduceCtorEq, hT, o1, o2, e3, e4, wrap_i64 (n := 2 * a / 4) (by omega) (by omega), wrap_i64 (n := 2 * b / 4) (by omega) (by omega)]
    refine call_awake11 (by simp [get_cons]) ?_
    simp only [goRules, coreRules, tiRules, unRules, AS_of_eq, ← decide_not, N0, N1, N2, N3, N4, N5, Z0, Z1, Z2, Z3, Z4, Z5, Z6, Z7, Z8, Z9, Z10, Zc, ↓reduceIte, reduceCtorEq]
  · have hS : shR (2 * a) (2 * b) 0 = .tup [.v (.complex .f64 (qf 0) (qf 0)), .v (.int .i64 1)] := by
      unfold shR
      rw [if_neg (fun h => hs h.1)]; rfl
    obtain ⟨e, he, hT⟩ : ∃ e : Int, (e = if checkI l = 0 then 1 else checkI l) ∧ thrR (2 * a) (2 * b) l true = .tup [.v (.complex .f64 (qf 0) (qf 0)), .v (.int .i64 e)] := by
      by_cases hc : checkI l = 0
      · have hI : thrI (2 * a) (2 * b) l = 1 := by unfold thrI; rw [if_neg (fun h => h hc), if_pos hs]
        refine ⟨1, by rw [if_pos hc], ?_⟩
        unfold thrR; rw [hI]; rfl
      · have hI : thrI (2 * a) (2 * b) l = checkI l := by unfold thrI; rw [if_pos hc]
        refine ⟨checkI l, by rw [if_neg hc], ?_⟩
        unfold thrR; rw [hI, if_neg hc]; rfl
    rcases hk with k1 | ⟨k1, k2⟩ | ⟨k1, k2, k3⟩ | ⟨k1, k2, k3, k4⟩
    · simp only [goRules, coreRules, tiRules, unRules, AS_of_eq, ← decide_not, N0, N1, N2, N3, N4, N5, Z0, Z1, Z2, Z3, Z4, Z5, Z6, Z7, Z8, Z9, Z10, Zc, ↓reduceIte, reduceCtorEq, k1]
      refine call_places (by simp [get_cons]) (by omega) (by omega) ?_
      simp only [goRules, coreRules, tiRules, unRules, AS_of_eq, ← decide_not, N0, N1, N2, N3, N4, N5, Z0, Z1, Z2, Z3, Z4, Z5, Z6, Z7, Z8, Z9, Z10, Zc, ↓reduceIte, reduceCtorEq, selR, hs]
      refine call_span (by simp [get_cons]) (by omega) (by omega) ?_
      simp only [goRules, coreRules, tiRules, unRules, AS_of_eq, ← decide_not, N0, N1, N2, N3, N4, N5, Z0, Z1, Z2, Z3, Z4, Z5, Z6, Z7, Z8, Z9, Z10, Zc, ↓reduceIte, reduceCtorEq, hs]
      refine call_shift (by simp [get_cons]) (by omega) (by omega) (by omega) ?_
      simp only [goRules, coreRules, tiRules, unRules, AS_of_eq, ← decide_not, N0, N1, N2, N3, N4, N5, Z0, Z1, Z2, Z3, Z4, Z5, Z6, Z7, Z8, Z9, Z10, Zc, ↓reduceIte, reduceCtorEq, hS]
      refine call_through (by simp [get_cons]) (by omega) (by omega) rfl ol (by omega) ?_
      simp only [goRules, coreRules, tiRules, unRules, AS_of_eq, ← decide_not, N0, N1, N2, N3, N4, N5, Z0, Z1, Z2, Z3, Z4, Z5, Z6, Z7, Z8, Z9, Z10, Zc, ↓reduceIte, reduceCtorEq, hT]
      refine call_rcheck (by simp [get_cons]) rfl ol ?_
      by_cases hc : checkI l = 0
      · rw [if_pos hc] at he
        subst he
        simp only [goRules, coreRules, tiRules, unRules, AS_of_eq, ← decide_not, N0, N1, N2, N3, N4, N5, Z0, Z1, Z2, Z3, Z4, Z5, Z6, Z7, Z8, Z9, Z10, Zc, ↓reduceIte, reduceCtorEq, hc, cx0, o0]
        refine call_within (by simp [get_cons]) (by omega) (by omega) (by omega) ?_
        simp only [goRules, coreRules, tiRules, unRules, AS_of_eq, ← decide_not, N0, N1, N2, N3, N4, N5, Z0, Z1, Z2, Z3, Z4, Z5, Z6, Z7, Z8, Z9, Z10, Zc, ↓reduceIte, reduceCtorEq, hs]
        refine call_turn (by simp [get_cons]) (by omega) (by omega) ?_
        simp only [goRules, coreRules, tiRules, unRules, AS_of_eq, ← decide_not, N0, N1, N2, N3, N4, N5, Z0, Z1, Z2, Z3, Z4, Z5, Z6, Z7, Z8, Z9, Z10, Zc, ↓reduceIte, reduceCtorEq, hs, cq, o1, o2]
        refine call_awake11 (by simp [get_cons]) ?_
        simp only [goRules, coreRules, tiRules, unRules, AS_of_eq, ← decide_not, N0, N1, N2, N3, N4, N5, Z0, Z1, Z2, Z3, Z4, Z5, Z6, Z7, Z8, Z9, Z10, Zc, ↓reduceIte, reduceCtorEq]
      · rw [if_neg hc] at he
        subst he
        simp only [goRules, coreRules, tiRules, unRules, AS_of_eq, ← decide_not, N0, N1, N2, N3, N4, N5, Z0, Z1, Z2, Z3, Z4, Z5, Z6, Z7, Z8, Z9, Z10, Zc, ↓reduceIte, reduceCtorEq, hc]
        refine call_rcheck (by simp [get_cons]) rfl ol ?_
        simp only [goRules, coreRules, tiRules, unRules, AS_of_eq, ← decide_not, N0, N1, N2, N3, N4, N5, Z0, Z1, Z2, Z3, Z4, Z5, Z6, Z7, Z8, Z9, Z10, Zc, ↓reduceIte, reduceCtorEq, hc, cx0, o0]
        refine call_within (by simp [get_cons]) (by omega) (by omega) (by omega) ?_
        simp only [goRules, coreRules, tiRules, unRules, AS_of_eq, ← decide_not, N0, N1, N2, N3, N4, N5, Z0, Z1, Z2, Z3, Z4, Z5, Z6, Z7, Z8, Z9, Z10, Zc, ↓reduceIte, reduceCtorEq, hs]
        refine call_turn (by simp [get_cons]) (by omega) (by omega) ?_
        simp only [goRules, coreRules, tiRules, unRules, AS_of_eq, ← decide_not, N0, N1, N2, N3, N4, N5, Z0, Z1, Z2, Z3, Z4, Z5, Z6, Z7, Z8, Z9, Z10, Zc, ↓reduceIte, reduceCtorEq, hs, cq, o1, o2]
        refine call_awake11 (by simp [get_cons]) ?_
        simp only [goRules, coreRules, tiRules, unRules, AS_of_eq, ← decide_not, N0, N1, N2, N3, N4, N5, Z0, Z1, Z2, Z3, Z4, Z5, Z6, Z7, Z8, Z9, Z10, Zc, ↓reduceIte, reduceCtorEq]
    · have w1 : IntKind.i64.wrap (a.tmod 2) = a.tmod 2 := by have := t0 a (by omega); exact wrap_i64 (by omega) (by omega)
      simp only [goRules, coreRules, tiRules, unRules, AS_of_eq, ← decide_not, N0, N1, N2, N3, N4, N5, Z0, Z1, Z2, Z3, Z4, Z5, Z6, Z7, Z8, Z9, Z10, Zc, ↓reduceIte, reduceCtorEq, k1, w1, eq_false k2]
      refine call_places (by simp [get_cons]) (by omega) (by omega) ?_
      simp only [goRules, coreRules, tiRules, unRules, AS_of_eq, ← decide_not, N0, N1, N2, N3, N4, N5, Z0, Z1, Z2, Z3, Z4, Z5, Z6, Z7, Z8, Z9, Z10, Zc, ↓reduceIte, reduceCtorEq, selR, hs]
      refine call_span (by simp [get_cons]) (by omega) (by omega) ?_
      simp only [goRules, coreRules, tiRules, unRules, AS_of_eq, ← decide_not, N0, N1, N2, N3, N4, N5, Z0, Z1, Z2, Z3, Z4, Z5, Z6, Z7, Z8, Z9, Z10, Zc, ↓reduceIte, reduceCtorEq, hs]
      refine call_shift (by simp [get_cons]) (by omega) (by omega) (by omega) ?_
      simp only [goRules, coreRules, tiRules, unRules, AS_of_eq, ← decide_not, N0, N1, N2, N3, N4, N5, Z0, Z1, Z2, Z3, Z4, Z5, Z6, Z7, Z8, Z9, Z10, Zc, ↓reduceIte, reduceCtorEq, hS]
      refine call_through (by simp [get_cons]) (by omega) (by omega) rfl ol (by omega) ?_
      simp only [goRules, coreRules, tiRules, unRules, AS_of_eq, ← decide_not, N0, N1, N2, N3, N4, N5, Z0, Z1, Z2, Z3, Z4, Z5, Z6, Z7, Z8, Z9, Z10, Zc, ↓reduceIte, reduceCtorEq, hT]
      refine call_rcheck (by simp [get_cons]) rfl ol ?_
      by_cases hc : checkI l = 0
      · rw [if_pos hc] at he
        subst he
        simp only [goRules, coreRules, tiRules, unRules, AS_of_eq, ← decide_not, N0, N1, N2, N3, N4, N5, Z0, Z1, Z2, Z3, Z4, Z5, Z6, Z7, Z8, Z9, Z10, Zc, ↓reduceIte, reduceCtorEq, hc, cx0, o0]
        refine call_within (by simp [get_cons]) (by omega) (by omega) (by omega) ?_
        simp only [goRules, coreRules, tiRules, unRules, AS_of_eq, ← decide_not, N0, N1, N2, N3, N4, N5, Z0, Z1, Z2, Z3, Z4, Z5, Z6, Z7, Z8, Z9, Z10, Zc, ↓reduceIte, reduceCtorEq, hs]
        refine call_turn (by simp [get_cons]) (by omega) (by omega) ?_
        simp only [goRules, coreRules, tiRules, unRules, AS_of_eq, ← decide_not, N0, N1, N2, N3, N4, N5, Z0, Z1, Z2, Z3, Z4, Z5, Z6, Z7, Z8, Z9, Z10, Zc, ↓reduceIte, reduceCtorEq, hs, cq, o1, o2]
        refine call_awake11 (by simp [get_cons]) ?_
        simp only [goRules, coreRules, tiRules, unRules, AS_of_eq, ← decide_not, N0, N1, N2, N3, N4, N5, Z0, Z1, Z2, Z3, Z4, Z5, Z6, Z7, Z8, Z9, Z10, Zc, ↓reduceIte, reduceCtorEq]
      · rw [if_neg hc] at he
        subst he
        simp only [goRules, coreRules, tiRules, unRules, AS_of_eq, ← decide_not, N0, N1, N2, N3, N4, N5, Z0, Z1, Z2, Z3, Z4, Z5, Z6, Z7, Z8, Z9, Z10, Zc, ↓reduceIte, reduceCtorEq, hc]
        refine call_rcheck (by simp [get_cons]) rfl ol ?_
        simp only [goRules, coreRules, tiRules, unRules, AS_of_eq, ← decide_not, N0, N1, N2, N3, N4, N5, Z0, Z1, Z2, Z3, Z4, Z5, Z6, Z7, Z8, Z9, Z10, Zc, ↓reduceIte, reduceCtorEq, hc, cx0, o0]
        refine call_within (by simp [get_cons]) (by omega) (by omega) (by omega) ?_
        simp only [goRules, coreRules, tiRules, unRules, AS_of_eq, ← decide_not, N0, N1, N2, N3, N4, N5, Z0, Z1, Z2, Z3, Z4, Z5, Z6, Z7, Z8, Z9, Z10, Zc, ↓reduceIte, reduceCtorEq, hs]
        refine call_turn (by simp [get_cons]) (by omega) (by omega) ?_
        simp only [goRules, coreRules, tiRules, unRules, AS_of_eq, ← decide_not, N0, N1, N2, N3, N4, N5, Z0, Z1, Z2, Z3, Z4, Z5, Z6, Z7, Z8, Z9, Z10, Zc, ↓reduceIte, reduceCtorEq, hs, cq, o1, o2]
        refine call_awake11 (by simp [get_cons]) ?_
        simp only [goRules, coreRules, tiRules, unRules, AS_of_eq, ← decide_not, N0, N1, N2, N3, N4, N5, Z0, Z1, Z2, Z3, Z4, Z5, Z6, Z7, Z8, Z9, Z10, Zc, ↓reduceIte, reduceCtorEq]
    · have w1 : IntKind.i64.wrap (a.tmod 2) = a.tmod 2 := by have := t0 a (by omega); exact wrap_i64 (by omega) (by omega)
      simp only [goRules, coreRules, tiRules, unRules, AS_of_eq, ← decide_not, N0, N1, N2, N3, N4, N5, Z0, Z1, Z2, Z3, Z4, Z5, Z6, Z7, Z8, Z9, Z10, Zc, ↓reduceIte, reduceCtorEq, k1, w1, eq_true k2, k3]
      refine call_places (by simp [get_cons]) (by omega) (by omega) ?_
      simp only [goRules, coreRules, tiRules, unRules, AS_of_eq, ← decide_not, N0, N1, N2, N3, N4, N5, Z0, Z1, Z2, Z3, Z4, Z5, Z6, Z7, Z8, Z9, Z10, Zc, ↓reduceIte, reduceCtorEq, selR, hs]
      refine call_span (by simp [get_cons]) (by omega) (by omega) ?_
      simp only [goRules, coreRules, tiRules, unRules, AS_of_eq, ← decide_not, N0, N1, N2, N3, N4, N5, Z0, Z1, Z2, Z3, Z4, Z5, Z6, Z7, Z8, Z9, Z10, Zc, ↓reduceIte, reduceCtorEq, hs]
      refine call_shift (by simp [get_cons]) (by omega) (by omega) (by omega) ?_
      simp only [goRules, coreRules, tiRules, unRules, AS_of_eq, ← decide_not, N0, N1, N2, N3, N4, N5, Z0, Z1, Z2, Z3, Z4, Z5, Z6, Z7, Z8, Z9, Z10, Zc, ↓reduceIte, reduceCtorEq, hS]
      refine call_through (by simp [get_cons]) (by omega) (by omega) rfl ol (by omega) ?_
      simp only [goRules, coreRules, tiRules, unRules, AS_of_eq, ← decide_not, N0, N1, N2, N3, N4, N5, Z0, Z1, Z2, Z3, Z4, Z5, Z6, Z7, Z8, Z9, Z10, Zc, ↓reduceIte, reduceCtorEq, hT]
      refine call_rcheck (by simp [get_cons]) rfl ol ?_
      by_cases hc : checkI l = 0
      · rw [if_pos hc] at he
        subst he
        simp only [goRules, coreRules, tiRules, unRules, AS_of_eq, ← decide_not, N0, N1, N2, N3, N4, N5, Z0, Z1, Z2, Z3, Z4, Z5, Z6, Z7, Z8, Z9, Z10, Zc, ↓reduceIte, reduceCtorEq, hc, cx0, o0]
        refine call_within (by simp [get_cons]) (by omega) (by omega) (by omega) ?_
        simp only [goRules, coreRules, tiRules, unRules, AS_of_eq, ← decide_not, N0, N1, N2, N3, N4, N5, Z0, Z1, Z2, Z3, Z4, Z5, Z6, Z7, Z8, Z9, Z10, Zc, ↓reduceIte, reduceCtorEq, hs]
        refine call_turn (by simp [get_cons]) (by omega) (by omega) ?_
        simp only [goRules, coreRules, tiRules, unRules, AS_of_eq, ← decide_not, N0, N1, N2, N3, N4, N5, Z0, Z1, Z2, Z3, Z4, Z5, Z6, Z7, Z8, Z9, Z10, Zc, ↓reduceIte, reduceCtorEq, hs, cq, o1, o2]
        refine call_awake11 (by simp [get_cons]) ?_
        simp only [goRules, coreRules, tiRules, unRules, AS_of_eq, ← decide_not, N0, N1, N2, N3, N4, N5, Z0, Z1, Z2, Z3, Z4, Z5, Z6, Z7, Z8, Z9, Z10, Zc, ↓reduceIte, reduceCtorEq]
      · rw [if_neg hc] at he
        subst he
        simp only [goRules, coreRules, tiRules, unRules, AS_of_eq, ← decide_not, N0, N1, N2, N3, N4, N5, Z0, Z1, Z2, Z3, Z4, Z5, Z6, Z7, Z8, Z9, Z10, Zc, ↓reduceIte, reduceCtorEq, hc]
        refine call_rcheck (by simp [get_cons]) rfl ol ?_
        simp only [goRules, coreRules, tiRules, unRules, AS_of_eq, ← decide_not, N0, N1, N2, N3, N4, N5, Z0, Z1, Z2, Z3, Z4, Z5, Z6, Z7, Z8, Z9, Z10, Zc, ↓reduceIte, reduceCtorEq, hc, cx0, o0]
        refine call_within (by simp [get_cons]) (by omega) (by omega) (by omega) ?_
        simp only [goRules, coreRules, tiRules, unRules, AS_of_eq, ← decide_not, N0, N1, N2, N3, N4, N5, Z0, Z1, Z2, Z3, Z4, Z5, Z6, Z7, Z8, Z9, Z10, Zc, ↓reduceIte, reduceCtorEq, hs]
        refine call_turn (by simp [get_cons]) (by omega) (by omega) ?_
        simp only [goRules, coreRules, tiRules, unRules, AS_of_eq, ← decide_not, N0, N1, N2, N3, N4, N5, Z0, Z1, Z2, Z3, Z4, Z5, Z6, Z7, Z8, Z9, Z10, Zc, ↓reduceIte, reduceCtorEq, hs, cq, o1, o2]
        refine call_awake11 (by simp [get_cons]) ?_
        simp only [goRules, coreRules, tiRules, unRules, AS_of_eq, ← decide_not, N0, N1, N2, N3, N4, N5, Z0, Z1, Z2, Z3, Z4, Z5, Z6, Z7, Z8, Z9, Z10, Zc, ↓reduceIte, reduceCtorEq]
    · have w1 : IntKind.i64.wrap (a.tmod 2) = a.tmod 2 := by have := t0 a (by omega); exact wrap_i64 (by omega) (by omega)
      have w2 : IntKind.i64.wrap (b.tmod 2) = b.tmod 2 := by have := t0 b (by omega); exact wrap_i64 (by omega) (by omega)
      simp only [goRules, coreRules, tiRules, unRules, AS_of_eq, ← decide_not, N0, N1, N2, N3, N4, N5, Z0, Z1, Z2, Z3, Z4, Z5, Z6, Z7, Z8, Z9, Z10, Zc, ↓reduceIte, reduceCtorEq, k1, w1, eq_true k2, k3, w2, eq_false k4]
      refine call_places (by simp [get_cons]) (by omega) (by omega) ?_
      simp only [goRules, coreRules, tiRules, unRules, AS_of_eq, ← decide_not, N0, N1, N2, N3, N4, N5, Z0, Z1, Z2, Z3, Z4, Z5, Z6, Z7, Z8, Z9, Z10, Zc, ↓reduceIte, reduceCtorEq, selR, hs]
      refine call_span (by simp [get_cons]) (by omega) (by omega) ?_
      simp only [goRules, coreRules, tiRules, unRules, AS_of_eq, ← decide_not, N0, N1, N2, N3, N4, N5, Z0, Z1, Z2, Z3, Z4, Z5, Z6, Z7, Z8, Z9, Z10, Zc, ↓reduceIte, reduceCtorEq, hs]
      refine call_shift (by simp [get_cons]) (by omega) (by omega) (by omega) ?_
      simp only [goRules, coreRules, tiRules, unRules, AS_of_eq, ← decide_not, N0, N1, N2, N3, N4, N5, Z0, Z1, Z2, Z3, Z4, Z5, Z6, Z7, Z8, Z9, Z10, Zc, ↓reduceIte, reduceCtorEq, hS]
      refine call_through (by simp [get_cons]) (by omega) (by omega) rfl ol (by omega) ?_
      simp only [goRules, coreRules, tiRules, unRules, AS_of_eq, ← decide_not, N0, N1, N2, N3, N4, N5, Z0, Z1, Z2, Z3, Z4, Z5, Z6, Z7, Z8, Z9, Z10, Zc, ↓reduceIte, reduceCtorEq, hT]
      refine call_rcheck (by simp [get_cons]) rfl ol ?_
      by_cases hc : checkI l = 0
      · rw [if_pos hc] at he
        subst he
        simp only [goRules, coreRules, tiRules, unRules, AS_of_eq, ← decide_not, N0, N1, N2, N3, N4, N5, Z0, Z1, Z2, Z3, Z4, Z5, Z6, Z7, Z8, Z9, Z10, Zc, ↓reduceIte, reduceCtorEq, hc, cx0, o0]
        refine call_within (by simp [get_cons]) (by omega) (by omega) (by omega) ?_
        simp only [goRules, coreRules, tiRules, unRules, AS_of_eq, ← decide_not, N0, N1, N2, N3, N4, N5, Z0, Z1, Z2, Z3, Z4, Z5, Z6, Z7, Z8, Z9, Z10, Zc, ↓reduceIte, reduceCtorEq, hs]
        refine call_turn (by simp [get_cons]) (by omega) (by omega) ?_
        simp only [goRules, coreRules, tiRules, unRules, AS_of_eq, ← decide_not, N0, N1, N2, N3, N4, N5, Z0, Z1, Z2, Z3, Z4, Z5, Z6, Z7, Z8, Z9, Z10, Zc, ↓reduceIte, reduceCtorEq, hs, cq, o1, o2]
        refine call_awake11 (by simp [get_cons]) ?_
        simp only [goRules, coreRules, tiRules, unRules, AS_of_eq, ← decide_not, N0, N1, N2, N3, N4, N5, Z0, Z1, Z2, Z3, Z4, Z5, Z6, Z7, Z8, Z9, Z10, Zc, ↓reduceIte, reduceCtorEq]
      · rw [if_neg hc] at he
        subst he
        simp only [goRules, coreRules, tiRules, unRules, AS_of_eq, ← decide_not, N0, N1, N2, N3, N4, N5, Z0, Z1, Z2, Z3, Z4, Z5, Z6, Z7, Z8, Z9, Z10, Zc, ↓reduceIte, reduceCtorEq, hc]
        refine call_rcheck (by simp [get_cons]) rfl ol ?_
        simp only [goRules, coreRules, tiRules, unRules, AS_of_eq, ← decide_not, N0, N1, N2, N3, N4, N5, Z0, Z1, Z2, Z3, Z4, Z5, Z6, Z7, Z8, Z9, Z10, Zc, ↓reduceIte, reduceCtorEq, hc, cx0, o0]
        refine call_within (by simp [get_cons]) (by omega) (by omega) (by omega) ?_
        simp only [goRules, coreRules, tiRules, unRules, AS_of_eq, ← decide_not, N0, N1, N2, N3, N4, N5, Z0, Z1, Z2, Z3, Z4, Z5, Z6, Z7, Z8, Z9, Z10, Zc, ↓reduceIte, reduceCtorEq, hs]
        refine call_turn (by simp [get_cons]) (by omega) (by omega) ?_
        simp only [goRules, coreRules, tiRules, unRules, AS_of_eq, ← decide_not, N0, N1, N2, N3, N4, N5, Z0, Z1, Z2, Z3, Z4, Z5, Z6, Z7, Z8, Z9, Z10, Zc, ↓reduceIte, reduceCtorEq, hs, cq, o1, o2]
        refine call_awake11 (by simp [get_cons]) ?_
        simp only [goRules, coreRules, tiRules, unRules, AS_of_eq, ← decide_not, N0, N1, N2, N3, N4, N5, Z0, Z1, Z2, Z3, Z4, Z5, Z6, Z7, Z8, Z9, Z10, Zc, ↓reduceIte, reduceCtorEq]
end Go.Proofs
end
