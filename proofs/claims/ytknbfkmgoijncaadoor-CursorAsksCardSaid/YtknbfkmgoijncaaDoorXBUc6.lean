/-
  CursorAsks answers true.
-/
import Derived.Test.YtknbfkmgoijncaaDoorXBUc4
set_option linter.unusedSimpArgs false
set_option linter.unusedVariables false
set_option linter.defProp false

-- BUc6
section
namespace Go.Proofs
open Go Go.Rw
open _root_.Nat renaming reduceAdd → N0, reduceSub → N1, reduceMul → N2, reduceLT → N3, reduceLeDiff → N4, reduceEqDiff → N5
open _root_.Int renaming reduceNeg → Z0, reduceAdd → Z1, reduceSub → Z2, reduceMul → Z3, reduceGT → Z4, reduceGE → Z5, reduceLT → Z6, reduceLE → Z7, reduceEq → Z8, reduceNe → Z9, reduceToNat → Z10, cast_ofNat_Int → Zc
set_option maxRecDepth 100000
set_option linter.unusedSimpArgs false
set_option linter.unusedVariables false

abbrev casksCon : Con where
  ι := Num × Num × Num × Num
  args := fun p => [.v (.int .i64 p.1.1), .v (.int .i64 p.2.1.1), .v (.int .i64 p.2.2.1.1), .v (.int .i64 p.2.2.2.1)]
  post := fun _ r => r = .v (.bool true)
  plain := true
theorem casks_good : Rw.Good Tryd.prog 8 casksCon := by
  have hΓ : GoodEnv Tryd.prog [(24, trueCon), (25, ofcCon), (29, placesCon), (30, turnCon), (33, spanCon), (34, withinCon), (35, shiftCon)] := (goodEnv_cons awake11_good (goodEnv_cons ofc_good (goodEnv_cons places_good (goodEnv_cons turn_good (goodEnv_cons span_good (goodEnv_cons within_good (goodEnv_cons shift_good goodEnv_nil)))))))
  refine good_fn (nn := 211) hΓ Tryd.func8 (by kernel_rfl) rfl (show Tryd.f8.results.toList = [.tmp 8] from rfl) (fun _ => rfl) (fun _ => rfl) ?_
  rintro ⟨⟨a, ha⟩, ⟨b, hb⟩, ⟨s, hs⟩, ⟨n, hn⟩⟩
  simp only [goRules, coreRules, tiRules, unRules, AS_of_eq, ← decide_not, N0, N1, N2, N3, N4, N5, Z0, Z1, Z2, Z3, Z4, Z5, Z6, Z7, Z8, Z9, Z10, Zc, ↓reduceIte, reduceCtorEq]
  refine call_ofc (by simp [get_cons]) ha hb ?_
  have o0 := ordq (z := 0) (w := 0) (by omega) (by omega) (by omega) (by omega)
  by_cases h1 : a ≥ 0
  case neg =>
    simp only [goRules, coreRules, tiRules, unRules, AS_of_eq, ← decide_not, N0, N1, N2, N3, N4, N5, Z0, Z1, Z2, Z3, Z4, Z5, Z6, Z7, Z8, Z9, Z10, Zc, ↓reduceIte, reduceCtorEq, ofcR, show ¬ ofcOk a b from fun h => h1 h.1, h1, cx0, cq, o0, bne_self_eq_false]
    refine call_awake11 (by simp [get_cons]) ?_
    simp only [goRules, coreRules, tiRules, unRules, AS_of_eq, ← decide_not, N0, N1, N2, N3, N4, N5, Z0, Z1, Z2, Z3, Z4, Z5, Z6, Z7, Z8, Z9, Z10, Zc, ↓reduceIte, reduceCtorEq]
  by_cases h2 : a ≤ 1099511627776
  case neg =>
    simp only [goRules, coreRules, tiRules, unRules, AS_of_eq, ← decide_not, N0, N1, N2, N3, N4, N5, Z0, Z1, Z2, Z3, Z4, Z5, Z6, Z7, Z8, Z9, Z10, Zc, ↓reduceIte, reduceCtorEq, ofcR, show ¬ ofcOk a b from fun h => h2 h.2.1, h1, h2, cx0, cq, o0, bne_self_eq_false]
    refine call_awake11 (by simp [get_cons]) ?_
    simp only [goRules, coreRules, tiRules, unRules, AS_of_eq, ← decide_not, N0, N1, N2, N3, N4, N5, Z0, Z1, Z2, Z3, Z4, Z5, Z6, Z7, Z8, Z9, Z10, Zc, ↓reduceIte, reduceCtorEq]
  by_cases h3 : b ≥ 0
  case neg =>
    simp only [goRules, coreRules, tiRules, unRules, AS_of_eq, ← decide_not, N0, N1, N2, N3, N4, N5, Z0, Z1, Z2, Z3, Z4, Z5, Z6, Z7, Z8, Z9, Z10, Zc, ↓reduceIte, reduceCtorEq, ofcR, show ¬ ofcOk a b from fun h => h3 h.2.2.1, h1, h2, h3, cx0, cq, o0, bne_self_eq_false]
    refine call_awake11 (by simp [get_cons]) ?_
    simp only [goRules, coreRules, tiRules, unRules, AS_of_eq, ← decide_not, N0, N1, N2, N3, N4, N5, Z0, Z1, Z2, Z3, Z4, Z5, Z6, Z7, Z8, Z9, Z10, Zc, ↓reduceIte, reduceCtorEq]
  by_cases h4 : b ≤ 1099511627776
  case neg =>
    simp only [goRules, coreRules, tiRules, unRules, AS_of_eq, ← decide_not, N0, N1, N2, N3, N4, N5, Z0, Z1, Z2, Z3, Z4, Z5, Z6, Z7, Z8, Z9, Z10, Zc, ↓reduceIte, reduceCtorEq, ofcR, show ¬ ofcOk a b from fun h => h4 h.2.2.2, h1, h2, h3, h4, cx0, cq, o0, bne_self_eq_false]
    refine call_awake11 (by simp [get_cons]) ?_
    simp only [goRules, coreRules, tiRules, unRules, AS_of_eq, ← decide_not, N0, N1, N2, N3, N4, N5, Z0, Z1, Z2, Z3, Z4, Z5, Z6, Z7, Z8, Z9, Z10, Zc, ↓reduceIte, reduceCtorEq]
  have q1 : 4 * a / 4 = a := by omega
  have q2 : 4 * b / 4 = b := by omega
  have s1 : selOk (4 * a) (4 * b) := by unfold selOk plOk; omega
  have s2 : selOk (4 * b) (4 * a) := by unfold selOk plOk; omega
  simp only [goRules, coreRules, tiRules, unRules, AS_of_eq, ← decide_not, N0, N1, N2, N3, N4, N5, Z0, Z1, Z2, Z3, Z4, Z5, Z6, Z7, Z8, Z9, Z10, Zc, ↓reduceIte, reduceCtorEq, ofcR, show ofcOk a b from ⟨h1, h2, h3, h4⟩, h1, h2, h3, h4, cx0, cq, bne_self_eq_false]
  refine call_places (by simp [get_cons]) (by omega) (by omega) ?_
  simp only [goRules, coreRules, tiRules, unRules, AS_of_eq, ← decide_not, N0, N1, N2, N3, N4, N5, Z0, Z1, Z2, Z3, Z4, Z5, Z6, Z7, Z8, Z9, Z10, Zc, ↓reduceIte, reduceCtorEq, selR, s1, q1, q2]
  refine call_turn (by simp [get_cons]) (by omega) (by omega) ?_
  simp only [goRules, coreRules, tiRules, unRules, AS_of_eq, ← decide_not, N0, N1, N2, N3, N4, N5, Z0, Z1, Z2, Z3, Z4, Z5, Z6, Z7, Z8, Z9, Z10, Zc, ↓reduceIte, reduceCtorEq, s1, cq]
  refine call_places (by simp [get_cons]) (by omega) (by omega) ?_
  simp only [goRules, coreRules, tiRules, unRules, AS_of_eq, ← decide_not, N0, N1, N2, N3, N4, N5, Z0, Z1, Z2, Z3, Z4, Z5, Z6, Z7, Z8, Z9, Z10, Zc, ↓reduceIte, reduceCtorEq, selR, s2, q1, q2]
  refine call_span (by simp [get_cons]) (by omega) (by omega) ?_
  simp only [goRules, coreRules, tiRules, unRules, AS_of_eq, ← decide_not, N0, N1, N2, N3, N4, N5, Z0, Z1, Z2, Z3, Z4, Z5, Z6, Z7, Z8, Z9, Z10, Zc, ↓reduceIte, reduceCtorEq, s1, q1, q2, min2_int, max2_int, List.append_eq]
  refine call_within (by simp [get_cons]) (by omega) (by omega) hn ?_
  have o1 := ordq (z := 4 * a) (w := 4 * a) (by omega) (by omega) (by omega) (by omega)
  have o2 := ordq (z := 4 * b) (w := 4 * b) (by omega) (by omega) (by omega) (by omega)
  have hS1 : s ≥ -(min a b) → s ≤ 1099511627776 - max a b → shR (4 * a) (4 * b) s = .tup [.v (.complex .f64 (qf (4 * (a + s))) (qf (4 * (b + s)))), .v (.int .i64 0)] := fun k1 k2 => by
    have g1 : shOk (4 * a) (4 * b) s := ⟨s1, by omega, by omega⟩
    have g2 : ofcOk (a + s) (b + s) := ⟨by omega, by omega, by omega, by omega⟩
    unfold shR ofcR
    rw [if_pos g1, q1, q2, if_pos g2]; rfl
  have hS2 : ¬ (s ≥ -(min a b) ∧ s ≤ 1099511627776 - max a b) → shR (4 * a) (4 * b) s = .tup [.v (.complex .f64 (qf 0) (qf 0)), .v (.int .i64 1)] := fun k => by
    rw [shR]
    split
    · rw [q1, q2, ofcR, if_neg (by rintro ⟨g1, g2, g3, g4⟩; exact k ⟨by omega, by omega⟩)]; rfl
    · rfl
  have hwm : IntKind.i64.wrap (0 - min a b) = -(min a b) := by rw [wrap_i64 (by omega) (by omega)]; omega
  have hwM : IntKind.i64.wrap (1099511627776 - max a b) = 1099511627776 - max a b := wrap_i64 (by omega) (by omega)
  have hK : (s ≥ -(min a b) ∧ s ≤ 1099511627776 - max a b ∧ shR (4 * a) (4 * b) s = .tup [.v (.complex .f64 (qf (4 * (a + s))) (qf (4 * (b + s)))), .v (.int .i64 0)]) ∨ (s ≥ -(min a b) ∧ ¬ s ≤ 1099511627776 - max a b ∧ shR (4 * a) (4 * b) s = .tup [.v (.complex .f64 (qf 0) (qf 0)), .v (.int .i64 1)]) ∨ (¬ s ≥ -(min a b) ∧ shR (4 * a) (4 * b) s = .tup [.v (.complex .f64 (qf 0) (qf 0)), .v (.int .i64 1)]) := by
    by_cases k1 : s ≥ -(min a b)
    · by_cases k2 : s ≤ 1099511627776 - max a b
      · exact .inl ⟨k1, k2, hS1 k1 k2⟩
      · exact .inr (.inl ⟨k1, k2, hS2 (fun h => k2 h.2)⟩)
    · exact .inr (.inr ⟨k1, hS2 (fun h => k1 h.1)⟩)
  have s0 : selOk 0 0 := by unfold selOk plOk; omega
  by_cases w1 : a ≤ n
  all_goals by_cases w2 : b ≤ n
  all_goals simp only [goRules, coreRules, tiRules, unRules, AS_of_eq, ← decide_not, N0, N1, N2, N3, N4, N5, Z0, Z1, Z2, Z3, Z4, Z5, Z6, Z7, Z8, Z9, Z10, Zc, ↓reduceIte, reduceCtorEq, s1, q1, q2, w1, w2, bne_self_eq_false, near_qf (n := a) (by omega) (by omega), near_qf (n := b) (by omega) (by omega), binq_neq (z := 4 * a) (w := 4 * a) (by omega) (by omega) (by omega) (by omega), binq_neq (z := 4 * b) (w := 4 * b) (by omega) (by omega) (by omega) (by omega)]
  all_goals refine call_shift (by simp [get_cons]) (by omega) (by omega) hs ?_
  all_goals
    rcases hK with ⟨k1, k2, hS⟩ | ⟨k1, k2, hS⟩ | ⟨k1, hS⟩
    · have s3 : selOk (4 * (a + s)) (4 * (b + s)) := by unfold selOk plOk; omega
      simp only [goRules, coreRules, tiRules, unRules, AS_of_eq, ← decide_not, N0, N1, N2, N3, N4, N5, Z0, Z1, Z2, Z3, Z4, Z5, Z6, Z7, Z8, Z9, Z10, Zc, ↓reduceIte, reduceCtorEq, hS, min2_int, max2_int, hwm, hwM, k1, k2, bne_self_eq_false]
      refine call_places (by simp [get_cons]) (by omega) (by omega) ?_
      simp only [goRules, coreRules, tiRules, unRules, AS_of_eq, ← decide_not, N0, N1, N2, N3, N4, N5, Z0, Z1, Z2, Z3, Z4, Z5, Z6, Z7, Z8, Z9, Z10, Zc, ↓reduceIte, reduceCtorEq, selR, s3, show 4 * (a + s) / 4 = a + s by omega, show 4 * (b + s) / 4 = b + s by omega, wrap_i64 (n := a + s) (by omega) (by omega), wrap_i64 (n := b + s) (by omega) (by omega)]
      refine call_awake11 (by simp [get_cons]) ?_
      simp only [goRules, coreRules, tiRules, unRules, AS_of_eq, ← decide_not, N0, N1, N2, N3, N4, N5, Z0, Z1, Z2, Z3, Z4, Z5, Z6, Z7, Z8, Z9, Z10, Zc, ↓reduceIte, reduceCtorEq]
    · simp only [goRules, coreRules, tiRules, unRules, AS_of_eq, ← decide_not, N0, N1, N2, N3, N4, N5, Z0, Z1, Z2, Z3, Z4, Z5, Z6, Z7, Z8, Z9, Z10, Zc, ↓reduceIte, reduceCtorEq, hS, min2_int, max2_int, hwm, hwM, k1, k2, bne_self_eq_false]
      refine call_places (by simp [get_cons]) (by omega) (by omega) ?_
      simp only [goRules, coreRules, tiRules, unRules, AS_of_eq, ← decide_not, N0, N1, N2, N3, N4, N5, Z0, Z1, Z2, Z3, Z4, Z5, Z6, Z7, Z8, Z9, Z10, Zc, ↓reduceIte, reduceCtorEq, selR, s0]
      refine call_awake11 (by simp [get_cons]) ?_
      simp only [goRules, coreRules, tiRules, unRules, AS_of_eq, ← decide_not, N0, N1, N2, N3, N4, N5, Z0, Z1, Z2, Z3, Z4, Z5, Z6, Z7, Z8, Z9, Z10, Zc, ↓reduceIte, reduceCtorEq]
    · simp only [goRules, coreRules, tiRules, unRules, AS_of_eq, ← decide_not, N0, N1, N2, N3, N4, N5, Z0, Z1, Z2, Z3, Z4, Z5, Z6, Z7, Z8, Z9, Z10, Zc, ↓reduceIte, reduceCtorEq, hS, min2_int, max2_int, hwm, hwM, k1, bne_self_eq_false]
      refine call_places (by simp [get_cons]) (by omega) (by omega) ?_
      simp only [goRules, coreRules, tiRules, unRules, AS_of_eq, ← decide_not, N0, N1, N2, N3, N4, N5, Z0, Z1, Z2, Z3, Z4, Z5, Z6, Z7, Z8, Z9, Z10, Zc, ↓reduceIte, reduceCtorEq, selR, s0]
      refine call_awake11 (by simp [get_cons]) ?_
      simp only [goRules, coreRules, tiRules, unRules, AS_of_eq, ← decide_not, N0, N1, N2, N3, N4, N5, Z0, Z1, Z2, Z3, Z4, Z5, Z6, Z7, Z8, Z9, Z10, Zc, ↓reduceIte, reduceCtorEq]
end Go.Proofs
end
