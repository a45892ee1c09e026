/-
  CursorAsks, CursorOdd, CursorThrough answer true.
-/
import Derived.Test.YtknbfkmgoijncaaDoorXBUc4
set_option linter.unusedSimpArgs false
set_option linter.unusedVariables false
set_option linter.defProp false

-- BUc5
section
namespace Go.Proofs
open Go Go.Rw
open _root_.Nat renaming reduceAdd → N0, reduceSub → N1, reduceMul → N2, reduceLT → N3, reduceLeDiff → N4, reduceEqDiff → N5
open _root_.Int renaming reduceNeg → Z0, reduceAdd → Z1, reduceSub → Z2, reduceMul → Z3, reduceGT → Z4, reduceGE → Z5, reduceLT → Z6, reduceLE → Z7, reduceEq → Z8, reduceNe → Z9, reduceToNat → Z10, cast_ofNat_Int → Zc
set_option maxRecDepth 100000
set_option linter.unusedSimpArgs false
set_option linter.unusedVariables false

abbrev cthrCon : Con where
  ι := Num × Num × Given × Bool
  args := fun p => [.v (.int .i64 p.1.1), .v (.int .i64 p.2.1.1), .sl 0 3 (comps p.2.2.1.1), .v (.bool p.2.2.2)]
  post := fun _ r => r = .v (.bool true)
  plain := true
theorem cthr_good : Rw.Good Tryd.prog 7 cthrCon := by
  have hΓ : GoodEnv Tryd.prog [(24, trueCon), (23, weighCon), (25, ofcCon), (29, placesCon), (26, thrCon), (30, turnCon), (27, checkCon), (28, baseCon), (31, rthrCon), (32, outCon)] := (goodEnv_cons awake11_good (goodEnv_cons weigh_good (goodEnv_cons ofc_good (goodEnv_cons places_good (goodEnv_cons through_good (goodEnv_cons turn_good (goodEnv_cons rcheck_good (goodEnv_cons rbase_good (goodEnv_cons rthrough_good (goodEnv_cons out_good goodEnv_nil))))))))))
  refine good_fn (nn := 169) hΓ Tryd.func7 (by kernel_rfl) rfl (show Tryd.f7.results.toList = [.tmp 8] from rfl) (fun _ => rfl) (fun _ => rfl) ?_
  rintro ⟨⟨a, ha⟩, ⟨b, hb⟩, ⟨l, hl, hcl⟩, af⟩
  simp only [goRules, coreRules, tiRules, unRules, AS_of_eq, ← decide_not, N0, N1, N2, N3, N4, N5, Z0, Z1, Z2, Z3, Z4, Z5, Z6, Z7, Z8, Z9, Z10, Zc, ↓reduceIte, reduceCtorEq]
  refine call_weigh (by simp [get_cons]) rfl hl (fun c h => (hcl c h).2) (by omega) ?_
  by_cases h1 : compsF 2000 0 l > 2000
  · simp only [goRules, coreRules, tiRules, unRules, AS_of_eq, ← decide_not, N0, N1, N2, N3, N4, N5, Z0, Z1, Z2, Z3, Z4, Z5, Z6, Z7, Z8, Z9, Z10, Zc, ↓reduceIte, reduceCtorEq, h1]
    refine call_awake11 (by simp [get_cons]) ?_
    simp only [goRules, coreRules, tiRules, unRules, AS_of_eq, ← decide_not, N0, N1, N2, N3, N4, N5, Z0, Z1, Z2, Z3, Z4, Z5, Z6, Z7, Z8, Z9, Z10, Zc, ↓reduceIte, reduceCtorEq]
  by_cases h2 : a < 0
  · simp only [goRules, coreRules, tiRules, unRules, AS_of_eq, ← decide_not, N0, N1, N2, N3, N4, N5, Z0, Z1, Z2, Z3, Z4, Z5, Z6, Z7, Z8, Z9, Z10, Zc, ↓reduceIte, reduceCtorEq, h1, h2]
    refine call_awake11 (by simp [get_cons]) ?_
    simp only [goRules, coreRules, tiRules, unRules, AS_of_eq, ← decide_not, N0, N1, N2, N3, N4, N5, Z0, Z1, Z2, Z3, Z4, Z5, Z6, Z7, Z8, Z9, Z10, Zc, ↓reduceIte, reduceCtorEq]
  by_cases h3 : a > 3000
  · simp only [goRules, coreRules, tiRules, unRules, AS_of_eq, ← decide_not, N0, N1, N2, N3, N4, N5, Z0, Z1, Z2, Z3, Z4, Z5, Z6, Z7, Z8, Z9, Z10, Zc, ↓reduceIte, reduceCtorEq, h1, h2, h3]
    refine call_awake11 (by simp [get_cons]) ?_
    simp only [goRules, coreRules, tiRules, unRules, AS_of_eq, ← decide_not, N0, N1, N2, N3, N4, N5, Z0, Z1, Z2, Z3, Z4, Z5, Z6, Z7, Z8, Z9, Z10, Zc, ↓reduceIte, reduceCtorEq]
  by_cases h4 : b < 0
  · simp only [goRules, coreRules, tiRules, unRules, AS_of_eq, ← decide_not, N0, N1, N2, N3, N4, N5, Z0, Z1, Z2, Z3, Z4, Z5, Z6, Z7, Z8, Z9, Z10, Zc, ↓reduceIte, reduceCtorEq, h1, h2, h3, h4]
    refine call_awake11 (by simp [get_cons]) ?_
    simp only [goRules, coreRules, tiRules, unRules, AS_of_eq, ← decide_not, N0, N1, N2, N3, N4, N5, Z0, Z1, Z2, Z3, Z4, Z5, Z6, Z7, Z8, Z9, Z10, Zc, ↓reduceIte, reduceCtorEq]
  by_cases h5 : b > 3000
  · simp only [goRules, coreRules, tiRules, unRules, AS_of_eq, ← decide_not, N0, N1, N2, N3, N4, N5, Z0, Z1, Z2, Z3, Z4, Z5, Z6, Z7, Z8, Z9, Z10, Zc, ↓reduceIte, reduceCtorEq, h1, h2, h3, h4, h5]
    refine call_awake11 (by simp [get_cons]) ?_
    simp only [goRules, coreRules, tiRules, unRules, AS_of_eq, ← decide_not, N0, N1, N2, N3, N4, N5, Z0, Z1, Z2, Z3, Z4, Z5, Z6, Z7, Z8, Z9, Z10, Zc, ↓reduceIte, reduceCtorEq]
  obtain ⟨ol, hw⟩ := weigh_ok (by omega) hcl (show compsF 2000 0 l ≤ 2000 by omega)
  simp only [goRules, coreRules, tiRules, unRules, AS_of_eq, ← decide_not, N0, N1, N2, N3, N4, N5, Z0, Z1, Z2, Z3, Z4, Z5, Z6, Z7, Z8, Z9, Z10, Zc, ↓reduceIte, reduceCtorEq, h1, h2, h3, h4, h5]
  refine call_ofc (by simp [get_cons]) (by omega) (by omega) ?_
  simp only [goRules, coreRules, tiRules, unRules, AS_of_eq, ← decide_not, N0, N1, N2, N3, N4, N5, Z0, Z1, Z2, Z3, Z4, Z5, Z6, Z7, Z8, Z9, Z10, Zc, ↓reduceIte, reduceCtorEq, ofcR, show ofcOk a b from ⟨by omega, by omega, by omega, by omega⟩, cq]
  refine call_through (by simp [get_cons]) (by omega) (by omega) rfl ol (by omega) ?_
  have q1 : 4 * a / 4 = a := by omega
  have q2 : 4 * b / 4 = b := by omega
  have s1 : selOk (4 * a) (4 * b) := by unfold selOk plOk; omega
  have s2 : selOk (4 * b) (4 * a) := by unfold selOk plOk; omega
  by_cases k1 : checkI l = 0
  case neg =>
    have hI : thrI (4 * a) (4 * b) l = checkI l := by unfold thrI; rw [if_pos k1]
    simp only [goRules, coreRules, tiRules, unRules, AS_of_eq, ← decide_not, N0, N1, N2, N3, N4, N5, Z0, Z1, Z2, Z3, Z4, Z5, Z6, Z7, Z8, Z9, Z10, Zc, ↓reduceIte, reduceCtorEq, thrR, hI, k1, cq]
    refine call_rcheck (by simp [get_cons]) rfl ol ?_
    simp only [goRules, coreRules, tiRules, unRules, AS_of_eq, ← decide_not, N0, N1, N2, N3, N4, N5, Z0, Z1, Z2, Z3, Z4, Z5, Z6, Z7, Z8, Z9, Z10, Zc, ↓reduceIte, reduceCtorEq, k1]
    refine call_awake11 (by simp [get_cons]) ?_
    simp only [goRules, coreRules, tiRules, unRules, AS_of_eq, ← decide_not, N0, N1, N2, N3, N4, N5, Z0, Z1, Z2, Z3, Z4, Z5, Z6, Z7, Z8, Z9, Z10, Zc, ↓reduceIte, reduceCtorEq]
  by_cases k2 : a ≤ baseL l ∧ b ≤ baseL l
  case neg =>
    have hI : thrI (4 * a) (4 * b) l = 11 := by unfold thrI; rw [if_neg (fun h => h k1), if_neg (fun h => h s1), if_neg (by rw [q1, q2]; exact k2)]
    simp only [goRules, coreRules, tiRules, unRules, AS_of_eq, ← decide_not, N0, N1, N2, N3, N4, N5, Z0, Z1, Z2, Z3, Z4, Z5, Z6, Z7, Z8, Z9, Z10, Zc, ↓reduceIte, reduceCtorEq, thrR, hI, cq]
    refine call_rcheck (by simp [get_cons]) rfl ol ?_
    simp only [goRules, coreRules, tiRules, unRules, AS_of_eq, ← decide_not, N0, N1, N2, N3, N4, N5, Z0, Z1, Z2, Z3, Z4, Z5, Z6, Z7, Z8, Z9, Z10, Zc, ↓reduceIte, reduceCtorEq, k1]
    refine call_rbase (by simp [get_cons]) rfl ol ?_
    by_cases k3 : a > baseL l
    · simp only [goRules, coreRules, tiRules, unRules, AS_of_eq, ← decide_not, N0, N1, N2, N3, N4, N5, Z0, Z1, Z2, Z3, Z4, Z5, Z6, Z7, Z8, Z9, Z10, Zc, ↓reduceIte, reduceCtorEq, k3]
      refine call_awake11 (by simp [get_cons]) ?_
      simp only [goRules, coreRules, tiRules, unRules, AS_of_eq, ← decide_not, N0, N1, N2, N3, N4, N5, Z0, Z1, Z2, Z3, Z4, Z5, Z6, Z7, Z8, Z9, Z10, Zc, ↓reduceIte, reduceCtorEq]
    · have k4 : b > baseL l := by omega
      simp only [goRules, coreRules, tiRules, unRules, AS_of_eq, ← decide_not, N0, N1, N2, N3, N4, N5, Z0, Z1, Z2, Z3, Z4, Z5, Z6, Z7, Z8, Z9, Z10, Zc, ↓reduceIte, reduceCtorEq, k3, k4]
      refine call_awake11 (by simp [get_cons]) ?_
      simp only [goRules, coreRules, tiRules, unRules, AS_of_eq, ← decide_not, N0, N1, N2, N3, N4, N5, Z0, Z1, Z2, Z3, Z4, Z5, Z6, Z7, Z8, Z9, Z10, Zc, ↓reduceIte, reduceCtorEq]
  have hI : thrI (4 * a) (4 * b) l = 0 := by unfold thrI; rw [if_neg (fun h => h k1), if_neg (fun h => h s1), if_pos (by rw [q1, q2]; exact k2)]
  have hJ : thrI (4 * b) (4 * a) l = 0 := by unfold thrI; rw [if_neg (fun h => h k1), if_neg (fun h => h s2), if_pos (by rw [q1, q2]; exact k2.symm)]
  obtain ⟨t1, t2, t3, t4⟩ := thr_facts (af := af) k1 (show tot l ≤ 1000000 by omega) (show 0 ≤ a by omega) k2.1
  obtain ⟨t5, t6, t7, t8⟩ := thr_facts (af := af) k1 (show tot l ≤ 1000000 by omega) (show 0 ≤ b by omega) k2.2
  have hcc := check_cases k1
  have k3 : ¬ a > baseL l := by omega
  have k4 : ¬ b > baseL l := by omega
  have m1 : a ≤ b → thr a l af ≤ thr b l af := fun h => th_mono af l a b 0 0 0 hcc.2.2.1 h (Int.le_refl _)
  have m2 : a = 0 → af = false → thr a l af = 0 := fun h h2 => by rw [h2]; exact th_first l a 0 0 hcc.2.2.1 (by omega)
  have m3 : a = baseL l → af = true → thr a l af = outL l := fun h h2 => by
    rw [h2, t4]
    have := th_last l a 0 0 hcc.2.2.1 (by omega)
    unfold thr; omega
  have e1 : 4 * thr a l af / 4 = thr a l af := by omega
  have e2 : 4 * thr b l af / 4 = thr b l af := by omega
  generalize hTa : thr a l af = TA at *
  generalize hTb : thr b l af = TB at *
  have s3 : selOk (4 * TA) (4 * TB) := by unfold selOk plOk; omega
  simp only [goRules, coreRules, tiRules, unRules, AS_of_eq, ← decide_not, N0, N1, N2, N3, N4, N5, Z0, Z1, Z2, Z3, Z4, Z5, Z6, Z7, Z8, Z9, Z10, Zc, ↓reduceIte, reduceCtorEq, thrR, hI, cq, q1, q2, hTa, hTb]
  refine call_rcheck (by simp [get_cons]) rfl ol ?_
  simp only [goRules, coreRules, tiRules, unRules, AS_of_eq, ← decide_not, N0, N1, N2, N3, N4, N5, Z0, Z1, Z2, Z3, Z4, Z5, Z6, Z7, Z8, Z9, Z10, Zc, ↓reduceIte, reduceCtorEq, k1]
  refine call_rbase (by simp [get_cons]) rfl ol ?_
  simp only [goRules, coreRules, tiRules, unRules, AS_of_eq, ← decide_not, N0, N1, N2, N3, N4, N5, Z0, Z1, Z2, Z3, Z4, Z5, Z6, Z7, Z8, Z9, Z10, Zc, ↓reduceIte, reduceCtorEq, k3, k4]
  refine call_places (by simp [get_cons]) (by omega) (by omega) ?_
  simp only [goRules, coreRules, tiRules, unRules, AS_of_eq, ← decide_not, N0, N1, N2, N3, N4, N5, Z0, Z1, Z2, Z3, Z4, Z5, Z6, Z7, Z8, Z9, Z10, Zc, ↓reduceIte, reduceCtorEq, selR, s3, e1, e2]
  refine call_turn (by simp [get_cons]) (by omega) (by omega) ?_
  simp only [goRules, coreRules, tiRules, unRules, AS_of_eq, ← decide_not, N0, N1, N2, N3, N4, N5, Z0, Z1, Z2, Z3, Z4, Z5, Z6, Z7, Z8, Z9, Z10, Zc, ↓reduceIte, reduceCtorEq, s1, cq]
  refine call_through (by simp [get_cons]) (by omega) (by omega) rfl ol (by omega) ?_
  simp only [goRules, coreRules, tiRules, unRules, AS_of_eq, ← decide_not, N0, N1, N2, N3, N4, N5, Z0, Z1, Z2, Z3, Z4, Z5, Z6, Z7, Z8, Z9, Z10, Zc, ↓reduceIte, reduceCtorEq, thrR, hJ, cq, q1, q2, hTa, hTb]
  refine call_rthr (by simp [get_cons]) (by omega) rfl ol k1 ?_
  simp only [goRules, coreRules, tiRules, unRules, AS_of_eq, ← decide_not, N0, N1, N2, N3, N4, N5, Z0, Z1, Z2, Z3, Z4, Z5, Z6, Z7, Z8, Z9, Z10, Zc, ↓reduceIte, reduceCtorEq, hTa]
  refine call_rthr (by simp [get_cons]) (by omega) rfl ol k1 ?_
  simp only [goRules, coreRules, tiRules, unRules, AS_of_eq, ← decide_not, N0, N1, N2, N3, N4, N5, Z0, Z1, Z2, Z3, Z4, Z5, Z6, Z7, Z8, Z9, Z10, Zc, ↓reduceIte, reduceCtorEq, hTb]
  refine call_turn (by simp [get_cons]) (by omega) (by omega) ?_
  have o1 := ordq (z := 4 * TA) (w := 4 * TA) (by omega) (by omega) (by omega) (by omega)
  have o2 := ordq (z := 4 * TB) (w := 4 * TB) (by omega) (by omega) (by omega) (by omega)
  simp only [goRules, coreRules, tiRules, unRules, AS_of_eq, ← decide_not, N0, N1, N2, N3, N4, N5, Z0, Z1, Z2, Z3, Z4, Z5, Z6, Z7, Z8, Z9, Z10, Zc, ↓reduceIte, reduceCtorEq, s3, cq, o1, o2]
  have key : (a > b) ∨ (¬ a > b ∧ TA ≤ TB) := by
    by_cases h : a > b
    · exact .inl h
    · exact .inr ⟨h, m1 (by omega)⟩
  have key2 : (¬ a = 0) ∨ (a = 0 ∧ af = true) ∨ (a = 0 ∧ af = false ∧ TA = 0) := by
    by_cases h : a = 0
    · by_cases hf : af = true
      · exact .inr (.inl ⟨h, hf⟩)
      · have hf : af = false := by simpa using hf
        exact .inr (.inr ⟨h, hf, m2 h hf⟩)
    · exact .inl h
  have key3 : (¬ a = baseL l) ∨ (a = baseL l ∧ af = false) ∨ (a = baseL l ∧ af = true ∧ TA = outL l) := by
    by_cases h : a = baseL l
    · by_cases hf : af = true
      · exact .inr (.inr ⟨h, hf, m3 h hf⟩)
      · have hf : af = false := by simpa using hf
        exact .inr (.inl ⟨h, hf⟩)
    · exact .inl h
  clear m2 m3
  rcases key with g1 | ⟨g1, g1'⟩
  · simp only [goRules, coreRules, tiRules, unRules, AS_of_eq, ← decide_not, N0, N1, N2, N3, N4, N5, Z0, Z1, Z2, Z3, Z4, Z5, Z6, Z7, Z8, Z9, Z10, Zc, ↓reduceIte, reduceCtorEq, eq_true g1]
    refine call_out (by simp [get_cons]) rfl ol ?_
    simp only [goRules, coreRules, tiRules, unRules, AS_of_eq, ← decide_not, N0, N1, N2, N3, N4, N5, Z0, Z1, Z2, Z3, Z4, Z5, Z6, Z7, Z8, Z9, Z10, Zc, ↓reduceIte, reduceCtorEq, eq_true t3]
    rcases key2 with g2 | ⟨g2, g2'⟩ | ⟨g2, g2', g2''⟩
    · simp only [goRules, coreRules, tiRules, unRules, AS_of_eq, ← decide_not, N0, N1, N2, N3, N4, N5, Z0, Z1, Z2, Z3, Z4, Z5, Z6, Z7, Z8, Z9, Z10, Zc, ↓reduceIte, reduceCtorEq, eq_false g2]
      rcases key3 with g3 | ⟨g3, g3'⟩ | ⟨g3, g3', g3''⟩
      · simp only [goRules, coreRules, tiRules, unRules, AS_of_eq, ← decide_not, N0, N1, N2, N3, N4, N5, Z0, Z1, Z2, Z3, Z4, Z5, Z6, Z7, Z8, Z9, Z10, Zc, ↓reduceIte, reduceCtorEq, eq_false g3]
        refine call_awake11 (by simp [get_cons]) ?_
        simp only [goRules, coreRules, tiRules, unRules, AS_of_eq, ← decide_not, N0, N1, N2, N3, N4, N5, Z0, Z1, Z2, Z3, Z4, Z5, Z6, Z7, Z8, Z9, Z10, Zc, ↓reduceIte, reduceCtorEq]
      · simp only [goRules, coreRules, tiRules, unRules, AS_of_eq, ← decide_not, N0, N1, N2, N3, N4, N5, Z0, Z1, Z2, Z3, Z4, Z5, Z6, Z7, Z8, Z9, Z10, Zc, ↓reduceIte, reduceCtorEq, eq_true g3, g3']
        refine call_awake11 (by simp [get_cons]) ?_
        simp only [goRules, coreRules, tiRules, unRules, AS_of_eq, ← decide_not, N0, N1, N2, N3, N4, N5, Z0, Z1, Z2, Z3, Z4, Z5, Z6, Z7, Z8, Z9, Z10, Zc, ↓reduceIte, reduceCtorEq]
      · simp only [goRules, coreRules, tiRules, unRules, AS_of_eq, ← decide_not, N0, N1, N2, N3, N4, N5, Z0, Z1, Z2, Z3, Z4, Z5, Z6, Z7, Z8, Z9, Z10, Zc, ↓reduceIte, reduceCtorEq, eq_true g3, g3']
        refine call_out (by simp [get_cons]) rfl ol ?_
        simp only [goRules, coreRules, tiRules, unRules, AS_of_eq, ← decide_not, N0, N1, N2, N3, N4, N5, Z0, Z1, Z2, Z3, Z4, Z5, Z6, Z7, Z8, Z9, Z10, Zc, ↓reduceIte, reduceCtorEq, eq_true g3'']
        refine call_awake11 (by simp [get_cons]) ?_
        simp only [goRules, coreRules, tiRules, unRules, AS_of_eq, ← decide_not, N0, N1, N2, N3, N4, N5, Z0, Z1, Z2, Z3, Z4, Z5, Z6, Z7, Z8, Z9, Z10, Zc, ↓reduceIte, reduceCtorEq]
    · simp only [goRules, coreRules, tiRules, unRules, AS_of_eq, ← decide_not, N0, N1, N2, N3, N4, N5, Z0, Z1, Z2, Z3, Z4, Z5, Z6, Z7, Z8, Z9, Z10, Zc, ↓reduceIte, reduceCtorEq, eq_true g2, g2']
      rcases key3 with g3 | ⟨g3, g3'⟩ | ⟨g3, g3', g3''⟩
      · simp only [goRules, coreRules, tiRules, unRules, AS_of_eq, ← decide_not, N0, N1, N2, N3, N4, N5, Z0, Z1, Z2, Z3, Z4, Z5, Z6, Z7, Z8, Z9, Z10, Zc, ↓reduceIte, reduceCtorEq, eq_false g3]
        refine call_awake11 (by simp [get_cons]) ?_
        simp only [goRules, coreRules, tiRules, unRules, AS_of_eq, ← decide_not, N0, N1, N2, N3, N4, N5, Z0, Z1, Z2, Z3, Z4, Z5, Z6, Z7, Z8, Z9, Z10, Zc, ↓reduceIte, reduceCtorEq]
      · rw [g2'] at g3'; cases g3'
      · simp only [goRules, coreRules, tiRules, unRules, AS_of_eq, ← decide_not, N0, N1, N2, N3, N4, N5, Z0, Z1, Z2, Z3, Z4, Z5, Z6, Z7, Z8, Z9, Z10, Zc, ↓reduceIte, reduceCtorEq, eq_true g3, g3']
        refine call_out (by simp [get_cons]) rfl ol ?_
        simp only [goRules, coreRules, tiRules, unRules, AS_of_eq, ← decide_not, N0, N1, N2, N3, N4, N5, Z0, Z1, Z2, Z3, Z4, Z5, Z6, Z7, Z8, Z9, Z10, Zc, ↓reduceIte, reduceCtorEq, eq_true g3'']
        refine call_awake11 (by simp [get_cons]) ?_
        simp only [goRules, coreRules, tiRules, unRules, AS_of_eq, ← decide_not, N0, N1, N2, N3, N4, N5, Z0, Z1, Z2, Z3, Z4, Z5, Z6, Z7, Z8, Z9, Z10, Zc, ↓reduceIte, reduceCtorEq]
    · simp only [goRules, coreRules, tiRules, unRules, AS_of_eq, ← decide_not, N0, N1, N2, N3, N4, N5, Z0, Z1, Z2, Z3, Z4, Z5, Z6, Z7, Z8, Z9, Z10, Zc, ↓reduceIte, reduceCtorEq, eq_true g2, g2', eq_true g2'']
      rcases key3 with g3 | ⟨g3, g3'⟩ | ⟨g3, g3', g3''⟩
      · simp only [goRules, coreRules, tiRules, unRules, AS_of_eq, ← decide_not, N0, N1, N2, N3, N4, N5, Z0, Z1, Z2, Z3, Z4, Z5, Z6, Z7, Z8, Z9, Z10, Zc, ↓reduceIte, reduceCtorEq, eq_false g3]
        refine call_awake11 (by simp [get_cons]) ?_
        simp only [goRules, coreRules, tiRules, unRules, AS_of_eq, ← decide_not, N0, N1, N2, N3, N4, N5, Z0, Z1, Z2, Z3, Z4, Z5, Z6, Z7, Z8, Z9, Z10, Zc, ↓reduceIte, reduceCtorEq]
      · simp only [goRules, coreRules, tiRules, unRules, AS_of_eq, ← decide_not, N0, N1, N2, N3, N4, N5, Z0, Z1, Z2, Z3, Z4, Z5, Z6, Z7, Z8, Z9, Z10, Zc, ↓reduceIte, reduceCtorEq, eq_true g3, g3']
        refine call_awake11 (by simp [get_cons]) ?_
        simp only [goRules, coreRules, tiRules, unRules, AS_of_eq, ← decide_not, N0, N1, N2, N3, N4, N5, Z0, Z1, Z2, Z3, Z4, Z5, Z6, Z7, Z8, Z9, Z10, Zc, ↓reduceIte, reduceCtorEq]
      · rw [g2'] at g3'; cases g3'
  · simp only [goRules, coreRules, tiRules, unRules, AS_of_eq, ← decide_not, N0, N1, N2, N3, N4, N5, Z0, Z1, Z2, Z3, Z4, Z5, Z6, Z7, Z8, Z9, Z10, Zc, ↓reduceIte, reduceCtorEq, eq_false g1, eq_true g1']
    refine call_out (by simp [get_cons]) rfl ol ?_
    simp only [goRules, coreRules, tiRules, unRules, AS_of_eq, ← decide_not, N0, N1, N2, N3, N4, N5, Z0, Z1, Z2, Z3, Z4, Z5, Z6, Z7, Z8, Z9, Z10, Zc, ↓reduceIte, reduceCtorEq, eq_true t3]
    rcases key2 with g2 | ⟨g2, g2'⟩ | ⟨g2, g2', g2''⟩
    · simp only [goRules, coreRules, tiRules, unRules, AS_of_eq, ← decide_not, N0, N1, N2, N3, N4, N5, Z0, Z1, Z2, Z3, Z4, Z5, Z6, Z7, Z8, Z9, Z10, Zc, ↓reduceIte, reduceCtorEq, eq_false g2]
      rcases key3 with g3 | ⟨g3, g3'⟩ | ⟨g3, g3', g3''⟩
      · simp only [goRules, coreRules, tiRules, unRules, AS_of_eq, ← decide_not, N0, N1, N2, N3, N4, N5, Z0, Z1, Z2, Z3, Z4, Z5, Z6, Z7, Z8, Z9, Z10, Zc, ↓reduceIte, reduceCtorEq, eq_false g3]
        refine call_awake11 (by simp [get_cons]) ?_
        simp only [goRules, coreRules, tiRules, unRules, AS_of_eq, ← decide_not, N0, N1, N2, N3, N4, N5, Z0, Z1, Z2, Z3, Z4, Z5, Z6, Z7, Z8, Z9, Z10, Zc, ↓reduceIte, reduceCtorEq]
      · simp only [goRules, coreRules, tiRules, unRules, AS_of_eq, ← decide_not, N0, N1, N2, N3, N4, N5, Z0, Z1, Z2, Z3, Z4, Z5, Z6, Z7, Z8, Z9, Z10, Zc, ↓reduceIte, reduceCtorEq, eq_true g3, g3']
        refine call_awake11 (by simp [get_cons]) ?_
        simp only [goRules, coreRules, tiRules, unRules, AS_of_eq, ← decide_not, N0, N1, N2, N3, N4, N5, Z0, Z1, Z2, Z3, Z4, Z5, Z6, Z7, Z8, Z9, Z10, Zc, ↓reduceIte, reduceCtorEq]
      · simp only [goRules, coreRules, tiRules, unRules, AS_of_eq, ← decide_not, N0, N1, N2, N3, N4, N5, Z0, Z1, Z2, Z3, Z4, Z5, Z6, Z7, Z8, Z9, Z10, Zc, ↓reduceIte, reduceCtorEq, eq_true g3, g3']
        refine call_out (by simp [get_cons]) rfl ol ?_
        simp only [goRules, coreRules, tiRules, unRules, AS_of_eq, ← decide_not, N0, N1, N2, N3, N4, N5, Z0, Z1, Z2, Z3, Z4, Z5, Z6, Z7, Z8, Z9, Z10, Zc, ↓reduceIte, reduceCtorEq, eq_true g3'']
        refine call_awake11 (by simp [get_cons]) ?_
        simp only [goRules, coreRules, tiRules, unRules, AS_of_eq, ← decide_not, N0, N1, N2, N3, N4, N5, Z0, Z1, Z2, Z3, Z4, Z5, Z6, Z7, Z8, Z9, Z10, Zc, ↓reduceIte, reduceCtorEq]
    · simp only [goRules, coreRules, tiRules, unRules, AS_of_eq, ← decide_not, N0, N1, N2, N3, N4, N5, Z0, Z1, Z2, Z3, Z4, Z5, Z6, Z7, Z8, Z9, Z10, Zc, ↓reduceIte, reduceCtorEq, eq_true g2, g2']
      rcases key3 with g3 | ⟨g3, g3'⟩ | ⟨g3, g3', g3''⟩
      · simp only [goRules, coreRules, tiRules, unRules, AS_of_eq, ← decide_not, N0, N1, N2, N3, N4, N5, Z0, Z1, Z2, Z3, Z4, Z5, Z6, Z7, Z8, Z9, Z10, Zc, ↓reduceIte, reduceCtorEq, eq_false g3]
        refine call_awake11 (by simp [get_cons]) ?_
        simp only [goRules, coreRules, tiRules, unRules, AS_of_eq, ← decide_not, N0, N1, N2, N3, N4, N5, Z0, Z1, Z2, Z3, Z4, Z5, Z6, Z7, Z8, Z9, Z10, Zc, ↓reduceIte, reduceCtorEq]
      · rw [g2'] at g3'; cases g3'
      · simp only [goRules, coreRules, tiRules, unRules, AS_of_eq, ← decide_not, N0, N1, N2, N3, N4, N5, Z0, Z1, Z2, Z3, Z4, Z5, Z6, Z7, Z8, Z9, Z10, Zc, ↓reduceIte, reduceCtorEq, eq_true g3, g3']
        refine call_out (by simp [get_cons]) rfl ol ?_
        simp only [goRules, coreRules, tiRules, unRules, AS_of_eq, ← decide_not, N0, N1, N2, N3, N4, N5, Z0, Z1, Z2, Z3, Z4, Z5, Z6, Z7, Z8, Z9, Z10, Zc, ↓reduceIte, reduceCtorEq, eq_true g3'']
        refine call_awake11 (by simp [get_cons]) ?_
        simp only [goRules, coreRules, tiRules, unRules, AS_of_eq, ← decide_not, N0, N1, N2, N3, N4, N5, Z0, Z1, Z2, Z3, Z4, Z5, Z6, Z7, Z8, Z9, Z10, Zc, ↓reduceIte, reduceCtorEq]
    · simp only [goRules, coreRules, tiRules, unRules, AS_of_eq, ← decide_not, N0, N1, N2, N3, N4, N5, Z0, Z1, Z2, Z3, Z4, Z5, Z6, Z7, Z8, Z9, Z10, Zc, ↓reduceIte, reduceCtorEq, eq_true g2, g2', eq_true g2'']
      rcases key3 with g3 | ⟨g3, g3'⟩ | ⟨g3, g3', g3''⟩
      · simp only [goRules, coreRules, tiRules, unRules, AS_of_eq, ← decide_not, N0, N1, N2, N3, N4, N5, Z0, Z1, Z2, Z3, Z4, Z5, Z6, Z7, Z8, Z9, Z10, Zc, ↓reduceIte, reduceCtorEq, eq_false g3]
        refine call_awake11 (by simp [get_cons]) ?_
        simp only [goRules, coreRules, tiRules, unRules, AS_of_eq, ← decide_not, N0, N1, N2, N3, N4, N5, Z0, Z1, Z2, Z3, Z4, Z5, Z6, Z7, Z8, Z9, Z10, Zc, ↓reduceIte, reduceCtorEq]
      · simp only [goRules, coreRules, tiRules, unRules, AS_of_eq, ← decide_not, N0, N1, N2, N3, N4, N5, Z0, Z1, Z2, Z3, Z4, Z5, Z6, Z7, Z8, Z9, Z10, Zc, ↓reduceIte, reduceCtorEq, eq_true g3, g3']
        refine call_awake11 (by simp [get_cons]) ?_
        simp only [goRules, coreRules, tiRules, unRules, AS_of_eq, ← decide_not, N0, N1, N2, N3, N4, N5, Z0, Z1, Z2, Z3, Z4, Z5, Z6, Z7, Z8, Z9, Z10, Zc, ↓reduceIte, reduceCtorEq]
      · rw [g2'] at g3'; cases g3'
end Go.Proofs
end
