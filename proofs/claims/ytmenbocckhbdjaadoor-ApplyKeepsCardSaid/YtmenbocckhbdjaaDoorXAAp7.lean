/-
  What makes one text of another one: the program's, the document's.
-/
import Derived.Test.YtmenbocckhbdjaaDoorXAAp6
set_option linter.unusedSimpArgs false
set_option linter.unusedVariables false
set_option linter.defProp false

-- AAp7
section
namespace Go.Proofs
open Go Go.Rw
set_option maxRecDepth 100000
set_option linter.unusedSimpArgs false
set_option linter.unusedVariables false

abbrev D1 (x y : List Nat) := { i : Nat // i ≤ x.length ∧ i ≤ y.length ∧ pfx x y = i + lcp (x.drop i) (y.drop i) }
abbrev D2 (x y : List Nat) := { j : Nat // pfx x y + j ≤ x.length ∧ pfx x y + j ≤ y.length ∧ sfx x y = j + lcp ((x.drop (pfx x y)).reverse.drop j) ((y.drop (pfx x y)).reverse.drop j) }
theorem d1_step {x y : List Nat} {i : Nat} (h1 : i < x.length) (h2 : i < y.length) (h : pfx x y = i + lcp (x.drop i) (y.drop i)) : (x[i] = y[i] → pfx x y = i + 1 + lcp (x.drop (i + 1)) (y.drop (i + 1))) ∧ (¬ x[i] = y[i] → pfx x y = i) := by
  rw [lcp_step h1 h2] at h
  constructor
  · intro he; rw [if_pos he] at h; omega
  · intro he; rw [if_neg he] at h; omega
theorem d2_step {x y : List Nat} {j : Nat} (h1 : pfx x y + j < x.length) (h2 : pfx x y + j < y.length) (h : sfx x y = j + lcp ((x.drop (pfx x y)).reverse.drop j) ((y.drop (pfx x y)).reverse.drop j)) :
    (x[x.length - 1 - j]'(by omega) = y[y.length - 1 - j]'(by omega) → sfx x y = j + 1 + lcp ((x.drop (pfx x y)).reverse.drop (j + 1)) ((y.drop (pfx x y)).reverse.drop (j + 1))) ∧ (¬ x[x.length - 1 - j]'(by omega) = y[y.length - 1 - j]'(by omega) → sfx x y = j) := by
  rw [lcp_step (by simp; omega) (by simp; omega), rev_get (by omega), rev_get (by omega)] at h
  constructor
  · intro he; rw [if_pos he] at h; omega
  · intro he; rw [if_neg he] at h; omega
theorem d2_end {x y : List Nat} {j : Nat} (h : x.length ≤ pfx x y + j ∨ y.length ≤ pfx x y + j) (hs : sfx x y = j + lcp ((x.drop (pfx x y)).reverse.drop j) ((y.drop (pfx x y)).reverse.drop j)) : sfx x y = j := by
  rw [lcp_end (by simp; omega)] at hs
  omega
theorem d1_end {x y : List Nat} {i : Nat} (h : x.length ≤ i ∨ y.length ≤ i) (hs : pfx x y = i + lcp (x.drop i) (y.drop i)) : pfx x y = i := by
  rw [lcp_end h] at hs
  omega
theorem ofR_form (n a b : Int) (t : List UInt8) : ∃ (l : List Cp) (e : Int), ofR n a b t = res2 (.sl 0 3 (comps l)) e := by
  unfold ofR
  split
  · exact ⟨[], 1, rfl⟩
  · exact ⟨_, 0, rfl⟩
theorem diff_good : Rw.Good Tryd.prog 25 diffCon := by
  have hΓ : GoodEnv Tryd.prog [(55, validCon), (49, ofCon)] := (goodEnv_cons valid_good (goodEnv_cons of_good goodEnv_nil))
  refine good_fn (nn := 90) hΓ Tryd.func25 (by kernel_rfl) rfl (show Tryd.f25.results.toList = [.tmp 4, .tmp 5] from rfl) (fun _ => rfl) (fun _ => rfl) ?_
  rintro ⟨⟨a, ha⟩, ⟨b, hb⟩⟩
  simp only [goRules, coreRules, tiRules, unRules, AS_of_eq, ← decide_not, Nat.reduceAdd, Nat.reduceSub, Nat.reduceMul, Nat.reduceLT, Nat.reduceLeDiff, Nat.reduceEqDiff, Int.reduceNeg, Int.reduceAdd, Int.reduceSub, Int.reduceMul, Int.reduceGT, Int.reduceGE, Int.reduceLT, Int.reduceLE, Int.reduceEq, Int.reduceNe, Int.cast_ofNat_Int, Int.reduceToNat, ↓reduceIte, reduceCtorEq]
  refine call_valid (by simp [get_cons]) ha ?_
  rcases opt_cases (pts a) with hp | ⟨x, hp⟩
  · simp only [goRules, coreRules, tiRules, unRules, AS_of_eq, ← decide_not, Nat.reduceAdd, Nat.reduceSub, Nat.reduceMul, Nat.reduceLT, Nat.reduceLeDiff, Nat.reduceEqDiff, Int.reduceNeg, Int.reduceAdd, Int.reduceSub, Int.reduceMul, Int.reduceGT, Int.reduceGE, Int.reduceLT, Int.reduceLE, Int.reduceEq, Int.reduceNe, Int.cast_ofNat_Int, Int.reduceToNat, ↓reduceIte, reduceCtorEq, hp, Option.isSome_none]
    unfold diffR
    rw [hp]; rfl
  · simp only [goRules, coreRules, tiRules, unRules, AS_of_eq, ← decide_not, Nat.reduceAdd, Nat.reduceSub, Nat.reduceMul, Nat.reduceLT, Nat.reduceLeDiff, Nat.reduceEqDiff, Int.reduceNeg, Int.reduceAdd, Int.reduceSub, Int.reduceMul, Int.reduceGT, Int.reduceGE, Int.reduceLT, Int.reduceLE, Int.reduceEq, Int.reduceNe, Int.cast_ofNat_Int, Int.reduceToNat, ↓reduceIte, reduceCtorEq, hp, Option.isSome_some]
    refine call_valid (by simp [get_cons]) hb ?_
    rcases opt_cases (pts b) with hq | ⟨y, hq⟩
    · simp only [goRules, coreRules, tiRules, unRules, AS_of_eq, ← decide_not, Nat.reduceAdd, Nat.reduceSub, Nat.reduceMul, Nat.reduceLT, Nat.reduceLeDiff, Nat.reduceEqDiff, Int.reduceNeg, Int.reduceAdd, Int.reduceSub, Int.reduceMul, Int.reduceGT, Int.reduceGE, Int.reduceLT, Int.reduceLE, Int.reduceEq, Int.reduceNe, Int.cast_ofNat_Int, Int.reduceToNat, ↓reduceIte, reduceCtorEq, hq, Option.isSome_none]
      unfold diffR
      rw [hp, hq]; rfl
    · have hr : diffR a b = ofR x.length (pfx x y) ((x.length : Int) - sfx x y) (encs (midL x y)) := by unfold diffR; rw [hp, hq]
      have hx := runesA_pts hp
      have hy := runesA_pts hq
      obtain ⟨ox, ex⟩ := pts_some hp
      obtain ⟨oy, ey⟩ := pts_some hq
      have lx := encs_le x
      have ly := encs_le y
      have lx2 := congrArg List.length ex
      have ly2 := congrArg List.length ey
      simp only [goRules, coreRules, tiRules, unRules, AS_of_eq, ← decide_not, Nat.reduceAdd, Nat.reduceSub, Nat.reduceMul, Nat.reduceLT, Nat.reduceLeDiff, Nat.reduceEqDiff, Int.reduceNeg, Int.reduceAdd, Int.reduceSub, Int.reduceMul, Int.reduceGT, Int.reduceGE, Int.reduceLT, Int.reduceLE, Int.reduceEq, Int.reduceNe, Int.cast_ofNat_Int, Int.reduceToNat, ↓reduceIte, reduceCtorEq, hq, Option.isSome_some, hx, hy, i32s_len]
      refine ⟨by omega, by omega, ?_⟩
      obtain ⟨St, hSt⟩ : ∃ St : D1 x y → AS, ∀ i, St i = AS.of 90 [(6, .sl 0 1 (i32s x)), (7, .sl 0 1 (i32s y)), (8, .v (.int .i64 i.1))] [] [] := ⟨_, fun _ => rfl⟩
      refine vc_loop hΓ St (fun i => x.length - i.1) ⟨0, by simp [pfx]⟩ (by rw [hSt]; refine weak_go [] [] ?_; simp only [goRules, coreRules, tiRules, unRules, AS_of_eq, ← decide_not, Nat.reduceAdd, Nat.reduceSub, Nat.reduceMul, Nat.reduceLT, Nat.reduceLeDiff, Nat.reduceEqDiff, Int.reduceNeg, Int.reduceAdd, Int.reduceSub, Int.reduceMul, Int.reduceGT, Int.reduceGE, Int.reduceLT, Int.reduceLE, Int.reduceEq, Int.reduceNe, Int.cast_ofNat_Int, Int.reduceToNat, ↓reduceIte, reduceCtorEq] <;> ((repeat' apply And.intro) <;> first | rfl | omega | trivial)) ?_
      rintro ⟨i, hi1, hi2, hi3⟩
      rw [hSt]
      simp only
      by_cases hm : i < x.length ∧ i < y.length
      · have h1 : (i : Int) < min (x.length : Int) (y.length : Int) := by omega
        have gx := i32s_getD x hm.1
        have gy := i32s_getD y hm.2
        obtain ⟨s1, s2⟩ := d1_step hm.1 hm.2 hi3
        by_cases heq : x[i] = y[i]
        · have h2 : ((x[i] : Nat) : Int) = ((y[i] : Nat) : Int) := by rw [heq]
          simp (disch := omega) only [goRules, coreRules, tiRules, unRules, AS_of_eq, ← decide_not, Nat.reduceAdd, Nat.reduceSub, Nat.reduceMul, Nat.reduceLT, Nat.reduceLeDiff, Nat.reduceEqDiff, Int.reduceNeg, Int.reduceAdd, Int.reduceSub, Int.reduceMul, Int.reduceGT, Int.reduceGE, Int.reduceLT, Int.reduceLE, Int.reduceEq, Int.reduceNe, Int.cast_ofNat_Int, Int.reduceToNat, ↓reduceIte, reduceCtorEq, wrap_i64, i32s_len, min2_int, h1, gx, gy, h2]
          (repeat (with_reducible refine And.intro ?_ ?_; focus (first | omega | exact mixed1 | kernel_rfl)))
          refine weak_again ⟨i + 1, by omega, by omega, s1 heq⟩ (by simp only; omega) ?_
          rw [hSt]; refine weak_go [] [] ?_
          simp only [goRules, coreRules, tiRules, unRules, AS_of_eq, ← decide_not, Nat.reduceAdd, Nat.reduceSub, Nat.reduceMul, Nat.reduceLT, Nat.reduceLeDiff, Nat.reduceEqDiff, Int.reduceNeg, Int.reduceAdd, Int.reduceSub, Int.reduceMul, Int.reduceGT, Int.reduceGE, Int.reduceLT, Int.reduceLE, Int.reduceEq, Int.reduceNe, Int.cast_ofNat_Int, Int.reduceToNat, ↓reduceIte, reduceCtorEq] <;> ((repeat' apply And.intro) <;> first | rfl | omega | trivial)
        · have h2 : ¬ ((x[i] : Nat) : Int) = ((y[i] : Nat) : Int) := by omega
          have hpi := s2 heq
          simp (disch := omega) only [goRules, coreRules, tiRules, unRules, AS_of_eq, ← decide_not, Nat.reduceAdd, Nat.reduceSub, Nat.reduceMul, Nat.reduceLT, Nat.reduceLeDiff, Nat.reduceEqDiff, Int.reduceNeg, Int.reduceAdd, Int.reduceSub, Int.reduceMul, Int.reduceGT, Int.reduceGE, Int.reduceLT, Int.reduceLE, Int.reduceEq, Int.reduceNe, Int.cast_ofNat_Int, Int.reduceToNat, ↓reduceIte, reduceCtorEq, wrap_i64, i32s_len, min2_int, h1, gx, gy, h2]
          (repeat (with_reducible refine And.intro ?_ ?_; focus (first | omega | exact mixed1 | kernel_rfl)))
          have hle2 := sfx_le x y
          obtain ⟨St2, hSt2⟩ : ∃ St2 : D2 x y → AS, ∀ j, St2 j = AS.of 90 [(6, .sl 0 1 (i32s x)), (7, .sl 0 1 (i32s y)), (8, .v (.int .i64 (pfx x y))), (9, .v (.int .i64 j.1))] [] [] := ⟨_, fun _ => rfl⟩
          refine vc_loop hΓ St2 (fun j => x.length - j.1) ⟨0, by omega, by omega, by simp [sfx]⟩ (by rw [hSt2]; refine weak_go [] [] ?_; simp only [goRules, coreRules, tiRules, unRules, AS_of_eq, ← decide_not, Nat.reduceAdd, Nat.reduceSub, Nat.reduceMul, Nat.reduceLT, Nat.reduceLeDiff, Nat.reduceEqDiff, Int.reduceNeg, Int.reduceAdd, Int.reduceSub, Int.reduceMul, Int.reduceGT, Int.reduceGE, Int.reduceLT, Int.reduceLE, Int.reduceEq, Int.reduceNe, Int.cast_ofNat_Int, Int.reduceToNat, ↓reduceIte, reduceCtorEq, hpi] <;> ((repeat' apply And.intro) <;> first | rfl | omega | trivial)) ?_
          rintro ⟨j, hj1, hj2, hj3⟩
          rw [hSt2]
          simp only
          by_cases hm2 : pfx x y + j < x.length ∧ pfx x y + j < y.length
          · have h11 : (j : Int) < min (x.length : Int) (y.length : Int) - (pfx x y : Int) := by omega
            have u1 : ((x.length : Int) - 1 - (j : Int)).toNat = x.length - 1 - j := by omega
            have u2 : ((y.length : Int) - 1 - (j : Int)).toNat = y.length - 1 - j := by omega
            have gx2 := i32s_getD x (i := x.length - 1 - j) (by omega)
            have gy2 := i32s_getD y (i := y.length - 1 - j) (by omega)
            obtain ⟨s3, s4⟩ := d2_step hm2.1 hm2.2 hj3
            by_cases heq2 : x[x.length - 1 - j]'(by omega) = y[y.length - 1 - j]'(by omega)
            · have h2 : ((x[x.length - 1 - j]'(by omega) : Nat) : Int) = ((y[y.length - 1 - j]'(by omega) : Nat) : Int) := by rw [heq2]
              simp (disch := omega) only [goRules, coreRules, tiRules, unRules, AS_of_eq, ← decide_not, Nat.reduceAdd, Nat.reduceSub, Nat.reduceMul, Nat.reduceLT, Nat.reduceLeDiff, Nat.reduceEqDiff, Int.reduceNeg, Int.reduceAdd, Int.reduceSub, Int.reduceMul, Int.reduceGT, Int.reduceGE, Int.reduceLT, Int.reduceLE, Int.reduceEq, Int.reduceNe, Int.cast_ofNat_Int, Int.reduceToNat, ↓reduceIte, reduceCtorEq, wrap_i64, i32s_len, min2_int, h11, u1, u2, gx2, gy2, h2]
              (repeat (with_reducible refine And.intro ?_ ?_; focus (first | omega | exact mixed1 | kernel_rfl)))
              refine weak_again ⟨j + 1, by omega, by omega, s3 heq2⟩ (by simp only; omega) ?_
              rw [hSt2]; refine weak_go [] [] ?_
              simp only [goRules, coreRules, tiRules, unRules, AS_of_eq, ← decide_not, Nat.reduceAdd, Nat.reduceSub, Nat.reduceMul, Nat.reduceLT, Nat.reduceLeDiff, Nat.reduceEqDiff, Int.reduceNeg, Int.reduceAdd, Int.reduceSub, Int.reduceMul, Int.reduceGT, Int.reduceGE, Int.reduceLT, Int.reduceLE, Int.reduceEq, Int.reduceNe, Int.cast_ofNat_Int, Int.reduceToNat, ↓reduceIte, reduceCtorEq] <;> ((repeat' apply And.intro) <;> first | rfl | omega | trivial)
            · have h2 : ¬ ((x[x.length - 1 - j]'(by omega) : Nat) : Int) = ((y[y.length - 1 - j]'(by omega) : Nat) : Int) := by omega
              have hpj := s4 heq2
              simp (disch := omega) only [goRules, coreRules, tiRules, unRules, AS_of_eq, ← decide_not, Nat.reduceAdd, Nat.reduceSub, Nat.reduceMul, Nat.reduceLT, Nat.reduceLeDiff, Nat.reduceEqDiff, Int.reduceNeg, Int.reduceAdd, Int.reduceSub, Int.reduceMul, Int.reduceGT, Int.reduceGE, Int.reduceLT, Int.reduceLE, Int.reduceEq, Int.reduceNe, Int.cast_ofNat_Int, Int.reduceToNat, ↓reduceIte, reduceCtorEq, wrap_i64, i32s_len, min2_int, h11, u1, u2, gx2, gy2, h2]
              (repeat (with_reducible refine And.intro ?_ ?_; focus (first | omega | exact mixed1 | kernel_rfl)))
              have v1 : ((y.length : Int) - (j : Int)).toNat = y.length - j := by omega
              have hpart : partA 0 1 (i32s y) (pfx x y) (y.length - j) = .sl 0 1 (i32s (midL x y)) := by rw [part_le (by rw [i32s_len]; omega), i32s_part]; unfold midL; rw [hpj]
              have hut : utfL ((midL x y).map fun (c : Nat) => (c : Int)) = encs (midL x y) := utfL_encs (mid_ok oy)
              have hml := encs_mid_le x y
              simp (disch := omega) only [goRules, coreRules, tiRules, unRules, AS_of_eq, ← decide_not, Nat.reduceAdd, Nat.reduceSub, Nat.reduceMul, Nat.reduceLT, Nat.reduceLeDiff, Nat.reduceEqDiff, Int.reduceNeg, Int.reduceAdd, Int.reduceSub, Int.reduceMul, Int.reduceGT, Int.reduceGE, Int.reduceLT, Int.reduceLE, Int.reduceEq, Int.reduceNe, Int.cast_ofNat_Int, Int.reduceToNat, ↓reduceIte, reduceCtorEq, wrap_i64, i32s_len, v1, hpart, i32sOf_i32s, hut]
              (repeat (with_reducible refine And.intro ?_ ?_; focus (first | omega | exact mixed1 | kernel_rfl)))
              refine call_of (by simp [get_cons]) (by omega) (by omega) (by omega) (by omega) ?_
              obtain ⟨lq, eq, hq2⟩ := ofR_form x.length (pfx x y) ((x.length : Int) - j) (encs (midL x y))
              rw [hpj, hq2] at hr
              rw [hq2]
              simp only [goRules, coreRules, tiRules, unRules, AS_of_eq, ← decide_not, Nat.reduceAdd, Nat.reduceSub, Nat.reduceMul, Nat.reduceLT, Nat.reduceLeDiff, Nat.reduceEqDiff, Int.reduceNeg, Int.reduceAdd, Int.reduceSub, Int.reduceMul, Int.reduceGT, Int.reduceGE, Int.reduceLT, Int.reduceLE, Int.reduceEq, Int.reduceNe, Int.cast_ofNat_Int, Int.reduceToNat, ↓reduceIte, reduceCtorEq, res2]
              rw [hr]; rfl
          · have h11 : ¬ (j : Int) < min (x.length : Int) (y.length : Int) - (pfx x y : Int) := by omega
            have hpj := d2_end (x := x) (y := y) (j := j) (by omega) hj3
            simp (disch := omega) only [goRules, coreRules, tiRules, unRules, AS_of_eq, ← decide_not, Nat.reduceAdd, Nat.reduceSub, Nat.reduceMul, Nat.reduceLT, Nat.reduceLeDiff, Nat.reduceEqDiff, Int.reduceNeg, Int.reduceAdd, Int.reduceSub, Int.reduceMul, Int.reduceGT, Int.reduceGE, Int.reduceLT, Int.reduceLE, Int.reduceEq, Int.reduceNe, Int.cast_ofNat_Int, Int.reduceToNat, ↓reduceIte, reduceCtorEq, wrap_i64, i32s_len, min2_int, h11]
            (repeat (with_reducible refine And.intro ?_ ?_; focus (first | omega | exact mixed1 | kernel_rfl)))
            have v1 : ((y.length : Int) - (j : Int)).toNat = y.length - j := by omega
            have hpart : partA 0 1 (i32s y) (pfx x y) (y.length - j) = .sl 0 1 (i32s (midL x y)) := by rw [part_le (by rw [i32s_len]; omega), i32s_part]; unfold midL; rw [hpj]
            have hut : utfL ((midL x y).map fun (c : Nat) => (c : Int)) = encs (midL x y) := utfL_encs (mid_ok oy)
            have hml := encs_mid_le x y
            simp (disch := omega) only [goRules, coreRules, tiRules, unRules, AS_of_eq, ← decide_not, Nat.reduceAdd, Nat.reduceSub, Nat.reduceMul, Nat.reduceLT, Nat.reduceLeDiff, Nat.reduceEqDiff, Int.reduceNeg, Int.reduceAdd, Int.reduceSub, Int.reduceMul, Int.reduceGT, Int.reduceGE, Int.reduceLT, Int.reduceLE, Int.reduceEq, Int.reduceNe, Int.cast_ofNat_Int, Int.reduceToNat, ↓reduceIte, reduceCtorEq, wrap_i64, i32s_len, v1, hpart, i32sOf_i32s, hut]
            (repeat (with_reducible refine And.intro ?_ ?_; focus (first | omega | exact mixed1 | kernel_rfl)))
            refine call_of (by simp [get_cons]) (by omega) (by omega) (by omega) (by omega) ?_
            obtain ⟨lq, eq, hq2⟩ := ofR_form x.length (pfx x y) ((x.length : Int) - j) (encs (midL x y))
            rw [hpj, hq2] at hr
            rw [hq2]
            simp only [goRules, coreRules, tiRules, unRules, AS_of_eq, ← decide_not, Nat.reduceAdd, Nat.reduceSub, Nat.reduceMul, Nat.reduceLT, Nat.reduceLeDiff, Nat.reduceEqDiff, Int.reduceNeg, Int.reduceAdd, Int.reduceSub, Int.reduceMul, Int.reduceGT, Int.reduceGE, Int.reduceLT, Int.reduceLE, Int.reduceEq, Int.reduceNe, Int.cast_ofNat_Int, Int.reduceToNat, ↓reduceIte, reduceCtorEq, res2]
            rw [hr]; rfl
      · have h1 : ¬ (i : Int) < min (x.length : Int) (y.length : Int) := by omega
        have hpi := d1_end (x := x) (y := y) (i := i) (by omega) hi3
        simp (disch := omega) only [goRules, coreRules, tiRules, unRules, AS_of_eq, ← decide_not, Nat.reduceAdd, Nat.reduceSub, Nat.reduceMul, Nat.reduceLT, Nat.reduceLeDiff, Nat.reduceEqDiff, Int.reduceNeg, Int.reduceAdd, Int.reduceSub, Int.reduceMul, Int.reduceGT, Int.reduceGE, Int.reduceLT, Int.reduceLE, Int.reduceEq, Int.reduceNe, Int.cast_ofNat_Int, Int.reduceToNat, ↓reduceIte, reduceCtorEq, wrap_i64, i32s_len, min2_int, h1]
        (repeat (with_reducible refine And.intro ?_ ?_; focus (first | omega | exact mixed1 | kernel_rfl)))
        have hle2 := sfx_le x y
        obtain ⟨St2, hSt2⟩ : ∃ St2 : D2 x y → AS, ∀ j, St2 j = AS.of 90 [(6, .sl 0 1 (i32s x)), (7, .sl 0 1 (i32s y)), (8, .v (.int .i64 (pfx x y))), (9, .v (.int .i64 j.1))] [] [] := ⟨_, fun _ => rfl⟩
        refine vc_loop hΓ St2 (fun j => x.length - j.1) ⟨0, by omega, by omega, by simp [sfx]⟩ (by rw [hSt2]; refine weak_go [] [] ?_; simp only [goRules, coreRules, tiRules, unRules, AS_of_eq, ← decide_not, Nat.reduceAdd, Nat.reduceSub, Nat.reduceMul, Nat.reduceLT, Nat.reduceLeDiff, Nat.reduceEqDiff, Int.reduceNeg, Int.reduceAdd, Int.reduceSub, Int.reduceMul, Int.reduceGT, Int.reduceGE, Int.reduceLT, Int.reduceLE, Int.reduceEq, Int.reduceNe, Int.cast_ofNat_Int, Int.reduceToNat, ↓reduceIte, reduceCtorEq, hpi] <;> ((repeat' apply And.intro) <;> first | rfl | omega | trivial)) ?_
        rintro ⟨j, hj1, hj2, hj3⟩
        rw [hSt2]
        simp only
        by_cases hm2 : pfx x y + j < x.length ∧ pfx x y + j < y.length
        · have h11 : (j : Int) < min (x.length : Int) (y.length : Int) - (pfx x y : Int) := by omega
          have u1 : ((x.length : Int) - 1 - (j : Int)).toNat = x.length - 1 - j := by omega
          have u2 : ((y.length : Int) - 1 - (j : Int)).toNat = y.length - 1 - j := by omega
          have gx2 := i32s_getD x (i := x.length - 1 - j) (by omega)
          have gy2 := i32s_getD y (i := y.length - 1 - j) (by omega)
          obtain ⟨s3, s4⟩ := d2_step hm2.1 hm2.2 hj3
          by_cases heq2 : x[x.length - 1 - j]'(by omega) = y[y.length - 1 - j]'(by omega)
          · have h2 : ((x[x.length - 1 - j]'(by omega) : Nat) : Int) = ((y[y.length - 1 - j]'(by omega) : Nat) : Int) := by rw [heq2]
            simp (disch := omega) only [goRules, coreRules, tiRules, unRules, AS_of_eq, ← decide_not, Nat.reduceAdd, Nat.reduceSub, Nat.reduceMul, Nat.reduceLT, Nat.reduceLeDiff, Nat.reduceEqDiff, Int.reduceNeg, Int.reduceAdd, Int.reduceSub, Int.reduceMul, Int.reduceGT, Int.reduceGE, Int.reduceLT, Int.reduceLE, Int.reduceEq, Int.reduceNe, Int.cast_ofNat_Int, Int.reduceToNat, ↓reduceIte, reduceCtorEq, wrap_i64, i32s_len, min2_int, h11, u1, u2, gx2, gy2, h2]
            (repeat (with_reducible refine And.intro ?_ ?_; focus (first | omega | exact mixed1 | kernel_rfl)))
            refine weak_again ⟨j + 1, by omega, by omega, s3 heq2⟩ (by simp only; omega) ?_
            rw [hSt2]; refine weak_go [] [] ?_
            simp only [goRules, coreRules, tiRules, unRules, AS_of_eq, ← decide_not, Nat.reduceAdd, Nat.reduceSub, Nat.reduceMul, Nat.reduceLT, Nat.reduceLeDiff, Nat.reduceEqDiff, Int.reduceNeg, Int.reduceAdd, Int.reduceSub, Int.reduceMul, Int.reduceGT, Int.reduceGE, Int.reduceLT, Int.reduceLE, Int.reduceEq, Int.reduceNe, Int.cast_ofNat_Int, Int.reduceToNat, ↓reduceIte, reduceCtorEq] <;> ((repeat' apply And.intro) <;> first | rfl | omega | trivial)
          · have h2 : ¬ ((x[x.length - 1 - j]'(by omega) : Nat) : Int) = ((y[y.length - 1 - j]'(by omega) : Nat) : Int) := by omega
            have hpj := s4 heq2
            simp (disch := omega) only [goRules, coreRules, tiRules, unRules, AS_of_eq, ← decide_not, Nat.reduceAdd, Nat.reduceSub, Nat.reduceMul, Nat.reduceLT, Nat.reduceLeDiff, Nat.reduceEqDiff, Int.reduceNeg, Int.reduceAdd, Int.reduceSub, Int.reduceMul, Int.reduceGT, Int.reduceGE, Int.reduceLT, Int.reduceLE, Int.reduceEq, Int.reduceNe, Int.cast_ofNat_Int, Int.reduceToNat, ↓reduceIte, reduceCtorEq, wrap_i64, i32s_len, min2_int, h11, u1, u2, gx2, gy2, h2]
            (repeat (with_reducible refine And.intro ?_ ?_; focus (first | omega | exact mixed1 | kernel_rfl)))
            have v1 : ((y.length : Int) - (j : Int)).toNat = y.length - j := by omega
            have hpart : partA 0 1 (i32s y) (pfx x y) (y.length - j) = .sl 0 1 (i32s (midL x y)) := by rw [part_le (by rw [i32s_len]; omega), i32s_part]; unfold midL; rw [hpj]
            have hut : utfL ((midL x y).map fun (c : Nat) => (c : Int)) = encs (midL x y) := utfL_encs (mid_ok oy)
            have hml := encs_mid_le x y
            simp (disch := omega) only [goRules, coreRules, tiRules, unRules, AS_of_eq, ← decide_not, Nat.reduceAdd, Nat.reduceSub, Nat.reduceMul, Nat.reduceLT, Nat.reduceLeDiff, Nat.reduceEqDiff, Int.reduceNeg, Int.reduceAdd, Int.reduceSub, Int.reduceMul, Int.reduceGT, Int.reduceGE, Int.reduceLT, Int.reduceLE, Int.reduceEq, Int.reduceNe, Int.cast_ofNat_Int, Int.reduceToNat, ↓reduceIte, reduceCtorEq, wrap_i64, i32s_len, v1, hpart, i32sOf_i32s, hut]
            (repeat (with_reducible refine And.intro ?_ ?_; focus (first | omega | exact mixed1 | kernel_rfl)))
            refine call_of (by simp [get_cons]) (by omega) (by omega) (by omega) (by omega) ?_
            obtain ⟨lq, eq, hq2⟩ := ofR_form x.length (pfx x y) ((x.length : Int) - j) (encs (midL x y))
            rw [hpj, hq2] at hr
            rw [hq2]
            simp only [goRules, coreRules, tiRules, unRules, AS_of_eq, ← decide_not, Nat.reduceAdd, Nat.reduceSub, Nat.reduceMul, Nat.reduceLT, Nat.reduceLeDiff, Nat.reduceEqDiff, Int.reduceNeg, Int.reduceAdd, Int.reduceSub, Int.reduceMul, Int.reduceGT, Int.reduceGE, Int.reduceLT, Int.reduceLE, Int.reduceEq, Int.reduceNe, Int.cast_ofNat_Int, Int.reduceToNat, ↓reduceIte, reduceCtorEq, res2]
            rw [hr]; rfl
        · have h11 : ¬ (j : Int) < min (x.length : Int) (y.length : Int) - (pfx x y : Int) := by omega
          have hpj := d2_end (x := x) (y := y) (j := j) (by omega) hj3
          simp (disch := omega) only [goRules, coreRules, tiRules, unRules, AS_of_eq, ← decide_not, Nat.reduceAdd, Nat.reduceSub, Nat.reduceMul, Nat.reduceLT, Nat.reduceLeDiff, Nat.reduceEqDiff, Int.reduceNeg, Int.reduceAdd, Int.reduceSub, Int.reduceMul, Int.reduceGT, Int.reduceGE, Int.reduceLT, Int.reduceLE, Int.reduceEq, Int.reduceNe, Int.cast_ofNat_Int, Int.reduceToNat, ↓reduceIte, reduceCtorEq, wrap_i64, i32s_len, min2_int, h11]
          (repeat (with_reducible refine And.intro ?_ ?_; focus (first | omega | exact mixed1 | kernel_rfl)))
          have v1 : ((y.length : Int) - (j : Int)).toNat = y.length - j := by omega
          have hpart : partA 0 1 (i32s y) (pfx x y) (y.length - j) = .sl 0 1 (i32s (midL x y)) := by rw [part_le (by rw [i32s_len]; omega), i32s_part]; unfold midL; rw [hpj]
          have hut : utfL ((midL x y).map fun (c : Nat) => (c : Int)) = encs (midL x y) := utfL_encs (mid_ok oy)
          have hml := encs_mid_le x y
          simp (disch := omega) only [goRules, coreRules, tiRules, unRules, AS_of_eq, ← decide_not, Nat.reduceAdd, Nat.reduceSub, Nat.reduceMul, Nat.reduceLT, Nat.reduceLeDiff, Nat.reduceEqDiff, Int.reduceNeg, Int.reduceAdd, Int.reduceSub, Int.reduceMul, Int.reduceGT, Int.reduceGE, Int.reduceLT, Int.reduceLE, Int.reduceEq, Int.reduceNe, Int.cast_ofNat_Int, Int.reduceToNat, ↓reduceIte, reduceCtorEq, wrap_i64, i32s_len, v1, hpart, i32sOf_i32s, hut]
          (repeat (with_reducible refine And.intro ?_ ?_; focus (first | omega | exact mixed1 | kernel_rfl)))
          refine call_of (by simp [get_cons]) (by omega) (by omega) (by omega) (by omega) ?_
          obtain ⟨lq, eq, hq2⟩ := ofR_form x.length (pfx x y) ((x.length : Int) - j) (encs (midL x y))
          rw [hpj, hq2] at hr
          rw [hq2]
          simp only [goRules, coreRules, tiRules, unRules, AS_of_eq, ← decide_not, Nat.reduceAdd, Nat.reduceSub, Nat.reduceMul, Nat.reduceLT, Nat.reduceLeDiff, Nat.reduceEqDiff, Int.reduceNeg, Int.reduceAdd, Int.reduceSub, Int.reduceMul, Int.reduceGT, Int.reduceGE, Int.reduceLT, Int.reduceLE, Int.reduceEq, Int.reduceNe, Int.cast_ofNat_Int, Int.reduceToNat, ↓reduceIte, reduceCtorEq, res2]
          rw [hr]; rfl
end Go.Proofs
end
