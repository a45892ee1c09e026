/-
  What makes one text of another one, as the document says.
-/
import Derived.Test.YtmenbocckhbdjaaDoorXAAp7
set_option linter.unusedSimpArgs false
set_option linter.unusedVariables false
set_option linter.defProp false

-- AAp8
section
namespace Go.Proofs
open Go Go.Rw
set_option maxRecDepth 100000
set_option linter.unusedSimpArgs false
set_option linter.unusedVariables false

theorem nats_getD (cs : List Nat) {i : Nat} (h : i < cs.length) : (nats cs).getD i .any = .v (.int .i64 (cs[i] : Nat)) := by
  simp [nats, ints, List.getD_eq_getElem?_getD, h]
theorem rdiff_good : Rw.Good Tryd.prog 31 diffCon := by
  have hΓ : GoodEnv Tryd.prog [(23, rpointsCon), (60, rsliceCon), (64, ofCon)] := (goodEnv_cons rpoints_good (goodEnv_cons rslice_good (goodEnv_cons rof_good goodEnv_nil)))
  refine good_fn (nn := 103) hΓ Tryd.func31 (by kernel_rfl) rfl (show Tryd.f31.results.toList = [.tmp 4, .tmp 5] from rfl) (fun _ => rfl) (fun _ => rfl) ?_
  rintro ⟨⟨a, ha⟩, ⟨b, hb⟩⟩
  simp only [goRules, coreRules, tiRules, unRules, AS_of_eq, ← decide_not, Nat.reduceAdd, Nat.reduceSub, Nat.reduceMul, Nat.reduceLT, Nat.reduceLeDiff, Nat.reduceEqDiff, Int.reduceNeg, Int.reduceAdd, Int.reduceSub, Int.reduceMul, Int.reduceGT, Int.reduceGE, Int.reduceLT, Int.reduceLE, Int.reduceEq, Int.reduceNe, Int.cast_ofNat_Int, Int.reduceToNat, ↓reduceIte, reduceCtorEq]
  refine call_rpoints (by simp [get_cons]) ha ?_
  rcases opt_cases (pts a) with hp | ⟨x, hp⟩
  · simp only [goRules, coreRules, tiRules, unRules, AS_of_eq, ← decide_not, Nat.reduceAdd, Nat.reduceSub, Nat.reduceMul, Nat.reduceLT, Nat.reduceLeDiff, Nat.reduceEqDiff, Int.reduceNeg, Int.reduceAdd, Int.reduceSub, Int.reduceMul, Int.reduceGT, Int.reduceGE, Int.reduceLT, Int.reduceLE, Int.reduceEq, Int.reduceNe, Int.cast_ofNat_Int, Int.reduceToNat, ↓reduceIte, reduceCtorEq, rpointsR, hp]
    refine call_rpoints (by simp [get_cons]) hb ?_
    rcases opt_cases (pts b) with hq | ⟨y, hq⟩
    all_goals
      simp only [goRules, coreRules, tiRules, unRules, AS_of_eq, ← decide_not, Nat.reduceAdd, Nat.reduceSub, Nat.reduceMul, Nat.reduceLT, Nat.reduceLeDiff, Nat.reduceEqDiff, Int.reduceNeg, Int.reduceAdd, Int.reduceSub, Int.reduceMul, Int.reduceGT, Int.reduceGE, Int.reduceLT, Int.reduceLE, Int.reduceEq, Int.reduceNe, Int.cast_ofNat_Int, Int.reduceToNat, ↓reduceIte, reduceCtorEq, rpointsR, hq]
      unfold diffR
      rw [hp]; rfl
  · simp only [goRules, coreRules, tiRules, unRules, AS_of_eq, ← decide_not, Nat.reduceAdd, Nat.reduceSub, Nat.reduceMul, Nat.reduceLT, Nat.reduceLeDiff, Nat.reduceEqDiff, Int.reduceNeg, Int.reduceAdd, Int.reduceSub, Int.reduceMul, Int.reduceGT, Int.reduceGE, Int.reduceLT, Int.reduceLE, Int.reduceEq, Int.reduceNe, Int.cast_ofNat_Int, Int.reduceToNat, ↓reduceIte, reduceCtorEq, rpointsR, hp]
    refine call_rpoints (by simp [get_cons]) hb ?_
    rcases opt_cases (pts b) with hq | ⟨y, hq⟩
    · simp only [goRules, coreRules, tiRules, unRules, AS_of_eq, ← decide_not, Nat.reduceAdd, Nat.reduceSub, Nat.reduceMul, Nat.reduceLT, Nat.reduceLeDiff, Nat.reduceEqDiff, Int.reduceNeg, Int.reduceAdd, Int.reduceSub, Int.reduceMul, Int.reduceGT, Int.reduceGE, Int.reduceLT, Int.reduceLE, Int.reduceEq, Int.reduceNe, Int.cast_ofNat_Int, Int.reduceToNat, ↓reduceIte, reduceCtorEq, rpointsR, hq]
      unfold diffR
      rw [hp, hq]; rfl
    · have hr : diffR a b = ofR x.length (pfx x y) ((x.length : Int) - sfx x y) (encs (midL x y)) := by unfold diffR; rw [hp, hq]
      obtain ⟨ox, ex⟩ := pts_some hp
      obtain ⟨oy, ey⟩ := pts_some hq
      have lx := encs_le x
      have ly := encs_le y
      have lx2 := congrArg List.length ex
      have ly2 := congrArg List.length ey
      simp only [goRules, coreRules, tiRules, unRules, AS_of_eq, ← decide_not, Nat.reduceAdd, Nat.reduceSub, Nat.reduceMul, Nat.reduceLT, Nat.reduceLeDiff, Nat.reduceEqDiff, Int.reduceNeg, Int.reduceAdd, Int.reduceSub, Int.reduceMul, Int.reduceGT, Int.reduceGE, Int.reduceLT, Int.reduceLE, Int.reduceEq, Int.reduceNe, Int.cast_ofNat_Int, Int.reduceToNat, ↓reduceIte, reduceCtorEq, rpointsR, hq]
      obtain ⟨St, hSt⟩ : ∃ St : D1 x y → AS, ∀ i, St i = AS.of 103 [(1, .v (sv b)), (6, .sl 0 1 (nats x)), (8, .sl 0 1 (nats y)), (10, .v (.int .i64 i.1))] [] [] := ⟨_, fun _ => rfl⟩
      refine vc_loop hΓ St (fun i => x.length - i.1) ⟨0, by simp [pfx]⟩ (by rw [hSt]; refine weak_go [] [] ?_; simp only [goRules, coreRules, tiRules, unRules, AS_of_eq, ← decide_not, Nat.reduceAdd, Nat.reduceSub, Nat.reduceMul, Nat.reduceLT, Nat.reduceLeDiff, Nat.reduceEqDiff, Int.reduceNeg, Int.reduceAdd, Int.reduceSub, Int.reduceMul, Int.reduceGT, Int.reduceGE, Int.reduceLT, Int.reduceLE, Int.reduceEq, Int.reduceNe, Int.cast_ofNat_Int, Int.reduceToNat, ↓reduceIte, reduceCtorEq] <;> ((repeat' apply And.intro) <;> first | rfl | omega | trivial)) ?_
      rintro ⟨i, hi1, hi2, hi3⟩
      rw [hSt]
      simp only
      rcases (show ((i : Int) < (x.length : Int) ∧ (i : Int) < (y.length : Int)) ∨ (¬ (i : Int) < (x.length : Int)) ∨ ((i : Int) < (x.length : Int) ∧ ¬ (i : Int) < (y.length : Int)) by omega) with ⟨k1, k2⟩ | k1 | ⟨k1, k2⟩
      · have hm : i < x.length ∧ i < y.length := by omega
        have gx := nats_getD x hm.1
        have gy := nats_getD y hm.2
        obtain ⟨s1, s2⟩ := d1_step hm.1 hm.2 hi3
        by_cases heq : x[i] = y[i]
        · have h2 : ((x[i] : Nat) : Int) = ((y[i] : Nat) : Int) := by rw [heq]
          simp (disch := omega) only [goRules, coreRules, tiRules, unRules, AS_of_eq, ← decide_not, Nat.reduceAdd, Nat.reduceSub, Nat.reduceMul, Nat.reduceLT, Nat.reduceLeDiff, Nat.reduceEqDiff, Int.reduceNeg, Int.reduceAdd, Int.reduceSub, Int.reduceMul, Int.reduceGT, Int.reduceGE, Int.reduceLT, Int.reduceLE, Int.reduceEq, Int.reduceNe, Int.cast_ofNat_Int, Int.reduceToNat, ↓reduceIte, reduceCtorEq, wrap_i64, nats_len, k1, k2, gx, gy, h2]
          (repeat (with_reducible refine And.intro ?_ ?_; focus (first | omega | exact mixed1 | kernel_rfl)))
          refine weak_again ⟨i + 1, by omega, by omega, s1 heq⟩ (by simp only; omega) ?_
          rw [hSt]; refine weak_go [] [] ?_
          simp only [goRules, coreRules, tiRules, unRules, AS_of_eq, ← decide_not, Nat.reduceAdd, Nat.reduceSub, Nat.reduceMul, Nat.reduceLT, Nat.reduceLeDiff, Nat.reduceEqDiff, Int.reduceNeg, Int.reduceAdd, Int.reduceSub, Int.reduceMul, Int.reduceGT, Int.reduceGE, Int.reduceLT, Int.reduceLE, Int.reduceEq, Int.reduceNe, Int.cast_ofNat_Int, Int.reduceToNat, ↓reduceIte, reduceCtorEq] <;> ((repeat' apply And.intro) <;> first | rfl | omega | trivial)
        · have h2 : ¬ ((x[i] : Nat) : Int) = ((y[i] : Nat) : Int) := by omega
          have hpi := s2 heq
          simp (disch := omega) only [goRules, coreRules, tiRules, unRules, AS_of_eq, ← decide_not, Nat.reduceAdd, Nat.reduceSub, Nat.reduceMul, Nat.reduceLT, Nat.reduceLeDiff, Nat.reduceEqDiff, Int.reduceNeg, Int.reduceAdd, Int.reduceSub, Int.reduceMul, Int.reduceGT, Int.reduceGE, Int.reduceLT, Int.reduceLE, Int.reduceEq, Int.reduceNe, Int.cast_ofNat_Int, Int.reduceToNat, ↓reduceIte, reduceCtorEq, wrap_i64, nats_len, k1, k2, gx, gy, h2]
          (repeat (with_reducible refine And.intro ?_ ?_; focus (first | omega | exact mixed1 | kernel_rfl)))
          have hle2 := sfx_le x y
          obtain ⟨St2, hSt2⟩ : ∃ St2 : D2 x y → AS, ∀ j, St2 j = AS.of 103 [(1, .v (sv b)), (6, .sl 0 1 (nats x)), (8, .sl 0 1 (nats y)), (10, .v (.int .i64 (pfx x y))), (11, .v (.int .i64 j.1))] [] [] := ⟨_, fun _ => rfl⟩
          refine vc_loop hΓ St2 (fun j => x.length - j.1) ⟨0, by omega, by omega, by simp [sfx]⟩ (by rw [hSt2]; refine weak_go [] [] ?_; simp only [goRules, coreRules, tiRules, unRules, AS_of_eq, ← decide_not, Nat.reduceAdd, Nat.reduceSub, Nat.reduceMul, Nat.reduceLT, Nat.reduceLeDiff, Nat.reduceEqDiff, Int.reduceNeg, Int.reduceAdd, Int.reduceSub, Int.reduceMul, Int.reduceGT, Int.reduceGE, Int.reduceLT, Int.reduceLE, Int.reduceEq, Int.reduceNe, Int.cast_ofNat_Int, Int.reduceToNat, ↓reduceIte, reduceCtorEq, hpi] <;> ((repeat' apply And.intro) <;> first | rfl | omega | trivial)) ?_
          rintro ⟨j, hj1, hj2, hj3⟩
          rw [hSt2]
          simp only
          rcases (show ((j : Int) < (x.length : Int) - (pfx x y : Int) ∧ (j : Int) < (y.length : Int) - (pfx x y : Int)) ∨ (¬ (j : Int) < (x.length : Int) - (pfx x y : Int)) ∨ ((j : Int) < (x.length : Int) - (pfx x y : Int) ∧ ¬ (j : Int) < (y.length : Int) - (pfx x y : Int)) by omega) with ⟨g1, g2⟩ | g1 | ⟨g1, g2⟩
          · have hm2 : pfx x y + j < x.length ∧ pfx x y + j < y.length := by omega
            have u1 : ((x.length : Int) - 1 - (j : Int)).toNat = x.length - 1 - j := by omega
            have u2 : ((y.length : Int) - 1 - (j : Int)).toNat = y.length - 1 - j := by omega
            have gx2 := nats_getD x (i := x.length - 1 - j) (by omega)
            have gy2 := nats_getD y (i := y.length - 1 - j) (by omega)
            obtain ⟨s3, s4⟩ := d2_step hm2.1 hm2.2 hj3
            by_cases heq2 : x[x.length - 1 - j]'(by omega) = y[y.length - 1 - j]'(by omega)
            · have h2 : ((x[x.length - 1 - j]'(by omega) : Nat) : Int) = ((y[y.length - 1 - j]'(by omega) : Nat) : Int) := by rw [heq2]
              simp (disch := omega) only [goRules, coreRules, tiRules, unRules, AS_of_eq, ← decide_not, Nat.reduceAdd, Nat.reduceSub, Nat.reduceMul, Nat.reduceLT, Nat.reduceLeDiff, Nat.reduceEqDiff, Int.reduceNeg, Int.reduceAdd, Int.reduceSub, Int.reduceMul, Int.reduceGT, Int.reduceGE, Int.reduceLT, Int.reduceLE, Int.reduceEq, Int.reduceNe, Int.cast_ofNat_Int, Int.reduceToNat, ↓reduceIte, reduceCtorEq, wrap_i64, nats_len, g1, g2, u1, u2, gx2, gy2, h2]
              (repeat (with_reducible refine And.intro ?_ ?_; focus (first | omega | exact mixed1 | kernel_rfl)))
              refine weak_again ⟨j + 1, by omega, by omega, s3 heq2⟩ (by simp only; omega) ?_
              rw [hSt2]; refine weak_go [] [] ?_
              simp only [goRules, coreRules, tiRules, unRules, AS_of_eq, ← decide_not, Nat.reduceAdd, Nat.reduceSub, Nat.reduceMul, Nat.reduceLT, Nat.reduceLeDiff, Nat.reduceEqDiff, Int.reduceNeg, Int.reduceAdd, Int.reduceSub, Int.reduceMul, Int.reduceGT, Int.reduceGE, Int.reduceLT, Int.reduceLE, Int.reduceEq, Int.reduceNe, Int.cast_ofNat_Int, Int.reduceToNat, ↓reduceIte, reduceCtorEq] <;> ((repeat' apply And.intro) <;> first | rfl | omega | trivial)
            · have h2 : ¬ ((x[x.length - 1 - j]'(by omega) : Nat) : Int) = ((y[y.length - 1 - j]'(by omega) : Nat) : Int) := by omega
              have hpj := s4 heq2
              simp (disch := omega) only [goRules, coreRules, tiRules, unRules, AS_of_eq, ← decide_not, Nat.reduceAdd, Nat.reduceSub, Nat.reduceMul, Nat.reduceLT, Nat.reduceLeDiff, Nat.reduceEqDiff, Int.reduceNeg, Int.reduceAdd, Int.reduceSub, Int.reduceMul, Int.reduceGT, Int.reduceGE, Int.reduceLT, Int.reduceLE, Int.reduceEq, Int.reduceNe, Int.cast_ofNat_Int, Int.reduceToNat, ↓reduceIte, reduceCtorEq, wrap_i64, nats_len, g1, g2, u1, u2, gx2, gy2, h2]
              (repeat (with_reducible refine And.intro ?_ ?_; focus (first | omega | exact mixed1 | kernel_rfl)))
              have v1 : ((y.length : Int) - (j : Int)).toNat = y.length - j := by omega
              have hmd : (y.drop (pfx x y)).take (y.length - j - pfx x y) = midL x y := by unfold midL; rw [hpj]
              have hml := encs_mid_le x y
              try simp (disch := omega) only [goRules, coreRules, tiRules, unRules, AS_of_eq, ← decide_not, Nat.reduceAdd, Nat.reduceSub, Nat.reduceMul, Nat.reduceLT, Nat.reduceLeDiff, Nat.reduceEqDiff, Int.reduceNeg, Int.reduceAdd, Int.reduceSub, Int.reduceMul, Int.reduceGT, Int.reduceGE, Int.reduceLT, Int.reduceLE, Int.reduceEq, Int.reduceNe, Int.cast_ofNat_Int, Int.reduceToNat, ↓reduceIte, reduceCtorEq, wrap_i64, nats_len]
              subst ey
              refine call_rslice (by simp [get_cons]) oy hb (by omega) ?_
              simp (disch := omega) only [goRules, coreRules, tiRules, unRules, AS_of_eq, ← decide_not, Nat.reduceAdd, Nat.reduceSub, Nat.reduceMul, Nat.reduceLT, Nat.reduceLeDiff, Nat.reduceEqDiff, Int.reduceNeg, Int.reduceAdd, Int.reduceSub, Int.reduceMul, Int.reduceGT, Int.reduceGE, Int.reduceLT, Int.reduceLE, Int.reduceEq, Int.reduceNe, Int.cast_ofNat_Int, Int.reduceToNat, ↓reduceIte, reduceCtorEq, wrap_i64, nats_len, v1, hmd, Int.toNat_natCast]
              refine call_of (by simp [get_cons]) (by omega) (by omega) (by omega) (by omega) ?_
              obtain ⟨lq, eq, hq2⟩ := ofR_form x.length (pfx x y) ((x.length : Int) - j) (encs (midL x y))
              rw [hpj, hq2] at hr
              rw [hq2]
              simp only [goRules, coreRules, tiRules, unRules, AS_of_eq, ← decide_not, Nat.reduceAdd, Nat.reduceSub, Nat.reduceMul, Nat.reduceLT, Nat.reduceLeDiff, Nat.reduceEqDiff, Int.reduceNeg, Int.reduceAdd, Int.reduceSub, Int.reduceMul, Int.reduceGT, Int.reduceGE, Int.reduceLT, Int.reduceLE, Int.reduceEq, Int.reduceNe, Int.cast_ofNat_Int, Int.reduceToNat, ↓reduceIte, reduceCtorEq, res2]
              rw [hr]; rfl
          · have hpj := d2_end (x := x) (y := y) (j := j) (by omega) hj3
            simp (disch := omega) only [goRules, coreRules, tiRules, unRules, AS_of_eq, ← decide_not, Nat.reduceAdd, Nat.reduceSub, Nat.reduceMul, Nat.reduceLT, Nat.reduceLeDiff, Nat.reduceEqDiff, Int.reduceNeg, Int.reduceAdd, Int.reduceSub, Int.reduceMul, Int.reduceGT, Int.reduceGE, Int.reduceLT, Int.reduceLE, Int.reduceEq, Int.reduceNe, Int.cast_ofNat_Int, Int.reduceToNat, ↓reduceIte, reduceCtorEq, wrap_i64, nats_len, g1]
            (repeat (with_reducible refine And.intro ?_ ?_; focus (first | omega | exact mixed1 | kernel_rfl)))
            have v1 : ((y.length : Int) - (j : Int)).toNat = y.length - j := by omega
            have hmd : (y.drop (pfx x y)).take (y.length - j - pfx x y) = midL x y := by unfold midL; rw [hpj]
            have hml := encs_mid_le x y
            try simp (disch := omega) only [goRules, coreRules, tiRules, unRules, AS_of_eq, ← decide_not, Nat.reduceAdd, Nat.reduceSub, Nat.reduceMul, Nat.reduceLT, Nat.reduceLeDiff, Nat.reduceEqDiff, Int.reduceNeg, Int.reduceAdd, Int.reduceSub, Int.reduceMul, Int.reduceGT, Int.reduceGE, Int.reduceLT, Int.reduceLE, Int.reduceEq, Int.reduceNe, Int.cast_ofNat_Int, Int.reduceToNat, ↓reduceIte, reduceCtorEq, wrap_i64, nats_len]
            subst ey
            refine call_rslice (by simp [get_cons]) oy hb (by omega) ?_
            simp (disch := omega) only [goRules, coreRules, tiRules, unRules, AS_of_eq, ← decide_not, Nat.reduceAdd, Nat.reduceSub, Nat.reduceMul, Nat.reduceLT, Nat.reduceLeDiff, Nat.reduceEqDiff, Int.reduceNeg, Int.reduceAdd, Int.reduceSub, Int.reduceMul, Int.reduceGT, Int.reduceGE, Int.reduceLT, Int.reduceLE, Int.reduceEq, Int.reduceNe, Int.cast_ofNat_Int, Int.reduceToNat, ↓reduceIte, reduceCtorEq, wrap_i64, nats_len, v1, hmd, Int.toNat_natCast]
            refine call_of (by simp [get_cons]) (by omega) (by omega) (by omega) (by omega) ?_
            obtain ⟨lq, eq, hq2⟩ := ofR_form x.length (pfx x y) ((x.length : Int) - j) (encs (midL x y))
            rw [hpj, hq2] at hr
            rw [hq2]
            simp only [goRules, coreRules, tiRules, unRules, AS_of_eq, ← decide_not, Nat.reduceAdd, Nat.reduceSub, Nat.reduceMul, Nat.reduceLT, Nat.reduceLeDiff, Nat.reduceEqDiff, Int.reduceNeg, Int.reduceAdd, Int.reduceSub, Int.reduceMul, Int.reduceGT, Int.reduceGE, Int.reduceLT, Int.reduceLE, Int.reduceEq, Int.reduceNe, Int.cast_ofNat_Int, Int.reduceToNat, ↓reduceIte, reduceCtorEq, res2]
            rw [hr]; rfl
          · have hpj := d2_end (x := x) (y := y) (j := j) (by omega) hj3
            simp (disch := omega) only [goRules, coreRules, tiRules, unRules, AS_of_eq, ← decide_not, Nat.reduceAdd, Nat.reduceSub, Nat.reduceMul, Nat.reduceLT, Nat.reduceLeDiff, Nat.reduceEqDiff, Int.reduceNeg, Int.reduceAdd, Int.reduceSub, Int.reduceMul, Int.reduceGT, Int.reduceGE, Int.reduceLT, Int.reduceLE, Int.reduceEq, Int.reduceNe, Int.cast_ofNat_Int, Int.reduceToNat, ↓reduceIte, reduceCtorEq, wrap_i64, nats_len, g1, g2]
            (repeat (with_reducible refine And.intro ?_ ?_; focus (first | omega | exact mixed1 | kernel_rfl)))
            have v1 : ((y.length : Int) - (j : Int)).toNat = y.length - j := by omega
            have hmd : (y.drop (pfx x y)).take (y.length - j - pfx x y) = midL x y := by unfold midL; rw [hpj]
            have hml := encs_mid_le x y
            try simp (disch := omega) only [goRules, coreRules, tiRules, unRules, AS_of_eq, ← decide_not, Nat.reduceAdd, Nat.reduceSub, Nat.reduceMul, Nat.reduceLT, Nat.reduceLeDiff, Nat.reduceEqDiff, Int.reduceNeg, Int.reduceAdd, Int.reduceSub, Int.reduceMul, Int.reduceGT, Int.reduceGE, Int.reduceLT, Int.reduceLE, Int.reduceEq, Int.reduceNe, Int.cast_ofNat_Int, Int.reduceToNat, ↓reduceIte, reduceCtorEq, wrap_i64, nats_len]
            subst ey
            refine call_rslice (by simp [get_cons]) oy hb (by omega) ?_
            simp (disch := omega) only [goRules, coreRules, tiRules, unRules, AS_of_eq, ← decide_not, Nat.reduceAdd, Nat.reduceSub, Nat.reduceMul, Nat.reduceLT, Nat.reduceLeDiff, Nat.reduceEqDiff, Int.reduceNeg, Int.reduceAdd, Int.reduceSub, Int.reduceMul, Int.reduceGT, Int.reduceGE, Int.reduceLT, Int.reduceLE, Int.reduceEq, Int.reduceNe, Int.cast_ofNat_Int, Int.reduceToNat, ↓reduceIte, reduceCtorEq, wrap_i64, nats_len, v1, hmd, Int.toNat_natCast]
            refine call_of (by simp [get_cons]) (by omega) (by omega) (by omega) (by omega) ?_
            obtain ⟨lq, eq, hq2⟩ := ofR_form x.length (pfx x y) ((x.length : Int) - j) (encs (midL x y))
            rw [hpj, hq2] at hr
            rw [hq2]
            simp only [goRules, coreRules, tiRules, unRules, AS_of_eq, ← decide_not, Nat.reduceAdd, Nat.reduceSub, Nat.reduceMul, Nat.reduceLT, Nat.reduceLeDiff, Nat.reduceEqDiff, Int.reduceNeg, Int.reduceAdd, Int.reduceSub, Int.reduceMul, Int.reduceGT, Int.reduceGE, Int.reduceLT, Int.reduceLE, Int.reduceEq, Int.reduceNe, Int.cast_ofNat_Int, Int.reduceToNat, ↓reduceIte, reduceCtorEq, res2]
            rw [hr]; rfl
      · have hpi := d1_end (x := x) (y := y) (i := i) (by omega) hi3
        simp (disch := omega) only [goRules, coreRules, tiRules, unRules, AS_of_eq, ← decide_not, Nat.reduceAdd, Nat.reduceSub, Nat.reduceMul, Nat.reduceLT, Nat.reduceLeDiff, Nat.reduceEqDiff, Int.reduceNeg, Int.reduceAdd, Int.reduceSub, Int.reduceMul, Int.reduceGT, Int.reduceGE, Int.reduceLT, Int.reduceLE, Int.reduceEq, Int.reduceNe, Int.cast_ofNat_Int, Int.reduceToNat, ↓reduceIte, reduceCtorEq, wrap_i64, nats_len, k1]
        (repeat (with_reducible refine And.intro ?_ ?_; focus (first | omega | exact mixed1 | kernel_rfl)))
        have hle2 := sfx_le x y
        obtain ⟨St2, hSt2⟩ : ∃ St2 : D2 x y → AS, ∀ j, St2 j = AS.of 103 [(1, .v (sv b)), (6, .sl 0 1 (nats x)), (8, .sl 0 1 (nats y)), (10, .v (.int .i64 (pfx x y))), (11, .v (.int .i64 j.1))] [] [] := ⟨_, fun _ => rfl⟩
        refine vc_loop hΓ St2 (fun j => x.length - j.1) ⟨0, by omega, by omega, by simp [sfx]⟩ (by rw [hSt2]; refine weak_go [] [] ?_; simp only [goRules, coreRules, tiRules, unRules, AS_of_eq, ← decide_not, Nat.reduceAdd, Nat.reduceSub, Nat.reduceMul, Nat.reduceLT, Nat.reduceLeDiff, Nat.reduceEqDiff, Int.reduceNeg, Int.reduceAdd, Int.reduceSub, Int.reduceMul, Int.reduceGT, Int.reduceGE, Int.reduceLT, Int.reduceLE, Int.reduceEq, Int.reduceNe, Int.cast_ofNat_Int, Int.reduceToNat, ↓reduceIte, reduceCtorEq, hpi] <;> ((repeat' apply And.intro) <;> first | rfl | omega | trivial)) ?_
        rintro ⟨j, hj1, hj2, hj3⟩
        rw [hSt2]
        simp only
        rcases (show ((j : Int) < (x.length : Int) - (pfx x y : Int) ∧ (j : Int) < (y.length : Int) - (pfx x y : Int)) ∨ (¬ (j : Int) < (x.length : Int) - (pfx x y : Int)) ∨ ((j : Int) < (x.length : Int) - (pfx x y : Int) ∧ ¬ (j : Int) < (y.length : Int) - (pfx x y : Int)) by omega) with ⟨g1, g2⟩ | g1 | ⟨g1, g2⟩
        · have hm2 : pfx x y + j < x.length ∧ pfx x y + j < y.length := by omega
          have u1 : ((x.length : Int) - 1 - (j : Int)).toNat = x.length - 1 - j := by omega
          have u2 : ((y.length : Int) - 1 - (j : Int)).toNat = y.length - 1 - j := by omega
          have gx2 := nats_getD x (i := x.length - 1 - j) (by omega)
          have gy2 := nats_getD y (i := y.length - 1 - j) (by omega)
          obtain ⟨s3, s4⟩ := d2_step hm2.1 hm2.2 hj3
          by_cases heq2 : x[x.length - 1 - j]'(by omega) = y[y.length - 1 - j]'(by omega)
          · have h2 : ((x[x.length - 1 - j]'(by omega) : Nat) : Int) = ((y[y.length - 1 - j]'(by omega) : Nat) : Int) := by rw [heq2]
            simp (disch := omega) only [goRules, coreRules, tiRules, unRules, AS_of_eq, ← decide_not, Nat.reduceAdd, Nat.reduceSub, Nat.reduceMul, Nat.reduceLT, Nat.reduceLeDiff, Nat.reduceEqDiff, Int.reduceNeg, Int.reduceAdd, Int.reduceSub, Int.reduceMul, Int.reduceGT, Int.reduceGE, Int.reduceLT, Int.reduceLE, Int.reduceEq, Int.reduceNe, Int.cast_ofNat_Int, Int.reduceToNat, ↓reduceIte, reduceCtorEq, wrap_i64, nats_len, g1, g2, u1, u2, gx2, gy2, h2]
            (repeat (with_reducible refine And.intro ?_ ?_; focus (first | omega | exact mixed1 | kernel_rfl)))
            refine weak_again ⟨j + 1, by omega, by omega, s3 heq2⟩ (by simp only; omega) ?_
            rw [hSt2]; refine weak_go [] [] ?_
            simp only [goRules, coreRules, tiRules, unRules, AS_of_eq, ← decide_not, Nat.reduceAdd, Nat.reduceSub, Nat.reduceMul, Nat.reduceLT, Nat.reduceLeDiff, Nat.reduceEqDiff, Int.reduceNeg, Int.reduceAdd, Int.reduceSub, Int.reduceMul, Int.reduceGT, Int.reduceGE, Int.reduceLT, Int.reduceLE, Int.reduceEq, Int.reduceNe, Int.cast_ofNat_Int, Int.reduceToNat, ↓reduceIte, reduceCtorEq] <;> ((repeat' apply And.intro) <;> first | rfl | omega | trivial)
          · have h2 : ¬ ((x[x.length - 1 - j]'(by omega) : Nat) : Int) = ((y[y.length - 1 - j]'(by omega) : Nat) : Int) := by omega
            have hpj := s4 heq2
            simp (disch := omega) only [goRules, coreRules, tiRules, unRules, AS_of_eq, ← decide_not, Nat.reduceAdd, Nat.reduceSub, Nat.reduceMul, Nat.reduceLT, Nat.reduceLeDiff, Nat.reduceEqDiff, Int.reduceNeg, Int.reduceAdd, Int.reduceSub, Int.reduceMul, Int.reduceGT, Int.reduceGE, Int.reduceLT, Int.reduceLE, Int.reduceEq, Int.reduceNe, Int.cast_ofNat_Int, Int.reduceToNat, ↓reduceIte, reduceCtorEq, wrap_i64, nats_len, g1, g2, u1, u2, gx2, gy2, h2]
            (repeat (with_reducible refine And.intro ?_ ?_; focus (first | omega | exact mixed1 | kernel_rfl)))
            have v1 : ((y.length : Int) - (j : Int)).toNat = y.length - j := by omega
            have hmd : (y.drop (pfx x y)).take (y.length - j - pfx x y) = midL x y := by unfold midL; rw [hpj]
            have hml := encs_mid_le x y
            try simp (disch := omega) only [goRules, coreRules, tiRules, unRules, AS_of_eq, ← decide_not, Nat.reduceAdd, Nat.reduceSub, Nat.reduceMul, Nat.reduceLT, Nat.reduceLeDiff, Nat.reduceEqDiff, Int.reduceNeg, Int.reduceAdd, Int.reduceSub, Int.reduceMul, Int.reduceGT, Int.reduceGE, Int.reduceLT, Int.reduceLE, Int.reduceEq, Int.reduceNe, Int.cast_ofNat_Int, Int.reduceToNat, ↓reduceIte, reduceCtorEq, wrap_i64, nats_len]
            subst ey
            refine call_rslice (by simp [get_cons]) oy hb (by omega) ?_
            simp (disch := omega) only [goRules, coreRules, tiRules, unRules, AS_of_eq, ← decide_not, Nat.reduceAdd, Nat.reduceSub, Nat.reduceMul, Nat.reduceLT, Nat.reduceLeDiff, Nat.reduceEqDiff, Int.reduceNeg, Int.reduceAdd, Int.reduceSub, Int.reduceMul, Int.reduceGT, Int.reduceGE, Int.reduceLT, Int.reduceLE, Int.reduceEq, Int.reduceNe, Int.cast_ofNat_Int, Int.reduceToNat, ↓reduceIte, reduceCtorEq, wrap_i64, nats_len, v1, hmd, Int.toNat_natCast]
            refine call_of (by simp [get_cons]) (by omega) (by omega) (by omega) (by omega) ?_
            obtain ⟨lq, eq, hq2⟩ := ofR_form x.length (pfx x y) ((x.length : Int) - j) (encs (midL x y))
            rw [hpj, hq2] at hr
            rw [hq2]
            simp only [goRules, coreRules, tiRules, unRules, AS_of_eq, ← decide_not, Nat.reduceAdd, Nat.reduceSub, Nat.reduceMul, Nat.reduceLT, Nat.reduceLeDiff, Nat.reduceEqDiff, Int.reduceNeg, Int.reduceAdd, Int.reduceSub, Int.reduceMul, Int.reduceGT, Int.reduceGE, Int.reduceLT, Int.reduceLE, Int.reduceEq, Int.reduceNe, Int.cast_ofNat_Int, Int.reduceToNat, ↓reduceIte, reduceCtorEq, res2]
            rw [hr]; rfl
        · have hpj := d2_end (x := x) (y := y) (j := j) (by omega) hj3
          simp (disch := omega) only [goRules, coreRules, tiRules, unRules, AS_of_eq, ← decide_not, Nat.reduceAdd, Nat.reduceSub, Nat.reduceMul, Nat.reduceLT, Nat.reduceLeDiff, Nat.reduceEqDiff, Int.reduceNeg, Int.reduceAdd, Int.reduceSub, Int.reduceMul, Int.reduceGT, Int.reduceGE, Int.reduceLT, Int.reduceLE, Int.reduceEq, Int.reduceNe, Int.cast_ofNat_Int, Int.reduceToNat, ↓reduceIte, reduceCtorEq, wrap_i64, nats_len, g1]
          (repeat (with_reducible refine And.intro ?_ ?_; focus (first | omega | exact mixed1 | kernel_rfl)))
          have v1 : ((y.length : Int) - (j : Int)).toNat = y.length - j := by omega
          have hmd : (y.drop (pfx x y)).take (y.length - j - pfx x y) = midL x y := by unfold midL; rw [hpj]
          have hml := encs_mid_le x y
          try simp (disch := omega) only [goRules, coreRules, tiRules, unRules, AS_of_eq, ← decide_not, Nat.reduceAdd, Nat.reduceSub, Nat.reduceMul, Nat.reduceLT, Nat.reduceLeDiff, Nat.reduceEqDiff, Int.reduceNeg, Int.reduceAdd, Int.reduceSub, Int.reduceMul, Int.reduceGT, Int.reduceGE, Int.reduceLT, Int.reduceLE, Int.reduceEq, Int.reduceNe, Int.cast_ofNat_Int, Int.reduceToNat, ↓reduceIte, reduceCtorEq, wrap_i64, nats_len]
          subst ey
          refine call_rslice (by simp [get_cons]) oy hb (by omega) ?_
          simp (disch := omega) only [goRules, coreRules, tiRules, unRules, AS_of_eq, ← decide_not, Nat.reduceAdd, Nat.reduceSub, Nat.reduceMul, Nat.reduceLT, Nat.reduceLeDiff, Nat.reduceEqDiff, Int.reduceNeg, Int.reduceAdd, Int.reduceSub, Int.reduceMul, Int.reduceGT, Int.reduceGE, Int.reduceLT, Int.reduceLE, Int.reduceEq, Int.reduceNe, Int.cast_ofNat_Int, Int.reduceToNat, ↓reduceIte, reduceCtorEq, wrap_i64, nats_len, v1, hmd, Int.toNat_natCast]
          refine call_of (by simp [get_cons]) (by omega) (by omega) (by omega) (by omega) ?_
          obtain ⟨lq, eq, hq2⟩ := ofR_form x.length (pfx x y) ((x.length : Int) - j) (encs (midL x y))
          rw [hpj, hq2] at hr
          rw [hq2]
          simp only [goRules, coreRules, tiRules, unRules, AS_of_eq, ← decide_not, Nat.reduceAdd, Nat.reduceSub, Nat.reduceMul, Nat.reduceLT, Nat.reduceLeDiff, Nat.reduceEqDiff, Int.reduceNeg, Int.reduceAdd, Int.reduceSub, Int.reduceMul, Int.reduceGT, Int.reduceGE, Int.reduceLT, Int.reduceLE, Int.reduceEq, Int.reduceNe, Int.cast_ofNat_Int, Int.reduceToNat, ↓reduceIte, reduceCtorEq, res2]
          rw [hr]; rfl
        · have hpj := d2_end (x := x) (y := y) (j := j) (by omega) hj3
          simp (disch := omega) only [goRules, coreRules, tiRules, unRules, AS_of_eq, ← decide_not, Nat.reduceAdd, Nat.reduceSub, Nat.reduceMul, Nat.reduceLT, Nat.reduceLeDiff, Nat.reduceEqDiff, Int.reduceNeg, Int.reduceAdd, Int.reduceSub, Int.reduceMul, Int.reduceGT, Int.reduceGE, Int.reduceLT, Int.reduceLE, Int.reduceEq, Int.reduceNe, Int.cast_ofNat_Int, Int.reduceToNat, ↓reduceIte, reduceCtorEq, wrap_i64, nats_len, g1, g2]
          (repeat (with_reducible refine And.intro ?_ ?_; focus (first | omega | exact mixed1 | kernel_rfl)))
          have v1 : ((y.length : Int) - (j : Int)).toNat = y.length - j := by omega
          have hmd : (y.drop (pfx x y)).take (y.length - j - pfx x y) = midL x y := by unfold midL; rw [hpj]
          have hml := encs_mid_le x y
          try simp (disch := omega) only [goRules, coreRules, tiRules, unRules, AS_of_eq, ← decide_not, Nat.reduceAdd, Nat.reduceSub, Nat.reduceMul, Nat.reduceLT, Nat.reduceLeDiff, Nat.reduceEqDiff, Int.reduceNeg, Int.reduceAdd, Int.reduceSub, Int.reduceMul, Int.reduceGT, Int.reduceGE, Int.reduceLT, Int.reduceLE, Int.reduceEq, Int.reduceNe, Int.cast_ofNat_Int, Int.reduceToNat, ↓reduceIte, reduceCtorEq, wrap_i64, nats_len]
          subst ey
          refine call_rslice (by simp [get_cons]) oy hb (by omega) ?_
          simp (disch := omega) only [goRules, coreRules, tiRules, unRules, AS_of_eq, ← decide_not, Nat.reduceAdd, Nat.reduceSub, Nat.reduceMul, Nat.reduceLT, Nat.reduceLeDiff, Nat.reduceEqDiff, Int.reduceNeg, Int.reduceAdd, Int.reduceSub, Int.reduceMul, Int.reduceGT, Int.reduceGE, Int.reduceLT, Int.reduceLE, Int.reduceEq, Int.reduceNe, Int.cast_ofNat_Int, Int.reduceToNat, ↓reduceIte, reduceCtorEq, wrap_i64, nats_len, v1, hmd, Int.toNat_natCast]
          refine call_of (by simp [get_cons]) (by omega) (by omega) (by omega) (by omega) ?_
          obtain ⟨lq, eq, hq2⟩ := ofR_form x.length (pfx x y) ((x.length : Int) - j) (encs (midL x y))
          rw [hpj, hq2] at hr
          rw [hq2]
          simp only [goRules, coreRules, tiRules, unRules, AS_of_eq, ← decide_not, Nat.reduceAdd, Nat.reduceSub, Nat.reduceMul, Nat.reduceLT, Nat.reduceLeDiff, Nat.reduceEqDiff, Int.reduceNeg, Int.reduceAdd, Int.reduceSub, Int.reduceMul, Int.reduceGT, Int.reduceGE, Int.reduceLT, Int.reduceLE, Int.reduceEq, Int.reduceNe, Int.cast_ofNat_Int, Int.reduceToNat, ↓reduceIte, reduceCtorEq, res2]
          rw [hr]; rfl
      · have hpi := d1_end (x := x) (y := y) (i := i) (by omega) hi3
        simp (disch := omega) only [goRules, coreRules, tiRules, unRules, AS_of_eq, ← decide_not, Nat.reduceAdd, Nat.reduceSub, Nat.reduceMul, Nat.reduceLT, Nat.reduceLeDiff, Nat.reduceEqDiff, Int.reduceNeg, Int.reduceAdd, Int.reduceSub, Int.reduceMul, Int.reduceGT, Int.reduceGE, Int.reduceLT, Int.reduceLE, Int.reduceEq, Int.reduceNe, Int.cast_ofNat_Int, Int.reduceToNat, ↓reduceIte, reduceCtorEq, wrap_i64, nats_len, k1, k2]
        (repeat (with_reducible refine And.intro ?_ ?_; focus (first | omega | exact mixed1 | kernel_rfl)))
        have hle2 := sfx_le x y
        obtain ⟨St2, hSt2⟩ : ∃ St2 : D2 x y → AS, ∀ j, St2 j = AS.of 103 [(1, .v (sv b)), (6, .sl 0 1 (nats x)), (8, .sl 0 1 (nats y)), (10, .v (.int .i64 (pfx x y))), (11, .v (.int .i64 j.1))] [] [] := ⟨_, fun _ => rfl⟩
        refine vc_loop hΓ St2 (fun j => x.length - j.1) ⟨0, by omega, by omega, by simp [sfx]⟩ (by rw [hSt2]; refine weak_go [] [] ?_; simp only [goRules, coreRules, tiRules, unRules, AS_of_eq, ← decide_not, Nat.reduceAdd, Nat.reduceSub, Nat.reduceMul, Nat.reduceLT, Nat.reduceLeDiff, Nat.reduceEqDiff, Int.reduceNeg, Int.reduceAdd, Int.reduceSub, Int.reduceMul, Int.reduceGT, Int.reduceGE, Int.reduceLT, Int.reduceLE, Int.reduceEq, Int.reduceNe, Int.cast_ofNat_Int, Int.reduceToNat, ↓reduceIte, reduceCtorEq, hpi] <;> ((repeat' apply And.intro) <;> first | rfl | omega | trivial)) ?_
        rintro ⟨j, hj1, hj2, hj3⟩
        rw [hSt2]
        simp only
        rcases (show ((j : Int) < (x.length : Int) - (pfx x y : Int) ∧ (j : Int) < (y.length : Int) - (pfx x y : Int)) ∨ (¬ (j : Int) < (x.length : Int) - (pfx x y : Int)) ∨ ((j : Int) < (x.length : Int) - (pfx x y : Int) ∧ ¬ (j : Int) < (y.length : Int) - (pfx x y : Int)) by omega) with ⟨g1, g2⟩ | g1 | ⟨g1, g2⟩
        · have hm2 : pfx x y + j < x.length ∧ pfx x y + j < y.length := by omega
          have u1 : ((x.length : Int) - 1 - (j : Int)).toNat = x.length - 1 - j := by omega
          have u2 : ((y.length : Int) - 1 - (j : Int)).toNat = y.length - 1 - j := by omega
          have gx2 := nats_getD x (i := x.length - 1 - j) (by omega)
          have gy2 := nats_getD y (i := y.length - 1 - j) (by omega)
          obtain ⟨s3, s4⟩ := d2_step hm2.1 hm2.2 hj3
          by_cases heq2 : x[x.length - 1 - j]'(by omega) = y[y.length - 1 - j]'(by omega)
          · have h2 : ((x[x.length - 1 - j]'(by omega) : Nat) : Int) = ((y[y.length - 1 - j]'(by omega) : Nat) : Int) := by rw [heq2]
            simp (disch := omega) only [goRules, coreRules, tiRules, unRules, AS_of_eq, ← decide_not, Nat.reduceAdd, Nat.reduceSub, Nat.reduceMul, Nat.reduceLT, Nat.reduceLeDiff, Nat.reduceEqDiff, Int.reduceNeg, Int.reduceAdd, Int.reduceSub, Int.reduceMul, Int.reduceGT, Int.reduceGE, Int.reduceLT, Int.reduceLE, Int.reduceEq, Int.reduceNe, Int.cast_ofNat_Int, Int.reduceToNat, ↓reduceIte, reduceCtorEq, wrap_i64, nats_len, g1, g2, u1, u2, gx2, gy2, h2]
            (repeat (with_reducible refine And.intro ?_ ?_; focus (first | omega | exact mixed1 | kernel_rfl)))
            refine weak_again ⟨j + 1, by omega, by omega, s3 heq2⟩ (by simp only; omega) ?_
            rw [hSt2]; refine weak_go [] [] ?_
            simp only [goRules, coreRules, tiRules, unRules, AS_of_eq, ← decide_not, Nat.reduceAdd, Nat.reduceSub, Nat.reduceMul, Nat.reduceLT, Nat.reduceLeDiff, Nat.reduceEqDiff, Int.reduceNeg, Int.reduceAdd, Int.reduceSub, Int.reduceMul, Int.reduceGT, Int.reduceGE, Int.reduceLT, Int.reduceLE, Int.reduceEq, Int.reduceNe, Int.cast_ofNat_Int, Int.reduceToNat, ↓reduceIte, reduceCtorEq] <;> ((repeat' apply And.intro) <;> first | rfl | omega | trivial)
          · have h2 : ¬ ((x[x.length - 1 - j]'(by omega) : Nat) : Int) = ((y[y.length - 1 - j]'(by omega) : Nat) : Int) := by omega
            have hpj := s4 heq2
            simp (disch := omega) only [goRules, coreRules, tiRules, unRules, AS_of_eq, ← decide_not, Nat.reduceAdd, Nat.reduceSub, Nat.reduceMul, Nat.reduceLT, Nat.reduceLeDiff, Nat.reduceEqDiff, Int.reduceNeg, Int.reduceAdd, Int.reduceSub, Int.reduceMul, Int.reduceGT, Int.reduceGE, Int.reduceLT, Int.reduceLE, Int.reduceEq, Int.reduceNe, Int.cast_ofNat_Int, Int.reduceToNat, ↓reduceIte, reduceCtorEq, wrap_i64, nats_len, g1, g2, u1, u2, gx2, gy2, h2]
            (repeat (with_reducible refine And.intro ?_ ?_; focus (first | omega | exact mixed1 | kernel_rfl)))
            have v1 : ((y.length : Int) - (j : Int)).toNat = y.length - j := by omega
            have hmd : (y.drop (pfx x y)).take (y.length - j - pfx x y) = midL x y := by unfold midL; rw [hpj]
            have hml := encs_mid_le x y
            try simp (disch := omega) only [goRules, coreRules, tiRules, unRules, AS_of_eq, ← decide_not, Nat.reduceAdd, Nat.reduceSub, Nat.reduceMul, Nat.reduceLT, Nat.reduceLeDiff, Nat.reduceEqDiff, Int.reduceNeg, Int.reduceAdd, Int.reduceSub, Int.reduceMul, Int.reduceGT, Int.reduceGE, Int.reduceLT, Int.reduceLE, Int.reduceEq, Int.reduceNe, Int.cast_ofNat_Int, Int.reduceToNat, ↓reduceIte, reduceCtorEq, wrap_i64, nats_len]
            subst ey
            refine call_rslice (by simp [get_cons]) oy hb (by omega) ?_
            simp (disch := omega) only [goRules, coreRules, tiRules, unRules, AS_of_eq, ← decide_not, Nat.reduceAdd, Nat.reduceSub, Nat.reduceMul, Nat.reduceLT, Nat.reduceLeDiff, Nat.reduceEqDiff, Int.reduceNeg, Int.reduceAdd, Int.reduceSub, Int.reduceMul, Int.reduceGT, Int.reduceGE, Int.reduceLT, Int.reduceLE, Int.reduceEq, Int.reduceNe, Int.cast_ofNat_Int, Int.reduceToNat, ↓reduceIte, reduceCtorEq, wrap_i64, nats_len, v1, hmd, Int.toNat_natCast]
            refine call_of (by simp [get_cons]) (by omega) (by omega) (by omega) (by omega) ?_
            obtain ⟨lq, eq, hq2⟩ := ofR_form x.length (pfx x y) ((x.length : Int) - j) (encs (midL x y))
            rw [hpj, hq2] at hr
            rw [hq2]
            simp only [goRules, coreRules, tiRules, unRules, AS_of_eq, ← decide_not, Nat.reduceAdd, Nat.reduceSub, Nat.reduceMul, Nat.reduceLT, Nat.reduceLeDiff, Nat.reduceEqDiff, Int.reduceNeg, Int.reduceAdd, Int.reduceSub, Int.reduceMul, Int.reduceGT, Int.reduceGE, Int.reduceLT, Int.reduceLE, Int.reduceEq, Int.reduceNe, Int.cast_ofNat_Int, Int.reduceToNat, ↓reduceIte, reduceCtorEq, res2]
            rw [hr]; rfl
        · have hpj := d2_end (x := x) (y := y) (j := j) (by omega) hj3
          simp (disch := omega) only [goRules, coreRules, tiRules, unRules, AS_of_eq, ← decide_not, Nat.reduceAdd, Nat.reduceSub, Nat.reduceMul, Nat.reduceLT, Nat.reduceLeDiff, Nat.reduceEqDiff, Int.reduceNeg, Int.reduceAdd, Int.reduceSub, Int.reduceMul, Int.reduceGT, Int.reduceGE, Int.reduceLT, Int.reduceLE, Int.reduceEq, Int.reduceNe, Int.cast_ofNat_Int, Int.reduceToNat, ↓reduceIte, reduceCtorEq, wrap_i64, nats_len, g1]
          (repeat (with_reducible refine And.intro ?_ ?_; focus (first | omega | exact mixed1 | kernel_rfl)))
          have v1 : ((y.length : Int) - (j : Int)).toNat = y.length - j := by omega
          have hmd : (y.drop (pfx x y)).take (y.length - j - pfx x y) = midL x y := by unfold midL; rw [hpj]
          have hml := encs_mid_le x y
          try simp (disch := omega) only [goRules, coreRules, tiRules, unRules, AS_of_eq, ← decide_not, Nat.reduceAdd, Nat.reduceSub, Nat.reduceMul, Nat.reduceLT, Nat.reduceLeDiff, Nat.reduceEqDiff, Int.reduceNeg, Int.reduceAdd, Int.reduceSub, Int.reduceMul, Int.reduceGT, Int.reduceGE, Int.reduceLT, Int.reduceLE, Int.reduceEq, Int.reduceNe, Int.cast_ofNat_Int, Int.reduceToNat, ↓reduceIte, reduceCtorEq, wrap_i64, nats_len]
          subst ey
          refine call_rslice (by simp [get_cons]) oy hb (by omega) ?_
          simp (disch := omega) only [goRules, coreRules, tiRules, unRules, AS_of_eq, ← decide_not, Nat.reduceAdd, Nat.reduceSub, Nat.reduceMul, Nat.reduceLT, Nat.reduceLeDiff, Nat.reduceEqDiff, Int.reduceNeg, Int.reduceAdd, Int.reduceSub, Int.reduceMul, Int.reduceGT, Int.reduceGE, Int.reduceLT, Int.reduceLE, Int.reduceEq, Int.reduceNe, Int.cast_ofNat_Int, Int.reduceToNat, ↓reduceIte, reduceCtorEq, wrap_i64, nats_len, v1, hmd, Int.toNat_natCast]
          refine call_of (by simp [get_cons]) (by omega) (by omega) (by omega) (by omega) ?_
          obtain ⟨lq, eq, hq2⟩ := ofR_form x.length (pfx x y) ((x.length : Int) - j) (encs (midL x y))
          rw [hpj, hq2] at hr
          rw [hq2]
          simp only [goRules, coreRules, tiRules, unRules, AS_of_eq, ← decide_not, Nat.reduceAdd, Nat.reduceSub, Nat.reduceMul, Nat.reduceLT, Nat.reduceLeDiff, Nat.reduceEqDiff, Int.reduceNeg, Int.reduceAdd, Int.reduceSub, Int.reduceMul, Int.reduceGT, Int.reduceGE, Int.reduceLT, Int.reduceLE, Int.reduceEq, Int.reduceNe, Int.cast_ofNat_Int, Int.reduceToNat, ↓reduceIte, reduceCtorEq, res2]
          rw [hr]; rfl
        · have hpj := d2_end (x := x) (y := y) (j := j) (by omega) hj3
          simp (disch := omega) only [goRules, coreRules, tiRules, unRules, AS_of_eq, ← decide_not, Nat.reduceAdd, Nat.reduceSub, Nat.reduceMul, Nat.reduceLT, Nat.reduceLeDiff, Nat.reduceEqDiff, Int.reduceNeg, Int.reduceAdd, Int.reduceSub, Int.reduceMul, Int.reduceGT, Int.reduceGE, Int.reduceLT, Int.reduceLE, Int.reduceEq, Int.reduceNe, Int.cast_ofNat_Int, Int.reduceToNat, ↓reduceIte, reduceCtorEq, wrap_i64, nats_len, g1, g2]
          (repeat (with_reducible refine And.intro ?_ ?_; focus (first | omega | exact mixed1 | kernel_rfl)))
          have v1 : ((y.length : Int) - (j : Int)).toNat = y.length - j := by omega
          have hmd : (y.drop (pfx x y)).take (y.length - j - pfx x y) = midL x y := by unfold midL; rw [hpj]
          have hml := encs_mid_le x y
          try simp (disch := omega) only [goRules, coreRules, tiRules, unRules, AS_of_eq, ← decide_not, Nat.reduceAdd, Nat.reduceSub, Nat.reduceMul, Nat.reduceLT, Nat.reduceLeDiff, Nat.reduceEqDiff, Int.reduceNeg, Int.reduceAdd, Int.reduceSub, Int.reduceMul, Int.reduceGT, Int.reduceGE, Int.reduceLT, Int.reduceLE, Int.reduceEq, Int.reduceNe, Int.cast_ofNat_Int, Int.reduceToNat, ↓reduceIte, reduceCtorEq, wrap_i64, nats_len]
          subst ey
          refine call_rslice (by simp [get_cons]) oy hb (by omega) ?_
          simp (disch := omega) only [goRules, coreRules, tiRules, unRules, AS_of_eq, ← decide_not, Nat.reduceAdd, Nat.reduceSub, Nat.reduceMul, Nat.reduceLT, Nat.reduceLeDiff, Nat.reduceEqDiff, Int.reduceNeg, Int.reduceAdd, Int.reduceSub, Int.reduceMul, Int.reduceGT, Int.reduceGE, Int.reduceLT, Int.reduceLE, Int.reduceEq, Int.reduceNe, Int.cast_ofNat_Int, Int.reduceToNat, ↓reduceIte, reduceCtorEq, wrap_i64, nats_len, v1, hmd, Int.toNat_natCast]
          refine call_of (by simp [get_cons]) (by omega) (by omega) (by omega) (by omega) ?_
          obtain ⟨lq, eq, hq2⟩ := ofR_form x.length (pfx x y) ((x.length : Int) - j) (encs (midL x y))
          rw [hpj, hq2] at hr
          rw [hq2]
          simp only [goRules, coreRules, tiRules, unRules, AS_of_eq, ← decide_not, Nat.reduceAdd, Nat.reduceSub, Nat.reduceMul, Nat.reduceLT, Nat.reduceLeDiff, Nat.reduceEqDiff, Int.reduceNeg, Int.reduceAdd, Int.reduceSub, Int.reduceMul, Int.reduceGT, Int.reduceGE, Int.reduceLT, Int.reduceLE, Int.reduceEq, Int.reduceNe, Int.cast_ofNat_Int, Int.reduceToNat, ↓reduceIte, reduceCtorEq, res2]
          rw [hr]; rfl
theorem call_diff {Γ : Env} {f : Nat} (hf : Γ.get f = some diffCon) {σ : AS} {dr : Bool} {a b : List UInt8} {d : Option Nat} {K : AS → Prop} (ha : a.length ≤ 1099511627776) (hb : b.length ≤ 1099511627776)
    (hk : cont σ d (diffR a b) K) : vcCall Tryd.prog Γ dr σ f [.v (sv a), .v (sv b)] d K :=
  vcCall_fn (C := diffCon) (i := (⟨a, ha⟩, ⟨b, hb⟩)) (r := diffR a b) hf rfl rfl rfl rfl (fun _ h => h) (by rw [diffR_er]; exact hk)
end Go.Proofs
end
