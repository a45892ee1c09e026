/-
  UtfPieces answers true.
-/
import Derived.Test.YtcdmabenopjbhaaDoorXDUt8
set_option linter.unusedSimpArgs false
set_option linter.unusedVariables false
set_option linter.defProp false

-- DUt9
section
namespace Go.Proofs
open Go Go.Rw
set_option maxRecDepth 100000
set_option linter.unusedSimpArgs false
set_option linter.unusedVariables false

abbrev piecesCon : Con where
  ι := StrM × I64 × I64 × I64 × I64
  args := fun p => [.v (sv p.1.1), .v (.int .i64 p.2.1.1), .v (.int .i64 p.2.2.1.1), .v (.int .i64 p.2.2.2.1.1), .v (.int .i64 p.2.2.2.2.1)]
  post := fun _ r => r = .v (.bool true)
  plain := true
theorem partA_le {l sz i j : Nat} {xs : List AV} (h : j ≤ xs.length) : partA l sz xs i j = .sl l sz ((xs.drop i).take (j - i)) := by
  unfold partA
  split
  · rename_i hc
    obtain ⟨rfl, rfl⟩ := hc
    simp
  · rfl
theorem nats_part (cs : List Nat) (i j : Nat) : ((nats cs).drop i).take j = nats ((cs.drop i).take j) := by simp [nats, ints, List.map_drop, List.map_take]
theorem pieces_good : Rw.Good Tryd.prog 6 piecesCon := by
  have hΓ : GoodEnv Tryd.prog [(11, trueCon), (23, rcountCon), (16, pointsCon), (17, sliceCon), (18, offCon), (12, validCon), (19, intsCon), (13, roundCon)] := (goodEnv_cons awake3_good (goodEnv_cons rcount_good (goodEnv_cons points_good (goodEnv_cons slice_good (goodEnv_cons off_good (goodEnv_cons valid_good (goodEnv_cons ints_good (goodEnv_cons round_good goodEnv_nil))))))))
  refine good_fn (nn := 178) hΓ Tryd.func6 (by kernel_rfl) rfl (show Tryd.f6.results.toList = [.tmp 10] from rfl) (fun _ => rfl) (fun _ => rfl) ?_
  rintro ⟨⟨s, hs⟩, ⟨a, ha⟩, ⟨b, hb⟩, ⟨c, hc⟩, ⟨d, hd⟩⟩
  simp only at hs ha hb hc hd ⊢
  simp only [goRules, coreRules, tiRules, unRules, AS_of_eq, ← decide_not, Nat.reduceAdd, Nat.reduceSub, Nat.reduceMul, Nat.reduceLT, Nat.reduceLeDiff, Nat.reduceEqDiff, Int.reduceNeg, Int.reduceAdd, Int.reduceSub, Int.reduceMul, Int.reduceGT, Int.reduceGE, Int.reduceLT, Int.reduceLE, Int.reduceEq, Int.reduceNe, Int.cast_ofNat_Int, Int.reduceToNat, ↓reduceIte, reduceCtorEq]
  (with_reducible first | refine branchP_dec (fun h => ?_) (fun h => ?_) | refine guardB_dec (fun h => ?_) (fun h => ?_))
  · simp only [goRules, coreRules, tiRules, unRules, AS_of_eq, ← decide_not, Nat.reduceAdd, Nat.reduceSub, Nat.reduceMul, Nat.reduceLT, Nat.reduceLeDiff, Nat.reduceEqDiff, Int.reduceNeg, Int.reduceAdd, Int.reduceSub, Int.reduceMul, Int.reduceGT, Int.reduceGE, Int.reduceLT, Int.reduceLE, Int.reduceEq, Int.reduceNe, Int.cast_ofNat_Int, Int.reduceToNat, ↓reduceIte, reduceCtorEq, h]
    refine call_awake3 (by simp [get_cons]) ?_
    simp only [goRules, coreRules, tiRules, unRules, AS_of_eq, ← decide_not, Nat.reduceAdd, Nat.reduceSub, Nat.reduceMul, Nat.reduceLT, Nat.reduceLeDiff, Nat.reduceEqDiff, Int.reduceNeg, Int.reduceAdd, Int.reduceSub, Int.reduceMul, Int.reduceGT, Int.reduceGE, Int.reduceLT, Int.reduceLE, Int.reduceEq, Int.reduceNe, Int.cast_ofNat_Int, Int.reduceToNat, ↓reduceIte, reduceCtorEq]
  · have hs2 : s.length ≤ 1099511627776 := by omega
    simp only [goRules, coreRules, tiRules, unRules, AS_of_eq, ← decide_not, Nat.reduceAdd, Nat.reduceSub, Nat.reduceMul, Nat.reduceLT, Nat.reduceLeDiff, Nat.reduceEqDiff, Int.reduceNeg, Int.reduceAdd, Int.reduceSub, Int.reduceMul, Int.reduceGT, Int.reduceGE, Int.reduceLT, Int.reduceLE, Int.reduceEq, Int.reduceNe, Int.cast_ofNat_Int, Int.reduceToNat, ↓reduceIte, reduceCtorEq, h]
    refine call_valid (by simp [get_cons]) hs2 ?_
    rcases opt_cases (pts s) with hp | ⟨cs, hp⟩
    · simp only [goRules, coreRules, tiRules, unRules, AS_of_eq, ← decide_not, Nat.reduceAdd, Nat.reduceSub, Nat.reduceMul, Nat.reduceLT, Nat.reduceLeDiff, Nat.reduceEqDiff, Int.reduceNeg, Int.reduceAdd, Int.reduceSub, Int.reduceMul, Int.reduceGT, Int.reduceGE, Int.reduceLT, Int.reduceLE, Int.reduceEq, Int.reduceNe, Int.cast_ofNat_Int, Int.reduceToNat, ↓reduceIte, reduceCtorEq, hp, Option.isSome_none]
      refine call_awake3 (by simp [get_cons]) ?_
      simp only [goRules, coreRules, tiRules, unRules, AS_of_eq, ← decide_not, Nat.reduceAdd, Nat.reduceSub, Nat.reduceMul, Nat.reduceLT, Nat.reduceLeDiff, Nat.reduceEqDiff, Int.reduceNeg, Int.reduceAdd, Int.reduceSub, Int.reduceMul, Int.reduceGT, Int.reduceGE, Int.reduceLT, Int.reduceLE, Int.reduceEq, Int.reduceNe, Int.cast_ofNat_Int, Int.reduceToNat, ↓reduceIte, reduceCtorEq]
    · obtain ⟨hok, hse⟩ := pts_some hp
      have hcl := encs_le cs
      have hsl := congrArg List.length hse
      subst hse
      have hl := nats_len cs
      simp only [goRules, coreRules, tiRules, unRules, AS_of_eq, ← decide_not, Nat.reduceAdd, Nat.reduceSub, Nat.reduceMul, Nat.reduceLT, Nat.reduceLeDiff, Nat.reduceEqDiff, Int.reduceNeg, Int.reduceAdd, Int.reduceSub, Int.reduceMul, Int.reduceGT, Int.reduceGE, Int.reduceLT, Int.reduceLE, Int.reduceEq, Int.reduceNe, Int.cast_ofNat_Int, Int.reduceToNat, ↓reduceIte, reduceCtorEq, hp, Option.isSome_some]
      refine call_points (by simp [get_cons]) hs2 ?_
      simp only [goRules, coreRules, tiRules, unRules, AS_of_eq, ← decide_not, Nat.reduceAdd, Nat.reduceSub, Nat.reduceMul, Nat.reduceLT, Nat.reduceLeDiff, Nat.reduceEqDiff, Int.reduceNeg, Int.reduceAdd, Int.reduceSub, Int.reduceMul, Int.reduceGT, Int.reduceGE, Int.reduceLT, Int.reduceLE, Int.reduceEq, Int.reduceNe, Int.cast_ofNat_Int, Int.reduceToNat, ↓reduceIte, reduceCtorEq, pointsR, hp, res2, hl]
      refine call_rcount (by simp [get_cons]) hs2 ?_
      simp (disch := omega) only [goRules, coreRules, tiRules, unRules, AS_of_eq, ← decide_not, Nat.reduceAdd, Nat.reduceSub, Nat.reduceMul, Nat.reduceLT, Nat.reduceLeDiff, Nat.reduceEqDiff, Int.reduceNeg, Int.reduceAdd, Int.reduceSub, Int.reduceMul, Int.reduceGT, Int.reduceGE, Int.reduceLT, Int.reduceLE, Int.reduceEq, Int.reduceNe, Int.cast_ofNat_Int, Int.reduceToNat, ↓reduceIte, reduceCtorEq, wrap_i64, cnt, hp, hl]
      refine call_round (by simp [get_cons]) ha (by omega) ?_
      have a1 := Int.emod_nonneg a (show (cs.length : Int) + 1 ≠ 0 by omega)
      have a2 := Int.emod_lt_of_pos a (show 0 < (cs.length : Int) + 1 by omega)
      generalize a % ((cs.length : Int) + 1) = A at *
      simp (disch := omega) only [goRules, coreRules, tiRules, unRules, AS_of_eq, ← decide_not, Nat.reduceAdd, Nat.reduceSub, Nat.reduceMul, Nat.reduceLT, Nat.reduceLeDiff, Nat.reduceEqDiff, Int.reduceNeg, Int.reduceAdd, Int.reduceSub, Int.reduceMul, Int.reduceGT, Int.reduceGE, Int.reduceLT, Int.reduceLE, Int.reduceEq, Int.reduceNe, Int.cast_ofNat_Int, Int.reduceToNat, ↓reduceIte, reduceCtorEq, wrap_i64, hl]
      refine call_round (by simp [get_cons]) hb (by omega) ?_
      have b1 := Int.emod_nonneg b (show (cs.length : Int) - A + 1 ≠ 0 by omega)
      have b2 := Int.emod_lt_of_pos b (show 0 < (cs.length : Int) - A + 1 by omega)
      generalize b % ((cs.length : Int) - A + 1) = B at *
      simp (disch := omega) only [goRules, coreRules, tiRules, unRules, AS_of_eq, ← decide_not, Nat.reduceAdd, Nat.reduceSub, Nat.reduceMul, Nat.reduceLT, Nat.reduceLeDiff, Nat.reduceEqDiff, Int.reduceNeg, Int.reduceAdd, Int.reduceSub, Int.reduceMul, Int.reduceGT, Int.reduceGE, Int.reduceLT, Int.reduceLE, Int.reduceEq, Int.reduceNe, Int.cast_ofNat_Int, Int.reduceToNat, ↓reduceIte, reduceCtorEq, wrap_i64]
      refine call_slice (by simp [get_cons]) hs2 (by omega) (by omega) ?_
      have hab : 0 ≤ A ∧ A ≤ A + B ∧ A + B ≤ (cs.length : Int) := by omega
      obtain ⟨qs, hq⟩ : ∃ qs, qs = (cs.drop A.toNat).take ((A + B).toNat - A.toNat) := ⟨_, rfl⟩
      have hqok : ∀ c ∈ qs, okc c := fun c h => hok c (by rw [hq] at h; exact List.mem_of_mem_drop (List.mem_of_mem_take h))
      have hqp : pts (encs qs) = some qs := pts_enc hqok
      have hql : (qs.length : Int) = B := by rw [hq, List.length_take, List.length_drop]; omega
      have hqe : (encs qs).length ≤ (encs cs).length := by
        rw [hq, ← encs_slice cs (a := A.toNat) (b := (A + B).toNat) (by omega), List.length_take, List.length_drop]; omega
      simp only [goRules, coreRules, tiRules, unRules, AS_of_eq, ← decide_not, Nat.reduceAdd, Nat.reduceSub, Nat.reduceMul, Nat.reduceLT, Nat.reduceLeDiff, Nat.reduceEqDiff, Int.reduceNeg, Int.reduceAdd, Int.reduceSub, Int.reduceMul, Int.reduceGT, Int.reduceGE, Int.reduceLT, Int.reduceLE, Int.reduceEq, Int.reduceNe, Int.cast_ofNat_Int, Int.reduceToNat, ↓reduceIte, reduceCtorEq, sliceR, hp, res2, hab, ← hq]
      refine call_points (by simp [get_cons]) (by omega) ?_
      have hnl := nats_len qs
      simp only [goRules, coreRules, tiRules, unRules, AS_of_eq, ← decide_not, Nat.reduceAdd, Nat.reduceSub, Nat.reduceMul, Nat.reduceLT, Nat.reduceLeDiff, Nat.reduceEqDiff, Int.reduceNeg, Int.reduceAdd, Int.reduceSub, Int.reduceMul, Int.reduceGT, Int.reduceGE, Int.reduceLT, Int.reduceLE, Int.reduceEq, Int.reduceNe, Int.cast_ofNat_Int, Int.reduceToNat, ↓reduceIte, reduceCtorEq, pointsR, hqp, res2, hnl]
      (repeat (with_reducible refine And.intro ?_ ?_; focus (first | omega | exact mixed1 | kernel_rfl)))
      rw [partA_le (by rw [hl]; omega), nats_part, ← hq]
      refine call_ints (by simp [get_cons]) (nats_ints _) (nats_ints _) (by simp; omega) (by simp; omega) ?_
      simp (disch := omega) only [goRules, coreRules, tiRules, unRules, AS_of_eq, ← decide_not, Nat.reduceAdd, Nat.reduceSub, Nat.reduceMul, Nat.reduceLT, Nat.reduceLeDiff, Nat.reduceEqDiff, Int.reduceNeg, Int.reduceAdd, Int.reduceSub, Int.reduceMul, Int.reduceGT, Int.reduceGE, Int.reduceLT, Int.reduceLE, Int.reduceEq, Int.reduceNe, Int.cast_ofNat_Int, Int.reduceToNat, ↓reduceIte, reduceCtorEq, wrap_i64, hnl]
      (repeat (with_reducible refine And.intro ?_ ?_; focus (first | omega | exact mixed1 | kernel_rfl)))
      refine call_round (by simp [get_cons]) hc (by omega) ?_
      have c1 := Int.emod_nonneg c (show (qs.length : Int) + 1 ≠ 0 by omega)
      have c2 := Int.emod_lt_of_pos c (show 0 < (qs.length : Int) + 1 by omega)
      generalize c % ((qs.length : Int) + 1) = C at *
      simp (disch := omega) only [goRules, coreRules, tiRules, unRules, AS_of_eq, ← decide_not, Nat.reduceAdd, Nat.reduceSub, Nat.reduceMul, Nat.reduceLT, Nat.reduceLeDiff, Nat.reduceEqDiff, Int.reduceNeg, Int.reduceAdd, Int.reduceSub, Int.reduceMul, Int.reduceGT, Int.reduceGE, Int.reduceLT, Int.reduceLE, Int.reduceEq, Int.reduceNe, Int.cast_ofNat_Int, Int.reduceToNat, ↓reduceIte, reduceCtorEq, wrap_i64, hnl]
      refine call_round (by simp [get_cons]) hd (by omega) ?_
      have d1 := Int.emod_nonneg d (show (qs.length : Int) - C + 1 ≠ 0 by omega)
      have d2 := Int.emod_lt_of_pos d (show 0 < (qs.length : Int) - C + 1 by omega)
      generalize d % ((qs.length : Int) - C + 1) = D at *
      simp (disch := omega) only [goRules, coreRules, tiRules, unRules, AS_of_eq, ← decide_not, Nat.reduceAdd, Nat.reduceSub, Nat.reduceMul, Nat.reduceLT, Nat.reduceLeDiff, Nat.reduceEqDiff, Int.reduceNeg, Int.reduceAdd, Int.reduceSub, Int.reduceMul, Int.reduceGT, Int.reduceGE, Int.reduceLT, Int.reduceLE, Int.reduceEq, Int.reduceNe, Int.cast_ofNat_Int, Int.reduceToNat, ↓reduceIte, reduceCtorEq, wrap_i64]
      refine call_slice (by simp [get_cons]) (by omega) (by omega) (by omega) ?_
      have hcd : 0 ≤ C ∧ C ≤ C + D ∧ C + D ≤ (qs.length : Int) := by omega
      have hcd2 : 0 ≤ A + C ∧ A + C ≤ A + (C + D) ∧ A + (C + D) ≤ (cs.length : Int) := by omega
      have hyz : (cs.drop (A + C).toNat).take ((A + (C + D)).toNat - (A + C).toNat) = (qs.drop C.toNat).take ((C + D).toNat - C.toNat) := by
        rw [hq, List.drop_take, List.drop_drop, List.take_take, show (A + C).toNat = A.toNat + C.toNat by omega]
        congr 1; omega
      simp (disch := omega) only [goRules, coreRules, tiRules, unRules, AS_of_eq, ← decide_not, Nat.reduceAdd, Nat.reduceSub, Nat.reduceMul, Nat.reduceLT, Nat.reduceLeDiff, Nat.reduceEqDiff, Int.reduceNeg, Int.reduceAdd, Int.reduceSub, Int.reduceMul, Int.reduceGT, Int.reduceGE, Int.reduceLT, Int.reduceLE, Int.reduceEq, Int.reduceNe, Int.cast_ofNat_Int, Int.reduceToNat, ↓reduceIte, reduceCtorEq, wrap_i64, sliceR, hqp, res2, hcd]
      refine call_slice (by simp [get_cons]) (by omega) (by omega) (by omega) ?_
      simp (disch := omega) only [goRules, coreRules, tiRules, unRules, AS_of_eq, ← decide_not, Nat.reduceAdd, Nat.reduceSub, Nat.reduceMul, Nat.reduceLT, Nat.reduceLeDiff, Nat.reduceEqDiff, Int.reduceNeg, Int.reduceAdd, Int.reduceSub, Int.reduceMul, Int.reduceGT, Int.reduceGE, Int.reduceLT, Int.reduceLE, Int.reduceEq, Int.reduceNe, Int.cast_ofNat_Int, Int.reduceToNat, ↓reduceIte, reduceCtorEq, wrap_i64, sliceR, hp, res2, hcd2, hyz]
      refine call_off (by simp [get_cons]) hs2 (by omega) (by omega) ?_
      have hA : ¬ (A < 0 ∨ A > (cs.length : Int)) := by omega
      have hB : ¬ (A + B < 0 ∨ A + B > (cs.length : Int)) := by omega
      simp (disch := omega) only [goRules, coreRules, tiRules, unRules, AS_of_eq, ← decide_not, Nat.reduceAdd, Nat.reduceSub, Nat.reduceMul, Nat.reduceLT, Nat.reduceLeDiff, Nat.reduceEqDiff, Int.reduceNeg, Int.reduceAdd, Int.reduceSub, Int.reduceMul, Int.reduceGT, Int.reduceGE, Int.reduceLT, Int.reduceLE, Int.reduceEq, Int.reduceNe, Int.cast_ofNat_Int, Int.reduceToNat, ↓reduceIte, reduceCtorEq, wrap_i64, offR, hp, res2, hA]
      refine call_off (by simp [get_cons]) hs2 (by omega) (by omega) ?_
      simp (disch := omega) only [goRules, coreRules, tiRules, unRules, AS_of_eq, ← decide_not, Nat.reduceAdd, Nat.reduceSub, Nat.reduceMul, Nat.reduceLT, Nat.reduceLeDiff, Nat.reduceEqDiff, Int.reduceNeg, Int.reduceAdd, Int.reduceSub, Int.reduceMul, Int.reduceGT, Int.reduceGE, Int.reduceLT, Int.reduceLE, Int.reduceEq, Int.reduceNe, Int.cast_ofNat_Int, Int.reduceToNat, ↓reduceIte, reduceCtorEq, wrap_i64, offR, hp, res2, hB]
      have l1 := encs_take_mono cs (a := A.toNat) (b := (A + B).toNat) (by omega)
      have l2 := encs_take_le cs (A + B).toNat
      have l3 := encs_slice cs (a := A.toNat) (b := (A + B).toNat) (by omega)
      rw [← hq] at l3
      have g1 : ((encs (cs.take A.toNat)).length : Int) ≥ 0 := by omega
      have g2 : ((encs (cs.take A.toNat)).length : Int) ≤ (encs (cs.take (A + B).toNat)).length := by omega
      have g3 : ((encs (cs.take (A + B).toNat)).length : Int) ≤ (encs cs).length := by omega
      simp (disch := omega) only [goRules, coreRules, tiRules, unRules, AS_of_eq, ← decide_not, Nat.reduceAdd, Nat.reduceSub, Nat.reduceMul, Nat.reduceLT, Nat.reduceLeDiff, Nat.reduceEqDiff, Int.reduceNeg, Int.reduceAdd, Int.reduceSub, Int.reduceMul, Int.reduceGT, Int.reduceGE, Int.reduceLT, Int.reduceLE, Int.reduceEq, Int.reduceNe, Int.cast_ofNat_Int, Int.reduceToNat, ↓reduceIte, reduceCtorEq, wrap_i64, g1, g2, g3, l3]
      (repeat (with_reducible refine And.intro ?_ ?_; focus (first | omega | exact mixed1 | kernel_rfl)))
      refine call_awake3 (by simp [get_cons]) ?_
      simp only [goRules, coreRules, tiRules, unRules, AS_of_eq, ← decide_not, Nat.reduceAdd, Nat.reduceSub, Nat.reduceMul, Nat.reduceLT, Nat.reduceLeDiff, Nat.reduceEqDiff, Int.reduceNeg, Int.reduceAdd, Int.reduceSub, Int.reduceMul, Int.reduceGT, Int.reduceGE, Int.reduceLT, Int.reduceLE, Int.reduceEq, Int.reduceNe, Int.cast_ofNat_Int, Int.reduceToNat, ↓reduceIte, reduceCtorEq]
end Go.Proofs
end
