/-
  The law NumLengths meets its contract.
-/
import Derived.Test.YtcdmabenopjbhaaXRwT10
set_option linter.unusedSimpArgs false
set_option linter.unusedVariables false
set_option linter.defProp false

-- RwT11
section
namespace Go.Proofs
open Go Go.Rw
set_option maxRecDepth 100000
set_option linter.unusedSimpArgs false
set_option linter.unusedVariables false

abbrev lengthsCon : Con where
  ι := Int
  args := fun n => [.v (.int .i64 n)]
  post := fun _ r => r = .v (.bool true)
  plain := true

theorem valL_nn : ∀ (l : List Int) (s : Int), 0 ≤ s → 0 ≤ valL l s
  | [], _, h => h
  | c :: l, s, h => valL_nn l _ (by omega)
theorem valL_ge : ∀ (l : List Int) (s : Int), 0 ≤ s → s ≤ valL l s
  | [], _, _ => Int.le_refl _
  | c :: l, s, h => Int.le_trans (by omega) (valL_ge l (s * 128 + c % 128) (by omega))

theorem putL_head {n : Int} (h : 0 ≤ n ∧ n ≤ 1099511627776) (h1 : (putL n).length ≠ 1) : ¬ (putL n).getD 0 0 = 128 := by
  rw [putL_in h] at h1 ⊢
  have h2 := tail_head (n.toNat / 128)
  cases ht : tail (n.toNat / 128) with
  | nil => rw [ht] at h1; simp at h1
  | cons c r => rw [ht] at h2; simpa using h2

theorem lengths_good : Rw.Good Try.prog 5 lengthsCon := by
  have hΓ : GoodEnv Try.prog [(6, trueCon), (9, putCon), (11, sizeCon), (12, fitsCon)] :=
    goodEnv_cons awake_good (goodEnv_cons put_good (goodEnv_cons size_good (goodEnv_cons fits_good goodEnv_nil)))
  refine good_go (nn := 99) hΓ Try.func5 (by kernel_rfl) rfl rfl rfl (fun _ => rfl) (fun _ => rfl) fun (n : Int) => ?_
  simp only [goRules, coreRules, ← decide_not, Nat.reduceAdd, Nat.reduceSub, Nat.reduceMul, Nat.reduceLT, Nat.reduceLeDiff, Nat.reduceEqDiff, Int.reduceNeg, Int.reduceLT, Int.reduceLE, Int.reduceEq, Int.reduceNe, Int.cast_ofNat_Int, Int.reduceToNat, ↓reduceIte, reduceCtorEq, show lengthsCon.args n = [.v (.int .i64 n)] from rfl, show Try.f5.results.toList = [.tmp 2] from rfl, tiRules, unRules, AS_of_eq]
  by_cases hn : 0 ≤ n ∧ n ≤ 1099511627776
  · simp only [goRules, coreRules, ← decide_not, Nat.reduceAdd, Nat.reduceSub, Nat.reduceMul, Nat.reduceLT, Nat.reduceLeDiff, Nat.reduceEqDiff, Int.reduceNeg, Int.reduceLT, Int.reduceLE, Int.reduceEq, Int.reduceNe, Int.cast_ofNat_Int, Int.reduceToNat, ↓reduceIte, reduceCtorEq, tiRules, unRules, eq_false (show ¬ n < 0 by omega), eq_false (show ¬ n > 1099511627776 by omega)]
    obtain ⟨St, hSt⟩ : ∃ St : { p : Nat × Nat // p.1 ≤ 1099511627776 ∧ p.2 + (tail (p.1 / 128)).length = (putL n).length } → AS, ∀ p, St p = AS.of 99 [(0, .v (.int .i64 n)), (3, .v (.int .i64 p.1.2)), (4, .v (.int .i64 p.1.1))] [] [] := ⟨_, fun _ => rfl⟩
    have hlen := putL_len n
    refine vc_loop hΓ St (fun p => p.1.1) ⟨(n.toNat, 1), by simp only; omega, by rw [putL_in hn]; simp; omega⟩ (by rw [hSt]; refine weak_go [] [] ?_; simp only [goRules, coreRules, ← decide_not, Nat.reduceAdd, Nat.reduceSub, Nat.reduceMul, Nat.reduceLT, Nat.reduceLeDiff, Nat.reduceEqDiff, Int.reduceNeg, Int.reduceLT, Int.reduceLE, Int.reduceEq, Int.reduceNe, Int.cast_ofNat_Int, Int.reduceToNat, ↓reduceIte, reduceCtorEq]; omega) ?_
    rintro ⟨⟨x, c⟩, hx, hc⟩
    rw [hSt]
    simp only at hx hc
    simp (disch := omega) only [goRules, coreRules, ← decide_not, Nat.reduceAdd, Nat.reduceSub, Nat.reduceMul, Nat.reduceLT, Nat.reduceLeDiff, Nat.reduceEqDiff, Int.reduceNeg, Int.reduceLT, Int.reduceLE, Int.reduceEq, Int.reduceNe, Int.cast_ofNat_Int, Int.reduceToNat, ↓reduceIte, reduceCtorEq, tiRules, AS_of_eq]
    refine branchP_dec (fun h1 => ?_) (fun h1 => ?_)
    · simp (disch := omega) only [goRules, coreRules, ← decide_not, Nat.reduceAdd, Nat.reduceSub, Nat.reduceMul, Nat.reduceLT, Nat.reduceLeDiff, Nat.reduceEqDiff, Int.reduceNeg, Int.reduceLT, Int.reduceLE, Int.reduceEq, Int.reduceNe, Int.cast_ofNat_Int, Int.reduceToNat, ↓reduceIte, reduceCtorEq, tiRules, wrap_i64, tdiv_nn]
      refine weak_again ⟨(x / 128, c + 1), by simp only; omega, ?_⟩ (by simp only; omega) ?_
      · rw [← hc]
        simp only
        rw [tail_pos (show x / 128 ≠ 0 by omega)]
        simp only [List.length_append, List.length_singleton]; omega
      · rw [hSt]; refine weak_go [] [] ?_
        simp (disch := omega) only [goRules, coreRules, ← decide_not, Nat.reduceAdd, Nat.reduceSub, Nat.reduceMul, Nat.reduceLT, Nat.reduceLeDiff, Nat.reduceEqDiff, Int.reduceNeg, Int.reduceLT, Int.reduceLE, Int.reduceEq, Int.reduceNe, Int.cast_ofNat_Int, Int.reduceToNat, ↓reduceIte, reduceCtorEq, wrap_i64, tdiv_nn]
        exact ⟨by omega, by omega⟩
    · have hx0 : x / 128 = 0 := by omega
      rw [hx0, tail_zero] at hc
      simp only [List.length_nil, Nat.add_zero] at hc
      subst hc
      simp (disch := omega) only [goRules, coreRules, ← decide_not, Nat.reduceAdd, Nat.reduceSub, Nat.reduceMul, Nat.reduceLT, Nat.reduceLeDiff, Nat.reduceEqDiff, Int.reduceNeg, Int.reduceLT, Int.reduceLE, Int.reduceEq, Int.reduceNe, Int.cast_ofNat_Int, Int.reduceToNat, ↓reduceIte, reduceCtorEq, tiRules]
      refine call_put (by simp [get_cons]) ?_
      simp only [goRules, coreRules, ← decide_not, Nat.reduceAdd, Nat.reduceSub, Nat.reduceMul, Nat.reduceLT, Nat.reduceLeDiff, Nat.reduceEqDiff, Int.reduceNeg, Int.reduceLT, Int.reduceLE, Int.reduceEq, Int.reduceNe, Int.cast_ofNat_Int, Int.reduceToNat, ↓reduceIte, reduceCtorEq, tiRules]
      obtain ⟨St2, hSt2⟩ : ∃ St2 : { p : Int × Nat // p.2 ≤ (putL n).length ∧ p.1 = valL ((putL n).take p.2) 0 } → AS, ∀ p, St2 p = AS.of 99 [(0, .v (.int .i64 n)), (3, .v (.int .i64 (putL n).length)), (5, .sl 0 1 (ints .u8 (putL n))), (6, .v (.int .i64 p.1.1)), (7, .v (.int .i64 p.1.2))] [] [] := ⟨_, fun _ => rfl⟩
      refine vc_loop hΓ St2 (fun p => (putL n).length - p.1.2) ⟨(0, 0), by simp, by simp [valL]⟩ (by rw [hSt2]; refine weak_go [] [] ?_; simp only [goRules, coreRules, ← decide_not, Nat.reduceAdd, Nat.reduceSub, Nat.reduceMul, Nat.reduceLT, Nat.reduceLeDiff, Nat.reduceEqDiff, Int.reduceNeg, Int.reduceLT, Int.reduceLE, Int.reduceEq, Int.reduceNe, Int.cast_ofNat_Int, Int.reduceToNat, ↓reduceIte, reduceCtorEq]) ?_
      rintro ⟨⟨v, i⟩, hi, hv⟩
      rw [hSt2]
      simp only at hi hv
      have hv0 : 0 ≤ v := by rw [hv]; exact valL_nn _ _ (by omega)
      simp (disch := omega) only [goRules, coreRules, ← decide_not, Nat.reduceAdd, Nat.reduceSub, Nat.reduceMul, Nat.reduceLT, Nat.reduceLeDiff, Nat.reduceEqDiff, Int.reduceNeg, Int.reduceLT, Int.reduceLE, Int.reduceEq, Int.reduceNe, Int.cast_ofNat_Int, Int.reduceToNat, ↓reduceIte, reduceCtorEq, tiRules, AS_of_eq, ints_len]
      refine branchP_dec (fun h2 => ?_) (fun h2 => ?_)
      · have hi2 : i < (putL n).length := by omega
        obtain ⟨hc0, hc1⟩ := putL_u8 n ((putL n).getD i 0) (by rw [List.getD_eq_getElem?_getD, List.getElem?_eq_getElem hi2]; exact List.getElem_mem hi2)
        have hm := putL_more hn hi2
        have ht : (putL n).take (i + 1) = (putL n).take i ++ [(putL n).getD i 0] := by
          rw [List.getD_eq_getElem?_getD, List.getElem?_eq_getElem hi2]; simp
        have hnext : valL ((putL n).take (i + 1)) 0 = v * 128 + (putL n).getD i 0 % 128 := by rw [ht, valL_app, ← hv]; rfl
        have hle : valL ((putL n).take (i + 1)) 0 ≤ n := by
          have h3 := valL_app ((putL n).take (i + 1)) ((putL n).drop (i + 1)) 0
          rw [List.take_append_drop, valL_put hn] at h3
          have h4 := valL_ge ((putL n).drop (i + 1)) _ (valL_nn ((putL n).take (i + 1)) 0 (by omega))
          omega
        rw [hnext] at hle
        generalize hcc : (putL n).getD i 0 = c at hc0 hc1 hm hnext hle
        simp (disch := omega) only [goRules, coreRules, ← decide_not, Nat.reduceAdd, Nat.reduceSub, Nat.reduceMul, Nat.reduceLT, Nat.reduceLeDiff, Nat.reduceEqDiff, Int.reduceNeg, Int.reduceLT, Int.reduceLE, Int.reduceEq, Int.reduceNe, Int.cast_ofNat_Int, Int.reduceToNat, ↓reduceIte, reduceCtorEq, tiRules, unRules, ints_len, ints_getD, hcc, tmod_nn, wrap_i64]
        refine ⟨by omega, by omega, ?_⟩
        have hsame : (decide (c ≥ 128) != decide ((i : Int) + 1 < (putL n).length)) = false := by
          have : (c ≥ 128) = ((i : Int) + 1 < (putL n).length) := propext ⟨fun h => by have := hm.1 h; omega, fun h => hm.2 (by omega)⟩
          simp [this]
        simp (disch := omega) only [goRules, coreRules, ← decide_not, Nat.reduceAdd, Nat.reduceSub, Nat.reduceMul, Nat.reduceLT, Nat.reduceLeDiff, Nat.reduceEqDiff, Int.reduceNeg, Int.reduceLT, Int.reduceLE, Int.reduceEq, Int.reduceNe, Int.cast_ofNat_Int, Int.reduceToNat, ↓reduceIte, reduceCtorEq, tiRules, unRules, ints_len, wrap_i64, hsame]
        refine weak_again ⟨(v * 128 + c % 128, i + 1), by simp only; omega, hnext.symm⟩ (by simp only; omega) ?_
        rw [hSt2]; refine weak_go [] [] ?_
        simp (disch := omega) only [goRules, coreRules, ← decide_not, Nat.reduceAdd, Nat.reduceSub, Nat.reduceMul, Nat.reduceLT, Nat.reduceLeDiff, Nat.reduceEqDiff, Int.reduceNeg, Int.reduceLT, Int.reduceLE, Int.reduceEq, Int.reduceNe, Int.cast_ofNat_Int, Int.reduceToNat, ↓reduceIte, reduceCtorEq, wrap_i64]
        omega
      · have hi2 : i = (putL n).length := by omega
        subst hi2
        rw [List.take_length, valL_put hn] at hv
        subst hv
        have h6 := putL_six hn
        simp (disch := omega) only [goRules, coreRules, ← decide_not, Nat.reduceAdd, Nat.reduceSub, Nat.reduceMul, Nat.reduceLT, Nat.reduceLeDiff, Nat.reduceEqDiff, Int.reduceNeg, Int.reduceLT, Int.reduceLE, Int.reduceEq, Int.reduceNe, Int.cast_ofNat_Int, Int.reduceToNat, ↓reduceIte, reduceCtorEq, tiRules, ints_len]
        refine call_size (by simp [get_cons]) ?_
        have hp1 : 1 ≤ (putL v).length := by rw [putL_in hn]; simp
        by_cases h7 : ((putL v).length : Int) = 1
        · simp only [goRules, coreRules, ← decide_not, Nat.reduceAdd, Nat.reduceSub, Nat.reduceMul, Nat.reduceLT, Nat.reduceLeDiff, Nat.reduceEqDiff, Int.reduceNeg, Int.reduceLT, Int.reduceLE, Int.reduceEq, Int.reduceNe, Int.cast_ofNat_Int, Int.reduceToNat, ↓reduceIte, reduceCtorEq, tiRules, unRules, ints_len, eq_true (show ((putL v).length : Int) ≤ 6 by omega), eq_true h7]
          refine call_awake (by simp [get_cons]) ?_
          simp only [goRules, coreRules, ← decide_not, Nat.reduceAdd, Nat.reduceSub, Nat.reduceMul, Nat.reduceLT, Nat.reduceLeDiff, Nat.reduceEqDiff, Int.reduceNeg, Int.reduceLT, Int.reduceLE, Int.reduceEq, Int.reduceNe, Int.cast_ofNat_Int, Int.reduceToNat, ↓reduceIte, reduceCtorEq, tiRules, unRules]
          exact ⟨rfl, fun _ => rfl⟩
        · have h8 := putL_head hn (by omega)
          simp (disch := omega) only [goRules, coreRules, ← decide_not, Nat.reduceAdd, Nat.reduceSub, Nat.reduceMul, Nat.reduceLT, Nat.reduceLeDiff, Nat.reduceEqDiff, Int.reduceNeg, Int.reduceLT, Int.reduceLE, Int.reduceEq, Int.reduceNe, Int.cast_ofNat_Int, Int.reduceToNat, ↓reduceIte, reduceCtorEq, tiRules, unRules, ints_len, eq_true (show ((putL v).length : Int) ≤ 6 by omega), eq_false h7, ints_getD, eq_false h8]
          refine ⟨by omega, ?_⟩
          refine call_awake (by simp [get_cons]) ?_
          simp only [goRules, coreRules, ← decide_not, Nat.reduceAdd, Nat.reduceSub, Nat.reduceMul, Nat.reduceLT, Nat.reduceLeDiff, Nat.reduceEqDiff, Int.reduceNeg, Int.reduceLT, Int.reduceLE, Int.reduceEq, Int.reduceNe, Int.cast_ofNat_Int, Int.reduceToNat, ↓reduceIte, reduceCtorEq, tiRules, unRules]
          exact ⟨rfl, fun _ => rfl⟩
  · have hp := putL_out hn
    by_cases h0 : n < 0
    · simp only [goRules, coreRules, ← decide_not, Nat.reduceAdd, Nat.reduceSub, Nat.reduceMul, Nat.reduceLT, Nat.reduceLeDiff, Nat.reduceEqDiff, Int.reduceNeg, Int.reduceLT, Int.reduceLE, Int.reduceEq, Int.reduceNe, Int.cast_ofNat_Int, Int.reduceToNat, ↓reduceIte, reduceCtorEq, tiRules, unRules, eq_true h0]
      refine call_size (by simp [get_cons]) ?_
      simp only [goRules, coreRules, ← decide_not, Nat.reduceAdd, Nat.reduceSub, Nat.reduceMul, Nat.reduceLT, Nat.reduceLeDiff, Nat.reduceEqDiff, Int.reduceNeg, Int.reduceLT, Int.reduceLE, Int.reduceEq, Int.reduceNe, Int.cast_ofNat_Int, Int.reduceToNat, ↓reduceIte, reduceCtorEq, tiRules, unRules, hp]
      refine call_put (by simp [get_cons]) ?_
      simp only [goRules, coreRules, ← decide_not, Nat.reduceAdd, Nat.reduceSub, Nat.reduceMul, Nat.reduceLT, Nat.reduceLeDiff, Nat.reduceEqDiff, Int.reduceNeg, Int.reduceLT, Int.reduceLE, Int.reduceEq, Int.reduceNe, Int.cast_ofNat_Int, Int.reduceToNat, ↓reduceIte, reduceCtorEq, tiRules, unRules, hp, ints_nil]
      refine call_fits (by simp [get_cons]) ?_
      simp only [goRules, coreRules, ← decide_not, Nat.reduceAdd, Nat.reduceSub, Nat.reduceMul, Nat.reduceLT, Nat.reduceLeDiff, Nat.reduceEqDiff, Int.reduceNeg, Int.reduceLT, Int.reduceLE, Int.reduceEq, Int.reduceNe, Int.cast_ofNat_Int, Int.reduceToNat, ↓reduceIte, reduceCtorEq, tiRules, unRules, eq_false hn]
      refine call_awake (by simp [get_cons]) ?_
      simp only [goRules, coreRules, ← decide_not, Nat.reduceAdd, Nat.reduceSub, Nat.reduceMul, Nat.reduceLT, Nat.reduceLeDiff, Nat.reduceEqDiff, Int.reduceNeg, Int.reduceLT, Int.reduceLE, Int.reduceEq, Int.reduceNe, Int.cast_ofNat_Int, Int.reduceToNat, ↓reduceIte, reduceCtorEq, tiRules, unRules]
      exact ⟨rfl, fun _ => rfl⟩
    · simp only [goRules, coreRules, ← decide_not, Nat.reduceAdd, Nat.reduceSub, Nat.reduceMul, Nat.reduceLT, Nat.reduceLeDiff, Nat.reduceEqDiff, Int.reduceNeg, Int.reduceLT, Int.reduceLE, Int.reduceEq, Int.reduceNe, Int.cast_ofNat_Int, Int.reduceToNat, ↓reduceIte, reduceCtorEq, tiRules, unRules, eq_false h0, eq_true (show n > 1099511627776 by omega)]
      refine call_size (by simp [get_cons]) ?_
      simp only [goRules, coreRules, ← decide_not, Nat.reduceAdd, Nat.reduceSub, Nat.reduceMul, Nat.reduceLT, Nat.reduceLeDiff, Nat.reduceEqDiff, Int.reduceNeg, Int.reduceLT, Int.reduceLE, Int.reduceEq, Int.reduceNe, Int.cast_ofNat_Int, Int.reduceToNat, ↓reduceIte, reduceCtorEq, tiRules, unRules, hp]
      refine call_put (by simp [get_cons]) ?_
      simp only [goRules, coreRules, ← decide_not, Nat.reduceAdd, Nat.reduceSub, Nat.reduceMul, Nat.reduceLT, Nat.reduceLeDiff, Nat.reduceEqDiff, Int.reduceNeg, Int.reduceLT, Int.reduceLE, Int.reduceEq, Int.reduceNe, Int.cast_ofNat_Int, Int.reduceToNat, ↓reduceIte, reduceCtorEq, tiRules, unRules, hp, ints_nil]
      refine call_fits (by simp [get_cons]) ?_
      simp only [goRules, coreRules, ← decide_not, Nat.reduceAdd, Nat.reduceSub, Nat.reduceMul, Nat.reduceLT, Nat.reduceLeDiff, Nat.reduceEqDiff, Int.reduceNeg, Int.reduceLT, Int.reduceLE, Int.reduceEq, Int.reduceNe, Int.cast_ofNat_Int, Int.reduceToNat, ↓reduceIte, reduceCtorEq, tiRules, unRules, eq_false hn]
      refine call_awake (by simp [get_cons]) ?_
      simp only [goRules, coreRules, ← decide_not, Nat.reduceAdd, Nat.reduceSub, Nat.reduceMul, Nat.reduceLT, Nat.reduceLeDiff, Nat.reduceEqDiff, Int.reduceNeg, Int.reduceLT, Int.reduceLE, Int.reduceEq, Int.reduceNe, Int.cast_ofNat_Int, Int.reduceToNat, ↓reduceIte, reduceCtorEq, tiRules, unRules]
      exact ⟨rfl, fun _ => rfl⟩
end Go.Proofs
end
