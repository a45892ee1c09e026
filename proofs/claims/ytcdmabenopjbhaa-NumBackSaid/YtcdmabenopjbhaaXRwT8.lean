/-
  The law NumBack meets its contract.
-/
import Derived.Test.YtcdmabenopjbhaaXRwT7
set_option linter.unusedSimpArgs false
set_option linter.unusedVariables false
set_option linter.defProp false

-- RwT8
section
namespace Go.Proofs
open Go Go.Rw
set_option maxRecDepth 100000
set_option linter.unusedSimpArgs false
set_option linter.unusedVariables false

abbrev backCon : Con where
  ι := Int × Int × { l : List Int // (∀ x ∈ l, 0 ≤ x ∧ x < 256) ∧ l.length ≤ 9223372036854775807 }
  args := fun p => [.v (.int .i64 p.1), .v (.int .i64 p.2.1), .sl 0 1 (ints .u8 p.2.2.1)]
  post := fun _ r => r = .v (.bool true)
  plain := true

theorem u8_inj : ∀ {l r : List Int}, (∀ x ∈ l, 0 ≤ x ∧ x < 256) → (∀ x ∈ r, 0 ≤ x ∧ x < 256) → List.map (fun n => UInt8.ofNat n.toNat) l = List.map (fun n => UInt8.ofNat n.toNat) r → l = r
  | [], [], _, _, _ => rfl
  | [], _ :: _, _, _, h => by simp at h
  | _ :: _, [], _, _, h => by simp at h
  | x :: l, y :: r, hl, hr, h => by
    simp only [List.map_cons, List.cons.injEq] at h
    have h1 := hl x (List.mem_cons_self ..)
    have h2 := hr y (List.mem_cons_self ..)
    have h3 := congrArg UInt8.toNat h.1
    simp only [UInt8.toNat_ofNat'] at h3
    rw [u8_inj (fun z hz => hl z (List.mem_cons_of_mem _ hz)) (fun z hz => hr z (List.mem_cons_of_mem _ hz)) h.2]
    congr 1; omega

theorem back_good : Rw.Good Try.prog 4 backCon := by
  have hΓ : GoodEnv Try.prog [(6, trueCon), (9, putCon), (7, getCon), (11, sizeCon)] :=
    goodEnv_cons awake_good (goodEnv_cons put_good (goodEnv_cons get_good (goodEnv_cons size_good goodEnv_nil)))
  refine good_go (nn := 127) hΓ Try.func4 (by kernel_rfl) rfl rfl rfl (fun _ => rfl) (fun _ => rfl) ?_
  rintro ⟨n, k, l, h1, h2⟩
  simp only [goRules, coreRules, ← decide_not, Nat.reduceAdd, Nat.reduceSub, Nat.reduceMul, Nat.reduceLT, Nat.reduceLeDiff, Nat.reduceEqDiff, Int.reduceNeg, Int.reduceLT, Int.reduceLE, Int.reduceEq, Int.reduceNe, Int.cast_ofNat_Int, Int.reduceToNat, ↓reduceIte, reduceCtorEq, show backCon.args (n, k, ⟨l, h1, h2⟩) = [.v (.int .i64 n), .v (.int .i64 k), .sl 0 1 (ints .u8 l)] from rfl, show Try.f4.results.toList = [.tmp 6] from rfl, tiRules, unRules, AS_of_eq, ints_len]
  by_cases a0 : n < 0
  · simp only [goRules, coreRules, ← decide_not, Nat.reduceAdd, Nat.reduceSub, Nat.reduceMul, Nat.reduceLT, Nat.reduceLeDiff, Nat.reduceEqDiff, Int.reduceNeg, Int.reduceLT, Int.reduceLE, Int.reduceEq, Int.reduceNe, Int.cast_ofNat_Int, Int.reduceToNat, ↓reduceIte, reduceCtorEq, tiRules, unRules, ints_len, eq_true a0]
    refine call_put (by simp [get_cons]) ?_
    simp only [goRules, coreRules, ← decide_not, Nat.reduceAdd, Nat.reduceSub, Nat.reduceMul, Nat.reduceLT, Nat.reduceLeDiff, Nat.reduceEqDiff, Int.reduceNeg, Int.reduceLT, Int.reduceLE, Int.reduceEq, Int.reduceNe, Int.cast_ofNat_Int, Int.reduceToNat, ↓reduceIte, reduceCtorEq, tiRules, unRules, ints_len, show putL (-1) = [] from rfl]
    refine call_awake (by simp [get_cons]) ?_
    simp only [goRules, coreRules, ← decide_not, Nat.reduceAdd, Nat.reduceSub, Nat.reduceMul, Nat.reduceLT, Nat.reduceLeDiff, Nat.reduceEqDiff, Int.reduceNeg, Int.reduceLT, Int.reduceLE, Int.reduceEq, Int.reduceNe, Int.cast_ofNat_Int, Int.reduceToNat, ↓reduceIte, reduceCtorEq, tiRules, unRules]
    exact ⟨rfl, fun _ => rfl⟩
  by_cases a1 : k < 0
  · simp only [goRules, coreRules, ← decide_not, Nat.reduceAdd, Nat.reduceSub, Nat.reduceMul, Nat.reduceLT, Nat.reduceLeDiff, Nat.reduceEqDiff, Int.reduceNeg, Int.reduceLT, Int.reduceLE, Int.reduceEq, Int.reduceNe, Int.cast_ofNat_Int, Int.reduceToNat, ↓reduceIte, reduceCtorEq, tiRules, unRules, ints_len, eq_false a0, eq_true a1]
    refine call_put (by simp [get_cons]) ?_
    simp only [goRules, coreRules, ← decide_not, Nat.reduceAdd, Nat.reduceSub, Nat.reduceMul, Nat.reduceLT, Nat.reduceLeDiff, Nat.reduceEqDiff, Int.reduceNeg, Int.reduceLT, Int.reduceLE, Int.reduceEq, Int.reduceNe, Int.cast_ofNat_Int, Int.reduceToNat, ↓reduceIte, reduceCtorEq, tiRules, unRules, ints_len, show putL (-1) = [] from rfl]
    refine call_awake (by simp [get_cons]) ?_
    simp only [goRules, coreRules, ← decide_not, Nat.reduceAdd, Nat.reduceSub, Nat.reduceMul, Nat.reduceLT, Nat.reduceLeDiff, Nat.reduceEqDiff, Int.reduceNeg, Int.reduceLT, Int.reduceLE, Int.reduceEq, Int.reduceNe, Int.cast_ofNat_Int, Int.reduceToNat, ↓reduceIte, reduceCtorEq, tiRules, unRules]
    exact ⟨rfl, fun _ => rfl⟩
  by_cases a2 : n > 1099511627776
  · simp only [goRules, coreRules, ← decide_not, Nat.reduceAdd, Nat.reduceSub, Nat.reduceMul, Nat.reduceLT, Nat.reduceLeDiff, Nat.reduceEqDiff, Int.reduceNeg, Int.reduceLT, Int.reduceLE, Int.reduceEq, Int.reduceNe, Int.cast_ofNat_Int, Int.reduceToNat, ↓reduceIte, reduceCtorEq, tiRules, unRules, ints_len, eq_false a0, eq_false a1, eq_true a2]
    refine call_put (by simp [get_cons]) ?_
    simp only [goRules, coreRules, ← decide_not, Nat.reduceAdd, Nat.reduceSub, Nat.reduceMul, Nat.reduceLT, Nat.reduceLeDiff, Nat.reduceEqDiff, Int.reduceNeg, Int.reduceLT, Int.reduceLE, Int.reduceEq, Int.reduceNe, Int.cast_ofNat_Int, Int.reduceToNat, ↓reduceIte, reduceCtorEq, tiRules, unRules, ints_len, show putL (-1) = [] from rfl]
    refine call_awake (by simp [get_cons]) ?_
    simp only [goRules, coreRules, ← decide_not, Nat.reduceAdd, Nat.reduceSub, Nat.reduceMul, Nat.reduceLT, Nat.reduceLeDiff, Nat.reduceEqDiff, Int.reduceNeg, Int.reduceLT, Int.reduceLE, Int.reduceEq, Int.reduceNe, Int.cast_ofNat_Int, Int.reduceToNat, ↓reduceIte, reduceCtorEq, tiRules, unRules]
    exact ⟨rfl, fun _ => rfl⟩
  by_cases a3 : k > 1099511627776
  · simp only [goRules, coreRules, ← decide_not, Nat.reduceAdd, Nat.reduceSub, Nat.reduceMul, Nat.reduceLT, Nat.reduceLeDiff, Nat.reduceEqDiff, Int.reduceNeg, Int.reduceLT, Int.reduceLE, Int.reduceEq, Int.reduceNe, Int.cast_ofNat_Int, Int.reduceToNat, ↓reduceIte, reduceCtorEq, tiRules, unRules, ints_len, eq_false a0, eq_false a1, eq_false a2, eq_true a3]
    refine call_put (by simp [get_cons]) ?_
    simp only [goRules, coreRules, ← decide_not, Nat.reduceAdd, Nat.reduceSub, Nat.reduceMul, Nat.reduceLT, Nat.reduceLeDiff, Nat.reduceEqDiff, Int.reduceNeg, Int.reduceLT, Int.reduceLE, Int.reduceEq, Int.reduceNe, Int.cast_ofNat_Int, Int.reduceToNat, ↓reduceIte, reduceCtorEq, tiRules, unRules, ints_len, show putL (-1) = [] from rfl]
    refine call_awake (by simp [get_cons]) ?_
    simp only [goRules, coreRules, ← decide_not, Nat.reduceAdd, Nat.reduceSub, Nat.reduceMul, Nat.reduceLT, Nat.reduceLeDiff, Nat.reduceEqDiff, Int.reduceNeg, Int.reduceLT, Int.reduceLE, Int.reduceEq, Int.reduceNe, Int.cast_ofNat_Int, Int.reduceToNat, ↓reduceIte, reduceCtorEq, tiRules, unRules]
    exact ⟨rfl, fun _ => rfl⟩
  by_cases a4 : (l.length : Int) > 100
  · simp only [goRules, coreRules, ← decide_not, Nat.reduceAdd, Nat.reduceSub, Nat.reduceMul, Nat.reduceLT, Nat.reduceLeDiff, Nat.reduceEqDiff, Int.reduceNeg, Int.reduceLT, Int.reduceLE, Int.reduceEq, Int.reduceNe, Int.cast_ofNat_Int, Int.reduceToNat, ↓reduceIte, reduceCtorEq, tiRules, unRules, ints_len, eq_false a0, eq_false a1, eq_false a2, eq_false a3, eq_true a4]
    refine call_put (by simp [get_cons]) ?_
    simp only [goRules, coreRules, ← decide_not, Nat.reduceAdd, Nat.reduceSub, Nat.reduceMul, Nat.reduceLT, Nat.reduceLeDiff, Nat.reduceEqDiff, Int.reduceNeg, Int.reduceLT, Int.reduceLE, Int.reduceEq, Int.reduceNe, Int.cast_ofNat_Int, Int.reduceToNat, ↓reduceIte, reduceCtorEq, tiRules, unRules, ints_len, show putL (-1) = [] from rfl]
    refine call_awake (by simp [get_cons]) ?_
    simp only [goRules, coreRules, ← decide_not, Nat.reduceAdd, Nat.reduceSub, Nat.reduceMul, Nat.reduceLT, Nat.reduceLeDiff, Nat.reduceEqDiff, Int.reduceNeg, Int.reduceLT, Int.reduceLE, Int.reduceEq, Int.reduceNe, Int.cast_ofNat_Int, Int.reduceToNat, ↓reduceIte, reduceCtorEq, tiRules, unRules]
    exact ⟨rfl, fun _ => rfl⟩
  have hn : 0 ≤ n ∧ n ≤ 1099511627776 := by omega
  have hk : 0 ≤ k ∧ k ≤ 1099511627776 := by omega
  simp only [goRules, coreRules, ← decide_not, Nat.reduceAdd, Nat.reduceSub, Nat.reduceMul, Nat.reduceLT, Nat.reduceLeDiff, Nat.reduceEqDiff, Int.reduceNeg, Int.reduceLT, Int.reduceLE, Int.reduceEq, Int.reduceNe, Int.cast_ofNat_Int, Int.reduceToNat, ↓reduceIte, reduceCtorEq, tiRules, unRules, ints_len, eq_false a0, eq_false a1, eq_false a2, eq_false a3, eq_false a4]
  refine call_put (by simp [get_cons]) ?_
  simp only [goRules, coreRules, ← decide_not, Nat.reduceAdd, Nat.reduceSub, Nat.reduceMul, Nat.reduceLT, Nat.reduceLeDiff, Nat.reduceEqDiff, Int.reduceNeg, Int.reduceLT, Int.reduceLE, Int.reduceEq, Int.reduceNe, Int.cast_ofNat_Int, Int.reduceToNat, ↓reduceIte, reduceCtorEq, tiRules, unRules, ints_len]
  have hlen := putL_len n
  have hp1 : 1 ≤ (putL n).length := by rw [putL_in hn]; simp
  have e1 : getR (putL n ++ l) = .tup [.v (.int .i64 n), .v (.int .i64 (putL n).length), .v (.int .i64 0)] := by unfold getR; rw [getS_put hn]
  have e2 : getR ((putL n).take ((putL n).length - 1)) = .tup [.v (.int .i64 0), .v (.int .i64 0), .v (.int .i64 2)] := by unfold getR; rw [getS_cut hn]
  have e3 : getR (128 :: putL n) = .tup [.v (.int .i64 0), .v (.int .i64 0), .v (.int .i64 2)] := by unfold getR; rw [getS_128]
  refine ⟨by omega, by omega, by omega, by omega, ?_⟩
  refine call_get (l := putL n ++ l) (by simp [get_cons]) ints_app ?_ (by simp; omega) ?_
  · intro x hx
    rcases List.mem_append.1 hx with h3 | h3
    · exact putL_u8 n x h3
    · exact h1 x h3
  simp only [goRules, coreRules, ← decide_not, Nat.reduceAdd, Nat.reduceSub, Nat.reduceMul, Nat.reduceLT, Nat.reduceLeDiff, Nat.reduceEqDiff, Int.reduceNeg, Int.reduceLT, Int.reduceLE, Int.reduceEq, Int.reduceNe, Int.cast_ofNat_Int, Int.reduceToNat, ↓reduceIte, reduceCtorEq, tiRules, unRules, ints_len, e1]
  refine call_size (by simp [get_cons]) ?_
  have e4 : partA 0 1 (ints .u8 (putL n)) 0 (((putL n).length : Int) - 1).toNat = .sl 0 1 (ints .u8 ((putL n).take ((putL n).length - 1))) := by
    unfold partA
    rw [if_neg (by rw [ints_len]; omega), List.drop_zero, ints_take]
    congr 3; omega
  simp (disch := omega) only [goRules, coreRules, ← decide_not, Nat.reduceAdd, Nat.reduceSub, Nat.reduceMul, Nat.reduceLT, Nat.reduceLeDiff, Nat.reduceEqDiff, Int.reduceNeg, Int.reduceLT, Int.reduceLE, Int.reduceEq, Int.reduceNe, Int.cast_ofNat_Int, Int.reduceToNat, ↓reduceIte, reduceCtorEq, tiRules, unRules, ints_len, eq_false (show ¬ ((putL n).length : Int) = 0 by omega), wrap_i64, e4]
  refine ⟨by omega, ?_⟩
  refine call_get (by simp [get_cons]) rfl (fun x hx => putL_u8 n x (List.mem_of_mem_take hx)) (by rw [List.length_take]; omega) ?_
  simp only [goRules, coreRules, ← decide_not, Nat.reduceAdd, Nat.reduceSub, Nat.reduceMul, Nat.reduceLT, Nat.reduceLeDiff, Nat.reduceEqDiff, Int.reduceNeg, Int.reduceLT, Int.reduceLE, Int.reduceEq, Int.reduceNe, Int.cast_ofNat_Int, Int.reduceToNat, ↓reduceIte, reduceCtorEq, tiRules, unRules, ints_len, e2]
  refine ⟨by omega, by omega, ?_⟩
  refine call_get (l := 128 :: putL n) (by simp [get_cons]) rfl (fun x hx => by
    rcases List.mem_cons.1 hx with rfl | h3
    · omega
    · exact putL_u8 n x h3) (by simp; omega) ?_
  simp only [goRules, coreRules, ← decide_not, Nat.reduceAdd, Nat.reduceSub, Nat.reduceMul, Nat.reduceLT, Nat.reduceLeDiff, Nat.reduceEqDiff, Int.reduceNeg, Int.reduceLT, Int.reduceLE, Int.reduceEq, Int.reduceNe, Int.cast_ofNat_Int, Int.reduceToNat, ↓reduceIte, reduceCtorEq, tiRules, unRules, ints_len, e3]
  refine ⟨mixed1, by kernel_rfl, ?_⟩
  have e5 : (List.map (fun n => UInt8.ofNat n.toNat) (putL k) = List.map (fun n => UInt8.ofNat n.toNat) (putL n)) = (n = k) := propext ⟨fun h => (putL_inj hk hn (u8_inj (putL_u8 k) (putL_u8 n) h)).symm, fun h => by rw [h]⟩
  by_cases hnk : n > k
  · simp only [goRules, coreRules, ← decide_not, Nat.reduceAdd, Nat.reduceSub, Nat.reduceMul, Nat.reduceLT, Nat.reduceLeDiff, Nat.reduceEqDiff, Int.reduceNeg, Int.reduceLT, Int.reduceLE, Int.reduceEq, Int.reduceNe, Int.cast_ofNat_Int, Int.reduceToNat, ↓reduceIte, reduceCtorEq, tiRules, unRules, ints_len, eq_true hnk]
    refine call_put (by simp [get_cons]) ?_
    simp only [goRules, coreRules, ← decide_not, Nat.reduceAdd, Nat.reduceSub, Nat.reduceMul, Nat.reduceLT, Nat.reduceLeDiff, Nat.reduceEqDiff, Int.reduceNeg, Int.reduceLT, Int.reduceLE, Int.reduceEq, Int.reduceNe, Int.cast_ofNat_Int, Int.reduceToNat, ↓reduceIte, reduceCtorEq, tiRules, unRules, ints_len, e5, beq_self_eq_true]
    refine call_awake (by simp [get_cons]) ?_
    simp only [goRules, coreRules, ← decide_not, Nat.reduceAdd, Nat.reduceSub, Nat.reduceMul, Nat.reduceLT, Nat.reduceLeDiff, Nat.reduceEqDiff, Int.reduceNeg, Int.reduceLT, Int.reduceLE, Int.reduceEq, Int.reduceNe, Int.cast_ofNat_Int, Int.reduceToNat, ↓reduceIte, reduceCtorEq, tiRules, unRules]
    exact ⟨rfl, fun _ => rfl⟩
  · have hle := putL_mono hn hk (by omega)
    simp only [goRules, coreRules, ← decide_not, Nat.reduceAdd, Nat.reduceSub, Nat.reduceMul, Nat.reduceLT, Nat.reduceLeDiff, Nat.reduceEqDiff, Int.reduceNeg, Int.reduceLT, Int.reduceLE, Int.reduceEq, Int.reduceNe, Int.cast_ofNat_Int, Int.reduceToNat, ↓reduceIte, reduceCtorEq, tiRules, unRules, ints_len, eq_false hnk]
    refine call_size (by simp [get_cons]) ?_
    simp only [goRules, coreRules, ← decide_not, Nat.reduceAdd, Nat.reduceSub, Nat.reduceMul, Nat.reduceLT, Nat.reduceLeDiff, Nat.reduceEqDiff, Int.reduceNeg, Int.reduceLT, Int.reduceLE, Int.reduceEq, Int.reduceNe, Int.cast_ofNat_Int, Int.reduceToNat, ↓reduceIte, reduceCtorEq, tiRules, unRules, ints_len]
    refine call_size (by simp [get_cons]) ?_
    simp only [goRules, coreRules, ← decide_not, Nat.reduceAdd, Nat.reduceSub, Nat.reduceMul, Nat.reduceLT, Nat.reduceLeDiff, Nat.reduceEqDiff, Int.reduceNeg, Int.reduceLT, Int.reduceLE, Int.reduceEq, Int.reduceNe, Int.cast_ofNat_Int, Int.reduceToNat, ↓reduceIte, reduceCtorEq, tiRules, unRules, ints_len, eq_true (show ((putL n).length : Int) ≤ (putL k).length by omega)]
    refine call_put (by simp [get_cons]) ?_
    simp only [goRules, coreRules, ← decide_not, Nat.reduceAdd, Nat.reduceSub, Nat.reduceMul, Nat.reduceLT, Nat.reduceLeDiff, Nat.reduceEqDiff, Int.reduceNeg, Int.reduceLT, Int.reduceLE, Int.reduceEq, Int.reduceNe, Int.cast_ofNat_Int, Int.reduceToNat, ↓reduceIte, reduceCtorEq, tiRules, unRules, ints_len, e5, beq_self_eq_true]
    refine call_awake (by simp [get_cons]) ?_
    simp only [goRules, coreRules, ← decide_not, Nat.reduceAdd, Nat.reduceSub, Nat.reduceMul, Nat.reduceLT, Nat.reduceLeDiff, Nat.reduceEqDiff, Int.reduceNeg, Int.reduceLT, Int.reduceLE, Int.reduceEq, Int.reduceNe, Int.cast_ofNat_Int, Int.reduceToNat, ↓reduceIte, reduceCtorEq, tiRules, unRules]
    exact ⟨rfl, fun _ => rfl⟩
end Go.Proofs
end
