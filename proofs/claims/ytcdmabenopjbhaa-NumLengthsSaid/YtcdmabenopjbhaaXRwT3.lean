/-
  num.Get meets its contract.
-/
import Derived.Test.YtcdmabenopjbhaaXRwT1
set_option linter.unusedSimpArgs false
set_option linter.unusedVariables false
set_option linter.defProp false

-- RwT3
section
namespace Go.Proofs
open Go Go.Rw
set_option maxRecDepth 100000
set_option linter.unusedSimpArgs false
set_option linter.unusedVariables false

/-- A number read: what is left of the bytes, what was read so far, how many. -/
def getS : List Int → Int → Int → Option (Int × Int)
  | [], _, _ => none
  | c :: r, n, i => if (i = 0 ∧ c = 128) ∨ n > 8589934592 then none
      else if c < 128 then (if n * 128 + c % 128 ≤ 1099511627776 then some (n * 128 + c % 128, i + 1) else none)
      else getS r (n * 128 + c % 128) (i + 1)

abbrev Bytes := { l : List Int // ∀ x ∈ l, 0 ≤ x ∧ x < 256 }

abbrev getCon : Con where
  ι := { l : List Int // (∀ x ∈ l, 0 ≤ x ∧ x < 256) ∧ l.length ≤ 9223372036854775807 }
  args := fun l => [.sl 0 1 (ints .u8 l.1)]
  post := fun l r => r = match getS l.1 0 0 with
    | some (n, u) => .tup [.v (.int .i64 n), .v (.int .i64 u), .v (.int .i64 0)]
    | none => .tup [.v (.int .i64 0), .v (.int .i64 0), .v (.int .i64 2)]
  plain := true

theorem get_good : Rw.Good Try.prog 7 getCon := by
  have hΓ : GoodEnv Try.prog [(12, fitsCon)] := goodEnv_cons fits_good goodEnv_nil
  refine good_go (nn := 40) hΓ Try.func7 (by kernel_rfl) rfl rfl rfl (fun _ => rfl) (fun _ => rfl) ?_
  rintro ⟨l, hl, hlen⟩
  simp only [goRules, coreRules, ← decide_not, Nat.reduceAdd, Nat.reduceSub, Nat.reduceMul, Nat.reduceLT, Nat.reduceLeDiff, Nat.reduceEqDiff, Int.reduceNeg, Int.reduceLT, Int.reduceLE, Int.reduceEq, Int.reduceNe, Int.cast_ofNat_Int, Int.reduceToNat, ↓reduceIte, reduceCtorEq, show getCon.args ⟨l, hl, hlen⟩ = [.sl 0 1 (ints .u8 l)] from rfl, show Try.f7.results.toList = [.tmp 2, .tmp 3, .tmp 4] from rfl, tiRules, unRules, AS_of_eq]
  refine vc_scope hΓ 1 ?_
  simp only [goRules, coreRules, ← decide_not, Nat.reduceAdd, Nat.reduceSub, Nat.reduceMul, Nat.reduceLT, Nat.reduceLeDiff, Nat.reduceEqDiff, Int.reduceNeg, Int.reduceLT, Int.reduceLE, Int.reduceEq, Int.reduceNe, Int.cast_ofNat_Int, Int.reduceToNat, ↓reduceIte, reduceCtorEq, tiRules, ints_len]
  obtain ⟨St, hSt⟩ : ∃ St : { p : Int × Nat // p.2 ≤ l.length ∧ 0 ≤ p.1 ∧ p.1 ≤ 9223372036854775807 ∧ (∀ x ∈ l, 0 ≤ x ∧ x < 256) ∧ getS (l.drop p.2) p.1 p.2 = getS l 0 0 } → AS, ∀ p, St p = AS.of 40 [(2, .v (.int .i64 p.1.1)), (7, .sl 0 1 (ints .u8 l)), (8, .v (.int .i64 l.length)), (9, .v (.int .i64 p.1.2))] [] [] := ⟨_, fun _ => rfl⟩
  refine vc_loop hΓ St (fun p => l.length - p.1.2) ⟨(0, 0), by simp, by simp, by simp, hl, by simp⟩ (by rw [hSt]; refine weak_go [] [] ?_; simp only [goRules, coreRules, ← decide_not, Nat.reduceAdd, Nat.reduceSub, Nat.reduceMul, Nat.reduceLT, Nat.reduceLeDiff, Nat.reduceEqDiff, Int.reduceNeg, Int.reduceLT, Int.reduceLE, Int.reduceEq, Int.reduceNe, Int.cast_ofNat_Int, Int.reduceToNat, ↓reduceIte, reduceCtorEq]) ?_
  rintro ⟨⟨n, i⟩, hi, hn0, hn1, _, hg⟩
  rw [hSt]
  simp only at hi hn0 hn1 hg
  simp (disch := omega) only [goRules, coreRules, ← decide_not, Nat.reduceAdd, Nat.reduceSub, Nat.reduceMul, Nat.reduceLT, Nat.reduceLeDiff, Nat.reduceEqDiff, Int.reduceNeg, Int.reduceLT, Int.reduceLE, Int.reduceEq, Int.reduceNe, Int.cast_ofNat_Int, Int.reduceToNat, ↓reduceIte, reduceCtorEq, tiRules, AS_of_eq]
  refine branchP_dec (fun h1 => ?_) (fun h1 => ?_)
  · have hi2 : i < l.length := by omega
    obtain ⟨hc0, hc1⟩ := hl (l.getD i 0) (by rw [List.getD_eq_getElem?_getD, List.getElem?_eq_getElem hi2]; exact List.getElem_mem hi2)
    rw [show l.drop i = l.getD i 0 :: l.drop (i + 1) by rw [List.drop_eq_getElem_cons hi2, List.getD_eq_getElem?_getD, List.getElem?_eq_getElem hi2]; rfl, getS] at hg
    generalize hc : l.getD i 0 = c at hc0 hc1 hg
    simp (disch := omega) only [goRules, coreRules, ← decide_not, Nat.reduceAdd, Nat.reduceSub, Nat.reduceMul, Nat.reduceLT, Nat.reduceLeDiff, Nat.reduceEqDiff, Int.reduceNeg, Int.reduceLT, Int.reduceLE, Int.reduceEq, Int.reduceNe, Int.cast_ofNat_Int, Int.reduceToNat, ↓reduceIte, reduceCtorEq, tiRules, ints_len, ints_getD, hc]
    refine ⟨by omega, ?_⟩
    refine guardB_dec (fun h2 => ?_) (fun h2 => ?_)
    · simp (disch := omega) only [goRules, coreRules, ← decide_not, Nat.reduceAdd, Nat.reduceSub, Nat.reduceMul, Nat.reduceLT, Nat.reduceLeDiff, Nat.reduceEqDiff, Int.reduceNeg, Int.reduceLT, Int.reduceLE, Int.reduceEq, Int.reduceNe, Int.cast_ofNat_Int, Int.reduceToNat, ↓reduceIte, reduceCtorEq, tiRules, h2]
      refine guardB_dec (fun h3 => ?_) (fun h3 => ?_)
      · simp (disch := omega) only [goRules, coreRules, ← decide_not, Nat.reduceAdd, Nat.reduceSub, Nat.reduceMul, Nat.reduceLT, Nat.reduceLeDiff, Nat.reduceEqDiff, Int.reduceNeg, Int.reduceLT, Int.reduceLE, Int.reduceEq, Int.reduceNe, Int.cast_ofNat_Int, Int.reduceToNat, ↓reduceIte, reduceCtorEq, tiRules, h3]
        refine ⟨_, rfl, ?_⟩
        simp (disch := omega) only [goRules, coreRules, ← decide_not, Nat.reduceAdd, Nat.reduceSub, Nat.reduceMul, Nat.reduceLT, Nat.reduceLeDiff, Nat.reduceEqDiff, Int.reduceNeg, Int.reduceLT, Int.reduceLE, Int.reduceEq, Int.reduceNe, Int.cast_ofNat_Int, Int.reduceToNat, ↓reduceIte, reduceCtorEq, tiRules]
        rw [if_pos (by omega)] at hg
        refine ⟨?_, fun _ => rfl⟩
        show AV.tup _ = _
        rw [show getS (⟨l, hl, hlen⟩ : { l : List Int // (∀ x ∈ l, 0 ≤ x ∧ x < 256) ∧ l.length ≤ 9223372036854775807 }).1 0 0 = none from hg.symm]; rfl
      · simp (disch := omega) only [goRules, coreRules, ← decide_not, Nat.reduceAdd, Nat.reduceSub, Nat.reduceMul, Nat.reduceLT, Nat.reduceLeDiff, Nat.reduceEqDiff, Int.reduceNeg, Int.reduceLT, Int.reduceLE, Int.reduceEq, Int.reduceNe, Int.cast_ofNat_Int, Int.reduceToNat, ↓reduceIte, reduceCtorEq, tiRules, h3]
        refine branchP_dec (fun h4 => ?_) (fun h4 => ?_)
        · simp (disch := omega) only [goRules, coreRules, ← decide_not, Nat.reduceAdd, Nat.reduceSub, Nat.reduceMul, Nat.reduceLT, Nat.reduceLeDiff, Nat.reduceEqDiff, Int.reduceNeg, Int.reduceLT, Int.reduceLE, Int.reduceEq, Int.reduceNe, Int.cast_ofNat_Int, Int.reduceToNat, ↓reduceIte, reduceCtorEq, tiRules]
          refine ⟨_, rfl, ?_⟩
          simp (disch := omega) only [goRules, coreRules, ← decide_not, Nat.reduceAdd, Nat.reduceSub, Nat.reduceMul, Nat.reduceLT, Nat.reduceLeDiff, Nat.reduceEqDiff, Int.reduceNeg, Int.reduceLT, Int.reduceLE, Int.reduceEq, Int.reduceNe, Int.cast_ofNat_Int, Int.reduceToNat, ↓reduceIte, reduceCtorEq, tiRules]
          rw [if_pos (by omega)] at hg
          refine ⟨?_, fun _ => rfl⟩
          show AV.tup _ = _
          rw [show getS (⟨l, hl, hlen⟩ : { l : List Int // (∀ x ∈ l, 0 ≤ x ∧ x < 256) ∧ l.length ≤ 9223372036854775807 }).1 0 0 = none from hg.symm]; rfl
        · simp (disch := omega) only [goRules, coreRules, ← decide_not, Nat.reduceAdd, Nat.reduceSub, Nat.reduceMul, Nat.reduceLT, Nat.reduceLeDiff, Nat.reduceEqDiff, Int.reduceNeg, Int.reduceLT, Int.reduceLE, Int.reduceEq, Int.reduceNe, Int.cast_ofNat_Int, Int.reduceToNat, ↓reduceIte, reduceCtorEq, tiRules]
          rw [if_neg (by omega)] at hg
          simp (disch := omega) only [goRules, coreRules, ← decide_not, Nat.reduceAdd, Nat.reduceSub, Nat.reduceMul, Nat.reduceLT, Nat.reduceLeDiff, Nat.reduceEqDiff, Int.reduceNeg, Int.reduceLT, Int.reduceLE, Int.reduceEq, Int.reduceNe, Int.cast_ofNat_Int, Int.reduceToNat, ↓reduceIte, reduceCtorEq, tiRules, unRules, tmod_nn, wrap_i64]
          refine branchP_dec (fun h5 => ?_) (fun h5 => ?_)
          · rw [if_pos h5] at hg
            simp (disch := omega) only [goRules, coreRules, ← decide_not, Nat.reduceAdd, Nat.reduceSub, Nat.reduceMul, Nat.reduceLT, Nat.reduceLeDiff, Nat.reduceEqDiff, Int.reduceNeg, Int.reduceLT, Int.reduceLE, Int.reduceEq, Int.reduceNe, Int.cast_ofNat_Int, Int.reduceToNat, ↓reduceIte, reduceCtorEq, tiRules, wrap_i64]
            refine ⟨_, rfl, ?_⟩
            simp (disch := omega) only [goRules, coreRules, ← decide_not, Nat.reduceAdd, Nat.reduceSub, Nat.reduceMul, Nat.reduceLT, Nat.reduceLeDiff, Nat.reduceEqDiff, Int.reduceNeg, Int.reduceLT, Int.reduceLE, Int.reduceEq, Int.reduceNe, Int.cast_ofNat_Int, Int.reduceToNat, ↓reduceIte, reduceCtorEq, tiRules]
            refine call_fits (by simp [get_cons]) ?_
            simp (disch := omega) only [goRules, coreRules, ← decide_not, Nat.reduceAdd, Nat.reduceSub, Nat.reduceMul, Nat.reduceLT, Nat.reduceLeDiff, Nat.reduceEqDiff, Int.reduceNeg, Int.reduceLT, Int.reduceLE, Int.reduceEq, Int.reduceNe, Int.cast_ofNat_Int, Int.reduceToNat, ↓reduceIte, reduceCtorEq]
            refine branchP_dec (fun h6 => ?_) (fun h6 => ?_)
            · simp (disch := omega) only [goRules, coreRules, ← decide_not, Nat.reduceAdd, Nat.reduceSub, Nat.reduceMul, Nat.reduceLT, Nat.reduceLeDiff, Nat.reduceEqDiff, Int.reduceNeg, Int.reduceLT, Int.reduceLE, Int.reduceEq, Int.reduceNe, Int.cast_ofNat_Int, Int.reduceToNat, ↓reduceIte, reduceCtorEq, tiRules]
              rw [if_neg (by omega)] at hg
              refine ⟨?_, fun _ => rfl⟩
              show AV.tup _ = _
              rw [show getS (⟨l, hl, hlen⟩ : { l : List Int // (∀ x ∈ l, 0 ≤ x ∧ x < 256) ∧ l.length ≤ 9223372036854775807 }).1 0 0 = none from hg.symm]; rfl
            · simp (disch := omega) only [goRules, coreRules, ← decide_not, Nat.reduceAdd, Nat.reduceSub, Nat.reduceMul, Nat.reduceLT, Nat.reduceLeDiff, Nat.reduceEqDiff, Int.reduceNeg, Int.reduceLT, Int.reduceLE, Int.reduceEq, Int.reduceNe, Int.cast_ofNat_Int, Int.reduceToNat, ↓reduceIte, reduceCtorEq, tiRules]
              rw [if_pos (by omega)] at hg
              refine ⟨?_, fun _ => rfl⟩
              show AV.tup _ = _
              rw [show getS (⟨l, hl, hlen⟩ : { l : List Int // (∀ x ∈ l, 0 ≤ x ∧ x < 256) ∧ l.length ≤ 9223372036854775807 }).1 0 0 = _ from hg.symm]; first | rfl | (rw [h2]; rfl)
          · rw [if_neg h5] at hg
            simp (disch := omega) only [goRules, coreRules, ← decide_not, Nat.reduceAdd, Nat.reduceSub, Nat.reduceMul, Nat.reduceLT, Nat.reduceLeDiff, Nat.reduceEqDiff, Int.reduceNeg, Int.reduceLT, Int.reduceLE, Int.reduceEq, Int.reduceNe, Int.cast_ofNat_Int, Int.reduceToNat, ↓reduceIte, reduceCtorEq, tiRules, wrap_i64]
            refine weak_again ⟨(n * 128 + c % 128, i + 1), by simp only; omega, by simp only; omega, by simp only; omega, hl, ?_⟩ (by simp only; omega) ?_
            · rw [← hg]; simp
            · rw [hSt]; refine weak_go [] [] ?_
              simp (disch := omega) only [goRules, coreRules, ← decide_not, Nat.reduceAdd, Nat.reduceSub, Nat.reduceMul, Nat.reduceLT, Nat.reduceLeDiff, Nat.reduceEqDiff, Int.reduceNeg, Int.reduceLT, Int.reduceLE, Int.reduceEq, Int.reduceNe, Int.cast_ofNat_Int, Int.reduceToNat, ↓reduceIte, reduceCtorEq, wrap_i64]
              first | rfl | omega
    · simp (disch := omega) only [goRules, coreRules, ← decide_not, Nat.reduceAdd, Nat.reduceSub, Nat.reduceMul, Nat.reduceLT, Nat.reduceLeDiff, Nat.reduceEqDiff, Int.reduceNeg, Int.reduceLT, Int.reduceLE, Int.reduceEq, Int.reduceNe, Int.cast_ofNat_Int, Int.reduceToNat, ↓reduceIte, reduceCtorEq, tiRules, h2]
      refine branchP_dec (fun h4 => ?_) (fun h4 => ?_)
      · simp (disch := omega) only [goRules, coreRules, ← decide_not, Nat.reduceAdd, Nat.reduceSub, Nat.reduceMul, Nat.reduceLT, Nat.reduceLeDiff, Nat.reduceEqDiff, Int.reduceNeg, Int.reduceLT, Int.reduceLE, Int.reduceEq, Int.reduceNe, Int.cast_ofNat_Int, Int.reduceToNat, ↓reduceIte, reduceCtorEq, tiRules]
        refine ⟨_, rfl, ?_⟩
        simp (disch := omega) only [goRules, coreRules, ← decide_not, Nat.reduceAdd, Nat.reduceSub, Nat.reduceMul, Nat.reduceLT, Nat.reduceLeDiff, Nat.reduceEqDiff, Int.reduceNeg, Int.reduceLT, Int.reduceLE, Int.reduceEq, Int.reduceNe, Int.cast_ofNat_Int, Int.reduceToNat, ↓reduceIte, reduceCtorEq, tiRules]
        rw [if_pos (by omega)] at hg
        refine ⟨?_, fun _ => rfl⟩
        show AV.tup _ = _
        rw [show getS (⟨l, hl, hlen⟩ : { l : List Int // (∀ x ∈ l, 0 ≤ x ∧ x < 256) ∧ l.length ≤ 9223372036854775807 }).1 0 0 = none from hg.symm]; rfl
      · simp (disch := omega) only [goRules, coreRules, ← decide_not, Nat.reduceAdd, Nat.reduceSub, Nat.reduceMul, Nat.reduceLT, Nat.reduceLeDiff, Nat.reduceEqDiff, Int.reduceNeg, Int.reduceLT, Int.reduceLE, Int.reduceEq, Int.reduceNe, Int.cast_ofNat_Int, Int.reduceToNat, ↓reduceIte, reduceCtorEq, tiRules]
        rw [if_neg (by omega)] at hg
        simp (disch := omega) only [goRules, coreRules, ← decide_not, Nat.reduceAdd, Nat.reduceSub, Nat.reduceMul, Nat.reduceLT, Nat.reduceLeDiff, Nat.reduceEqDiff, Int.reduceNeg, Int.reduceLT, Int.reduceLE, Int.reduceEq, Int.reduceNe, Int.cast_ofNat_Int, Int.reduceToNat, ↓reduceIte, reduceCtorEq, tiRules, unRules, tmod_nn, wrap_i64]
        refine branchP_dec (fun h5 => ?_) (fun h5 => ?_)
        · rw [if_pos h5] at hg
          simp (disch := omega) only [goRules, coreRules, ← decide_not, Nat.reduceAdd, Nat.reduceSub, Nat.reduceMul, Nat.reduceLT, Nat.reduceLeDiff, Nat.reduceEqDiff, Int.reduceNeg, Int.reduceLT, Int.reduceLE, Int.reduceEq, Int.reduceNe, Int.cast_ofNat_Int, Int.reduceToNat, ↓reduceIte, reduceCtorEq, tiRules, wrap_i64]
          refine ⟨_, rfl, ?_⟩
          simp (disch := omega) only [goRules, coreRules, ← decide_not, Nat.reduceAdd, Nat.reduceSub, Nat.reduceMul, Nat.reduceLT, Nat.reduceLeDiff, Nat.reduceEqDiff, Int.reduceNeg, Int.reduceLT, Int.reduceLE, Int.reduceEq, Int.reduceNe, Int.cast_ofNat_Int, Int.reduceToNat, ↓reduceIte, reduceCtorEq, tiRules]
          refine call_fits (by simp [get_cons]) ?_
          simp (disch := omega) only [goRules, coreRules, ← decide_not, Nat.reduceAdd, Nat.reduceSub, Nat.reduceMul, Nat.reduceLT, Nat.reduceLeDiff, Nat.reduceEqDiff, Int.reduceNeg, Int.reduceLT, Int.reduceLE, Int.reduceEq, Int.reduceNe, Int.cast_ofNat_Int, Int.reduceToNat, ↓reduceIte, reduceCtorEq]
          refine branchP_dec (fun h6 => ?_) (fun h6 => ?_)
          · simp (disch := omega) only [goRules, coreRules, ← decide_not, Nat.reduceAdd, Nat.reduceSub, Nat.reduceMul, Nat.reduceLT, Nat.reduceLeDiff, Nat.reduceEqDiff, Int.reduceNeg, Int.reduceLT, Int.reduceLE, Int.reduceEq, Int.reduceNe, Int.cast_ofNat_Int, Int.reduceToNat, ↓reduceIte, reduceCtorEq, tiRules]
            rw [if_neg (by omega)] at hg
            refine ⟨?_, fun _ => rfl⟩
            show AV.tup _ = _
            rw [show getS (⟨l, hl, hlen⟩ : { l : List Int // (∀ x ∈ l, 0 ≤ x ∧ x < 256) ∧ l.length ≤ 9223372036854775807 }).1 0 0 = none from hg.symm]; rfl
          · simp (disch := omega) only [goRules, coreRules, ← decide_not, Nat.reduceAdd, Nat.reduceSub, Nat.reduceMul, Nat.reduceLT, Nat.reduceLeDiff, Nat.reduceEqDiff, Int.reduceNeg, Int.reduceLT, Int.reduceLE, Int.reduceEq, Int.reduceNe, Int.cast_ofNat_Int, Int.reduceToNat, ↓reduceIte, reduceCtorEq, tiRules]
            rw [if_pos (by omega)] at hg
            refine ⟨?_, fun _ => rfl⟩
            show AV.tup _ = _
            rw [show getS (⟨l, hl, hlen⟩ : { l : List Int // (∀ x ∈ l, 0 ≤ x ∧ x < 256) ∧ l.length ≤ 9223372036854775807 }).1 0 0 = _ from hg.symm]; first | rfl | (rw [h2]; rfl)
        · rw [if_neg h5] at hg
          simp (disch := omega) only [goRules, coreRules, ← decide_not, Nat.reduceAdd, Nat.reduceSub, Nat.reduceMul, Nat.reduceLT, Nat.reduceLeDiff, Nat.reduceEqDiff, Int.reduceNeg, Int.reduceLT, Int.reduceLE, Int.reduceEq, Int.reduceNe, Int.cast_ofNat_Int, Int.reduceToNat, ↓reduceIte, reduceCtorEq, tiRules, wrap_i64]
          refine weak_again ⟨(n * 128 + c % 128, i + 1), by simp only; omega, by simp only; omega, by simp only; omega, hl, ?_⟩ (by simp only; omega) ?_
          · rw [← hg]; simp
          · rw [hSt]; refine weak_go [] [] ?_
            simp (disch := omega) only [goRules, coreRules, ← decide_not, Nat.reduceAdd, Nat.reduceSub, Nat.reduceMul, Nat.reduceLT, Nat.reduceLeDiff, Nat.reduceEqDiff, Int.reduceNeg, Int.reduceLT, Int.reduceLE, Int.reduceEq, Int.reduceNe, Int.cast_ofNat_Int, Int.reduceToNat, ↓reduceIte, reduceCtorEq, wrap_i64]
            first | rfl | omega
  · simp (disch := omega) only [goRules, coreRules, ← decide_not, Nat.reduceAdd, Nat.reduceSub, Nat.reduceMul, Nat.reduceLT, Nat.reduceLeDiff, Nat.reduceEqDiff, Int.reduceNeg, Int.reduceLT, Int.reduceLE, Int.reduceEq, Int.reduceNe, Int.cast_ofNat_Int, Int.reduceToNat, ↓reduceIte, reduceCtorEq, tiRules]
    rw [show l.drop i = [] from List.drop_eq_nil_of_le (by omega), getS] at hg
    refine ⟨?_, fun _ => rfl⟩
    show AV.tup _ = _
    rw [show getS (⟨l, hl, hlen⟩ : { l : List Int // (∀ x ∈ l, 0 ≤ x ∧ x < 256) ∧ l.length ≤ 9223372036854775807 }).1 0 0 = none from hg.symm]; rfl
end Go.Proofs
end
