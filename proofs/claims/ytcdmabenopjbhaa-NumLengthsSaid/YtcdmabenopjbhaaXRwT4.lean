/-
  The reference Get meets its contract.
-/
import Derived.Test.YtcdmabenopjbhaaXRwT3
set_option linter.unusedSimpArgs false
set_option linter.unusedVariables false
set_option linter.defProp false

-- RwT4
section
namespace Go.Proofs
open Go Go.Rw
set_option maxRecDepth 100000
set_option linter.unusedSimpArgs false
set_option linter.unusedVariables false

abbrev rgetCon : Con where
  ι := { l : List Int // (∀ x ∈ l, 0 ≤ x ∧ x < 256) ∧ l.length ≤ 9223372036854775807 }
  args := fun l => [.sl 0 1 (ints .u8 l.1)]
  post := fun l r => r = match getS l.1 0 0 with
    | some (n, u) => .tup [.v (.int .i64 n), .v (.int .i64 u)]
    | none => .tup [.v (.int .i64 0), .v (.int .i64 0)]
  plain := true

theorem rget_good : Rw.Good Try.prog 8 rgetCon := by
  have hΓ : GoodEnv Try.prog [(13, fitsCon)] := goodEnv_cons rfits_good goodEnv_nil
  refine good_go (nn := 45) hΓ Try.func8 (by kernel_rfl) rfl rfl rfl (fun _ => rfl) (fun _ => rfl) ?_
  rintro ⟨l, hl, hlen⟩
  simp only [goRules, coreRules, ← decide_not, Nat.reduceAdd, Nat.reduceSub, Nat.reduceMul, Nat.reduceLT, Nat.reduceLeDiff, Nat.reduceEqDiff, Int.reduceNeg, Int.reduceLT, Int.reduceLE, Int.reduceEq, Int.reduceNe, Int.cast_ofNat_Int, Int.reduceToNat, ↓reduceIte, reduceCtorEq, show rgetCon.args ⟨l, hl, hlen⟩ = [.sl 0 1 (ints .u8 l)] from rfl, show Try.f8.results.toList = [.tmp 2, .tmp 3] from rfl, tiRules, unRules, AS_of_eq]
  obtain ⟨St, hSt⟩ : ∃ St : { p : Nat × Nat // p.2 ≤ l.length ∧ p.2 ≤ 6 ∧ p.1 < 128 ^ p.2 ∧ (p.2 = 0 ∨ 128 ^ (p.2 - 1) ≤ p.1) ∧ getS (l.drop p.2) p.1 p.2 = getS l 0 0 } → AS, ∀ p, St p = AS.of 45 [(0, .sl 0 1 (ints .u8 l)), (4, .v (.int .i64 p.1.1)), (5, .v (.int .i64 p.1.2))] [] [] := ⟨_, fun _ => rfl⟩
  refine vc_loop hΓ St (fun p => l.length - p.1.2) ⟨(0, 0), by simp, by simp, by simp, by simp, by simp⟩ (by rw [hSt]; refine weak_go [] [] ?_; simp only [goRules, coreRules, ← decide_not, Nat.reduceAdd, Nat.reduceSub, Nat.reduceMul, Nat.reduceLT, Nat.reduceLeDiff, Nat.reduceEqDiff, Int.reduceNeg, Int.reduceLT, Int.reduceLE, Int.reduceEq, Int.reduceNe, Int.cast_ofNat_Int, Int.reduceToNat, ↓reduceIte, reduceCtorEq]) ?_
  rintro ⟨⟨n, i⟩, hi, hi6, hn0, hn1, hg⟩
  rw [hSt]
  simp only at hi hi6 hn0 hn1 hg
  have hp6 : 128 ^ i ≤ 128 ^ 6 := Nat.pow_le_pow_right (by omega) hi6
  simp (disch := omega) only [goRules, coreRules, ← decide_not, Nat.reduceAdd, Nat.reduceSub, Nat.reduceMul, Nat.reduceLT, Nat.reduceLeDiff, Nat.reduceEqDiff, Int.reduceNeg, Int.reduceLT, Int.reduceLE, Int.reduceEq, Int.reduceNe, Int.cast_ofNat_Int, Int.reduceToNat, ↓reduceIte, reduceCtorEq, tiRules, AS_of_eq, ints_len]
  have hend : ¬ (i < l.length ∧ i < 6) → getS l 0 0 = none := by
    intro h
    rw [← hg]
    by_cases h2 : i < l.length
    · have h3 : i = 6 := by omega
      subst h3
      rw [List.drop_eq_getElem_cons h2, getS, if_pos (by right; simp at hn1; omega)]
    · rw [List.drop_eq_nil_of_le (by omega), getS]
  have hstep : i < l.length → ∃ c, l.getD i 0 = c ∧ 0 ≤ c ∧ c < 256 ∧ getS (c :: l.drop (i + 1)) n i = getS l 0 0 := by
    intro h
    obtain ⟨h1, h2⟩ := hl (l.getD i 0) (by rw [List.getD_eq_getElem?_getD, List.getElem?_eq_getElem h]; exact List.getElem_mem h)
    refine ⟨_, rfl, h1, h2, ?_⟩
    rw [← hg, List.drop_eq_getElem_cons h, List.getD_eq_getElem?_getD, List.getElem?_eq_getElem h]; rfl
  refine guardB_dec (fun h1 => ?_) (fun h1 => ?_)
  · simp (disch := omega) only [goRules, coreRules, ← decide_not, Nat.reduceAdd, Nat.reduceSub, Nat.reduceMul, Nat.reduceLT, Nat.reduceLeDiff, Nat.reduceEqDiff, Int.reduceNeg, Int.reduceLT, Int.reduceLE, Int.reduceEq, Int.reduceNe, Int.cast_ofNat_Int, Int.reduceToNat, ↓reduceIte, reduceCtorEq, tiRules, h1]
    refine branchP_dec (fun h2 => ?_) (fun h2 => ?_)
    · obtain ⟨c, hc, hc0, hc1, hg2⟩ := hstep (by omega)
      have hp5 : 128 ^ i ≤ 128 ^ 5 := Nat.pow_le_pow_right (by omega) (by omega)
      rw [getS] at hg2
      simp (disch := omega) only [goRules, coreRules, ← decide_not, Nat.reduceAdd, Nat.reduceSub, Nat.reduceMul, Nat.reduceLT, Nat.reduceLeDiff, Nat.reduceEqDiff, Int.reduceNeg, Int.reduceLT, Int.reduceLE, Int.reduceEq, Int.reduceNe, Int.cast_ofNat_Int, Int.reduceToNat, ↓reduceIte, reduceCtorEq, tiRules, unRules, ints_len, ints_getD, hc]
      refine guardB_dec (fun h3 => ?_) (fun h3 => ?_)
      · simp (disch := omega) only [goRules, coreRules, ← decide_not, Nat.reduceAdd, Nat.reduceSub, Nat.reduceMul, Nat.reduceLT, Nat.reduceLeDiff, Nat.reduceEqDiff, Int.reduceNeg, Int.reduceLT, Int.reduceLE, Int.reduceEq, Int.reduceNe, Int.cast_ofNat_Int, Int.reduceToNat, ↓reduceIte, reduceCtorEq, tiRules, unRules, ints_len, ints_getD, hc, eq_true h3]
        refine ⟨by omega, ?_⟩
        refine branchP_dec (fun h4 => ?_) (fun h4 => ?_)
        · simp (disch := omega) only [goRules, coreRules, ← decide_not, Nat.reduceAdd, Nat.reduceSub, Nat.reduceMul, Nat.reduceLT, Nat.reduceLeDiff, Nat.reduceEqDiff, Int.reduceNeg, Int.reduceLT, Int.reduceLE, Int.reduceEq, Int.reduceNe, Int.cast_ofNat_Int, Int.reduceToNat, ↓reduceIte, reduceCtorEq, tiRules]
          refine ⟨?_, fun _ => rfl⟩
          show AV.tup _ = _
          rw [if_pos (by omega)] at hg2
          rw [show getS (⟨l, hl, hlen⟩ : { l : List Int // (∀ x ∈ l, 0 ≤ x ∧ x < 256) ∧ l.length ≤ 9223372036854775807 }).1 0 0 = none from hg2.symm]; rfl
        · simp (disch := omega) only [goRules, coreRules, ← decide_not, Nat.reduceAdd, Nat.reduceSub, Nat.reduceMul, Nat.reduceLT, Nat.reduceLeDiff, Nat.reduceEqDiff, Int.reduceNeg, Int.reduceLT, Int.reduceLE, Int.reduceEq, Int.reduceNe, Int.cast_ofNat_Int, Int.reduceToNat, ↓reduceIte, reduceCtorEq, tiRules, unRules, ints_len, ints_getD, hc, shl7, and127u8, wrap_i64, orLow]
          refine ⟨by omega, by omega, ?_⟩
          refine branchP_dec (fun h5 => ?_) (fun h5 => ?_)
          · simp (disch := omega) only [goRules, coreRules, ← decide_not, Nat.reduceAdd, Nat.reduceSub, Nat.reduceMul, Nat.reduceLT, Nat.reduceLeDiff, Nat.reduceEqDiff, Int.reduceNeg, Int.reduceLT, Int.reduceLE, Int.reduceEq, Int.reduceNe, Int.cast_ofNat_Int, Int.reduceToNat, ↓reduceIte, reduceCtorEq, tiRules]
            refine call_fits (by simp [get_cons]) ?_
            simp (disch := omega) only [goRules, coreRules, ← decide_not, Nat.reduceAdd, Nat.reduceSub, Nat.reduceMul, Nat.reduceLT, Nat.reduceLeDiff, Nat.reduceEqDiff, Int.reduceNeg, Int.reduceLT, Int.reduceLE, Int.reduceEq, Int.reduceNe, Int.cast_ofNat_Int, Int.reduceToNat, ↓reduceIte, reduceCtorEq]
            refine branchP_dec (fun h6 => ?_) (fun h6 => ?_)
            · simp (disch := omega) only [goRules, coreRules, ← decide_not, Nat.reduceAdd, Nat.reduceSub, Nat.reduceMul, Nat.reduceLT, Nat.reduceLeDiff, Nat.reduceEqDiff, Int.reduceNeg, Int.reduceLT, Int.reduceLE, Int.reduceEq, Int.reduceNe, Int.cast_ofNat_Int, Int.reduceToNat, ↓reduceIte, reduceCtorEq, tiRules]
              refine ⟨?_, fun _ => rfl⟩
              show AV.tup _ = _
              have hz : getS l 0 0 = none := by
                rw [← hg2]
                split
                · rfl
                · rw [if_neg (by omega)]
              rw [show getS (⟨l, hl, hlen⟩ : { l : List Int // (∀ x ∈ l, 0 ≤ x ∧ x < 256) ∧ l.length ≤ 9223372036854775807 }).1 0 0 = none from hz]; rfl
            · simp (disch := omega) only [goRules, coreRules, ← decide_not, Nat.reduceAdd, Nat.reduceSub, Nat.reduceMul, Nat.reduceLT, Nat.reduceLeDiff, Nat.reduceEqDiff, Int.reduceNeg, Int.reduceLT, Int.reduceLE, Int.reduceEq, Int.reduceNe, Int.cast_ofNat_Int, Int.reduceToNat, ↓reduceIte, reduceCtorEq, tiRules, wrap_i64]
              refine ⟨?_, fun _ => rfl⟩
              show AV.tup _ = _
              rw [if_neg (by omega), if_pos h5, if_pos (by omega)] at hg2
              rw [show getS (⟨l, hl, hlen⟩ : { l : List Int // (∀ x ∈ l, 0 ≤ x ∧ x < 256) ∧ l.length ≤ 9223372036854775807 }).1 0 0 = _ from hg2.symm]; rfl
          · simp (disch := omega) only [goRules, coreRules, ← decide_not, Nat.reduceAdd, Nat.reduceSub, Nat.reduceMul, Nat.reduceLT, Nat.reduceLeDiff, Nat.reduceEqDiff, Int.reduceNeg, Int.reduceLT, Int.reduceLE, Int.reduceEq, Int.reduceNe, Int.cast_ofNat_Int, Int.reduceToNat, ↓reduceIte, reduceCtorEq, tiRules, wrap_i64]
            refine weak_again ⟨(n * 128 + (c % 128).toNat, i + 1), by simp only; omega, by simp only; omega, ?_, ?_, ?_⟩ (by simp only; omega) ?_
            · simp only [Nat.pow_succ]; omega
            · right
              simp only [Nat.add_sub_cancel]
              by_cases h8 : i = 0
              · subst h8; simp only [Nat.pow_zero]; omega
              · have h7 := hn1.resolve_left h8
                have h9 : 128 ^ i = 128 ^ (i - 1) * 128 := by rw [← Nat.pow_succ]; congr 1; omega
                rw [h9]; omega
            · simp only
              rw [← hg2, if_neg h5]
              rw [show (((n * 128 + (c % 128).toNat : Nat) : Int)) = (n : Int) * 128 + c % 128 by omega, show (((i + 1 : Nat) : Int)) = (i : Int) + 1 by omega]
              split
              · rename_i h10
                have h11 : (n : Int) > 8589934592 := by omega
                cases l.drop (i + 1) with
                | nil => rfl
                | cons d r => rw [getS, if_pos (by omega)]
              · rfl
            · rw [hSt]; refine weak_go [] [] ?_
              simp (disch := omega) only [goRules, coreRules, ← decide_not, Nat.reduceAdd, Nat.reduceSub, Nat.reduceMul, Nat.reduceLT, Nat.reduceLeDiff, Nat.reduceEqDiff, Int.reduceNeg, Int.reduceLT, Int.reduceLE, Int.reduceEq, Int.reduceNe, Int.cast_ofNat_Int, Int.reduceToNat, ↓reduceIte, reduceCtorEq, wrap_i64]
              exact ⟨by omega, by omega⟩
      · simp (disch := omega) only [goRules, coreRules, ← decide_not, Nat.reduceAdd, Nat.reduceSub, Nat.reduceMul, Nat.reduceLT, Nat.reduceLeDiff, Nat.reduceEqDiff, Int.reduceNeg, Int.reduceLT, Int.reduceLE, Int.reduceEq, Int.reduceNe, Int.cast_ofNat_Int, Int.reduceToNat, ↓reduceIte, reduceCtorEq, tiRules, unRules, ints_len, ints_getD, hc, eq_false h3, shl7, and127u8, wrap_i64, orLow]
        refine ⟨by omega, by omega, ?_⟩
        refine branchP_dec (fun h5 => ?_) (fun h5 => ?_)
        · simp (disch := omega) only [goRules, coreRules, ← decide_not, Nat.reduceAdd, Nat.reduceSub, Nat.reduceMul, Nat.reduceLT, Nat.reduceLeDiff, Nat.reduceEqDiff, Int.reduceNeg, Int.reduceLT, Int.reduceLE, Int.reduceEq, Int.reduceNe, Int.cast_ofNat_Int, Int.reduceToNat, ↓reduceIte, reduceCtorEq, tiRules]
          refine call_fits (by simp [get_cons]) ?_
          simp (disch := omega) only [goRules, coreRules, ← decide_not, Nat.reduceAdd, Nat.reduceSub, Nat.reduceMul, Nat.reduceLT, Nat.reduceLeDiff, Nat.reduceEqDiff, Int.reduceNeg, Int.reduceLT, Int.reduceLE, Int.reduceEq, Int.reduceNe, Int.cast_ofNat_Int, Int.reduceToNat, ↓reduceIte, reduceCtorEq]
          refine branchP_dec (fun h6 => ?_) (fun h6 => ?_)
          · simp (disch := omega) only [goRules, coreRules, ← decide_not, Nat.reduceAdd, Nat.reduceSub, Nat.reduceMul, Nat.reduceLT, Nat.reduceLeDiff, Nat.reduceEqDiff, Int.reduceNeg, Int.reduceLT, Int.reduceLE, Int.reduceEq, Int.reduceNe, Int.cast_ofNat_Int, Int.reduceToNat, ↓reduceIte, reduceCtorEq, tiRules]
            refine ⟨?_, fun _ => rfl⟩
            show AV.tup _ = _
            have hz : getS l 0 0 = none := by
              rw [← hg2]
              split
              · rfl
              · rw [if_neg (by omega)]
            rw [show getS (⟨l, hl, hlen⟩ : { l : List Int // (∀ x ∈ l, 0 ≤ x ∧ x < 256) ∧ l.length ≤ 9223372036854775807 }).1 0 0 = none from hz]; rfl
          · simp (disch := omega) only [goRules, coreRules, ← decide_not, Nat.reduceAdd, Nat.reduceSub, Nat.reduceMul, Nat.reduceLT, Nat.reduceLeDiff, Nat.reduceEqDiff, Int.reduceNeg, Int.reduceLT, Int.reduceLE, Int.reduceEq, Int.reduceNe, Int.cast_ofNat_Int, Int.reduceToNat, ↓reduceIte, reduceCtorEq, tiRules, wrap_i64]
            refine ⟨?_, fun _ => rfl⟩
            show AV.tup _ = _
            rw [if_neg (by omega), if_pos h5, if_pos (by omega)] at hg2
            rw [show getS (⟨l, hl, hlen⟩ : { l : List Int // (∀ x ∈ l, 0 ≤ x ∧ x < 256) ∧ l.length ≤ 9223372036854775807 }).1 0 0 = _ from hg2.symm]; rfl
        · simp (disch := omega) only [goRules, coreRules, ← decide_not, Nat.reduceAdd, Nat.reduceSub, Nat.reduceMul, Nat.reduceLT, Nat.reduceLeDiff, Nat.reduceEqDiff, Int.reduceNeg, Int.reduceLT, Int.reduceLE, Int.reduceEq, Int.reduceNe, Int.cast_ofNat_Int, Int.reduceToNat, ↓reduceIte, reduceCtorEq, tiRules, wrap_i64]
          refine weak_again ⟨(n * 128 + (c % 128).toNat, i + 1), by simp only; omega, by simp only; omega, ?_, ?_, ?_⟩ (by simp only; omega) ?_
          · simp only [Nat.pow_succ]; omega
          · right
            simp only [Nat.add_sub_cancel]
            by_cases h8 : i = 0
            · subst h8; simp only [Nat.pow_zero]; omega
            · have h7 := hn1.resolve_left h8
              have h9 : 128 ^ i = 128 ^ (i - 1) * 128 := by rw [← Nat.pow_succ]; congr 1; omega
              rw [h9]; omega
          · simp only
            rw [← hg2, if_neg h5]
            rw [show (((n * 128 + (c % 128).toNat : Nat) : Int)) = (n : Int) * 128 + c % 128 by omega, show (((i + 1 : Nat) : Int)) = (i : Int) + 1 by omega]
            split
            · rename_i h10
              have h11 : (n : Int) > 8589934592 := by omega
              cases l.drop (i + 1) with
              | nil => rfl
              | cons d r => rw [getS, if_pos (by omega)]
            · rfl
          · rw [hSt]; refine weak_go [] [] ?_
            simp (disch := omega) only [goRules, coreRules, ← decide_not, Nat.reduceAdd, Nat.reduceSub, Nat.reduceMul, Nat.reduceLT, Nat.reduceLeDiff, Nat.reduceEqDiff, Int.reduceNeg, Int.reduceLT, Int.reduceLE, Int.reduceEq, Int.reduceNe, Int.cast_ofNat_Int, Int.reduceToNat, ↓reduceIte, reduceCtorEq, wrap_i64]
            exact ⟨by omega, by omega⟩
    · simp (disch := omega) only [goRules, coreRules, ← decide_not, Nat.reduceAdd, Nat.reduceSub, Nat.reduceMul, Nat.reduceLT, Nat.reduceLeDiff, Nat.reduceEqDiff, Int.reduceNeg, Int.reduceLT, Int.reduceLE, Int.reduceEq, Int.reduceNe, Int.cast_ofNat_Int, Int.reduceToNat, ↓reduceIte, reduceCtorEq, tiRules]
      refine ⟨?_, fun _ => rfl⟩
      show AV.tup _ = _
      rw [show getS (⟨l, hl, hlen⟩ : { l : List Int // (∀ x ∈ l, 0 ≤ x ∧ x < 256) ∧ l.length ≤ 9223372036854775807 }).1 0 0 = none from hend (by omega)]; rfl
  · simp (disch := omega) only [goRules, coreRules, ← decide_not, Nat.reduceAdd, Nat.reduceSub, Nat.reduceMul, Nat.reduceLT, Nat.reduceLeDiff, Nat.reduceEqDiff, Int.reduceNeg, Int.reduceLT, Int.reduceLE, Int.reduceEq, Int.reduceNe, Int.cast_ofNat_Int, Int.reduceToNat, ↓reduceIte, reduceCtorEq, tiRules, h1]
    refine ⟨?_, fun _ => rfl⟩
    show AV.tup _ = _
    rw [show getS (⟨l, hl, hlen⟩ : { l : List Int // (∀ x ∈ l, 0 ≤ x ∧ x < 256) ∧ l.length ≤ 9223372036854775807 }).1 0 0 = none from hend (by omega)]; rfl
end Go.Proofs
end
