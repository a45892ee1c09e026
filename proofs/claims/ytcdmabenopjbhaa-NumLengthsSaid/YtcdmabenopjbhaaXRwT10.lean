/-
  Plain facts of numbers in bytes: how long they are; what their groups say together.
-/
import Derived.Test.YtcdmabenopjbhaaXRwT7
set_option linter.unusedSimpArgs false
set_option linter.unusedVariables false
set_option linter.defProp false

-- RwT10
section
namespace Go.Proofs
open Go Go.Rw
set_option maxRecDepth 100000
set_option linter.unusedSimpArgs false
set_option linter.unusedVariables false

theorem putL_out {n : Int} (h : ¬ (0 ≤ n ∧ n ≤ 1099511627776)) : putL n = [] := by rw [putL, if_neg h]
/-- What groups say together. -/
def valL : List Int → Int → Int
  | [], s => s
  | c :: r, s => valL r (s * 128 + c % 128)
theorem valL_app : ∀ (l r : List Int) (s : Int), valL (l ++ r) s = valL r (valL l s)
  | [], _, _ => rfl
  | c :: l, r, s => by rw [List.cons_append, valL, valL_app l r]; rfl
theorem valL_tail (m : Nat) : valL (tail m) 0 = m := by
  induction m using Nat.strongRecOn with
  | _ m ih =>
    by_cases h0 : m = 0
    · subst h0; rw [tail_zero]; rfl
    · rw [tail_pos h0, valL_app, ih (m / 128) (by omega), valL, valL]; omega
theorem valL_put {n : Int} (h : 0 ≤ n ∧ n ≤ 1099511627776) : valL (putL n) 0 = n := by
  rw [putL_in h, valL_app, valL_tail, valL, valL]; omega
theorem tail_big (m : Nat) : ∀ x ∈ tail m, 128 ≤ x := by
  induction m using Nat.strongRecOn with
  | _ m ih =>
    by_cases h0 : m = 0
    · subst h0; rw [tail_zero]; simp
    · rw [tail_pos h0]
      intro x hx
      rcases List.mem_append.1 hx with h1 | h1
      · exact ih (m / 128) (by omega) x h1
      · simp at h1; omega
theorem tail_five : (tail 8589934592).length = 5 := by
  rw [tail_pos (by omega), tail_pos (by omega), tail_pos (by omega), tail_pos (by omega), tail_pos (by omega)]
  simp [tail_zero]
theorem putL_six {n : Int} (h : 0 ≤ n ∧ n ≤ 1099511627776) : (putL n).length ≤ 6 := by
  rw [putL_in h]
  have := tail_mono (n.toNat / 128) 8589934592 (by omega)
  rw [tail_five] at this
  simp only [List.length_append, List.length_singleton]; omega
theorem putL_more {n : Int} (h : 0 ≤ n ∧ n ≤ 1099511627776) {i : Nat} (hi : i < (putL n).length) : (128 ≤ (putL n).getD i 0) ↔ i + 1 < (putL n).length := by
  have hh := putL_in h
  rw [hh] at hi ⊢
  simp only [List.length_append, List.length_singleton] at hi ⊢
  by_cases h1 : i < (tail (n.toNat / 128)).length
  · rw [List.getD_eq_getElem?_getD, List.getElem?_append_left h1, List.getElem?_eq_getElem h1]
    have := tail_big _ _ (List.getElem_mem h1)
    simp only [Option.getD_some]; omega
  · have h2 : i = (tail (n.toNat / 128)).length := by omega
    rw [List.getD_eq_getElem?_getD, List.getElem?_append_right (by omega), h2]
    simp; omega
theorem tail_head (m : Nat) : (tail m).head? ≠ some 128 := by
  induction m using Nat.strongRecOn with
  | _ m ih =>
    by_cases h0 : m = 0
    · subst h0; rw [tail_zero]; simp
    · rw [tail_pos h0]
      by_cases h1 : m / 128 = 0
      · rw [h1, tail_zero]; simp; omega
      · have := ih (m / 128) (by omega)
        rw [tail_pos h1] at this ⊢
        cases ht : tail (m / 128 / 128) with
        | nil => rw [ht] at this; simpa using this
        | cons c r => rw [ht] at this; simpa using this
end Go.Proofs
end
