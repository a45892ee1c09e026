/-
  Plain facts of numbers in bytes: what is written reads back; lengths; no two numbers alike.
-/
import Derived.Test.YtcdmabenopjbhaaXRwT5
set_option linter.unusedSimpArgs false
set_option linter.unusedVariables false
set_option linter.defProp false

-- RwT7
section
namespace Go.Proofs
open Go Go.Rw
set_option maxRecDepth 100000
set_option linter.unusedSimpArgs false
set_option linter.unusedVariables false

theorem tail_zero : tail 0 = [] := by rw [tail]; rfl
theorem tail_pos {m : Nat} (h : m ≠ 0) : tail m = tail (m / 128) ++ [((128 + m % 128 : Nat) : Int)] := by
  conv => lhs; rw [tail]
  rw [dif_neg h]
theorem getS_cons_more {c : Int} {r : List Int} {n i : Int} (h1 : ¬ (i = 0 ∧ c = 128)) (h2 : n ≤ 8589934592) (h3 : ¬ c < 128) : getS (c :: r) n i = getS r (n * 128 + c % 128) (i + 1) := by
  rw [getS, if_neg (by omega), if_neg h3]
theorem getS_cons_last {c : Int} {r : List Int} {n i : Int} (h1 : ¬ (i = 0 ∧ c = 128)) (h2 : n ≤ 8589934592) (h3 : c < 128) (h4 : n * 128 + c % 128 ≤ 1099511627776) : getS (c :: r) n i = some (n * 128 + c % 128, i + 1) := by
  rw [getS, if_neg (by omega), if_pos h3, if_pos h4]
/-- Reading goes on behind the groups ahead of the last. -/
theorem getS_tail (m : Nat) : ∀ (r : List Int), m ≤ 8589934592 → getS (tail m ++ r) 0 0 = getS r m (tail m).length := by
  induction m using Nat.strongRecOn with
  | _ m ih =>
    intro r hm
    by_cases h0 : m = 0
    · subst h0; rw [tail_zero]; rfl
    · rw [tail_pos h0, List.append_assoc, ih (m / 128) (by omega) _ (by omega), List.singleton_append, List.length_append, List.length_singleton]
      rw [getS_cons_more (by
        rintro ⟨h1, h2⟩
        have h3 : (tail (m / 128)).length = 0 := by omega
        by_cases h4 : m / 128 = 0
        · omega
        · rw [tail_pos h4] at h3; simp at h3) (by omega) (by omega)]
      congr 1 <;> omega
theorem putL_in {n : Int} (h : 0 ≤ n ∧ n ≤ 1099511627776) : putL n = tail (n.toNat / 128) ++ [n % 128] := by rw [putL, if_pos h]
theorem getS_put {n : Int} (h : 0 ≤ n ∧ n ≤ 1099511627776) (r : List Int) : getS (putL n ++ r) 0 0 = some (n, ((putL n).length : Int)) := by
  rw [putL_in h, List.append_assoc, getS_tail _ _ (by omega), List.singleton_append, getS_cons_last (by omega) (by omega) (by omega) (by omega)]
  simp only [List.length_append, List.length_singleton, Option.some.injEq, Prod.mk.injEq]
  constructor <;> omega
theorem getS_cut {n : Int} (h : 0 ≤ n ∧ n ≤ 1099511627776) : getS ((putL n).take ((putL n).length - 1)) 0 0 = none := by
  rw [putL_in h]
  simp only [List.length_append, List.length_singleton, Nat.add_sub_cancel, List.take_left]
  have := getS_tail (n.toNat / 128) [] (by omega)
  rw [List.append_nil] at this
  rw [this]; rfl
theorem getS_128 (l : List Int) : getS (128 :: l) 0 0 = none := by rw [getS, if_pos (by simp)]
theorem putL_inj {n k : Int} (hn : 0 ≤ n ∧ n ≤ 1099511627776) (hk : 0 ≤ k ∧ k ≤ 1099511627776) (h : putL n = putL k) : n = k := by
  have h1 := getS_put hn []
  have h2 := getS_put hk []
  rw [h] at h1
  rw [h1] at h2
  simp at h2; exact h2
theorem tail_mono (m : Nat) : ∀ k, m ≤ k → (tail m).length ≤ (tail k).length := by
  induction m using Nat.strongRecOn with
  | _ m ih =>
    intro k hk
    by_cases h0 : m = 0
    · subst h0; rw [tail_zero]; exact Nat.zero_le _
    · rw [tail_pos h0, tail_pos (show k ≠ 0 by omega)]
      simp only [List.length_append, List.length_singleton]
      have := ih (m / 128) (by omega) (k / 128) (by omega)
      omega
theorem putL_mono {n k : Int} (hn : 0 ≤ n ∧ n ≤ 1099511627776) (hk : 0 ≤ k ∧ k ≤ 1099511627776) (h : n ≤ k) : (putL n).length ≤ (putL k).length := by
  rw [putL_in hn, putL_in hk]
  simp only [List.length_append, List.length_singleton]
  have := tail_mono (n.toNat / 128) (k.toNat / 128) (by omega)
  omega
theorem tail_u8 (m : Nat) : ∀ x ∈ tail m, 0 ≤ x ∧ x < 256 := by
  induction m using Nat.strongRecOn with
  | _ m ih =>
    by_cases h0 : m = 0
    · subst h0; rw [tail_zero]; simp
    · rw [tail_pos h0]
      intro x hx
      rcases List.mem_append.1 hx with h1 | h1
      · exact ih (m / 128) (by omega) x h1
      · simp at h1; omega
theorem putL_u8 (n : Int) : ∀ x ∈ putL n, 0 ≤ x ∧ x < 256 := by
  unfold putL
  split
  · intro x hx
    rcases List.mem_append.1 hx with h1 | h1
    · exact tail_u8 _ x h1
    · simp at h1; omega
  · simp
theorem tail_len (m : Nat) : (tail m).length ≤ m := by
  induction m using Nat.strongRecOn with
  | _ m ih =>
    by_cases h0 : m = 0
    · subst h0; rw [tail_zero]; simp
    · rw [tail_pos h0]
      have := ih (m / 128) (by omega)
      simp only [List.length_append, List.length_singleton]; omega
theorem putL_len (n : Int) : (putL n).length ≤ 1099511627777 := by
  unfold putL
  split
  · have := tail_len (n.toNat / 128)
    simp only [List.length_append, List.length_singleton]; omega
  · simp
end Go.Proofs
end
