/-
  The reference's offsets and pieces.
-/
import Derived.Test.YtknbfkmgoijncaaDoorXBUt5
set_option linter.unusedSimpArgs false
set_option linter.unusedVariables false
set_option linter.defProp false

-- BUt6
section
namespace Go.Proofs
open Go Go.Rw
set_option maxRecDepth 100000
set_option linter.unusedSimpArgs false
set_option linter.unusedVariables false

/-- How many bytes the first n code points have; of bytes that are none, one. -/
def roffF : Nat → List UInt8 → Int → Nat
  | 0, _, _ => 0
  | f + 1, l, n => if n ≤ 0 ∨ l = [] then 0 else max (pnt l).2 1 + roffF f (l.drop (max (pnt l).2 1)) (n - 1)
def roff (l : List UInt8) (n : Int) : Nat := roffF l.length l n
theorem roffF_fuel : ∀ (f g : Nat) (l : List UInt8) (n : Int), l.length ≤ f → l.length ≤ g → roffF f l n = roffF g l n
  | 0, 0, _, _, _, _ => rfl
  | 0, g + 1, l, n, h, _ => by
    have : l = [] := List.eq_nil_of_length_eq_zero (by omega)
    subst this; simp [roffF]
  | f + 1, 0, l, n, _, h => by
    have : l = [] := List.eq_nil_of_length_eq_zero (by omega)
    subst this; simp [roffF]
  | f + 1, g + 1, l, n, h1, h2 => by
    simp only [roffF]
    split
    · rfl
    · rename_i hc
      rw [not_or] at hc
      have : 0 < l.length := List.length_pos_iff.2 hc.2
      rw [roffF_fuel f g _ _ (by rw [List.length_drop]; omega) (by rw [List.length_drop]; omega)]
theorem roff_stop {l : List UInt8} {n : Int} (h : n ≤ 0 ∨ l = []) : roff l n = 0 := by
  unfold roff
  cases hl : l.length with
  | zero => rfl
  | succ f => simp only [roffF]; rw [if_pos h]
theorem roff_step {l : List UInt8} {n : Int} (h1 : ¬ n ≤ 0) (h2 : l ≠ []) : roff l n = max (pnt l).2 1 + roff (l.drop (max (pnt l).2 1)) (n - 1) := by
  unfold roff
  have hpos : 0 < l.length := List.length_pos_iff.2 h2
  obtain ⟨f, hf⟩ : ∃ f, l.length = f + 1 := ⟨l.length - 1, by omega⟩
  rw [hf]
  simp only [roffF]
  rw [if_neg (by rw [not_or]; exact ⟨h1, h2⟩), roffF_fuel f _ _ _ (by rw [List.length_drop]; omega) (Nat.le_refl _)]
theorem roff_le : ∀ (f : Nat) (l : List UInt8) (n : Int), l.length ≤ f → roff l n ≤ l.length
  | 0, l, n, h => by
    have : l = [] := List.eq_nil_of_length_eq_zero (by omega)
    rw [roff_stop (.inr this)]; omega
  | f + 1, l, n, h => by
    by_cases hc : n ≤ 0 ∨ l = []
    · rw [roff_stop hc]; omega
    · rw [not_or] at hc
      have h1 := pnt_len hc.2
      have h2 : 0 < l.length := List.length_pos_iff.2 hc.2
      rw [roff_step hc.1 hc.2]
      have := roff_le f (l.drop (max (pnt l).2 1)) (n - 1) (by rw [List.length_drop]; omega)
      rw [List.length_drop] at this
      omega
theorem roff_encs : ∀ (cs : List Nat) (n : Int), (∀ c ∈ cs, okc c) → roff (encs cs) n = (encs (cs.take n.toNat)).length
  | [], n, _ => by rw [roff_stop (.inr (show encs [] = [] from rfl))]; simp [encs]
  | c :: cs, n, h => by
    by_cases hn : n ≤ 0
    · rw [roff_stop (.inl hn), show n.toNat = 0 by omega]; rfl
    · have hc := h c (by simp)
      have hw := wid_pos c
      have hne : encs (c :: cs) ≠ [] := by
        intro e
        have h2 := congrArg List.length e
        rw [encs_cons_len, List.length_nil] at h2; omega
      rw [roff_step hn hne, encs_cons, pnt_enc hc]
      simp only
      rw [Nat.max_eq_left hw, show (enc c ++ encs cs).drop (wid c) = encs cs by rw [← enc_len c, List.drop_left], roff_encs cs _ (fun x hx => h x (by simp [hx])), show n.toNat = (n - 1).toNat + 1 by omega, List.take_succ_cons, encs_cons_len]

abbrev roffCon : Con where
  ι := Str × I64
  args := fun p => [.v (sv p.1.1), .v (.int .i64 p.2.1)]
  post := fun p r => r = .v (.int .i64 (roff p.1.1 p.2.1))
  plain := true
/-- A piece, within a text. -/
abbrev rsliceCon : Con where
  ι := { p : List Nat × Int × Int // (∀ c ∈ p.1, okc c) ∧ (encs p.1).length ≤ 1099511627776 ∧ 0 ≤ p.2.1 ∧ p.2.1 ≤ p.2.2 ∧ p.2.2 ≤ p.1.length }
  args := fun p => [.v (sv (encs p.1.1)), .v (.int .i64 p.1.2.1), .v (.int .i64 p.1.2.2)]
  post := fun p r => r = .v (sv (encs ((p.1.1.drop p.1.2.1.toNat).take (p.1.2.2.toNat - p.1.2.1.toNat))))
  plain := true
end Go.Proofs
end
