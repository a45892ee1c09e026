/-
  The document's Two.
-/
import Derived.Test.YtknbfkmgoijncaaDoorXBAw5
set_option linter.unusedSimpArgs false
set_option linter.unusedVariables false
set_option linter.defProp false

-- BAw6
section
namespace Go.Proofs
open Go Go.Rw
set_option maxRecDepth 100000
set_option linter.unusedSimpArgs false
set_option linter.unusedVariables false

theorem oU_piece {c : Cp} (h : sound c = true) : oU (unP c) = if c.k = 3 then 0 else size c := by
  obtain ⟨h1, h2, h3⟩ := unP_shape h
  rcases sound_k h with k | k | k
  · rw [h1 k, oU_r, if_neg (by omega)]
  · rw [(h3 k).1, oU_i, if_neg (by omega), (h3 k).2]
  · rw [h2 k, oU_d, if_pos k]
theorem bU_piece {c : Cp} (h : sound c = true) : bU (unP c) = if c.k = 2 then 0 else size c := by
  obtain ⟨h1, h2, h3⟩ := unP_shape h
  rcases sound_k h with k | k | k
  · rw [h1 k, bU_r, if_neg (by omega)]
  · rw [(h3 k).1, bU_i, if_pos k]
  · rw [h2 k, bU_d, if_neg (by omega)]
theorem wU_out {w : List Cp × Nat} {n : Nat} (h : wOk w) (hk : kindL w.1 ≠ 0) (hn : 0 < n) (hl : n ≤ lenW w.1 w.2) :
    oU (wU w) = (if kindL w.1 = 3 then 0 else n) + oU (wU (adv w n)) ∧ bU (wU w) = (if kindL w.1 = 2 then 0 else n) + bU (wU (adv w n)) := by
  obtain ⟨e1, e2, e3, e4, e5, e6⟩ := wU_split h hk hn hl
  rw [e1, oU_app, bU_app, oU_piece e3, bU_piece e3, e4, e5]
  exact ⟨rfl, rfl⟩
theorem kind_out {w : List Cp × Nat} (h : wOk w) : (oU (wU w) = 0 → kindL w.1 = 0 ∨ kindL w.1 = 3) ∧ (bU (wU w) = 0 → kindL w.1 = 0 ∨ kindL w.1 = 2) := by
  by_cases hk : kindL w.1 = 0
  · exact ⟨fun _ => .inl hk, fun _ => .inl hk⟩
  · have hp := lenW_pos h hk
    obtain ⟨h1, h2⟩ := wU_out h hk hp (Nat.le_refl _)
    constructor
    · intro h0; right
      by_cases h3 : kindL w.1 = 3
      · exact h3
      · rw [if_neg h3] at h1; omega
    · intro h0; right
      by_cases h3 : kindL w.1 = 2
      · exact h3
      · rw [if_neg h3] at h2; omega
abbrev RT (a b raw : List Cp) := { p : List Cp × (Nat × Nat) × (Nat × Nat) × Nat // (p.2.1.1 ≤ a.length ∧ p.2.2.1.1 ≤ b.length) ∧ WOK (a.drop p.2.1.1, p.2.1.2) ∧ WOK (b.drop p.2.2.1.1, p.2.2.1.2) ∧ (wU (a.drop p.2.1.1, p.2.1.2)).length + (wU (b.drop p.2.2.1.1, p.2.2.1.2)).length ≤ p.2.2.2 ∧ p.1.length + p.2.2.2 ≤ 10000 ∧ p.1 ++ twoF p.2.2.2 (a.drop p.2.1.1, p.2.1.2) (b.drop p.2.2.1.1, p.2.2.1.2) = raw ∧ oU (wU (a.drop p.2.1.1, p.2.1.2)) = bU (wU (b.drop p.2.2.1.1, p.2.2.1.2)) }
end Go.Proofs
end
