/-
  compose.Two, walked.
-/
import Derived.Test.YtknbfkmgoijncaaDoorXBAw3
set_option linter.unusedSimpArgs false
set_option linter.unusedVariables false
set_option linter.defProp false

-- BAw4
section
namespace Go.Proofs
open Go Go.Rw
set_option maxRecDepth 100000
set_option linter.unusedSimpArgs false
set_option linter.unusedVariables false

theorem twoE_zero {a b : List Cp} (h : twoE a b = 0) : checkI a = 0 ∧ checkI b = 0 ∧ outL a = baseL b := by
  unfold twoE at h
  split at h
  · split at h
    · split at h
      · exact ⟨by assumption, by assumption, by assumption⟩
      · cases h
    · exact absurd h (by assumption)
  · exact absurd h (by assumption)
abbrev TwSt (e : Prop) (raw : List Cp) := { p : List Cp × (List Cp × Nat) × (List Cp × Nat) × Nat // e ∧ WOK p.2.1 ∧ WOK p.2.2.1 ∧ (wU p.2.1).length + (wU p.2.2.1).length ≤ p.2.2.2 ∧ p.1.length + p.2.2.2 ≤ 10000 ∧ p.1 ++ twoF p.2.2.2 p.2.1 p.2.2.1 = raw }
end Go.Proofs
end
