/-
  utf.Count counts a text's code points.
-/
import Derived.Test.YtknbfkmgoijncaaDoorXBUt1
set_option linter.unusedSimpArgs false
set_option linter.unusedVariables false
set_option linter.defProp false

-- BUt2
section
namespace Go.Proofs
open Go Go.Rw
set_option maxRecDepth 100000
set_option linter.unusedSimpArgs false
set_option linter.unusedVariables false

theorem and192 {b : UInt8} : IntKind.wrap .u8 ((BitVec.ofInt IntKind.u8.bits (b.toNat : Int) &&& BitVec.ofInt IntKind.u8.bits 192).toNat : Nat) = ((b.toNat / 64 * 64 : Nat) : Int) := by
  have key : ∀ m : Nat, m < 256 → (BitVec.ofInt IntKind.u8.bits (m : Int) &&& BitVec.ofInt IntKind.u8.bits 192).toNat = m / 64 * 64 := by decide +kernel
  have hb := b.toNat_lt
  rw [key _ (by omega), wrap_u8 (by omega) (by omega)]

abbrev startCon : Con where
  ι := UInt8
  args := fun b => [.v (.int .u8 b.toNat)]
  post := fun b r => r = .v (.bool (decide (¬ (128 ≤ b.toNat ∧ b.toNat < 192))))
  plain := true
theorem opt_cases {α : Type} (x : Option α) : x = none ∨ ∃ a, x = some a := by cases x <;> simp

/-- An answer and an error's number. -/
def res2 (a : AV) (e : Int) : AV := .tup [a, .v (.int .i64 e)]
def countR (l : List UInt8) : AV := match pts l with
  | some cs => res2 (.v (.int .i64 cs.length)) 0
  | none => res2 (.v (.int .i64 0)) 2
theorem countR_plain (l : List UInt8) : (countR l).plain = true := by unfold countR; split <;> rfl

abbrev countCon : Con where
  ι := Str
  args := fun s => [.v (sv s.1)]
  post := fun s r => r = countR s.1
  plain := true
end Go.Proofs
end
