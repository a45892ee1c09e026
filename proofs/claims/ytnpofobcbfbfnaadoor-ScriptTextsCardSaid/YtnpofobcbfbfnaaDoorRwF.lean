/-
  Texts as code points: one form each; what a decoder makes of any bytes. Plain. Edits as lists of parts; counts of code points. Plain. Texts taken apart into code points, and put together of them. Plain.
-/
import Derived.Lib.MapLaws
import Derived.Lib.ValidLaws
import Derived.Test.YtnpofobcbfbfnaaDoorRwE
import Derived.Lib.RuneBytes
set_option linter.unusedSimpArgs false
set_option linter.unusedVariables false
set_option linter.defProp false
set_option linter.unusedSectionVars false

-- RwUtf
section
namespace Go.Rw
open Go Go.Lib

/-- What may be a text's code point. -/
def okc (c : Nat) : Prop := 1 ≤ c ∧ c ≤ 1114111 ∧ ¬ (55296 ≤ c ∧ c ≤ 57343)
instance (c : Nat) : Decidable (okc c) := by unfold okc; infer_instance
def bt (n : Nat) : UInt8 := UInt8.ofNat n
def enc (c : Nat) : List UInt8 :=
  if c < 128 then [bt c] else if c < 2048 then [bt (192 + c / 64), bt (128 + c % 64)]
  else if c < 65536 then [bt (224 + c / 4096), bt (128 + c / 64 % 64), bt (128 + c % 64)]
  else [bt (240 + c / 262144), bt (128 + c / 4096 % 64), bt (128 + c / 64 % 64), bt (128 + c % 64)]
theorem decodeL_dropL (l : List UInt8) (p : Nat) : decodeL (l.drop p) = Utf8.decode ⟨l.toArray⟩ p := decodeL_drop ⟨l.toArray⟩ p
end Go.Rw
end

-- RwOps
section
namespace Go.Rw
open Go Go.Lib

/-- A part of an edit. -/
structure Cp where
  k : Int
  n : Int
  t : List UInt8
  deriving Inhabited, DecidableEq
end Go.Rw
end

-- RwTxt
section
namespace Go.Rw
open Go Go.Lib
set_option linter.unusedSimpArgs false
set_option linter.unusedVariables false

/-- A number that may be a text's. -/
def okn (v : Int) : Prop := 1 ≤ v ∧ v ≤ 1114111 ∧ ¬ (55296 ≤ v ∧ v ≤ 57343)
instance (v : Int) : Decidable (okn v) := by unfold okn; infer_instance
end Go.Rw
end
