/-
  Walks along an edit: their Kind, Len and Take, reckoned in place.
-/
import Derived.Test.YtknbfkmgoijncaaDoorXBAw0
set_option linter.unusedSimpArgs false
set_option linter.unusedVariables false
set_option linter.defProp false

-- BAw1
section
namespace Go.Proofs
open Go Go.Rw
set_option maxRecDepth 100000
set_option linter.unusedSimpArgs false
set_option linter.unusedVariables false

def kindL : List Cp → Int
  | [] => 0
  | c :: _ => c.k
def lenW : List Cp → Nat → Nat
  | [], _ => 0
  | c :: _, dn => size c - dn
theorem comps_tail (c : Cp) (r : List Cp) : partA 0 3 (comps (c :: r)) 1 (r.length + 1) = .sl 0 3 (comps r) := by
  unfold partA
  rw [if_neg (by omega)]
  simp only [comps, List.map_cons, List.drop_succ_cons, List.drop_zero, Nat.add_sub_cancel]
  rw [List.take_of_length_le (by simp)]
def part (c : Cp) (dn m : Nat) : Cp := if c.k = 2 then ⟨c.k, c.n, encs (((cpts c.t).drop dn).take m)⟩ else ⟨c.k, m, c.t⟩
def advR (c : Cp) (r : List Cp) (dn m : Nat) : List Cp := if dn + m = size c then r else c :: r
def advD (c : Cp) (dn m : Nat) : Nat := if dn + m = size c then 0 else dn + m
end Go.Proofs
end
