/-
  Edits done by the program.
-/
import Derived.Test.YtknbfkmgoijncaaDoorXBAp0
set_option linter.unusedSimpArgs false
set_option linter.unusedVariables false
set_option linter.defProp false

-- BAp1
section
namespace Go.Proofs
open Go Go.Rw
set_option maxRecDepth 100000
set_option linter.unusedSimpArgs false
set_option linter.unusedVariables false

def stA (x : Sp) : AV := .agg [.v (.int .i64 x.c.k), .v (.int .i64 x.c.n), .v (sv x.c.t), .v (sv x.was), .v (sv x.puts)]
def sts (l : List Sp) : List AV := l.map stA
theorem sts_nil : sts [] = [] := rfl
theorem sts_len (l : List Sp) : (sts l).length = l.length := by simp [sts]
theorem sts_snoc (l : List Sp) (k n : Int) (t w p : List UInt8) : sts l ++ [.agg [.v (.int .i64 k), .v (.int .i64 n), .v (sv t), .v (sv w), .v (sv p)]] = sts (l ++ [⟨⟨k, n, t⟩, w, p⟩]) := by simp [sts, stA]
theorem sts_getD (l : List Sp) {i : Nat} (h : i < l.length) : (sts l).getD i .any = .agg [.v (.int .i64 l[i].c.k), .v (.int .i64 l[i].c.n), .v (sv l[i].c.t), .v (sv l[i].was), .v (sv l[i].puts)] := by
  simp [sts, stA, List.getD_eq_getElem?_getD, h]
theorem part_le {l sz i j : Nat} {xs : List AV} (h : j ≤ xs.length) : partA l sz xs i j = .sl l sz ((xs.drop i).take (j - i)) := by
  unfold partA
  split
  · rename_i hc
    obtain ⟨rfl, rfl⟩ := hc
    simp
  · rfl
def stepsR (s : List UInt8) (l : List Cp) : AV := res2 (.sl 0 5 (sts (stp s l))) (errI s l)
theorem stepsR_er (s : List UInt8) (l : List Cp) : (stepsR s l).er = stepsR s l := by
  have : ∀ l : List Sp, AV.erL (sts l) = sts l := fun l => by
    induction l with
    | nil => rfl
    | cons c r ih => show AV.er (stA c) :: AV.erL (sts r) = _; rw [ih]; rfl
  rfl
abbrev stepsCon : Con where
  ι := Str × Ed
  args := fun p => [.v (sv p.1.1), .sl 0 3 (comps p.2.1)]
  post := fun p r => r = stepsR p.1.1 p.2.1
abbrev SSt (cs : List Nat) (l : List Cp) := { p : List Sp × List Nat × Nat // p.2.2 ≤ l.length ∧ fit p.2.1 (l.drop p.2.2) ∧ p.1 ++ stepsL p.2.1 (l.drop p.2.2) = stepsL cs l ∧ ∀ c ∈ p.2.1, okc c }
end Go.Proofs
end
