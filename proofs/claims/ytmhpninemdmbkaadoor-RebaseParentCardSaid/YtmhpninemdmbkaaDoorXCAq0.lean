/-
  How much is given; texts and their code points.
-/
import Derived.Test.YtmhpninemdmbkaaDoorXCAp0
set_option linter.unusedSimpArgs false
set_option linter.unusedVariables false
set_option linter.defProp false

-- CAq0
section
namespace Go.Proofs
open Go Go.Rw
open _root_.Nat renaming reduceAdd → N0, reduceSub → N1, reduceMul → N2, reduceLT → N3, reduceLeDiff → N4, reduceEqDiff → N5
open _root_.Int renaming reduceNeg → Z0, reduceAdd → Z1, reduceSub → Z2, reduceMul → Z3, reduceGT → Z4, reduceGE → Z5, reduceLT → Z6, reduceLE → Z7, reduceEq → Z8, reduceNe → Z9, reduceToNat → Z10, cast_ofNat_Int → Zc
set_option maxRecDepth 100000
set_option linter.unusedSimpArgs false
set_option linter.unusedVariables false

theorem cpts_len (t : List UInt8) : (cpts t).length ≤ t.length := by
  unfold cpts
  cases h : pts t with
  | none => simp
  | some cs =>
    obtain ⟨_, e⟩ := pts_some h
    have := encs_le cs
    rw [← e] at this
    exact this
theorem cpts_ne {t : List UInt8} (h : (pts t).isSome = true) (h2 : t ≠ []) : (cpts t).length ≠ 0 := by
  intro e
  have := (encs_cpts h).1
  rw [List.eq_nil_of_length_eq_zero e, encs_nil] at this
  exact h2 this.symm
end Go.Proofs
end
