/-
  XformMeets answers true. The document's Over.
-/
import Derived.Test.YtmhpninemdmbkaaGreatDoorXZAx1
import Derived.Test.YtmhpninemdmbkaaGreatDoorXZAw8
set_option linter.unusedSimpArgs false
set_option linter.unusedVariables false
set_option linter.defProp false

-- ZAx5
section
namespace Go.Proofs
open Go Go.Rw
set_option maxRecDepth 100000
set_option linter.unusedSimpArgs false
set_option linter.unusedVariables false

/-- What an edit, behind another one, does to what the other one made. -/
theorem do_over {s : List UInt8} {a b : List Cp} {f : Bool} (h1 : errI s a = 0) (h2 : errI s b = 0) (oa : okL a) (ob : okL b) (hc : kX (ovN f a b) = 0) :
    ovE a b = 0 ∧ errI (zQ s b) (ovN f a b) = 0 ∧ zQ (zQ s b) (ovN f a b) = encs (doL (doL (cpts s) b) (ovN f a b)) ∧ zH (ovN f a b) = cnt (zQ s b) := by
  obtain ⟨a1, a2, a3, a4⟩ := kAQ h1
  obtain ⟨b1, b2, b3, b4⟩ := kAQ h2
  obtain ⟨d1, d2, d3⟩ := kDL h2
  have he := ovE_of a1 b1 (by omega)
  obtain ⟨f1, f2, f3, f4⟩ := kCL f he oa ob
  have hr := err_of hc d1 (by omega)
  refine ⟨he, hr, ?_, ?_⟩
  · rw [show zQ (zQ s b) (ovN f a b) = if errI (zQ s b) (ovN f a b) = 0 then encs (doL (cpts (zQ s b)) (ovN f a b)) else [] from rfl, if_pos hr, kBH d1]
  · rw [cnt_pts d1]; omega
end Go.Proofs
end

-- ZAx3
section
namespace Go.Proofs
open Go Go.Rw
open _root_.Nat renaming reduceAdd → N0, reduceSub → N1, reduceMul → N2, reduceLT → N3, reduceLeDiff → N4, reduceEqDiff → N5
open _root_.Int renaming reduceNeg → Z0, reduceAdd → Z1, reduceSub → Z2, reduceMul → Z3, reduceGT → Z4, reduceGE → Z5, reduceLT → Z6, reduceLE → Z7, reduceEq → Z8, reduceNe → Z9, reduceToNat → Z10, cast_ofNat_Int → Zc
set_option maxRecDepth 100000
set_option linter.unusedSimpArgs false
set_option linter.unusedVariables false

end Go.Proofs
end
