/-
  A text of a length.
-/
import Derived.Test.YtmhpninemdmbkaaGreatDoorXZUo2
set_option linter.unusedSimpArgs false
set_option linter.unusedVariables false
set_option linter.defProp false

-- ZUo12
section
namespace Go.Proofs
open Go Go.Rw
open _root_.Nat renaming reduceAdd → N0, reduceSub → N1, reduceMul → N2, reduceLT → N3, reduceLeDiff → N4, reduceEqDiff → N5
open _root_.Int renaming reduceNeg → Z0, reduceAdd → Z1, reduceSub → Z2, reduceMul → Z3, reduceGT → Z4, reduceGE → Z5, reduceLT → Z6, reduceLE → Z7, reduceEq → Z8, reduceNe → Z9, reduceToNat → Z10, cast_ofNat_Int → Zc
set_option maxRecDepth 100000
def blkF (k : Int) (i : Nat) : Int := 97 + (k * 7 + i) % 26
def blk (k : Int) (n : Nat) : List UInt8 := (List.range n).map fun i => UInt8.ofNat (blkF k i).toNat
end Go.Proofs
end
