/-
  The document's tree: kCC by their IDs; what an act does. Plain. The document's tree: looking kCC up.
-/
import Derived.Test.YtmhpninemdmbkaaGreatDoorXZUn1
import Derived.Test.YtmhpninemdmbkaaGreatDoorXZAp0
import Derived.Test.YtmhpninemdmbkaaGreatDoorXZAq0
set_option linter.unusedSimpArgs false
set_option linter.unusedVariables false
set_option linter.defProp false

-- ZUk0
section
namespace Go.Proofs
open Go Go.Rw
set_option maxRecDepth 100000
structure Nd where
  id : Int
  par : Int
  nm : List UInt8
  dir : Bool
  text : List UInt8
  deriving Inhabited, DecidableEq
def nA (x : Nd) : AV := .agg [.v (.int .i64 x.id), .v (.int .i64 x.par), .v (sv x.nm), .v (.bool x.dir), .v (sv x.text)]
def kCC (l : List Nd) : List AV := l.map nA
theorem kDw (l : List Nd) : (kCC l).length = l.length := by simp [kCC]
theorem nodes_getD (l : List Nd) {i : Nat} (h : i < l.length) : (kCC l).getD i .any = nA l[i] := by simp [kCC, List.getD_eq_getElem?_getD, h]
theorem nA_er (x : Nd) : (nA x).er = nA x := by simp [nA, AV.er, AV.erL]
theorem nodes_er : ∀ l : List Nd, AV.erL (kCC l) = kCC l
  | [] => rfl
  | x :: l => by simp only [kCC, List.map_cons, AV.erL, nA_er]; rw [show List.map nA l = kCC l from rfl, nodes_er l]
structure Alln where
  now : List Nd
  n : Int
  e : Int
  deriving DecidableEq
def bkI (x : Int) (l : List Int) : Nat → Nat
  | 0 => 0
  | k + 1 => if l.getD k 0 > x then bkI x l k else k + 1
def insI (l : List Int) (x : Int) : List Int := if 0 < bkI x l l.length ∧ l.getD (bkI x l l.length - 1) 0 = x then l else l.take (bkI x l l.length) ++ x :: l.drop (bkI x l l.length)
theorem bkI_le (x : Int) (l : List Int) : ∀ k, bkI x l k ≤ k
  | 0 => Nat.le_refl _
  | k + 1 => by
    have := bkI_le x l k
    rw [bkI]; split <;> omega
theorem mem_insI (l : List Int) (x y : Int) : y ∈ insI l x ↔ y ∈ l ∨ y = x := by
  have hb := bkI_le x l l.length
  unfold insI
  split
  · rename_i h
    constructor
    · exact .inl
    · rintro (h1 | h1)
      · exact h1
      · rw [h1, ← h.2, List.getD_eq_getElem?_getD, List.getElem?_eq_getElem (by omega)]
        exact List.getElem_mem _
  · have e : l = l.take (bkI x l l.length) ++ l.drop (bkI x l l.length) := (List.take_append_drop _ _).symm
    rw [List.mem_append, List.mem_cons]
    constructor
    · rintro (h1 | h1 | h1)
      · exact .inl (List.mem_of_mem_take h1)
      · exact .inr h1
      · exact .inl (List.mem_of_mem_drop h1)
    · rintro (h1 | h1)
      · rw [e, List.mem_append] at h1
        rcases h1 with h1 | h1
        · exact .inl h1
        · exact .inr (.inr h1)
      · exact .inr (.inl h1)
theorem kEB : ∀ (xs out : List Int) (y : Int), y ∈ xs.foldl insI out ↔ y ∈ out ∨ y ∈ xs
  | [], out, y => by simp
  | x :: xs, out, y => by
    rw [List.foldl_cons, kEB xs, mem_insI]
    simp only [List.mem_cons]
    constructor
    · rintro ((h | h) | h)
      · exact .inl h
      · exact .inr (.inl h)
      · exact .inr (.inr h)
    · rintro (h | h | h)
      · exact .inl (.inl h)
      · exact .inl (.inr h)
      · exact .inr h
end Go.Proofs
end
-- ZUk1
section
namespace Go.Proofs
open Go Go.Rw
open _root_.Nat renaming reduceAdd → N0, reduceSub → N1, reduceMul → N2, reduceLT → N3, reduceLeDiff → N4, reduceEqDiff → N5
open _root_.Int renaming reduceNeg → Z0, reduceAdd → Z1, reduceSub → Z2, reduceMul → Z3, reduceGT → Z4, reduceGE → Z5, reduceLT → Z6, reduceLE → Z7, reduceEq → Z8, reduceNe → Z9, reduceToNat → Z10, cast_ofNat_Int → Zc
set_option maxRecDepth 100000
end Go.Proofs
end
