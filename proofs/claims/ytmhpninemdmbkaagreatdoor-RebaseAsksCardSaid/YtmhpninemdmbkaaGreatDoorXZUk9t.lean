/-
  Whose kCC a transaction touches.
-/
import Derived.Test.YtmhpninemdmbkaaGreatDoorXZUk8
set_option linter.unusedSimpArgs false
set_option linter.unusedVariables false
set_option linter.defProp false

-- ZUk9t
section
namespace Go.Proofs
open Go Go.Rw
open _root_.Nat renaming reduceAdd → N0, reduceSub → N1, reduceMul → N2, reduceLT → N3, reduceLeDiff → N4, reduceEqDiff → N5
open _root_.Int renaming reduceNeg → Z0, reduceAdd → Z1, reduceSub → Z2, reduceMul → Z3, reduceGT → Z4, reduceGE → Z5, reduceLT → Z6, reduceLE → Z7, reduceEq → Z8, reduceNe → Z9, reduceToNat → Z10, cast_ofNat_Int → Zc
set_option maxRecDepth 100000
theorem kDg (l : List Int) (x : Int) : (insI l x).length ≤ l.length + 1 := by
  unfold insI
  split
  · omega
  · simp only [List.length_append, List.length_cons, List.length_take, List.length_drop]; omega
theorem foldI_len : ∀ (xs out : List Int), (xs.foldl insI out).length ≤ out.length + xs.length
  | [], out => by simp
  | x :: xs, out => by
    have h1 := kDg out x
    have h2 := foldI_len xs (insI out x)
    rw [List.foldl_cons, List.length_cons]; omega
theorem kCT {k : IntKind} {l : List Int} {i j : Nat} (hj : j ≤ l.length) : kBm 0 1 (ints k l) i j = .sl 0 1 (ints k ((l.drop i).take (j - i))) := by
  unfold kBm
  simp only [zC]
  split
  · rename_i h
    obtain ⟨rfl, h2⟩ := h
    rw [List.drop_zero, Nat.sub_zero, List.take_of_length_le (by omega)]
  · simp [ints, List.map_take, List.map_drop]
theorem vcD_lp {Γ : Env} {Ws : List (Nat × List Nat × List Nat)} {c : Code} {Q : Exit → AS → Prop} {σ : AS} (h : vc Tryz.prog Γ (.loop c) Q σ) : vcD Tryz.prog Γ Ws (.loop c) Q σ := h
end Go.Proofs
end
