/-
  RebaseMeets: what two edits of one file come to. Plain. RebaseRow answers true.
-/
import Derived.Test.YtmhpninemdmbkaaGreatDoorXZUk3
import Derived.Test.YtmhpninemdmbkaaGreatDoorXZUn4
import Derived.Test.YtmhpninemdmbkaaGreatDoorXZAx5
import Derived.Test.YtmhpninemdmbkaaGreatDoorXZUo12
import Derived.Test.YtmhpninemdmbkaaGreatDoorXZUe7
import Derived.Test.YtmhpninemdmbkaaGreatDoorXZUk11
import Derived.Test.YtmhpninemdmbkaaGreatDoorXZAw0
import Derived.Test.YtmhpninemdmbkaaGreatDoorXZAw8
set_option linter.unusedSimpArgs false
set_option linter.unusedVariables false
set_option linter.defProp false

-- ZUk6
section
namespace Go.Proofs
open Go Go.Rw
set_option maxRecDepth 100000
set_option linter.unusedSimpArgs false
set_option linter.unusedVariables false

end Go.Proofs
end

-- ZUk12
section
namespace Go.Proofs
open Go Go.Rw
open _root_.Nat renaming reduceAdd → N0, reduceSub → N1, reduceMul → N2, reduceLT → N3, reduceLeDiff → N4, reduceEqDiff → N5
open _root_.Int renaming reduceNeg → Z0, reduceAdd → Z1, reduceSub → Z2, reduceMul → Z3, reduceGT → Z4, reduceGE → Z5, reduceLT → Z6, reduceLE → Z7, reduceEq → Z8, reduceNe → Z9, reduceToNat → Z10, cast_ofNat_Int → Zc
set_option maxRecDepth 100000
set_option linter.unusedSimpArgs false
set_option linter.unusedVariables false

theorem call_rbeh {Γ : Env} (hf : Γ.get 24 = some kDf) {n : Nat} {t : Nat → AV} {hd : Nat → Nat → AV} {nh nl : Nat} {h : Nat → Option AO} {fm : Nat → Nat} {lv : Nat → Option (Nat × Nat)} {mu : Bool} {l : List Ac} {cs : List Cm} {xs ys : List AV} {t1 t2 : Nat} {d : Option Nat} {K : AS → Prop} (hx : xs = acts l) (hy : ys = cms cs) (hl : l.length ≤ 1000000) (ho : ∀ a ∈ l, okA a) (hc : cs.length ≤ 1099511627776) (hco : ∀ c ∈ cs, okCm c) (h1 : t1 = 0 ∨ 2 ≤ t1) (h2 : t2 = 0 ∨ 2 ≤ t2)
    (hk : cont ⟨n, t, hd, ⟨nh, h, nl, fm, kill fm ((if t1 = 0 then [] else [t1]) ++ (if t2 = 0 then [] else [t2])) lv, mu⟩⟩ d (.tup [.sl 0 6 (acts (behB l cs).1), .v (.int .i64 (behB l cs).2)]) K) : kP Tryz.prog Γ false ⟨n, t, hd, ⟨nh, h, nl, fm, lv, mu⟩⟩ 24 [.sl t1 6 xs, .sl t2 4 ys] d K := by
  subst hx hy
  refine kAa (C := kDf) (i := (⟨l, hl, ho⟩, ⟨cs, hc, hco⟩)) hf rfl rfl rfl (by simp [AV.erL, AV.er, qL, kEU]) (ts := (if t1 = 0 then [] else [t1]) ++ (if t2 = 0 then [] else [t2])) ?_ ?_
  · have c : ∀ t : Nat, (t = 0 ∨ 2 ≤ t) → (if 2 ≤ t then [t] else []) = (if t = 0 then [] else [t]) := fun t ht => by
      rcases ht with rfl | ht
      · rfl
      · rw [if_pos ht, if_neg (by omega)]
    rw [← c t1 h1, ← c t2 h2]
    simp [AV.tagsL, AV.tags]
  · rintro r rfl
    simp only [AV.er, AV.erL, qL]
    exact hk
end Go.Proofs
end
