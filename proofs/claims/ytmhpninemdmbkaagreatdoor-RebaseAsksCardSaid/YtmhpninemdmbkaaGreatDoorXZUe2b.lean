/-
  An act, taken in: the call, reckoned in place.
-/
import Derived.Test.YtmhpninemdmbkaaGreatDoorXZUe1
set_option linter.unusedSimpArgs false
set_option linter.unusedVariables false
set_option linter.defProp false

-- ZUe2b
section
namespace Go.Proofs
open Go Go.Rw
open _root_.Nat renaming reduceAdd → N0, reduceSub → N1, reduceMul → N2, reduceLT → N3, reduceLeDiff → N4, reduceEqDiff → N5
open _root_.Int renaming reduceNeg → Z0, reduceAdd → Z1, reduceSub → Z2, reduceMul → Z3, reduceGT → Z4, reduceGE → Z5, reduceLT → Z6, reduceLE → Z7, reduceEq → Z8, reduceNe → Z9, reduceToNat → Z10, cast_ofNat_Int → Zc
set_option maxRecDepth 100000
theorem kDe (l : List On) (i : Nat) (x : On) : (ones l).set i (oA x) = ones (l.set i x) := by simp [ones, List.map_set]
theorem call_adds {Γ : Env} (hΓ : kL Tryz.prog Γ) (hC : Γ.get 45 = none) (hD : Γ.get 69 = some kAG) {n : Nat} {t : Nat → AV} {hd : Nat → Nat → AV} {nh nl : Nat} {h : Nat → Option AO} {fm : Nat → Nat} {lv : Nat → Option (Nat × Nat)} {d : Option Nat} {K : AS → Prop}
    {out : List On} {i : Nat} {a : Ac} {x : On} (hi : i < out.length) (hx : out[i] = x) (hlv : lv 2 = some (out.length, 48)) (hfm : fm 0 ≠ fm 2) (oa : okL a.ops)
    (hk1 : cont (AS.turned ⟨n, t, hd, ⟨nh + 1, upd h nh (some (.cells [.v (.int .i64 a.k), .v (.int .i64 a.id), .v (.int .i64 a.par), .v (sv a.nm), .v (.bool a.dir), .sl 0 3 (kU a.ops)])), nl, fm, lv, true⟩⟩ 2 out.length (ones (out.set i (addA x a)))) d (.tup []) K)
    (hk2 : addA x a = x → cont ⟨n, t, hd, ⟨nh + 1, upd h nh (some (.cells [.v (.int .i64 a.k), .v (.int .i64 a.id), .v (.int .i64 a.par), .v (sv a.nm), .v (.bool a.dir), .sl 0 3 (kU a.ops)])), nl, fm, lv, true⟩⟩ d (.tup []) K) :
    kR Tryz.prog Γ false ⟨n, t, hd, ⟨nh, h, nl, fm, lv, true⟩⟩ 45 [.ep 2 8 (ones out) i 0, aA a] d K := by
  refine vcCall_inlA (nn := 52) hΓ [(3, [], []), (7, [], [])] (by first | assumption | simp [kB, kQ]) Tryz.func45 (by kernel_rfl) rfl (show Tryz.f45.results.toList = [] from rfl) rfl ?_
  simp only [aR,N0,N1,N2,N3,N4,N5,Z0,Z1,Z2,Z3,Z4,Z5,Z6,Z7,Z8,Z9,Z10,Zc,↓reduceIte,reduceCtorEq, kP, aA]
  have e1 : (ones out).getD i .any = oA x := by rw [qT out hi, hx]
  have hlen : ∀ v, ((ones out).set i v).length = out.length := fun v => by rw [List.length_set, kN]
  have hget : ∀ v, ((ones out).set i v).getD i .any = v := fun v => by simp [List.getD_eq_getElem?_getD, kN, hi]
  have ht : ∀ (v : AV) (zs' : List AV) (y : AV), (y.turn fm 2 out.length ((ones out).set i v)).turn fm 2 out.length zs' = y.turn fm 2 out.length zs' := fun v zs' y => turn_turn (hlen v) y
  have hO : ∀ (v : AV) (zs' : List AV) (o : Option AO), Option.map (AO.turn fm 2 out.length zs') (Option.map (AO.turn fm 2 out.length ((ones out).set i v)) o) = Option.map (AO.turn fm 2 out.length zs') o := fun v zs' o => by
    cases o with
    | none => rfl
    | some c => cases c with
      | cells cs => simp only [Option.map_some, AO.turn, turnL_turn (hlen v)]
      | iter => rfl
  unfold addA at hk1 hk2
  by_cases h1 : a.k = 1
  · rw [if_pos h1, ← kDe] at hk1
    simp only [aR,N0,N1,N2,N3,N4,N5,Z0,Z1,Z2,Z3,Z4,Z5,Z6,Z7,Z8,Z9,Z10,Zc,↓reduceIte,reduceCtorEq, kP, h1, kN, hlv, hlen, hget, e1, oA, List.set_set, hi, hfm, ht, hO]
    (repeat (with_reducible refine And.intro ?_ ?_; focus (first | omega | exact kG | kernel_rfl)))
    rw [h1] at hk1
    exact hk1
  · by_cases h2 : a.k = 2
    · rw [if_neg h1, if_pos h2, ← kDe] at hk1
      simp only [aR,N0,N1,N2,N3,N4,N5,Z0,Z1,Z2,Z3,Z4,Z5,Z6,Z7,Z8,Z9,Z10,Zc,↓reduceIte,reduceCtorEq, kP, h2, kN, hlv, hlen, hget, e1, oA, List.set_set, hi, hfm, ht, hO]
      rw [h2] at hk1
      exact hk1
    · by_cases h3 : a.k = 3
      · rw [if_neg h1, if_neg h2, if_pos h3, ← kDe] at hk1
        simp only [aR,N0,N1,N2,N3,N4,N5,Z0,Z1,Z2,Z3,Z4,Z5,Z6,Z7,Z8,Z9,Z10,Zc,↓reduceIte,reduceCtorEq, kP, h3, kN, hlv, hlen, hget, e1, oA, List.set_set, hi, hfm, ht, hO]
        (repeat (with_reducible refine And.intro ?_ ?_; focus (first | omega | exact kG | kernel_rfl)))
        rw [h3] at hk1
        exact hk1
      · by_cases h4 : a.k = 4
        · rw [if_neg h1, if_neg h2, if_neg h3, if_pos h4, ← kDe] at hk1
          simp only [aR,N0,N1,N2,N3,N4,N5,Z0,Z1,Z2,Z3,Z4,Z5,Z6,Z7,Z8,Z9,Z10,Zc,↓reduceIte,reduceCtorEq, kP, h4, kN, hlv, hlen, hget, e1, oA, List.set_set, hi, hfm, ht, hO]
          refine kA7 hD rfl oa ?_
          simp only [aR,N0,N1,N2,N3,N4,N5,Z0,Z1,Z2,Z3,Z4,Z5,Z6,Z7,Z8,Z9,Z10,Zc,↓reduceIte,reduceCtorEq, kP, h4, kN, hlv, hlen, hget, e1, oA, List.set_set, hi, hfm, ht, hO]
          rw [h4] at hk1
          exact hk1
        · rw [if_neg h1, if_neg h2, if_neg h3, if_neg h4] at hk2
          simp only [aR,N0,N1,N2,N3,N4,N5,Z0,Z1,Z2,Z3,Z4,Z5,Z6,Z7,Z8,Z9,Z10,Zc,↓reduceIte,reduceCtorEq, kP, h1, h2, h3, h4, kN, hlv, hlen, hget, e1, oA, List.set_set, hi, hfm, ht, hO]
          exact hk2 rfl
end Go.Proofs
end
