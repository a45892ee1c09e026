/-
  What was done: rows of it; whom it was done to. An act, taken in.
-/
import Derived.Test.YtmhpninemdmbkaaGreatDoorXZUo1
import Derived.Test.YtmhpninemdmbkaaGreatDoorRwJ
set_option linter.unusedSimpArgs false
set_option linter.unusedVariables false
set_option linter.defProp false

-- ZUe1
section
namespace Go.Proofs
open Go Go.Rw
open _root_.Nat renaming reduceAdd → N0, reduceSub → N1, reduceMul → N2, reduceLT → N3, reduceLeDiff → N4, reduceEqDiff → N5
open _root_.Int renaming reduceNeg → Z0, reduceAdd → Z1, reduceSub → Z2, reduceMul → Z3, reduceGT → Z4, reduceGE → Z5, reduceLT → Z6, reduceLE → Z7, reduceEq → Z8, reduceNe → Z9, reduceToNat → Z10, cast_ofNat_Int → Zc
set_option maxRecDepth 100000
structure On where
  id : Int
  ops : List Cp
  ed : Bool
  rm : Bool
  cr : Bool
  mv : Bool
  par : Int
  nm : List UInt8
  deriving Inhabited, DecidableEq
structure Ac where
  k : Int
  id : Int
  par : Int
  nm : List UInt8
  dir : Bool
  ops : List Cp
  deriving Inhabited, DecidableEq
def oA (x : On) : AV := .agg [.v (.int .i64 x.id), .sl 0 3 (kU x.ops), .v (.bool x.ed), .v (.bool x.rm), .v (.bool x.cr), .v (.bool x.mv), .v (.int .i64 x.par), .v (sv x.nm)]
def aA (x : Ac) : AV := .agg [.v (.int .i64 x.k), .v (.int .i64 x.id), .v (.int .i64 x.par), .v (sv x.nm), .v (.bool x.dir), .sl 0 3 (kU x.ops)]
def ones (l : List On) : List AV := l.map oA
def acts (l : List Ac) : List AV := l.map aA
theorem kCL : ones [] = [] := rfl
theorem kN (l : List On) : (ones l).length = l.length := by simp [ones]
theorem kM (l : List Ac) : (acts l).length = l.length := by simp [acts]
theorem qT (l : List On) {i : Nat} (h : i < l.length) : (ones l).getD i .any = oA l[i] := by simp [ones, List.getD_eq_getElem?_getD, h]
theorem qV (l : List Ac) {i : Nat} (h : i < l.length) : (acts l).getD i .any = aA l[i] := by simp [acts, List.getD_eq_getElem?_getD, h]
theorem oA_er (x : On) : (oA x).er = oA x := by simp [oA, AV.er, AV.erL, kCe]
theorem kAd (x : Ac) : (aA x).er = aA x := by simp [aA, AV.er, AV.erL, kCe]
theorem qD : ∀ l : List On, AV.erL (ones l) = ones l
  | [] => rfl
  | x :: l => by show (oA x).er :: AV.erL (ones l) = _; rw [oA_er, qD l]; rfl
theorem qF : ∀ l : List Ac, AV.erL (acts l) = acts l
  | [] => rfl
  | x :: l => by show (aA x).er :: AV.erL (acts l) = _; rw [kAd, qF l]; rfl
def fnd (id : Int) : List On → Nat
  | [] => 0
  | x :: l => if x.id = id then 0 else fnd id l + 1
def fndI (id : Int) (l : List On) : Int := if fnd id l < l.length then (fnd id l : Int) else -1
abbrev kA2 : Con where
  ι := { l : List On // l.length ≤ 1099511627776 } × Int
  args := fun p => [.sl 0 8 (ones p.1.1), .v (.int .i64 p.2)]
  post := fun p r => r = .v (.int .i64 (fndI p.2 p.1.1))
  plain := true
theorem find_good : Rw.Good Tryz.prog 44 kA2 := by
  have hΓ : kL Tryz.prog [] := kJ
  refine kS (nn := 8) hΓ Tryz.func44 (by kernel_rfl) rfl (show Tryz.f44.results.toList = [.tmp 4] from rfl) (fun _ => rfl) (fun _ => rfl) ?_
  rintro ⟨⟨l, hl⟩, id⟩
  simp only [aR,N0,N1,N2,N3,N4,N5,Z0,Z1,Z2,Z3,Z4,Z5,Z6,Z7,Z8,Z9,Z10,Zc,↓reduceIte,reduceCtorEq, kN, List.map_cons, List.map_nil]
  refine qX (nn := 19) hΓ (by first | assumption | simp [kB, kQ]) Tryz.func72 (by kernel_rfl) rfl (show Tryz.f72.results.toList = [.tmp 4] from rfl) rfl ?_
  simp only [aR,N0,N1,N2,N3,N4,N5,Z0,Z1,Z2,Z3,Z4,Z5,Z6,Z7,Z8,Z9,Z10,Zc,↓reduceIte,reduceCtorEq, kN]
  refine kDa hΓ (fun i : { i : Nat // i ≤ l.length ∧ fnd id l = i + fnd id (l.drop i) } => [(0, .sl 0 8 (ones l)), (1, .fn 73 [.ptr 0 0]), (7, .v (.int .i64 l.length)), (8, .v (.int .i64 i.1))]) (fun i => l.length - i.1) ⟨0, Nat.zero_le _, by simp⟩ (by simp only [aR,N0,N1,N2,N3,N4,N5,Z0,Z1,Z2,Z3,Z4,Z5,Z6,Z7,Z8,Z9,Z10,Zc,↓reduceIte,reduceCtorEq] <;> ((repeat' apply And.intro) <;> first | rfl | omega | trivial)) ?_
  rintro ⟨i, hi, hf⟩ k hk
  have hkp : ∀ o x, upd (fun _ => none) 0 (some (AO.cells [AV.v (Value.int IntKind.i64 id)])) o = some x → o < k := fun o x h => by
    rw [upd] at h
    split at h
    · omega
    · cases h
  simp only
  simp only [aR,N0,N1,N2,N3,N4,N5,Z0,Z1,Z2,Z3,Z4,Z5,Z6,Z7,Z8,Z9,Z10,Zc,↓reduceIte,reduceCtorEq, List.map_cons, List.map_nil]
  (with_reducible first | refine kC (fun h => ?_) (fun h => ?_) | refine kF (fun h => ?_) (fun h => ?_))
  · have hlt : i < l.length := by omega
    have e1 := qT l hlt
    rw [List.drop_eq_getElem_cons hlt, fnd] at hf
    generalize l[i] = x at *
    simp only [aR,N0,N1,N2,N3,N4,N5,Z0,Z1,Z2,Z3,Z4,Z5,Z6,Z7,Z8,Z9,Z10,Zc,↓reduceIte,reduceCtorEq, h, e1, kN, oA]
    (repeat (with_reducible refine And.intro ?_ ?_; focus (first | omega | exact kG | kernel_rfl)))
    refine qX (nn := 8) hΓ (by first | assumption | simp [kB, kQ]) Tryz.func73 (by kernel_rfl) rfl (show Tryz.f73.results.toList = [.tmp 3] from rfl) rfl ?_
    have hk0 : (0 = k) = False := eq_false (by omega)
    simp only [aR,N0,N1,N2,N3,N4,N5,Z0,Z1,Z2,Z3,Z4,Z5,Z6,Z7,Z8,Z9,Z10,Zc,↓reduceIte,reduceCtorEq, oA, hk0]
    by_cases hx : x.id = id
    · rw [if_pos hx] at hf
      simp only [aR,N0,N1,N2,N3,N4,N5,Z0,Z1,Z2,Z3,Z4,Z5,Z6,Z7,Z8,Z9,Z10,Zc,↓reduceIte,reduceCtorEq, hx]
      rw [fndI, if_pos (by omega), hf, Nat.add_zero]
    · rw [if_neg hx] at hf
      simp only [aR,N0,N1,N2,N3,N4,N5,Z0,Z1,Z2,Z3,Z4,Z5,Z6,Z7,Z8,Z9,Z10,Zc,↓reduceIte,reduceCtorEq, hx, kA (n := (i : Int) + 1) (by omega) (by omega)]
      refine keep_end ⟨i + 1, by omega, by omega⟩ ?_ ?_ ?_ (keep_new hkp fun _ _ h => h) ⟨rfl, rfl, rfl⟩
      · simp only; omega
      · omega
      · simp only [aR,N0,N1,N2,N3,N4,N5,Z0,Z1,Z2,Z3,Z4,Z5,Z6,Z7,Z8,Z9,Z10,Zc,↓reduceIte,reduceCtorEq] <;> ((repeat' apply And.intro) <;> first | rfl | omega | trivial)
  · simp only [aR,N0,N1,N2,N3,N4,N5,Z0,Z1,Z2,Z3,Z4,Z5,Z6,Z7,Z8,Z9,Z10,Zc,↓reduceIte,reduceCtorEq, h]
    rw [List.drop_of_length_le (by omega), fnd] at hf
    rw [fndI, if_neg (by omega)]
end Go.Proofs
end
-- ZUe2
section
namespace Go.Proofs
open Go Go.Rw
open _root_.Nat renaming reduceAdd → N0, reduceSub → N1, reduceMul → N2, reduceLT → N3, reduceLeDiff → N4, reduceEqDiff → N5
open _root_.Int renaming reduceNeg → Z0, reduceAdd → Z1, reduceSub → Z2, reduceMul → Z3, reduceGT → Z4, reduceGE → Z5, reduceLT → Z6, reduceLE → Z7, reduceEq → Z8, reduceNe → Z9, reduceToNat → Z10, cast_ofNat_Int → Zc
set_option maxRecDepth 100000
abbrev kAG : Con where
  ι := Ed
  args := fun l => [.sl 0 3 (kU l.1)]
  post := fun l r => r = .sl 0 3 (kU l.1)
theorem kA9 : Rw.Good Tryz.prog 69 kAG := by
  have hΓ : kL Tryz.prog [] := kJ
  refine kS (nn := 8) hΓ Tryz.func69 (by kernel_rfl) rfl (show Tryz.f69.results.toList = [.tmp 2] from rfl) (fun _ => rfl) (fun _ => rfl) ?_
  rintro ⟨l, ol⟩
  have hl := ol.1
  simp only [aR,N0,N1,N2,N3,N4,N5,Z0,Z1,Z2,Z3,Z4,Z5,Z6,Z7,Z8,Z9,Z10,Zc,↓reduceIte,reduceCtorEq, kD]
  refine ⟨fun h => ?_, fun _ => ?_⟩
  · have he : l = [] := by
      rcases h with h | h
      · cases h
      · cases l with
        | nil => rfl
        | cons c l => cases h
    subst he
    simp only [aR,N0,N1,N2,N3,N4,N5,Z0,Z1,Z2,Z3,Z4,Z5,Z6,Z7,Z8,Z9,Z10,Zc,↓reduceIte,reduceCtorEq, qM]
  · simp only [aR,N0,N1,N2,N3,N4,N5,Z0,Z1,Z2,Z3,Z4,Z5,Z6,Z7,Z8,Z9,Z10,Zc,↓reduceIte,reduceCtorEq, kD, List.length_nil]
    try (repeat (with_reducible refine And.intro ?_ ?_; focus (first | omega | exact kG | kernel_rfl)))
    ((repeat' apply And.intro) <;> first | rfl | omega | trivial)
theorem kA7 {Γ : Env} (hf : Γ.get 69 = some kAG) {σ : AS} {dr : Bool} {a : List Cp} {ys : List AV} {d : Option Nat} {K : AS → Prop} (hy : ys = kU a) (oa : okL a)
    (hk : cont σ d (.sl 0 3 (kU a)) K) : kR Tryz.prog Γ dr σ 69 [.sl 0 3 ys] d K := by
  subst hy
  exact qK (C := kAG) (i := ⟨a, oa⟩) (r := .sl 0 3 (kU a)) hf rfl rfl rfl rfl (fun _ h => h) hk
def addA (x : On) (a : Ac) : On :=
  if a.k = 1 then { x with cr := true, par := a.par, nm := a.nm } else if a.k = 2 then { x with rm := true }
  else if a.k = 3 then { x with mv := true, par := a.par, nm := a.nm } else if a.k = 4 then { x with ed := true, ops := a.ops } else x
theorem kDB (x : On) (a : Ac) : (addA x a).id = x.id := by
  unfold addA
  split
  · rfl
  · split
    · rfl
    · split
      · rfl
      · split <;> rfl
def effS : List On → List Ac → List On
  | out, [] => out
  | out, a :: l => effS (if fnd a.id out < out.length then out.modify (fnd a.id out) (addA · a) else out ++ [addA ⟨a.id, [], false, false, false, false, 0, []⟩ a]) l
end Go.Proofs
end
