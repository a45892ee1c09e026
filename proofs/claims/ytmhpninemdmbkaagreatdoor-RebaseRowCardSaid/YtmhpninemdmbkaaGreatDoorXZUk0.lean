/-
  The document's tree: qI by their IDs; what an act does. Plain. The document's tree: looking qI up.
-/
import Derived.Test.YtmhpninemdmbkaaGreatDoorXZUn1
import Derived.Test.YtmhpninemdmbkaaGreatDoorXZAp0
import Derived.Test.YtmhpninemdmbkaaGreatDoorXZAq0
set_option linter.unusedSimpArgs false
set_option linter.unusedVariables false
set_option linter.defProp false

-- ZUk0
section
namespace Go.Proofs
open Go Go.Rw
set_option maxRecDepth 100000
set_option linter.unusedSimpArgs false
set_option linter.unusedVariables false

/-- A file or a directory. -/
structure Nd where
  id : Int
  par : Int
  nm : List UInt8
  dir : Bool
  text : List UInt8
  deriving Inhabited, DecidableEq
def nA (x : Nd) : AV := .agg [.v (.int .i64 x.id), .v (.int .i64 x.par), .v (sv x.nm), .v (.bool x.dir), .v (sv x.text)]
def qI (l : List Nd) : List AV := l.map nA
theorem kY (l : List Nd) : (qI l).length = l.length := by simp [qI]
theorem zI (l : List Nd) {i : Nat} (h : i < l.length) : (qI l).getD i .any = nA l[i] := by simp [qI, List.getD_eq_getElem?_getD, h]
theorem nodes_take (l : List Nd) (i : Nat) : (qI l).take i = qI (l.take i) := by simp [qI, List.map_take]
theorem nodes_drop (l : List Nd) (i : Nat) : (qI l).drop i = qI (l.drop i) := by simp [qI, List.map_drop]
theorem nA_er (x : Nd) : (nA x).er = nA x := by simp [nA, AV.er, AV.erL]
def j2 : Nd := ⟨0, 0, [], false, []⟩
/-- An ID's place; as many as there are: it is not there. -/
def ndx (id : Int) : List Nd → Nat
  | [] => 0
  | x :: l => if x.id = id then 0 else ndx id l + 1
def ndI (id : Int) (l : List Nd) : Int := if ndx id l < l.length then (ndx id l : Int) else -1
/-- What has a name in a directory; -1: nothing. -/
def kid (par : Int) (nm : List UInt8) : List Nd → Int
  | [] => -1
  | x :: l => if x.par = par ∧ x.nm = nm then x.id else kid par nm l
/-- Does a node stand at another one, or within it? -/
def inN (l : List Nd) (top : Int) : Nat → Int → Bool
  | 0, _ => true
  | n + 1, id => if id = top then true else if ndx id l < l.length then inN l top n (l.getD (ndx id l) j2).par else false
def kCp (l : List Nd) (id top : Int) : Bool := inN l top (l.length + 1) id
def kDt (l : List Nd) (par : Int) (nm : List UInt8) (id : Int) : Int := if 0 ≤ kid par nm l ∧ kid par nm l ≠ id then 6 else 0
def jZ (l : List Nd) (par : Int) (nm : List UInt8) (id : Int) : Int :=
  if par = 0 then kDt l par nm id
  else if ndx par l < l.length then (if (l.getD (ndx par l) j2).dir = false then 8 else if id > 0 ∧ kCp l par id = true then 10 else kDt l par nm id)
  else 5
def totN : List Nd → Nat
  | [] => 0
  | x :: l => cnt x.text + totN l
/-- As many as stand ahead of an ID. -/
def atN (id : Int) : List Nd → Nat
  | [] => 0
  | x :: l => if x.id < id then atN id l + 1 else 0
theorem atN_le (id : Int) : ∀ l : List Nd, atN id l ≤ l.length
  | [] => Nat.le_refl _
  | x :: l => by
    have := atN_le id l
    rw [atN]; split <;> simp only [List.length_cons] <;> omega
/-- What an act does: the qI, the error. -/
def doN (l : List Nd) (a : Ac) : List Nd × Int :=
  let x := l.getD (ndx a.id l) j2
  if a.k = 1 then
    if a.id < 1 ∨ a.id > 1099511627776 ∨ zC a.nm = false then (l, 1)
    else if ndx a.id l < l.length then (l, 6)
    else if jZ l a.par a.nm 0 ≠ 0 then (l, jZ l a.par a.nm 0)
    else if l.length ≥ 100 then (l, 4)
    else (l.take (atN a.id l) ++ ⟨a.id, a.par, a.nm, a.dir, []⟩ :: l.drop (atN a.id l), 0)
  else if a.k = 2 then
    if ¬ ndx a.id l < l.length then (l, 5)
    else if (l.any fun y => decide (y.par = a.id)) = true then (l, 9)
    else (l.take (ndx a.id l) ++ l.drop (ndx a.id l + 1), 0)
  else if a.k = 3 then
    if zC a.nm = false then (l, 1)
    else if ¬ ndx a.id l < l.length then (l, 5)
    else if jZ l a.par a.nm a.id ≠ 0 then (l, jZ l a.par a.nm a.id)
    else (l.set (ndx a.id l) ⟨x.id, a.par, a.nm, x.dir, x.text⟩, 0)
  else if a.k = 4 then
    if ¬ ndx a.id l < l.length then (l, 5)
    else if x.dir = true then (l, 8)
    else if errI x.text a.ops ≠ 0 then (l, errI x.text a.ops)
    else if (totN (l.set (ndx a.id l) ⟨x.id, x.par, x.nm, x.dir, zQ x.text a.ops⟩) : Int) > 10000 then (l, 4)
    else (l.set (ndx a.id l) ⟨x.id, x.par, x.nm, x.dir, zQ x.text a.ops⟩, 0)
  else (l, 1)
structure Alln where
  now : List Nd
  n : Int
  e : Int
  deriving DecidableEq
def allF (t : List Nd) : List Ac → Nat → Alln
  | [], n => ⟨t, n, 0⟩
  | a :: r, n => if (doN t a).2 ≠ 0 then ⟨[], n, (doN t a).2⟩ else allF (doN t a).1 r (n + 1)
def allN (t : List Nd) (l : List Ac) : Alln := if txnE l ≠ 0 then ⟨[], -1, txnE l⟩ else allF t l 0
end Go.Proofs
end

-- ZUk1
section
namespace Go.Proofs
open Go Go.Rw
open _root_.Nat renaming reduceAdd → N0, reduceSub → N1, reduceMul → N2, reduceLT → N3, reduceLeDiff → N4, reduceEqDiff → N5
open _root_.Int renaming reduceNeg → Z0, reduceAdd → Z1, reduceSub → Z2, reduceMul → Z3, reduceGT → Z4, reduceGE → Z5, reduceLT → Z6, reduceLE → Z7, reduceEq → Z8, reduceNe → Z9, reduceToNat → Z10, cast_ofNat_Int → Zc
set_option maxRecDepth 100000
set_option linter.unusedSimpArgs false
set_option linter.unusedVariables false

abbrev NdsL := { l : List Nd // l.length ≤ 1099511627776 }
abbrev kBY : Con where
  ι := NdsL × Int
  args := fun p => [.sl 0 5 (qI p.1.1), .v (.int .i64 p.2)]
  post := fun p r => r = .v (.int .i64 (ndI p.2 p.1.1))
  plain := true
theorem kCg : Rw.Good Tryz.prog 36 kBY := by
  have hΓ : kL Tryz.prog [] := kJ
  refine kR (nn := 20) hΓ Tryz.func36 (by kernel_rfl) rfl (show Tryz.f36.results.toList = [.tmp 4] from rfl) (fun _ => rfl) (fun x => by simp [AV.erL, AV.er]) ?_
  rintro ⟨⟨l, hl⟩, id⟩
  simp only [aR,N0,N1,N2,N3,N4,N5,Z0,Z1,Z2,Z3,Z4,Z5,Z6,Z7,Z8,Z9,Z10,Zc,↓reduceIte,reduceCtorEq, kY]
  obtain ⟨St, hSt⟩ : ∃ St : { i : Nat // i ≤ l.length ∧ ndx id l = i + ndx id (l.drop i) } → AS, ∀ i, St i = AS.of 20 [(0, .sl 0 5 (qI l)), (1, .v (.int .i64 id)), (5, .v (.int .i64 i.1))] [] [] := ⟨_, fun _ => rfl⟩
  refine kZ hΓ St (fun i => l.length - i.1) ⟨0, by omega, by simp⟩ (by rw [hSt]; refine kH [] [] ?_; simp only [aR,N0,N1,N2,N3,N4,N5,Z0,Z1,Z2,Z3,Z4,Z5,Z6,Z7,Z8,Z9,Z10,Zc,↓reduceIte,reduceCtorEq] <;> ((repeat' apply And.intro) <;> first | rfl | omega | trivial)) ?_
  rintro ⟨i, hi, hf⟩
  rw [hSt]
  simp only
  simp only [aR,N0,N1,N2,N3,N4,N5,Z0,Z1,Z2,Z3,Z4,Z5,Z6,Z7,Z8,Z9,Z10,Zc,↓reduceIte,reduceCtorEq, kY]
  (with_reducible first | refine kB (fun h => ?_) (fun h => ?_) | refine kE (fun h => ?_) (fun h => ?_))
  · have hlt : i < l.length := by omega
    have e1 := zI l hlt
    rw [List.drop_eq_getElem_cons hlt, ndx] at hf
    generalize l[i] = x at *
    by_cases hx : x.id = id
    · rw [if_pos hx] at hf
      simp only [aR,N0,N1,N2,N3,N4,N5,Z0,Z1,Z2,Z3,Z4,Z5,Z6,Z7,Z8,Z9,Z10,Zc,↓reduceIte,reduceCtorEq, h, e1, nA, kY, hx]
      (repeat (with_reducible refine And.intro ?_ ?_; focus (first | omega | exact kG | kernel_rfl)))
      rw [ndI, if_pos (by omega), hf, Nat.add_zero]
    · rw [if_neg hx] at hf
      simp only [aR,N0,N1,N2,N3,N4,N5,Z0,Z1,Z2,Z3,Z4,Z5,Z6,Z7,Z8,Z9,Z10,Zc,↓reduceIte,reduceCtorEq, h, e1, nA, kY, hx, kA (n := (i : Int) + 1) (by omega) (by omega)]
      (repeat (with_reducible refine And.intro ?_ ?_; focus (first | omega | exact kG | kernel_rfl)))
      refine kI ⟨i + 1, by omega, by omega⟩ (by simp only; omega) ?_
      rw [hSt]; refine kH [] [] ?_
      simp only [aR,N0,N1,N2,N3,N4,N5,Z0,Z1,Z2,Z3,Z4,Z5,Z6,Z7,Z8,Z9,Z10,Zc,↓reduceIte,reduceCtorEq] <;> ((repeat' apply And.intro) <;> first | rfl | omega | trivial)
  · simp only [aR,N0,N1,N2,N3,N4,N5,Z0,Z1,Z2,Z3,Z4,Z5,Z6,Z7,Z8,Z9,Z10,Zc,↓reduceIte,reduceCtorEq, h]
    rw [List.drop_of_length_le (by omega), ndx] at hf
    rw [ndI, if_neg (by omega)]
theorem kC2 {Γ : Env} (hf : Γ.get 36 = some kBY) {σ : AS} {dr : Bool} {l : List Nd} {id : Int} {ys : List AV} {d : Option Nat} {K : AS → Prop} (hy : ys = qI l) (hl : l.length ≤ 1099511627776)
    (hk : cont σ d (.v (.int .i64 (ndI id l))) K) : kP Tryz.prog Γ dr σ 36 [.sl 0 5 ys, .v (.int .i64 id)] d K := by
  subst hy
  exact kK (C := kBY) (i := (⟨l, hl⟩, id)) hf rfl rfl rfl (by simp [AV.erL, AV.er]) (fun _ h => h) rfl hk
abbrev kidCon : Con where
  ι := NdsL × Int × List UInt8
  args := fun p => [.sl 0 5 (qI p.1.1), .v (.int .i64 p.2.1), .v (sv p.2.2)]
  post := fun p r => r = .v (.int .i64 (kid p.2.1 p.2.2 p.1.1))
  plain := true
theorem kid_good : Rw.Good Tryz.prog 33 kidCon := by
  have hΓ : kL Tryz.prog [] := kJ
  refine kR (nn := 35) hΓ Tryz.func33 (by kernel_rfl) rfl (show Tryz.f33.results.toList = [.tmp 6] from rfl) (fun _ => rfl) (fun x => by simp [AV.erL, AV.er]) ?_
  rintro ⟨⟨l, hl⟩, par, nm⟩
  simp only [aR,N0,N1,N2,N3,N4,N5,Z0,Z1,Z2,Z3,Z4,Z5,Z6,Z7,Z8,Z9,Z10,Zc,↓reduceIte,reduceCtorEq, kY]
  obtain ⟨St, hSt⟩ : ∃ St : { i : Nat // i ≤ l.length ∧ kid par nm (l.drop i) = kid par nm l } → AS, ∀ i, St i = AS.of 35 [(0, .sl 0 5 (qI l)), (1, .v (.int .i64 par)), (2, .v (sv nm)), (7, .v (.int .i64 i.1))] [] [] := ⟨_, fun _ => rfl⟩
  refine kZ hΓ St (fun i => l.length - i.1) ⟨0, by omega, by simp⟩ (by rw [hSt]; refine kH [] [] ?_; simp only [aR,N0,N1,N2,N3,N4,N5,Z0,Z1,Z2,Z3,Z4,Z5,Z6,Z7,Z8,Z9,Z10,Zc,↓reduceIte,reduceCtorEq] <;> ((repeat' apply And.intro) <;> first | rfl | omega | trivial)) ?_
  rintro ⟨i, hi, hf⟩
  rw [hSt]
  simp only
  simp only [aR,N0,N1,N2,N3,N4,N5,Z0,Z1,Z2,Z3,Z4,Z5,Z6,Z7,Z8,Z9,Z10,Zc,↓reduceIte,reduceCtorEq, kY]
  (with_reducible first | refine kB (fun h => ?_) (fun h => ?_) | refine kE (fun h => ?_) (fun h => ?_))
  · have hlt : i < l.length := by omega
    have e1 := zI l hlt
    rw [List.drop_eq_getElem_cons hlt, kid] at hf
    generalize l[i] = x at *
    by_cases hx : x.par = par
    · by_cases hy : x.nm = nm
      · rw [if_pos ⟨hx, hy⟩] at hf
        simp only [aR,N0,N1,N2,N3,N4,N5,Z0,Z1,Z2,Z3,Z4,Z5,Z6,Z7,Z8,Z9,Z10,Zc,↓reduceIte,reduceCtorEq, h, e1, nA, kY, hx, hy, hf] <;> ((repeat' apply And.intro) <;> first | rfl | omega | trivial)
      · rw [if_neg (fun hh => hy hh.2)] at hf
        simp only [aR,N0,N1,N2,N3,N4,N5,Z0,Z1,Z2,Z3,Z4,Z5,Z6,Z7,Z8,Z9,Z10,Zc,↓reduceIte,reduceCtorEq, h, e1, nA, kY, hx, hy, kA (n := (i : Int) + 1) (by omega) (by omega)]
        (repeat (with_reducible refine And.intro ?_ ?_; focus (first | omega | exact kG | kernel_rfl)))
        refine kI ⟨i + 1, by omega, hf⟩ (by simp only; omega) ?_
        rw [hSt]; refine kH [] [] ?_
        simp only [aR,N0,N1,N2,N3,N4,N5,Z0,Z1,Z2,Z3,Z4,Z5,Z6,Z7,Z8,Z9,Z10,Zc,↓reduceIte,reduceCtorEq] <;> ((repeat' apply And.intro) <;> first | rfl | omega | trivial)
    · rw [if_neg (fun hh => hx hh.1)] at hf
      simp only [aR,N0,N1,N2,N3,N4,N5,Z0,Z1,Z2,Z3,Z4,Z5,Z6,Z7,Z8,Z9,Z10,Zc,↓reduceIte,reduceCtorEq, h, e1, nA, kY, hx, kA (n := (i : Int) + 1) (by omega) (by omega)]
      (repeat (with_reducible refine And.intro ?_ ?_; focus (first | omega | exact kG | kernel_rfl)))
      refine kI ⟨i + 1, by omega, hf⟩ (by simp only; omega) ?_
      rw [hSt]; refine kH [] [] ?_
      simp only [aR,N0,N1,N2,N3,N4,N5,Z0,Z1,Z2,Z3,Z4,Z5,Z6,Z7,Z8,Z9,Z10,Zc,↓reduceIte,reduceCtorEq] <;> ((repeat' apply And.intro) <;> first | rfl | omega | trivial)
  · rw [List.drop_of_length_le (by omega), kid] at hf
    simp only [aR,N0,N1,N2,N3,N4,N5,Z0,Z1,Z2,Z3,Z4,Z5,Z6,Z7,Z8,Z9,Z10,Zc,↓reduceIte,reduceCtorEq, h, hf]
theorem call_kid {Γ : Env} (hf : Γ.get 33 = some kidCon) {σ : AS} {dr : Bool} {l : List Nd} {par : Int} {nm : List UInt8} {ys : List AV} {d : Option Nat} {K : AS → Prop} (hy : ys = qI l) (hl : l.length ≤ 1099511627776)
    (hk : cont σ d (.v (.int .i64 (kid par nm l))) K) : kP Tryz.prog Γ dr σ 33 [.sl 0 5 ys, .v (.int .i64 par), .v (sv nm)] d K := by
  subst hy
  exact kK (C := kidCon) (i := (⟨l, hl⟩, par, nm)) hf rfl rfl rfl (by simp [AV.erL, AV.er]) (fun _ h => h) rfl hk
abbrev kCK : Con where
  ι := NdsL × Int × Int
  args := fun p => [.sl 0 5 (qI p.1.1), .v (.int .i64 p.2.1), .v (.int .i64 p.2.2)]
  post := fun p r => r = .v (.bool (kCp p.1.1 p.2.1 p.2.2))
  plain := true
theorem within_good : Rw.Good Tryz.prog 37 kCK := by
  have hΓ : kL Tryz.prog [(36, kBY)] := (kD kCg kJ)
  refine kR (nn := 28) hΓ Tryz.func37 (by kernel_rfl) rfl (show Tryz.f37.results.toList = [.tmp 6] from rfl) (fun _ => rfl) (fun x => by simp [AV.erL, AV.er]) ?_
  rintro ⟨⟨l, hl⟩, id, top⟩
  simp only [aR,N0,N1,N2,N3,N4,N5,Z0,Z1,Z2,Z3,Z4,Z5,Z6,Z7,Z8,Z9,Z10,Zc,↓reduceIte,reduceCtorEq, kY]
  obtain ⟨St, hSt⟩ : ∃ St : { p : Nat × Int // p.1 ≤ l.length + 1 ∧ inN l top (l.length + 1 - p.1) p.2 = kCp l id top } → AS, ∀ p, St p = AS.of 28 [(0, .sl 0 5 (qI l)), (1, .v (.int .i64 p.1.2)), (2, .v (.int .i64 top)), (7, .v (.int .i64 p.1.1))] [] [] := ⟨_, fun _ => rfl⟩
  refine kZ hΓ St (fun p => l.length + 1 - p.1.1) ⟨(0, id), by simp, rfl⟩ (by rw [hSt]; refine kH [] [] ?_; simp only [aR,N0,N1,N2,N3,N4,N5,Z0,Z1,Z2,Z3,Z4,Z5,Z6,Z7,Z8,Z9,Z10,Zc,↓reduceIte,reduceCtorEq] <;> ((repeat' apply And.intro) <;> first | rfl | omega | trivial)) ?_
  rintro ⟨⟨k, x⟩, hk, hw⟩
  simp only at hk hw
  rw [hSt]
  simp only
  simp only [aR,N0,N1,N2,N3,N4,N5,Z0,Z1,Z2,Z3,Z4,Z5,Z6,Z7,Z8,Z9,Z10,Zc,↓reduceIte,reduceCtorEq, kY]
  (with_reducible first | refine kB (fun h => ?_) (fun h => ?_) | refine kE (fun h => ?_) (fun h => ?_))
  · have hlt : k < l.length + 1 := by omega
    rw [show l.length + 1 - k = (l.length - k) + 1 by omega, inN] at hw
    by_cases hx : x = top
    · rw [if_pos hx] at hw
      simp only [aR,N0,N1,N2,N3,N4,N5,Z0,Z1,Z2,Z3,Z4,Z5,Z6,Z7,Z8,Z9,Z10,Zc,↓reduceIte,reduceCtorEq, h, hx, ← hw]
    · rw [if_neg hx] at hw
      simp only [aR,N0,N1,N2,N3,N4,N5,Z0,Z1,Z2,Z3,Z4,Z5,Z6,Z7,Z8,Z9,Z10,Zc,↓reduceIte,reduceCtorEq, h, hx]
      refine kC2 (by simp [kC]) rfl hl ?_
      by_cases hf : ndx x l < l.length
      · rw [if_pos hf] at hw
        have e1 := zI l hf
        have e2 : ndI x l = (ndx x l : Int) := by rw [ndI, if_pos hf]
        have e3 : l.getD (ndx x l) j2 = l[ndx x l] := by simp [List.getD_eq_getElem?_getD, hf]
        rw [e3] at hw
        generalize l[ndx x l] = y at *
        rw [e2]
        simp only [aR,N0,N1,N2,N3,N4,N5,Z0,Z1,Z2,Z3,Z4,Z5,Z6,Z7,Z8,Z9,Z10,Zc,↓reduceIte,reduceCtorEq, e1, nA, kY, show ((ndx x l : Int) < 0) = False from eq_false (by omega), kA (n := (k : Int) + 1) (by omega) (by omega)]
        (repeat (with_reducible refine And.intro ?_ ?_; focus (first | omega | exact kG | kernel_rfl)))
        refine kI ⟨(k + 1, y.par), by simp only; omega, by simp only; rw [show l.length + 1 - (k + 1) = l.length - k by omega]; exact hw⟩ (by simp only; omega) ?_
        rw [hSt]; refine kH [] [] ?_
        simp only [aR,N0,N1,N2,N3,N4,N5,Z0,Z1,Z2,Z3,Z4,Z5,Z6,Z7,Z8,Z9,Z10,Zc,↓reduceIte,reduceCtorEq] <;> ((repeat' apply And.intro) <;> first | rfl | omega | trivial)
      · rw [if_neg hf] at hw
        have e2 : ndI x l = -1 := by rw [ndI, if_neg hf]
        rw [e2]
        simp only [aR,N0,N1,N2,N3,N4,N5,Z0,Z1,Z2,Z3,Z4,Z5,Z6,Z7,Z8,Z9,Z10,Zc,↓reduceIte,reduceCtorEq, ← hw]
  · rw [show l.length + 1 - k = 0 by omega, inN] at hw
    simp only [aR,N0,N1,N2,N3,N4,N5,Z0,Z1,Z2,Z3,Z4,Z5,Z6,Z7,Z8,Z9,Z10,Zc,↓reduceIte,reduceCtorEq, h, ← hw]
theorem call_within {Γ : Env} (hf : Γ.get 37 = some kCK) {σ : AS} {dr : Bool} {l : List Nd} {id top : Int} {ys : List AV} {d : Option Nat} {K : AS → Prop} (hy : ys = qI l) (hl : l.length ≤ 1099511627776)
    (hk : cont σ d (.v (.bool (kCp l id top))) K) : kP Tryz.prog Γ dr σ 37 [.sl 0 5 ys, .v (.int .i64 id), .v (.int .i64 top)] d K := by
  subst hy
  exact kK (C := kCK) (i := (⟨l, hl⟩, id, top)) hf rfl rfl rfl (by simp [AV.erL, AV.er]) (fun _ h => h) rfl hk
abbrev kDS : Con where
  ι := NdsL × Int × List UInt8 × Int
  args := fun p => [.sl 0 5 (qI p.1.1), .v (.int .i64 p.2.1), .v (sv p.2.2.1), .v (.int .i64 p.2.2.2)]
  post := fun p r => r = .v (.int .i64 (jZ p.1.1 p.2.1 p.2.2.1 p.2.2.2))
  plain := true
theorem place_good : Rw.Good Tryz.prog 60 kDS := by
  have hΓ : kL Tryz.prog [(36, kBY), (37, kCK), (33, kidCon)] := (kD kCg (kD within_good (kD kid_good kJ)))
  refine kR (nn := 43) hΓ Tryz.func60 (by kernel_rfl) rfl (show Tryz.f60.results.toList = [.tmp 8] from rfl) (fun _ => rfl) (fun x => by simp [AV.erL, AV.er]) ?_
  rintro ⟨⟨l, hl⟩, par, nm, id⟩
  by_cases h1 : par = 0
  · have e0 : jZ l par nm id = kDt l par nm id := by rw [jZ, if_pos h1]
    subst h1
    simp only [aR,N0,N1,N2,N3,N4,N5,Z0,Z1,Z2,Z3,Z4,Z5,Z6,Z7,Z8,Z9,Z10,Zc,↓reduceIte,reduceCtorEq]
    refine call_kid (by simp [kC]) rfl hl ?_
    have ec : kDt l 0 nm id = if 0 ≤ kid 0 nm l ∧ kid 0 nm l ≠ id then 6 else 0 := rfl
    rw [ec] at e0
    generalize kid 0 nm l = c at *
    by_cases h2 : c ≥ 0
    · by_cases h3 : c = id
      · subst h3
        rw [if_neg (fun hh => hh.2 rfl)] at e0
        simp only [aR,N0,N1,N2,N3,N4,N5,Z0,Z1,Z2,Z3,Z4,Z5,Z6,Z7,Z8,Z9,Z10,Zc,↓reduceIte,reduceCtorEq, h2, e0]
      · rw [if_pos ⟨h2, h3⟩] at e0
        simp only [aR,N0,N1,N2,N3,N4,N5,Z0,Z1,Z2,Z3,Z4,Z5,Z6,Z7,Z8,Z9,Z10,Zc,↓reduceIte,reduceCtorEq, h2, h3, e0]
    · rw [if_neg (fun hh => h2 hh.1)] at e0
      simp only [aR,N0,N1,N2,N3,N4,N5,Z0,Z1,Z2,Z3,Z4,Z5,Z6,Z7,Z8,Z9,Z10,Zc,↓reduceIte,reduceCtorEq, h2, e0]
  simp only [aR,N0,N1,N2,N3,N4,N5,Z0,Z1,Z2,Z3,Z4,Z5,Z6,Z7,Z8,Z9,Z10,Zc,↓reduceIte,reduceCtorEq, h1]
  refine kC2 (by simp [kC]) rfl hl ?_
  by_cases hf : ndx par l < l.length
  case neg =>
    have e2 : ndI par l = -1 := by rw [ndI, if_neg hf]
    rw [e2]
    simp only [aR,N0,N1,N2,N3,N4,N5,Z0,Z1,Z2,Z3,Z4,Z5,Z6,Z7,Z8,Z9,Z10,Zc,↓reduceIte,reduceCtorEq]
    rw [jZ, if_neg h1, if_neg hf]
  have e1 := zI l hf
  have e2 : ndI par l = (ndx par l : Int) := by rw [ndI, if_pos hf]
  have e3 : l.getD (ndx par l) j2 = l[ndx par l] := by simp [List.getD_eq_getElem?_getD, hf]
  have e0 : jZ l par nm id = if l[ndx par l].dir = false then 8 else if id > 0 ∧ kCp l par id = true then 10 else kDt l par nm id := by rw [jZ, if_neg h1, if_pos hf, e3]
  have e4 : ((ndx par l : Int) < 0) = False := eq_false (by omega)
  generalize l[ndx par l] = x at *
  rw [e2]
  obtain ⟨xi, xp, xn, xd, xt⟩ := x
  cases xd
  · simp only [aR,N0,N1,N2,N3,N4,N5,Z0,Z1,Z2,Z3,Z4,Z5,Z6,Z7,Z8,Z9,Z10,Zc,↓reduceIte,reduceCtorEq, e1, nA, kY, e4]
    (repeat (with_reducible refine And.intro ?_ ?_; focus (first | omega | exact kG | kernel_rfl)))
    rw [e0]; rfl
  rw [if_neg (by simp)] at e0
  simp only [aR,N0,N1,N2,N3,N4,N5,Z0,Z1,Z2,Z3,Z4,Z5,Z6,Z7,Z8,Z9,Z10,Zc,↓reduceIte,reduceCtorEq, e1, nA, kY, e4]
  (repeat (with_reducible refine And.intro ?_ ?_; focus (first | omega | exact kG | kernel_rfl)))
  by_cases h4 : id > 0
  · simp only [aR,N0,N1,N2,N3,N4,N5,Z0,Z1,Z2,Z3,Z4,Z5,Z6,Z7,Z8,Z9,Z10,Zc,↓reduceIte,reduceCtorEq, h4]
    refine call_within (by simp [kC]) rfl hl ?_
    cases hw : kCp l par id
    · rw [if_neg (by simp [hw])] at e0
      simp only [aR,N0,N1,N2,N3,N4,N5,Z0,Z1,Z2,Z3,Z4,Z5,Z6,Z7,Z8,Z9,Z10,Zc,↓reduceIte,reduceCtorEq, h4]
      refine call_kid (by simp [kC]) rfl hl ?_
      have ec : kDt l par nm id = if 0 ≤ kid par nm l ∧ kid par nm l ≠ id then 6 else 0 := rfl
      rw [ec] at e0
      generalize kid par nm l = c at *
      by_cases h2 : c ≥ 0
      · by_cases h3 : c = id
        · subst h3
          rw [if_neg (fun hh => hh.2 rfl)] at e0
          simp only [aR,N0,N1,N2,N3,N4,N5,Z0,Z1,Z2,Z3,Z4,Z5,Z6,Z7,Z8,Z9,Z10,Zc,↓reduceIte,reduceCtorEq, h2, e0]
        · rw [if_pos ⟨h2, h3⟩] at e0
          simp only [aR,N0,N1,N2,N3,N4,N5,Z0,Z1,Z2,Z3,Z4,Z5,Z6,Z7,Z8,Z9,Z10,Zc,↓reduceIte,reduceCtorEq, h2, h3, e0]
      · rw [if_neg (fun hh => h2 hh.1)] at e0
        simp only [aR,N0,N1,N2,N3,N4,N5,Z0,Z1,Z2,Z3,Z4,Z5,Z6,Z7,Z8,Z9,Z10,Zc,↓reduceIte,reduceCtorEq, h2, e0]
    · rw [if_pos ⟨h4, hw⟩] at e0
      simp only [aR,N0,N1,N2,N3,N4,N5,Z0,Z1,Z2,Z3,Z4,Z5,Z6,Z7,Z8,Z9,Z10,Zc,↓reduceIte,reduceCtorEq, h4, e0]
  · rw [if_neg (fun hh => h4 hh.1)] at e0
    simp only [aR,N0,N1,N2,N3,N4,N5,Z0,Z1,Z2,Z3,Z4,Z5,Z6,Z7,Z8,Z9,Z10,Zc,↓reduceIte,reduceCtorEq, h4]
    refine call_kid (by simp [kC]) rfl hl ?_
    have ec : kDt l par nm id = if 0 ≤ kid par nm l ∧ kid par nm l ≠ id then 6 else 0 := rfl
    rw [ec] at e0
    generalize kid par nm l = c at *
    by_cases h2 : c ≥ 0
    · by_cases h3 : c = id
      · subst h3
        rw [if_neg (fun hh => hh.2 rfl)] at e0
        simp only [aR,N0,N1,N2,N3,N4,N5,Z0,Z1,Z2,Z3,Z4,Z5,Z6,Z7,Z8,Z9,Z10,Zc,↓reduceIte,reduceCtorEq, h2, e0]
      · rw [if_pos ⟨h2, h3⟩] at e0
        simp only [aR,N0,N1,N2,N3,N4,N5,Z0,Z1,Z2,Z3,Z4,Z5,Z6,Z7,Z8,Z9,Z10,Zc,↓reduceIte,reduceCtorEq, h2, h3, e0]
    · rw [if_neg (fun hh => h2 hh.1)] at e0
      simp only [aR,N0,N1,N2,N3,N4,N5,Z0,Z1,Z2,Z3,Z4,Z5,Z6,Z7,Z8,Z9,Z10,Zc,↓reduceIte,reduceCtorEq, h2, e0]
theorem kEm {Γ : Env} (hf : Γ.get 60 = some kDS) {σ : AS} {dr : Bool} {l : List Nd} {par id : Int} {nm : List UInt8} {ys : List AV} {d : Option Nat} {K : AS → Prop} (hy : ys = qI l) (hl : l.length ≤ 1099511627776)
    (hk : cont σ d (.v (.int .i64 (jZ l par nm id))) K) : kP Tryz.prog Γ dr σ 60 [.sl 0 5 ys, .v (.int .i64 par), .v (sv nm), .v (.int .i64 id)] d K := by
  subst hy
  exact kK (C := kDS) (i := (⟨l, hl⟩, par, nm, id)) hf rfl rfl rfl (by simp [AV.erL, AV.er]) (fun _ h => h) rfl hk
end Go.Proofs
end
