/-
  rebase: why an act clashes; an edit behind what was done. rebase: a transaction behind what was done. rebase.Over.
-/
import Derived.Test.YtmhpninemdmbkaaGreatDoorXZUn1
import Derived.Test.YtmhpninemdmbkaaGreatDoorXZUe14
set_option linter.unusedSimpArgs false
set_option linter.unusedVariables false
set_option linter.defProp false

-- ZUn4
section
namespace Go.Proofs
open Go Go.Rw
open _root_.Nat renaming reduceAdd → N0, reduceSub → N1, reduceMul → N2, reduceLT → N3, reduceLeDiff → N4, reduceEqDiff → N5
open _root_.Int renaming reduceNeg → Z0, reduceAdd → Z1, reduceSub → Z2, reduceMul → Z3, reduceGT → Z4, reduceGE → Z5, reduceLT → Z6, reduceLE → Z7, reduceEq → Z8, reduceNe → Z9, reduceToNat → Z10, cast_ofNat_Int → Zc
set_option maxRecDepth 100000
abbrev Rul := Int × Bool × Int
def zK (x y : On) (a : Ac) : List Rul :=
  [(4, x.rm, 12), (2, (x.ed || x.mv) && !x.rm, 13), (3, x.rm, 12), (3, x.mv && (decide (¬ x.par = a.par) || decide (¬ x.nm = a.nm)), 13), (1, x.cr, 13), (1, y.rm, 12), (3, y.rm, 12)]
def whyL (k : Int) : List Rul → Int
  | [] => 0
  | (j, h, e) :: r => if j = k ∧ h = true then e else whyL k r
def whyI (a : Ac) (bys : List On) : Int := whyL a.k (zK (getO a.id bys) (getO a.par bys) a)
def qH : List Rul → List AV
  | [] => []
  | (j, h, e) :: r => .v (.int .i64 j) :: .v (.bool h) :: .v (.int .i64 e) :: qH r
theorem jJ : ∀ l : List Rul, (qH l).length = l.length * 3
  | [] => rfl
  | (j, h, e) :: r => by simp only [qH, List.length_cons, jJ r]; omega
theorem kAC : ∀ (l : List Rul) (i : Nat) (h : i < l.length), ((qH l).drop (i * 3)).take 3 = [.v (.int .i64 l[i].1), .v (.bool l[i].2.1), .v (.int .i64 l[i].2.2)]
  | (j, b, e) :: r, 0, _ => by simp [qH]
  | (j, b, e) :: r, i + 1, h => by
    have := kAC r i (by simpa using h)
    rw [show (i + 1) * 3 = i * 3 + 3 by omega, qH]
    simpa using this
theorem kAF : ∀ l : List Rul, AV.erL (qH l) = qH l
  | [] => rfl
  | (j, h, e) :: r => by simp only [qH, AV.erL, AV.er, kAF r]
abbrev kAN : Con where
  ι := AcN × Ons
  args := fun p => [aA p.1.1, .sl 0 8 (ones p.2.1)]
  post := fun p r => r = .v (.int .i64 (whyI p.1.1 p.2.1))
  plain := true
set_option maxHeartbeats 4000000 in
theorem why_good : Rw.Good Tryz.prog 28 kAN := by
  have hΓ : kL Tryz.prog [(40, getCon)] := (kE get_good kJ)
  refine kS (nn := 86) hΓ Tryz.func28 (by kernel_rfl) rfl (show Tryz.f28.results.toList = [.tmp 4] from rfl) (fun _ => rfl) (fun x => by simp [AV.erL, AV.er, kAd, qD]) ?_
  rintro ⟨⟨a, oa, hn⟩, ⟨bys, hb, hbo⟩⟩
  obtain ⟨k, id, par, nm, dir, ops⟩ := a
  have e0 : whyI ⟨k, id, par, nm, dir, ops⟩ bys = whyL k (zK (getO id bys) (getO par bys) ⟨k, id, par, nm, dir, ops⟩) := rfl
  simp only [aR,N0,N1,N2,N3,N4,N5,Z0,Z1,Z2,Z3,Z4,Z5,Z6,Z7,Z8,Z9,Z10,Zc,↓reduceIte,reduceCtorEq, aA]
  refine vc_scope hΓ 1 ?_
  simp only [aR,N0,N1,N2,N3,N4,N5,Z0,Z1,Z2,Z3,Z4,Z5,Z6,Z7,Z8,Z9,Z10,Zc,↓reduceIte,reduceCtorEq]
  refine call_get (by simp [kB]) rfl hb hbo ?_
  generalize getO id bys = x at *
  simp only [aR,N0,N1,N2,N3,N4,N5,Z0,Z1,Z2,Z3,Z4,Z5,Z6,Z7,Z8,Z9,Z10,Zc,↓reduceIte,reduceCtorEq, oA]
  refine call_get (by simp [kB]) rfl hb hbo ?_
  generalize getO par bys = y at *
  obtain ⟨xid, xops, xed, xrm, xcr, xmv, xpar, xnm⟩ := x
  obtain ⟨yid, yops, yed, yrm, ycr, ymv, ypar, ynm⟩ := y
  cases xed <;> cases xmv
  · obtain ⟨R, hR⟩ : ∃ R : List Rul, R = [(4, xrm, 12), (2, false, 13), (3, xrm, 12), (3, false, 13), (1, xcr, 13), (1, yrm, 12), (3, yrm, 12)] := ⟨_, rfl⟩
    have e1 : whyI ⟨k, id, par, nm, dir, ops⟩ bys = whyL k R := by rw [e0, hR]; simp [zK]
    have hc : _ = qH R := (congrArg qH hR).symm
    simp only [qH] at hc
    have hlen : R.length = 7 := by rw [hR]; rfl
    simp only [aR,N0,N1,N2,N3,N4,N5,Z0,Z1,Z2,Z3,Z4,Z5,Z6,Z7,Z8,Z9,Z10,Zc,↓reduceIte,reduceCtorEq, oA, List.map_cons, List.map_nil, ofV1]
    rw [hc]
    clear hc hR e0
    have hrl : ∀ fm, renL [0] [] fm (qH R) (qH R) := fun fm => renL_closed _ (kAF R)
    obtain ⟨St, hSt⟩ : ∃ St : { i : Nat // i ≤ 7 ∧ whyL k (R.drop i) = whyL k R } → AS, ∀ i, St i = AS.of 86 [(2, .ptr 0 0), (4, .v (.int .i64 0)), (69, .agg (qH R)), (70, .v (.int .i64 i.1))] [.cells [.v (.int .i64 k), .v (.int .i64 id), .v (.int .i64 par), .v (sv nm), .v (.bool dir), .sl 0 3 (kU ops)]] [] := ⟨_, fun _ => rfl⟩
    refine kX hΓ St (fun i => 7 - i.1) ⟨0, by omega, rfl⟩ (by rw [hSt]; refine kH [0] [] ?_; simp only [aR,N0,N1,N2,N3,N4,N5,Z0,Z1,Z2,Z3,Z4,Z5,Z6,Z7,Z8,Z9,Z10,Zc,↓reduceIte,reduceCtorEq, hrl] <;> ((repeat' apply And.intro) <;> first | rfl | omega | trivial)) ?_
    rintro ⟨i, hi, hw⟩
    rw [hSt]
    simp only
    simp only [aR,N0,N1,N2,N3,N4,N5,Z0,Z1,Z2,Z3,Z4,Z5,Z6,Z7,Z8,Z9,Z10,Zc,↓reduceIte,reduceCtorEq]
    (with_reducible first | refine kC (fun h => ?_) (fun h => ?_) | refine kF (fun h => ?_) (fun h => ?_))
    · have hlt : i < R.length := by omega
      have e2 := kAC R i hlt
      have e3 : i * 3 + 3 ≤ (qH R).length := by rw [jJ, hlen]; omega
      rw [List.drop_eq_getElem_cons hlt] at hw
      generalize R[i] = q at *
      obtain ⟨j, q, e⟩ := q
      simp only [whyL] at hw e2
      simp only [aR,N0,N1,N2,N3,N4,N5,Z0,Z1,Z2,Z3,Z4,Z5,Z6,Z7,Z8,Z9,Z10,Zc,↓reduceIte,reduceCtorEq, h, e2, e3, ofV1, List.map_cons, List.map_nil]
      (repeat (with_reducible refine And.intro ?_ ?_; focus (first | omega | exact kG | kernel_rfl)))
      by_cases h7 : j = k
      · cases q
        · rw [if_neg (by simp)] at hw
          simp only [aR,N0,N1,N2,N3,N4,N5,Z0,Z1,Z2,Z3,Z4,Z5,Z6,Z7,Z8,Z9,Z10,Zc,↓reduceIte,reduceCtorEq, h7, kA (n := (i : Int) + 1) (by omega) (by omega)]
          refine kI ⟨i + 1, by omega, hw⟩ (by simp only; omega) ?_
          rw [hSt]; refine kH [0] [] ?_
          simp only [aR,N0,N1,N2,N3,N4,N5,Z0,Z1,Z2,Z3,Z4,Z5,Z6,Z7,Z8,Z9,Z10,Zc,↓reduceIte,reduceCtorEq, hrl] <;> ((repeat' apply And.intro) <;> first | rfl | omega | trivial)
        · rw [if_pos ⟨h7, rfl⟩] at hw
          simp only [aR,N0,N1,N2,N3,N4,N5,Z0,Z1,Z2,Z3,Z4,Z5,Z6,Z7,Z8,Z9,Z10,Zc,↓reduceIte,reduceCtorEq, h7]
          refine ⟨_, rfl, ?_⟩
          simp only [aR,N0,N1,N2,N3,N4,N5,Z0,Z1,Z2,Z3,Z4,Z5,Z6,Z7,Z8,Z9,Z10,Zc,↓reduceIte,reduceCtorEq, e1, hw]
      · rw [if_neg (fun hh => h7 hh.1)] at hw
        simp only [aR,N0,N1,N2,N3,N4,N5,Z0,Z1,Z2,Z3,Z4,Z5,Z6,Z7,Z8,Z9,Z10,Zc,↓reduceIte,reduceCtorEq, h7, kA (n := (i : Int) + 1) (by omega) (by omega)]
        refine kI ⟨i + 1, by omega, hw⟩ (by simp only; omega) ?_
        rw [hSt]; refine kH [0] [] ?_
        simp only [aR,N0,N1,N2,N3,N4,N5,Z0,Z1,Z2,Z3,Z4,Z5,Z6,Z7,Z8,Z9,Z10,Zc,↓reduceIte,reduceCtorEq, hrl] <;> ((repeat' apply And.intro) <;> first | rfl | omega | trivial)
    · rw [List.drop_of_length_le (by omega), whyL] at hw
      simp only [aR,N0,N1,N2,N3,N4,N5,Z0,Z1,Z2,Z3,Z4,Z5,Z6,Z7,Z8,Z9,Z10,Zc,↓reduceIte,reduceCtorEq, h, e1, hw]
  · by_cases h5 : xpar = par
    · by_cases h6 : xnm = nm
      · obtain ⟨R, hR⟩ : ∃ R : List Rul, R = [(4, xrm, 12), (2, !xrm, 13), (3, xrm, 12), (3, false, 13), (1, xcr, 13), (1, yrm, 12), (3, yrm, 12)] := ⟨_, rfl⟩
        have e1 : whyI ⟨k, id, par, nm, dir, ops⟩ bys = whyL k R := by rw [e0, hR]; simp [zK, h5, h6]
        have hc : _ = qH R := (congrArg qH hR).symm
        simp only [qH] at hc
        have hlen : R.length = 7 := by rw [hR]; rfl
        simp only [aR,N0,N1,N2,N3,N4,N5,Z0,Z1,Z2,Z3,Z4,Z5,Z6,Z7,Z8,Z9,Z10,Zc,↓reduceIte,reduceCtorEq, oA, List.map_cons, List.map_nil, ofV1, h5, h6]
        rw [hc]
        clear hc hR e0
        have hrl : ∀ fm, renL [0] [] fm (qH R) (qH R) := fun fm => renL_closed _ (kAF R)
        obtain ⟨St, hSt⟩ : ∃ St : { i : Nat // i ≤ 7 ∧ whyL k (R.drop i) = whyL k R } → AS, ∀ i, St i = AS.of 86 [(2, .ptr 0 0), (4, .v (.int .i64 0)), (69, .agg (qH R)), (70, .v (.int .i64 i.1))] [.cells [.v (.int .i64 k), .v (.int .i64 id), .v (.int .i64 par), .v (sv nm), .v (.bool dir), .sl 0 3 (kU ops)]] [] := ⟨_, fun _ => rfl⟩
        refine kX hΓ St (fun i => 7 - i.1) ⟨0, by omega, rfl⟩ (by rw [hSt]; refine kH [0] [] ?_; simp only [aR,N0,N1,N2,N3,N4,N5,Z0,Z1,Z2,Z3,Z4,Z5,Z6,Z7,Z8,Z9,Z10,Zc,↓reduceIte,reduceCtorEq, hrl] <;> ((repeat' apply And.intro) <;> first | rfl | omega | trivial)) ?_
        rintro ⟨i, hi, hw⟩
        rw [hSt]
        simp only
        simp only [aR,N0,N1,N2,N3,N4,N5,Z0,Z1,Z2,Z3,Z4,Z5,Z6,Z7,Z8,Z9,Z10,Zc,↓reduceIte,reduceCtorEq]
        (with_reducible first | refine kC (fun h => ?_) (fun h => ?_) | refine kF (fun h => ?_) (fun h => ?_))
        · have hlt : i < R.length := by omega
          have e2 := kAC R i hlt
          have e3 : i * 3 + 3 ≤ (qH R).length := by rw [jJ, hlen]; omega
          rw [List.drop_eq_getElem_cons hlt] at hw
          generalize R[i] = q at *
          obtain ⟨j, q, e⟩ := q
          simp only [whyL] at hw e2
          simp only [aR,N0,N1,N2,N3,N4,N5,Z0,Z1,Z2,Z3,Z4,Z5,Z6,Z7,Z8,Z9,Z10,Zc,↓reduceIte,reduceCtorEq, h, e2, e3, ofV1, List.map_cons, List.map_nil]
          (repeat (with_reducible refine And.intro ?_ ?_; focus (first | omega | exact kG | kernel_rfl)))
          by_cases h7 : j = k
          · cases q
            · rw [if_neg (by simp)] at hw
              simp only [aR,N0,N1,N2,N3,N4,N5,Z0,Z1,Z2,Z3,Z4,Z5,Z6,Z7,Z8,Z9,Z10,Zc,↓reduceIte,reduceCtorEq, h7, kA (n := (i : Int) + 1) (by omega) (by omega)]
              refine kI ⟨i + 1, by omega, hw⟩ (by simp only; omega) ?_
              rw [hSt]; refine kH [0] [] ?_
              simp only [aR,N0,N1,N2,N3,N4,N5,Z0,Z1,Z2,Z3,Z4,Z5,Z6,Z7,Z8,Z9,Z10,Zc,↓reduceIte,reduceCtorEq, hrl] <;> ((repeat' apply And.intro) <;> first | rfl | omega | trivial)
            · rw [if_pos ⟨h7, rfl⟩] at hw
              simp only [aR,N0,N1,N2,N3,N4,N5,Z0,Z1,Z2,Z3,Z4,Z5,Z6,Z7,Z8,Z9,Z10,Zc,↓reduceIte,reduceCtorEq, h7]
              refine ⟨_, rfl, ?_⟩
              simp only [aR,N0,N1,N2,N3,N4,N5,Z0,Z1,Z2,Z3,Z4,Z5,Z6,Z7,Z8,Z9,Z10,Zc,↓reduceIte,reduceCtorEq, e1, hw]
          · rw [if_neg (fun hh => h7 hh.1)] at hw
            simp only [aR,N0,N1,N2,N3,N4,N5,Z0,Z1,Z2,Z3,Z4,Z5,Z6,Z7,Z8,Z9,Z10,Zc,↓reduceIte,reduceCtorEq, h7, kA (n := (i : Int) + 1) (by omega) (by omega)]
            refine kI ⟨i + 1, by omega, hw⟩ (by simp only; omega) ?_
            rw [hSt]; refine kH [0] [] ?_
            simp only [aR,N0,N1,N2,N3,N4,N5,Z0,Z1,Z2,Z3,Z4,Z5,Z6,Z7,Z8,Z9,Z10,Zc,↓reduceIte,reduceCtorEq, hrl] <;> ((repeat' apply And.intro) <;> first | rfl | omega | trivial)
        · rw [List.drop_of_length_le (by omega), whyL] at hw
          simp only [aR,N0,N1,N2,N3,N4,N5,Z0,Z1,Z2,Z3,Z4,Z5,Z6,Z7,Z8,Z9,Z10,Zc,↓reduceIte,reduceCtorEq, h, e1, hw]
      · obtain ⟨R, hR⟩ : ∃ R : List Rul, R = [(4, xrm, 12), (2, !xrm, 13), (3, xrm, 12), (3, true, 13), (1, xcr, 13), (1, yrm, 12), (3, yrm, 12)] := ⟨_, rfl⟩
        have e1 : whyI ⟨k, id, par, nm, dir, ops⟩ bys = whyL k R := by rw [e0, hR]; simp [zK, h5, h6]
        have hc : _ = qH R := (congrArg qH hR).symm
        simp only [qH] at hc
        have hlen : R.length = 7 := by rw [hR]; rfl
        simp only [aR,N0,N1,N2,N3,N4,N5,Z0,Z1,Z2,Z3,Z4,Z5,Z6,Z7,Z8,Z9,Z10,Zc,↓reduceIte,reduceCtorEq, oA, List.map_cons, List.map_nil, ofV1, h5, h6]
        rw [hc]
        clear hc hR e0
        have hrl : ∀ fm, renL [0] [] fm (qH R) (qH R) := fun fm => renL_closed _ (kAF R)
        obtain ⟨St, hSt⟩ : ∃ St : { i : Nat // i ≤ 7 ∧ whyL k (R.drop i) = whyL k R } → AS, ∀ i, St i = AS.of 86 [(2, .ptr 0 0), (4, .v (.int .i64 0)), (69, .agg (qH R)), (70, .v (.int .i64 i.1))] [.cells [.v (.int .i64 k), .v (.int .i64 id), .v (.int .i64 par), .v (sv nm), .v (.bool dir), .sl 0 3 (kU ops)]] [] := ⟨_, fun _ => rfl⟩
        refine kX hΓ St (fun i => 7 - i.1) ⟨0, by omega, rfl⟩ (by rw [hSt]; refine kH [0] [] ?_; simp only [aR,N0,N1,N2,N3,N4,N5,Z0,Z1,Z2,Z3,Z4,Z5,Z6,Z7,Z8,Z9,Z10,Zc,↓reduceIte,reduceCtorEq, hrl] <;> ((repeat' apply And.intro) <;> first | rfl | omega | trivial)) ?_
        rintro ⟨i, hi, hw⟩
        rw [hSt]
        simp only
        simp only [aR,N0,N1,N2,N3,N4,N5,Z0,Z1,Z2,Z3,Z4,Z5,Z6,Z7,Z8,Z9,Z10,Zc,↓reduceIte,reduceCtorEq]
        (with_reducible first | refine kC (fun h => ?_) (fun h => ?_) | refine kF (fun h => ?_) (fun h => ?_))
        · have hlt : i < R.length := by omega
          have e2 := kAC R i hlt
          have e3 : i * 3 + 3 ≤ (qH R).length := by rw [jJ, hlen]; omega
          rw [List.drop_eq_getElem_cons hlt] at hw
          generalize R[i] = q at *
          obtain ⟨j, q, e⟩ := q
          simp only [whyL] at hw e2
          simp only [aR,N0,N1,N2,N3,N4,N5,Z0,Z1,Z2,Z3,Z4,Z5,Z6,Z7,Z8,Z9,Z10,Zc,↓reduceIte,reduceCtorEq, h, e2, e3, ofV1, List.map_cons, List.map_nil]
          (repeat (with_reducible refine And.intro ?_ ?_; focus (first | omega | exact kG | kernel_rfl)))
          by_cases h7 : j = k
          · cases q
            · rw [if_neg (by simp)] at hw
              simp only [aR,N0,N1,N2,N3,N4,N5,Z0,Z1,Z2,Z3,Z4,Z5,Z6,Z7,Z8,Z9,Z10,Zc,↓reduceIte,reduceCtorEq, h7, kA (n := (i : Int) + 1) (by omega) (by omega)]
              refine kI ⟨i + 1, by omega, hw⟩ (by simp only; omega) ?_
              rw [hSt]; refine kH [0] [] ?_
              simp only [aR,N0,N1,N2,N3,N4,N5,Z0,Z1,Z2,Z3,Z4,Z5,Z6,Z7,Z8,Z9,Z10,Zc,↓reduceIte,reduceCtorEq, hrl] <;> ((repeat' apply And.intro) <;> first | rfl | omega | trivial)
            · rw [if_pos ⟨h7, rfl⟩] at hw
              simp only [aR,N0,N1,N2,N3,N4,N5,Z0,Z1,Z2,Z3,Z4,Z5,Z6,Z7,Z8,Z9,Z10,Zc,↓reduceIte,reduceCtorEq, h7]
              refine ⟨_, rfl, ?_⟩
              simp only [aR,N0,N1,N2,N3,N4,N5,Z0,Z1,Z2,Z3,Z4,Z5,Z6,Z7,Z8,Z9,Z10,Zc,↓reduceIte,reduceCtorEq, e1, hw]
          · rw [if_neg (fun hh => h7 hh.1)] at hw
            simp only [aR,N0,N1,N2,N3,N4,N5,Z0,Z1,Z2,Z3,Z4,Z5,Z6,Z7,Z8,Z9,Z10,Zc,↓reduceIte,reduceCtorEq, h7, kA (n := (i : Int) + 1) (by omega) (by omega)]
            refine kI ⟨i + 1, by omega, hw⟩ (by simp only; omega) ?_
            rw [hSt]; refine kH [0] [] ?_
            simp only [aR,N0,N1,N2,N3,N4,N5,Z0,Z1,Z2,Z3,Z4,Z5,Z6,Z7,Z8,Z9,Z10,Zc,↓reduceIte,reduceCtorEq, hrl] <;> ((repeat' apply And.intro) <;> first | rfl | omega | trivial)
        · rw [List.drop_of_length_le (by omega), whyL] at hw
          simp only [aR,N0,N1,N2,N3,N4,N5,Z0,Z1,Z2,Z3,Z4,Z5,Z6,Z7,Z8,Z9,Z10,Zc,↓reduceIte,reduceCtorEq, h, e1, hw]
    · obtain ⟨R, hR⟩ : ∃ R : List Rul, R = [(4, xrm, 12), (2, !xrm, 13), (3, xrm, 12), (3, true, 13), (1, xcr, 13), (1, yrm, 12), (3, yrm, 12)] := ⟨_, rfl⟩
      have e1 : whyI ⟨k, id, par, nm, dir, ops⟩ bys = whyL k R := by rw [e0, hR]; simp [zK, h5]
      have hc : _ = qH R := (congrArg qH hR).symm
      simp only [qH] at hc
      have hlen : R.length = 7 := by rw [hR]; rfl
      simp only [aR,N0,N1,N2,N3,N4,N5,Z0,Z1,Z2,Z3,Z4,Z5,Z6,Z7,Z8,Z9,Z10,Zc,↓reduceIte,reduceCtorEq, oA, List.map_cons, List.map_nil, ofV1, h5]
      rw [hc]
      clear hc hR e0
      have hrl : ∀ fm, renL [0] [] fm (qH R) (qH R) := fun fm => renL_closed _ (kAF R)
      obtain ⟨St, hSt⟩ : ∃ St : { i : Nat // i ≤ 7 ∧ whyL k (R.drop i) = whyL k R } → AS, ∀ i, St i = AS.of 86 [(2, .ptr 0 0), (4, .v (.int .i64 0)), (69, .agg (qH R)), (70, .v (.int .i64 i.1))] [.cells [.v (.int .i64 k), .v (.int .i64 id), .v (.int .i64 par), .v (sv nm), .v (.bool dir), .sl 0 3 (kU ops)]] [] := ⟨_, fun _ => rfl⟩
      refine kX hΓ St (fun i => 7 - i.1) ⟨0, by omega, rfl⟩ (by rw [hSt]; refine kH [0] [] ?_; simp only [aR,N0,N1,N2,N3,N4,N5,Z0,Z1,Z2,Z3,Z4,Z5,Z6,Z7,Z8,Z9,Z10,Zc,↓reduceIte,reduceCtorEq, hrl] <;> ((repeat' apply And.intro) <;> first | rfl | omega | trivial)) ?_
      rintro ⟨i, hi, hw⟩
      rw [hSt]
      simp only
      simp only [aR,N0,N1,N2,N3,N4,N5,Z0,Z1,Z2,Z3,Z4,Z5,Z6,Z7,Z8,Z9,Z10,Zc,↓reduceIte,reduceCtorEq]
      (with_reducible first | refine kC (fun h => ?_) (fun h => ?_) | refine kF (fun h => ?_) (fun h => ?_))
      · have hlt : i < R.length := by omega
        have e2 := kAC R i hlt
        have e3 : i * 3 + 3 ≤ (qH R).length := by rw [jJ, hlen]; omega
        rw [List.drop_eq_getElem_cons hlt] at hw
        generalize R[i] = q at *
        obtain ⟨j, q, e⟩ := q
        simp only [whyL] at hw e2
        simp only [aR,N0,N1,N2,N3,N4,N5,Z0,Z1,Z2,Z3,Z4,Z5,Z6,Z7,Z8,Z9,Z10,Zc,↓reduceIte,reduceCtorEq, h, e2, e3, ofV1, List.map_cons, List.map_nil]
        (repeat (with_reducible refine And.intro ?_ ?_; focus (first | omega | exact kG | kernel_rfl)))
        by_cases h7 : j = k
        · cases q
          · rw [if_neg (by simp)] at hw
            simp only [aR,N0,N1,N2,N3,N4,N5,Z0,Z1,Z2,Z3,Z4,Z5,Z6,Z7,Z8,Z9,Z10,Zc,↓reduceIte,reduceCtorEq, h7, kA (n := (i : Int) + 1) (by omega) (by omega)]
            refine kI ⟨i + 1, by omega, hw⟩ (by simp only; omega) ?_
            rw [hSt]; refine kH [0] [] ?_
            simp only [aR,N0,N1,N2,N3,N4,N5,Z0,Z1,Z2,Z3,Z4,Z5,Z6,Z7,Z8,Z9,Z10,Zc,↓reduceIte,reduceCtorEq, hrl] <;> ((repeat' apply And.intro) <;> first | rfl | omega | trivial)
          · rw [if_pos ⟨h7, rfl⟩] at hw
            simp only [aR,N0,N1,N2,N3,N4,N5,Z0,Z1,Z2,Z3,Z4,Z5,Z6,Z7,Z8,Z9,Z10,Zc,↓reduceIte,reduceCtorEq, h7]
            refine ⟨_, rfl, ?_⟩
            simp only [aR,N0,N1,N2,N3,N4,N5,Z0,Z1,Z2,Z3,Z4,Z5,Z6,Z7,Z8,Z9,Z10,Zc,↓reduceIte,reduceCtorEq, e1, hw]
        · rw [if_neg (fun hh => h7 hh.1)] at hw
          simp only [aR,N0,N1,N2,N3,N4,N5,Z0,Z1,Z2,Z3,Z4,Z5,Z6,Z7,Z8,Z9,Z10,Zc,↓reduceIte,reduceCtorEq, h7, kA (n := (i : Int) + 1) (by omega) (by omega)]
          refine kI ⟨i + 1, by omega, hw⟩ (by simp only; omega) ?_
          rw [hSt]; refine kH [0] [] ?_
          simp only [aR,N0,N1,N2,N3,N4,N5,Z0,Z1,Z2,Z3,Z4,Z5,Z6,Z7,Z8,Z9,Z10,Zc,↓reduceIte,reduceCtorEq, hrl] <;> ((repeat' apply And.intro) <;> first | rfl | omega | trivial)
      · rw [List.drop_of_length_le (by omega), whyL] at hw
        simp only [aR,N0,N1,N2,N3,N4,N5,Z0,Z1,Z2,Z3,Z4,Z5,Z6,Z7,Z8,Z9,Z10,Zc,↓reduceIte,reduceCtorEq, h, e1, hw]
  · obtain ⟨R, hR⟩ : ∃ R : List Rul, R = [(4, xrm, 12), (2, !xrm, 13), (3, xrm, 12), (3, false, 13), (1, xcr, 13), (1, yrm, 12), (3, yrm, 12)] := ⟨_, rfl⟩
    have e1 : whyI ⟨k, id, par, nm, dir, ops⟩ bys = whyL k R := by rw [e0, hR]; simp [zK]
    have hc : _ = qH R := (congrArg qH hR).symm
    simp only [qH] at hc
    have hlen : R.length = 7 := by rw [hR]; rfl
    simp only [aR,N0,N1,N2,N3,N4,N5,Z0,Z1,Z2,Z3,Z4,Z5,Z6,Z7,Z8,Z9,Z10,Zc,↓reduceIte,reduceCtorEq, oA, List.map_cons, List.map_nil, ofV1]
    rw [hc]
    clear hc hR e0
    have hrl : ∀ fm, renL [0] [] fm (qH R) (qH R) := fun fm => renL_closed _ (kAF R)
    obtain ⟨St, hSt⟩ : ∃ St : { i : Nat // i ≤ 7 ∧ whyL k (R.drop i) = whyL k R } → AS, ∀ i, St i = AS.of 86 [(2, .ptr 0 0), (4, .v (.int .i64 0)), (69, .agg (qH R)), (70, .v (.int .i64 i.1))] [.cells [.v (.int .i64 k), .v (.int .i64 id), .v (.int .i64 par), .v (sv nm), .v (.bool dir), .sl 0 3 (kU ops)]] [] := ⟨_, fun _ => rfl⟩
    refine kX hΓ St (fun i => 7 - i.1) ⟨0, by omega, rfl⟩ (by rw [hSt]; refine kH [0] [] ?_; simp only [aR,N0,N1,N2,N3,N4,N5,Z0,Z1,Z2,Z3,Z4,Z5,Z6,Z7,Z8,Z9,Z10,Zc,↓reduceIte,reduceCtorEq, hrl] <;> ((repeat' apply And.intro) <;> first | rfl | omega | trivial)) ?_
    rintro ⟨i, hi, hw⟩
    rw [hSt]
    simp only
    simp only [aR,N0,N1,N2,N3,N4,N5,Z0,Z1,Z2,Z3,Z4,Z5,Z6,Z7,Z8,Z9,Z10,Zc,↓reduceIte,reduceCtorEq]
    (with_reducible first | refine kC (fun h => ?_) (fun h => ?_) | refine kF (fun h => ?_) (fun h => ?_))
    · have hlt : i < R.length := by omega
      have e2 := kAC R i hlt
      have e3 : i * 3 + 3 ≤ (qH R).length := by rw [jJ, hlen]; omega
      rw [List.drop_eq_getElem_cons hlt] at hw
      generalize R[i] = q at *
      obtain ⟨j, q, e⟩ := q
      simp only [whyL] at hw e2
      simp only [aR,N0,N1,N2,N3,N4,N5,Z0,Z1,Z2,Z3,Z4,Z5,Z6,Z7,Z8,Z9,Z10,Zc,↓reduceIte,reduceCtorEq, h, e2, e3, ofV1, List.map_cons, List.map_nil]
      (repeat (with_reducible refine And.intro ?_ ?_; focus (first | omega | exact kG | kernel_rfl)))
      by_cases h7 : j = k
      · cases q
        · rw [if_neg (by simp)] at hw
          simp only [aR,N0,N1,N2,N3,N4,N5,Z0,Z1,Z2,Z3,Z4,Z5,Z6,Z7,Z8,Z9,Z10,Zc,↓reduceIte,reduceCtorEq, h7, kA (n := (i : Int) + 1) (by omega) (by omega)]
          refine kI ⟨i + 1, by omega, hw⟩ (by simp only; omega) ?_
          rw [hSt]; refine kH [0] [] ?_
          simp only [aR,N0,N1,N2,N3,N4,N5,Z0,Z1,Z2,Z3,Z4,Z5,Z6,Z7,Z8,Z9,Z10,Zc,↓reduceIte,reduceCtorEq, hrl] <;> ((repeat' apply And.intro) <;> first | rfl | omega | trivial)
        · rw [if_pos ⟨h7, rfl⟩] at hw
          simp only [aR,N0,N1,N2,N3,N4,N5,Z0,Z1,Z2,Z3,Z4,Z5,Z6,Z7,Z8,Z9,Z10,Zc,↓reduceIte,reduceCtorEq, h7]
          refine ⟨_, rfl, ?_⟩
          simp only [aR,N0,N1,N2,N3,N4,N5,Z0,Z1,Z2,Z3,Z4,Z5,Z6,Z7,Z8,Z9,Z10,Zc,↓reduceIte,reduceCtorEq, e1, hw]
      · rw [if_neg (fun hh => h7 hh.1)] at hw
        simp only [aR,N0,N1,N2,N3,N4,N5,Z0,Z1,Z2,Z3,Z4,Z5,Z6,Z7,Z8,Z9,Z10,Zc,↓reduceIte,reduceCtorEq, h7, kA (n := (i : Int) + 1) (by omega) (by omega)]
        refine kI ⟨i + 1, by omega, hw⟩ (by simp only; omega) ?_
        rw [hSt]; refine kH [0] [] ?_
        simp only [aR,N0,N1,N2,N3,N4,N5,Z0,Z1,Z2,Z3,Z4,Z5,Z6,Z7,Z8,Z9,Z10,Zc,↓reduceIte,reduceCtorEq, hrl] <;> ((repeat' apply And.intro) <;> first | rfl | omega | trivial)
    · rw [List.drop_of_length_le (by omega), whyL] at hw
      simp only [aR,N0,N1,N2,N3,N4,N5,Z0,Z1,Z2,Z3,Z4,Z5,Z6,Z7,Z8,Z9,Z10,Zc,↓reduceIte,reduceCtorEq, h, e1, hw]
  · by_cases h5 : xpar = par
    · by_cases h6 : xnm = nm
      · obtain ⟨R, hR⟩ : ∃ R : List Rul, R = [(4, xrm, 12), (2, !xrm, 13), (3, xrm, 12), (3, false, 13), (1, xcr, 13), (1, yrm, 12), (3, yrm, 12)] := ⟨_, rfl⟩
        have e1 : whyI ⟨k, id, par, nm, dir, ops⟩ bys = whyL k R := by rw [e0, hR]; simp [zK, h5, h6]
        have hc : _ = qH R := (congrArg qH hR).symm
        simp only [qH] at hc
        have hlen : R.length = 7 := by rw [hR]; rfl
        simp only [aR,N0,N1,N2,N3,N4,N5,Z0,Z1,Z2,Z3,Z4,Z5,Z6,Z7,Z8,Z9,Z10,Zc,↓reduceIte,reduceCtorEq, oA, List.map_cons, List.map_nil, ofV1, h5, h6]
        rw [hc]
        clear hc hR e0
        have hrl : ∀ fm, renL [0] [] fm (qH R) (qH R) := fun fm => renL_closed _ (kAF R)
        obtain ⟨St, hSt⟩ : ∃ St : { i : Nat // i ≤ 7 ∧ whyL k (R.drop i) = whyL k R } → AS, ∀ i, St i = AS.of 86 [(2, .ptr 0 0), (4, .v (.int .i64 0)), (69, .agg (qH R)), (70, .v (.int .i64 i.1))] [.cells [.v (.int .i64 k), .v (.int .i64 id), .v (.int .i64 par), .v (sv nm), .v (.bool dir), .sl 0 3 (kU ops)]] [] := ⟨_, fun _ => rfl⟩
        refine kX hΓ St (fun i => 7 - i.1) ⟨0, by omega, rfl⟩ (by rw [hSt]; refine kH [0] [] ?_; simp only [aR,N0,N1,N2,N3,N4,N5,Z0,Z1,Z2,Z3,Z4,Z5,Z6,Z7,Z8,Z9,Z10,Zc,↓reduceIte,reduceCtorEq, hrl] <;> ((repeat' apply And.intro) <;> first | rfl | omega | trivial)) ?_
        rintro ⟨i, hi, hw⟩
        rw [hSt]
        simp only
        simp only [aR,N0,N1,N2,N3,N4,N5,Z0,Z1,Z2,Z3,Z4,Z5,Z6,Z7,Z8,Z9,Z10,Zc,↓reduceIte,reduceCtorEq]
        (with_reducible first | refine kC (fun h => ?_) (fun h => ?_) | refine kF (fun h => ?_) (fun h => ?_))
        · have hlt : i < R.length := by omega
          have e2 := kAC R i hlt
          have e3 : i * 3 + 3 ≤ (qH R).length := by rw [jJ, hlen]; omega
          rw [List.drop_eq_getElem_cons hlt] at hw
          generalize R[i] = q at *
          obtain ⟨j, q, e⟩ := q
          simp only [whyL] at hw e2
          simp only [aR,N0,N1,N2,N3,N4,N5,Z0,Z1,Z2,Z3,Z4,Z5,Z6,Z7,Z8,Z9,Z10,Zc,↓reduceIte,reduceCtorEq, h, e2, e3, ofV1, List.map_cons, List.map_nil]
          (repeat (with_reducible refine And.intro ?_ ?_; focus (first | omega | exact kG | kernel_rfl)))
          by_cases h7 : j = k
          · cases q
            · rw [if_neg (by simp)] at hw
              simp only [aR,N0,N1,N2,N3,N4,N5,Z0,Z1,Z2,Z3,Z4,Z5,Z6,Z7,Z8,Z9,Z10,Zc,↓reduceIte,reduceCtorEq, h7, kA (n := (i : Int) + 1) (by omega) (by omega)]
              refine kI ⟨i + 1, by omega, hw⟩ (by simp only; omega) ?_
              rw [hSt]; refine kH [0] [] ?_
              simp only [aR,N0,N1,N2,N3,N4,N5,Z0,Z1,Z2,Z3,Z4,Z5,Z6,Z7,Z8,Z9,Z10,Zc,↓reduceIte,reduceCtorEq, hrl] <;> ((repeat' apply And.intro) <;> first | rfl | omega | trivial)
            · rw [if_pos ⟨h7, rfl⟩] at hw
              simp only [aR,N0,N1,N2,N3,N4,N5,Z0,Z1,Z2,Z3,Z4,Z5,Z6,Z7,Z8,Z9,Z10,Zc,↓reduceIte,reduceCtorEq, h7]
              refine ⟨_, rfl, ?_⟩
              simp only [aR,N0,N1,N2,N3,N4,N5,Z0,Z1,Z2,Z3,Z4,Z5,Z6,Z7,Z8,Z9,Z10,Zc,↓reduceIte,reduceCtorEq, e1, hw]
          · rw [if_neg (fun hh => h7 hh.1)] at hw
            simp only [aR,N0,N1,N2,N3,N4,N5,Z0,Z1,Z2,Z3,Z4,Z5,Z6,Z7,Z8,Z9,Z10,Zc,↓reduceIte,reduceCtorEq, h7, kA (n := (i : Int) + 1) (by omega) (by omega)]
            refine kI ⟨i + 1, by omega, hw⟩ (by simp only; omega) ?_
            rw [hSt]; refine kH [0] [] ?_
            simp only [aR,N0,N1,N2,N3,N4,N5,Z0,Z1,Z2,Z3,Z4,Z5,Z6,Z7,Z8,Z9,Z10,Zc,↓reduceIte,reduceCtorEq, hrl] <;> ((repeat' apply And.intro) <;> first | rfl | omega | trivial)
        · rw [List.drop_of_length_le (by omega), whyL] at hw
          simp only [aR,N0,N1,N2,N3,N4,N5,Z0,Z1,Z2,Z3,Z4,Z5,Z6,Z7,Z8,Z9,Z10,Zc,↓reduceIte,reduceCtorEq, h, e1, hw]
      · obtain ⟨R, hR⟩ : ∃ R : List Rul, R = [(4, xrm, 12), (2, !xrm, 13), (3, xrm, 12), (3, true, 13), (1, xcr, 13), (1, yrm, 12), (3, yrm, 12)] := ⟨_, rfl⟩
        have e1 : whyI ⟨k, id, par, nm, dir, ops⟩ bys = whyL k R := by rw [e0, hR]; simp [zK, h5, h6]
        have hc : _ = qH R := (congrArg qH hR).symm
        simp only [qH] at hc
        have hlen : R.length = 7 := by rw [hR]; rfl
        simp only [aR,N0,N1,N2,N3,N4,N5,Z0,Z1,Z2,Z3,Z4,Z5,Z6,Z7,Z8,Z9,Z10,Zc,↓reduceIte,reduceCtorEq, oA, List.map_cons, List.map_nil, ofV1, h5, h6]
        rw [hc]
        clear hc hR e0
        have hrl : ∀ fm, renL [0] [] fm (qH R) (qH R) := fun fm => renL_closed _ (kAF R)
        obtain ⟨St, hSt⟩ : ∃ St : { i : Nat // i ≤ 7 ∧ whyL k (R.drop i) = whyL k R } → AS, ∀ i, St i = AS.of 86 [(2, .ptr 0 0), (4, .v (.int .i64 0)), (69, .agg (qH R)), (70, .v (.int .i64 i.1))] [.cells [.v (.int .i64 k), .v (.int .i64 id), .v (.int .i64 par), .v (sv nm), .v (.bool dir), .sl 0 3 (kU ops)]] [] := ⟨_, fun _ => rfl⟩
        refine kX hΓ St (fun i => 7 - i.1) ⟨0, by omega, rfl⟩ (by rw [hSt]; refine kH [0] [] ?_; simp only [aR,N0,N1,N2,N3,N4,N5,Z0,Z1,Z2,Z3,Z4,Z5,Z6,Z7,Z8,Z9,Z10,Zc,↓reduceIte,reduceCtorEq, hrl] <;> ((repeat' apply And.intro) <;> first | rfl | omega | trivial)) ?_
        rintro ⟨i, hi, hw⟩
        rw [hSt]
        simp only
        simp only [aR,N0,N1,N2,N3,N4,N5,Z0,Z1,Z2,Z3,Z4,Z5,Z6,Z7,Z8,Z9,Z10,Zc,↓reduceIte,reduceCtorEq]
        (with_reducible first | refine kC (fun h => ?_) (fun h => ?_) | refine kF (fun h => ?_) (fun h => ?_))
        · have hlt : i < R.length := by omega
          have e2 := kAC R i hlt
          have e3 : i * 3 + 3 ≤ (qH R).length := by rw [jJ, hlen]; omega
          rw [List.drop_eq_getElem_cons hlt] at hw
          generalize R[i] = q at *
          obtain ⟨j, q, e⟩ := q
          simp only [whyL] at hw e2
          simp only [aR,N0,N1,N2,N3,N4,N5,Z0,Z1,Z2,Z3,Z4,Z5,Z6,Z7,Z8,Z9,Z10,Zc,↓reduceIte,reduceCtorEq, h, e2, e3, ofV1, List.map_cons, List.map_nil]
          (repeat (with_reducible refine And.intro ?_ ?_; focus (first | omega | exact kG | kernel_rfl)))
          by_cases h7 : j = k
          · cases q
            · rw [if_neg (by simp)] at hw
              simp only [aR,N0,N1,N2,N3,N4,N5,Z0,Z1,Z2,Z3,Z4,Z5,Z6,Z7,Z8,Z9,Z10,Zc,↓reduceIte,reduceCtorEq, h7, kA (n := (i : Int) + 1) (by omega) (by omega)]
              refine kI ⟨i + 1, by omega, hw⟩ (by simp only; omega) ?_
              rw [hSt]; refine kH [0] [] ?_
              simp only [aR,N0,N1,N2,N3,N4,N5,Z0,Z1,Z2,Z3,Z4,Z5,Z6,Z7,Z8,Z9,Z10,Zc,↓reduceIte,reduceCtorEq, hrl] <;> ((repeat' apply And.intro) <;> first | rfl | omega | trivial)
            · rw [if_pos ⟨h7, rfl⟩] at hw
              simp only [aR,N0,N1,N2,N3,N4,N5,Z0,Z1,Z2,Z3,Z4,Z5,Z6,Z7,Z8,Z9,Z10,Zc,↓reduceIte,reduceCtorEq, h7]
              refine ⟨_, rfl, ?_⟩
              simp only [aR,N0,N1,N2,N3,N4,N5,Z0,Z1,Z2,Z3,Z4,Z5,Z6,Z7,Z8,Z9,Z10,Zc,↓reduceIte,reduceCtorEq, e1, hw]
          · rw [if_neg (fun hh => h7 hh.1)] at hw
            simp only [aR,N0,N1,N2,N3,N4,N5,Z0,Z1,Z2,Z3,Z4,Z5,Z6,Z7,Z8,Z9,Z10,Zc,↓reduceIte,reduceCtorEq, h7, kA (n := (i : Int) + 1) (by omega) (by omega)]
            refine kI ⟨i + 1, by omega, hw⟩ (by simp only; omega) ?_
            rw [hSt]; refine kH [0] [] ?_
            simp only [aR,N0,N1,N2,N3,N4,N5,Z0,Z1,Z2,Z3,Z4,Z5,Z6,Z7,Z8,Z9,Z10,Zc,↓reduceIte,reduceCtorEq, hrl] <;> ((repeat' apply And.intro) <;> first | rfl | omega | trivial)
        · rw [List.drop_of_length_le (by omega), whyL] at hw
          simp only [aR,N0,N1,N2,N3,N4,N5,Z0,Z1,Z2,Z3,Z4,Z5,Z6,Z7,Z8,Z9,Z10,Zc,↓reduceIte,reduceCtorEq, h, e1, hw]
    · obtain ⟨R, hR⟩ : ∃ R : List Rul, R = [(4, xrm, 12), (2, !xrm, 13), (3, xrm, 12), (3, true, 13), (1, xcr, 13), (1, yrm, 12), (3, yrm, 12)] := ⟨_, rfl⟩
      have e1 : whyI ⟨k, id, par, nm, dir, ops⟩ bys = whyL k R := by rw [e0, hR]; simp [zK, h5]
      have hc : _ = qH R := (congrArg qH hR).symm
      simp only [qH] at hc
      have hlen : R.length = 7 := by rw [hR]; rfl
      simp only [aR,N0,N1,N2,N3,N4,N5,Z0,Z1,Z2,Z3,Z4,Z5,Z6,Z7,Z8,Z9,Z10,Zc,↓reduceIte,reduceCtorEq, oA, List.map_cons, List.map_nil, ofV1, h5]
      rw [hc]
      clear hc hR e0
      have hrl : ∀ fm, renL [0] [] fm (qH R) (qH R) := fun fm => renL_closed _ (kAF R)
      obtain ⟨St, hSt⟩ : ∃ St : { i : Nat // i ≤ 7 ∧ whyL k (R.drop i) = whyL k R } → AS, ∀ i, St i = AS.of 86 [(2, .ptr 0 0), (4, .v (.int .i64 0)), (69, .agg (qH R)), (70, .v (.int .i64 i.1))] [.cells [.v (.int .i64 k), .v (.int .i64 id), .v (.int .i64 par), .v (sv nm), .v (.bool dir), .sl 0 3 (kU ops)]] [] := ⟨_, fun _ => rfl⟩
      refine kX hΓ St (fun i => 7 - i.1) ⟨0, by omega, rfl⟩ (by rw [hSt]; refine kH [0] [] ?_; simp only [aR,N0,N1,N2,N3,N4,N5,Z0,Z1,Z2,Z3,Z4,Z5,Z6,Z7,Z8,Z9,Z10,Zc,↓reduceIte,reduceCtorEq, hrl] <;> ((repeat' apply And.intro) <;> first | rfl | omega | trivial)) ?_
      rintro ⟨i, hi, hw⟩
      rw [hSt]
      simp only
      simp only [aR,N0,N1,N2,N3,N4,N5,Z0,Z1,Z2,Z3,Z4,Z5,Z6,Z7,Z8,Z9,Z10,Zc,↓reduceIte,reduceCtorEq]
      (with_reducible first | refine kC (fun h => ?_) (fun h => ?_) | refine kF (fun h => ?_) (fun h => ?_))
      · have hlt : i < R.length := by omega
        have e2 := kAC R i hlt
        have e3 : i * 3 + 3 ≤ (qH R).length := by rw [jJ, hlen]; omega
        rw [List.drop_eq_getElem_cons hlt] at hw
        generalize R[i] = q at *
        obtain ⟨j, q, e⟩ := q
        simp only [whyL] at hw e2
        simp only [aR,N0,N1,N2,N3,N4,N5,Z0,Z1,Z2,Z3,Z4,Z5,Z6,Z7,Z8,Z9,Z10,Zc,↓reduceIte,reduceCtorEq, h, e2, e3, ofV1, List.map_cons, List.map_nil]
        (repeat (with_reducible refine And.intro ?_ ?_; focus (first | omega | exact kG | kernel_rfl)))
        by_cases h7 : j = k
        · cases q
          · rw [if_neg (by simp)] at hw
            simp only [aR,N0,N1,N2,N3,N4,N5,Z0,Z1,Z2,Z3,Z4,Z5,Z6,Z7,Z8,Z9,Z10,Zc,↓reduceIte,reduceCtorEq, h7, kA (n := (i : Int) + 1) (by omega) (by omega)]
            refine kI ⟨i + 1, by omega, hw⟩ (by simp only; omega) ?_
            rw [hSt]; refine kH [0] [] ?_
            simp only [aR,N0,N1,N2,N3,N4,N5,Z0,Z1,Z2,Z3,Z4,Z5,Z6,Z7,Z8,Z9,Z10,Zc,↓reduceIte,reduceCtorEq, hrl] <;> ((repeat' apply And.intro) <;> first | rfl | omega | trivial)
          · rw [if_pos ⟨h7, rfl⟩] at hw
            simp only [aR,N0,N1,N2,N3,N4,N5,Z0,Z1,Z2,Z3,Z4,Z5,Z6,Z7,Z8,Z9,Z10,Zc,↓reduceIte,reduceCtorEq, h7]
            refine ⟨_, rfl, ?_⟩
            simp only [aR,N0,N1,N2,N3,N4,N5,Z0,Z1,Z2,Z3,Z4,Z5,Z6,Z7,Z8,Z9,Z10,Zc,↓reduceIte,reduceCtorEq, e1, hw]
        · rw [if_neg (fun hh => h7 hh.1)] at hw
          simp only [aR,N0,N1,N2,N3,N4,N5,Z0,Z1,Z2,Z3,Z4,Z5,Z6,Z7,Z8,Z9,Z10,Zc,↓reduceIte,reduceCtorEq, h7, kA (n := (i : Int) + 1) (by omega) (by omega)]
          refine kI ⟨i + 1, by omega, hw⟩ (by simp only; omega) ?_
          rw [hSt]; refine kH [0] [] ?_
          simp only [aR,N0,N1,N2,N3,N4,N5,Z0,Z1,Z2,Z3,Z4,Z5,Z6,Z7,Z8,Z9,Z10,Zc,↓reduceIte,reduceCtorEq, hrl] <;> ((repeat' apply And.intro) <;> first | rfl | omega | trivial)
      · rw [List.drop_of_length_le (by omega), whyL] at hw
        simp only [aR,N0,N1,N2,N3,N4,N5,Z0,Z1,Z2,Z3,Z4,Z5,Z6,Z7,Z8,Z9,Z10,Zc,↓reduceIte,reduceCtorEq, h, e1, hw]
end Go.Proofs
end
-- ZUn5
section
namespace Go.Proofs
open Go Go.Rw
open _root_.Nat renaming reduceAdd → N0, reduceSub → N1, reduceMul → N2, reduceLT → N3, reduceLeDiff → N4, reduceEqDiff → N5
open _root_.Int renaming reduceNeg → Z0, reduceAdd → Z1, reduceSub → Z2, reduceMul → Z3, reduceGT → Z4, reduceGE → Z5, reduceLT → Z6, reduceLE → Z7, reduceEq → Z8, reduceNe → Z9, reduceToNat → Z10, cast_ofNat_Int → Zc
set_option maxRecDepth 100000
theorem call_why {Γ : Env} (hf : Γ.get 28 = some kAN) {σ : AS} {dr : Bool} {a : Ac} {l : List On} {y : AV} {ys : List AV} {d : Option Nat} {K : AS → Prop} (hy : y = aA a) (hz : ys = ones l) (oa : okL a.ops) (hn : a.nm.length ≤ 1099511627776) (hl : l.length ≤ 1099511627776) (ho : ∀ x ∈ l, okL x.ops)
    (hk : cont σ d (.v (.int .i64 (whyI a l))) K) : kR Tryz.prog Γ dr σ 28 [y, .sl 0 8 ys] d K := by
  subst hy hz
  exact kK (C := kAN) (i := (⟨a, oa, hn⟩, ⟨l, hl, ho⟩)) hf rfl rfl rfl (by simp [AV.erL, AV.er, kAd, qD]) (fun _ h => h) rfl hk
abbrev eownCon : Con where
  ι := Ons
  args := fun l => [.sl 0 8 (ones l.1)]
  post := fun l r => r = .sl 0 8 (ones l.1)
theorem over_nil (l : List On) : (l.map fun z => j8 z []) = l := (List.map_congr_left fun _ _ => rfl).trans (List.map_id' l)
theorem eown_good : Rw.Good Tryz.prog 43 eownCon := by
  have hΓ : kL Tryz.prog [(42, kAD)] := (kE kFU kJ)
  refine kS (nn := 5) hΓ Tryz.func43 (by kernel_rfl) rfl (show Tryz.f43.results.toList = [.tmp 2] from rfl) (fun _ => rfl) (fun x => by simp [AV.erL, AV.er, qD]) ?_
  rintro ⟨l, hl, ho⟩
  simp only [aR,N0,N1,N2,N3,N4,N5,Z0,Z1,Z2,Z3,Z4,Z5,Z6,Z7,Z8,Z9,Z10,Zc,↓reduceIte,reduceCtorEq]
  refine qK (C := kAD) (i := (⟨l, hl, ho⟩, ⟨[], by simp, by simp⟩)) (r := .sl 0 8 (ones l)) (by simp [kB]) rfl rfl (by simp [AV.erL, AV.er, qD, acts]) rfl (fun r h => by simp only [over_nil] at h; exact h) ?_
  simp only [aR,N0,N1,N2,N3,N4,N5,Z0,Z1,Z2,Z3,Z4,Z5,Z6,Z7,Z8,Z9,Z10,Zc,↓reduceIte,reduceCtorEq]
theorem kC0 {Γ : Env} (hf : Γ.get 43 = some eownCon) {σ : AS} {dr : Bool} {l : List On} {ys : List AV} {d : Option Nat} {K : AS → Prop} (hy : ys = ones l) (hl : l.length ≤ 1099511627776) (ho : ∀ x ∈ l, okL x.ops)
    (hk : cont σ d (.sl 0 8 (ones l)) K) : kR Tryz.prog Γ dr σ 43 [.sl 0 8 ys] d K := by
  subst hy
  exact qK (C := eownCon) (i := ⟨l, hl, ho⟩) (r := .sl 0 8 (ones l)) hf rfl rfl (by simp [AV.erL, AV.er, qD]) rfl (fun _ h => h) hk
def kAJ (a : Ac) (x : On) : Ac × Int := if x.ed = false ∨ x.ops = [] then (a, 0) else if ovE a.ops x.ops = 0 then (⟨a.k, a.id, a.par, a.nm, a.dir, ovN false a.ops x.ops⟩, 0) else (⟨a.k, a.id, a.par, a.nm, a.dir, []⟩, ovE a.ops x.ops)
theorem kDI : okL ([] : List Cp) := ⟨by decide, by decide, fun c hc => by cases hc⟩
theorem editL_ok {a : Ac} {x : On} (oa : okL a.ops) (ox : okL x.ops) : okL (kAJ a x).1.ops ∧ (kAJ a x).1.nm = a.nm := by
  unfold kAJ
  split
  · exact ⟨oa, rfl⟩
  · split
    · rename_i h
      exact ⟨(ov_facts false h oa ox).2.2.2, rfl⟩
    · exact ⟨kDI, rfl⟩
abbrev editCon : Con where
  ι := AcS × { x : On // okL x.ops }
  args := fun p => [aA p.1.1, oA p.2.1]
  post := fun p r => r = .tup [aA (kAJ p.1.1 p.2.1).1, .v (.int .i64 (kAJ p.1.1 p.2.1).2)]
theorem edit_good : Rw.Good Tryz.prog 41 editCon := by
  have hΓ : kL Tryz.prog [(69, kAG), (70, kBQ)] := (kE kA9 (kE over_good kJ))
  refine kS (nn := 34) hΓ Tryz.func41 (by kernel_rfl) rfl (show Tryz.f41.results.toList = [.cell 4 46, .tmp 5] from rfl) (fun _ => rfl) (fun x => by simp [AV.erL, kAd, oA_er]) ?_
  rintro ⟨⟨a, oa⟩, ⟨x, ox⟩⟩
  obtain ⟨k, id, par, nm, dir, ops⟩ := a
  obtain ⟨xid, xops, xed, xrm, xcr, xmv, xpar, xnm⟩ := x
  simp only at oa ox
  simp only [aR,N0,N1,N2,N3,N4,N5,Z0,Z1,Z2,Z3,Z4,Z5,Z6,Z7,Z8,Z9,Z10,Zc,↓reduceIte,reduceCtorEq, aA, oA, List.map_cons, List.map_nil]
  refine kA7 (by simp [kB]) rfl oa ?_
  cases xed
  · simp only [aR,N0,N1,N2,N3,N4,N5,Z0,Z1,Z2,Z3,Z4,Z5,Z6,Z7,Z8,Z9,Z10,Zc,↓reduceIte,reduceCtorEq, kAJ]
  by_cases h1 : xops = []
  · simp only [aR,N0,N1,N2,N3,N4,N5,Z0,Z1,Z2,Z3,Z4,Z5,Z6,Z7,Z8,Z9,Z10,Zc,↓reduceIte,reduceCtorEq, h1, qM, List.length_nil, kAJ]
  have h2 : ((xops.length : Int) = 0) = False := eq_false (by have := List.length_pos_iff.2 h1; omega)
  simp only [aR,N0,N1,N2,N3,N4,N5,Z0,Z1,Z2,Z3,Z4,Z5,Z6,Z7,Z8,Z9,Z10,Zc,↓reduceIte,reduceCtorEq, h2, kD, kAJ]
  refine kC9 (by simp [kB]) rfl rfl oa ox ?_
  by_cases he : ovE ops xops = 0
  · rw [kDo he]
    simp only [aR,N0,N1,N2,N3,N4,N5,Z0,Z1,Z2,Z3,Z4,Z5,Z6,Z7,Z8,Z9,Z10,Zc,↓reduceIte,reduceCtorEq, res2, h1, he]
  · rw [ovR_err he]
    simp only [aR,N0,N1,N2,N3,N4,N5,Z0,Z1,Z2,Z3,Z4,Z5,Z6,Z7,Z8,Z9,Z10,Zc,↓reduceIte,reduceCtorEq, res2, h1, he, qM]
theorem call_edit {Γ : Env} (hf : Γ.get 41 = some editCon) {σ : AS} {dr : Bool} {a : Ac} {x : On} {y z : AV} {d : Option Nat} {K : AS → Prop} (hy : y = aA a) (hz : z = oA x) (oa : okL a.ops) (ox : okL x.ops)
    (hk : cont σ d (.tup [aA (kAJ a x).1, .v (.int .i64 (kAJ a x).2)]) K) : kR Tryz.prog Γ dr σ 41 [y, z] d K := by
  subst hy hz
  exact qK (C := editCon) (i := (⟨a, oa⟩, ⟨x, ox⟩)) (r := .tup [aA (kAJ a x).1, .v (.int .i64 (kAJ a x).2)]) hf rfl rfl (by simp [AV.erL, kAd, oA_er]) rfl (fun _ h => h) (by simp only [AV.er, AV.erL, kAd]; exact hk)
end Go.Proofs
end
-- ZUn6
section
namespace Go.Proofs
open Go Go.Rw
open _root_.Nat renaming reduceAdd → N0, reduceSub → N1, reduceMul → N2, reduceLT → N3, reduceLeDiff → N4, reduceEqDiff → N5
open _root_.Int renaming reduceNeg → Z0, reduceAdd → Z1, reduceSub → Z2, reduceMul → Z3, reduceGT → Z4, reduceGE → Z5, reduceLT → Z6, reduceLE → Z7, reduceEq → Z8, reduceNe → Z9, reduceToNat → Z10, cast_ofNat_Int → Zc
set_option maxRecDepth 100000
def kBN (a : Ac) (x : On) : Bool := (decide (a.k = 2) && x.rm) || (decide (a.k = 3) && x.mv)
def rebF (bys : List On) : List Ac → List Ac → List Ac × Int
  | out, [] => (out, 0)
  | out, a :: r => if whyI a bys ≠ 0 then (out, whyI a bys)
    else if kBN a (getO a.id bys) = true then rebF bys out r
    else if a.k = 4 then (if (kAJ a (getO a.id bys)).2 ≠ 0 then (out, (kAJ a (getO a.id bys)).2) else rebF bys (out ++ [(kAJ a (getO a.id bys)).1]) r)
    else rebF bys (out ++ [a]) r
structure Reb where
  out : List Ac
  left : List On
  e : Int
  deriving DecidableEq
def rebR (l : List Ac) (bys : List On) : Reb :=
  if txnE l ≠ 0 then ⟨[], bys, txnE l⟩ else if (rebF bys [] l).2 ≠ 0 then ⟨[], bys, (rebF bys [] l).2⟩
  else if txnE (rebF bys [] l).1 ≠ 0 then ⟨[], bys, txnE (rebF bys [] l).1⟩ else ⟨(rebF bys [] l).1, bys.map fun z => j8 z l, 0⟩
theorem getO_ok {l : List On} (ho : ∀ x ∈ l, okL x.ops) (id : Int) : okL (getO id l).ops := by
  unfold getO
  rw [List.getD_eq_getElem?_getD]
  cases h : l[fnd id l]? with
  | none => exact kDI
  | some x => exact ho x (List.mem_of_getElem? h)
theorem kEl {bys : List On} (hb : ∀ x ∈ bys, okL x.ops) : ∀ (l out : List Ac), (∀ a ∈ l, okA a) → (∀ a ∈ out, okA a) → (∀ a ∈ (rebF bys out l).1, okA a) ∧ (rebF bys out l).1.length ≤ out.length + l.length
  | [], out, _, ho => ⟨ho, by simp [rebF]⟩
  | a :: r, out, hl, ho => by
    have ha := hl a (List.mem_cons_self ..)
    have hr := fun b hb => hl b (List.mem_cons_of_mem _ hb)
    have more : ∀ b : Ac, okA b → (∀ a ∈ (rebF bys (out ++ [b]) r).1, okA a) ∧ (rebF bys (out ++ [b]) r).1.length ≤ out.length + (a :: r).length := fun b hb2 => by
      obtain ⟨h1, h2⟩ := kEl hb r (out ++ [b]) hr fun c hc => by
        rcases List.mem_append.1 hc with hc | hc
        · exact ho c hc
        · rw [List.mem_singleton.1 hc]; exact hb2
      refine ⟨h1, ?_⟩
      simp only [List.length_append, List.length_cons, List.length_nil] at h2 ⊢
      omega
    rw [rebF]
    split
    · exact ⟨ho, by simp⟩
    · split
      · obtain ⟨h1, h2⟩ := kEl hb r out hr ho
        refine ⟨h1, ?_⟩
        simp only [List.length_cons]; omega
      · split
        · split
          · exact ⟨ho, by simp⟩
          · obtain ⟨g1, g2⟩ := editL_ok (a := a) ha.1 (getO_ok hb a.id)
            exact more _ ⟨g1, by rw [g2]; exact ha.2⟩
        · exact more a ha
abbrev qY : Con where
  ι := ActsN × Ons
  args := fun p => [.sl 0 6 (acts p.1.1), .sl 0 8 (ones p.2.1)]
  post := fun p r => r = .tup [.sl 0 6 (acts (rebR p.1.1 p.2.1).out), .sl 0 8 (ones (rebR p.1.1 p.2.1).left), .v (.int .i64 (rebR p.1.1 p.2.1).e)]
theorem kEN {Γ : Env} (hf : Γ.get 39 = some jZ) {n : Nat} {t : Nat → AV} {hd : Nat → Nat → AV} {nh nl : Nat} {h : Nat → Option AO} {fm : Nat → Nat} {lv : Nat → Option (Nat × Nat)} {mu : Bool} {l : List Ac} {t1 : Nat} {ys : List AV} {d : Option Nat} {K : AS → Prop} (hy : ys = acts l) (hl : l.length ≤ 1000000) (ho : ∀ a ∈ l, okA a)
    (hk : cont ⟨n, t, hd, ⟨nh, h, nl, fm, lv, mu⟩⟩ d (.v (.int .i64 (txnE l))) K) : kR Tryz.prog Γ false ⟨n, t, hd, ⟨nh, h, nl, fm, lv, mu⟩⟩ 39 [.sl t1 6 ys] d K := by
  subst hy
  exact kK (C := jZ) (i := ⟨l, hl, ho⟩) hf rfl rfl rfl (by simp [AV.erL, AV.er, qF]) (fun _ h => h) rfl hk
set_option maxHeartbeats 4000000 in
theorem kBF : Rw.Good Tryz.prog 14 qY := by
  have hΓ : kL Tryz.prog [(39, jZ), (40, getCon), (28, kAN), (41, editCon), (42, kAD), (43, eownCon)] := (kE tcheck_good (kE get_good (kE why_good (kE edit_good (kE kFU (kE eown_good kJ))))))
  refine kS (nn := 80) hΓ Tryz.func14 (by kernel_rfl) rfl (show Tryz.f14.results.toList = [.tmp 4, .tmp 5, .tmp 6] from rfl) (fun _ => rfl) (fun x => by simp [AV.erL, AV.er, qF, qD]) ?_
  rintro ⟨⟨l, hl, ho⟩, ⟨bys, hb, hbo⟩⟩
  simp only [aR,N0,N1,N2,N3,N4,N5,Z0,Z1,Z2,Z3,Z4,Z5,Z6,Z7,Z8,Z9,Z10,Zc,↓reduceIte,reduceCtorEq]
  refine vc_scope hΓ 1 ?_
  simp only [aR,N0,N1,N2,N3,N4,N5,Z0,Z1,Z2,Z3,Z4,Z5,Z6,Z7,Z8,Z9,Z10,Zc,↓reduceIte,reduceCtorEq]
  refine kEN (by simp [kB]) rfl hl ho ?_
  by_cases h1 : txnE l = 0
  case neg =>
    have e0 : rebR l bys = ⟨[], bys, txnE l⟩ := by rw [rebR, if_pos h1]
    simp only [aR,N0,N1,N2,N3,N4,N5,Z0,Z1,Z2,Z3,Z4,Z5,Z6,Z7,Z8,Z9,Z10,Zc,↓reduceIte,reduceCtorEq, h1]
    refine ⟨_, rfl, ?_⟩
    simp only [aR,N0,N1,N2,N3,N4,N5,Z0,Z1,Z2,Z3,Z4,Z5,Z6,Z7,Z8,Z9,Z10,Zc,↓reduceIte,reduceCtorEq]
    refine kC0 (by simp [kB]) rfl hb hbo ?_
    simp only [aR,N0,N1,N2,N3,N4,N5,Z0,Z1,Z2,Z3,Z4,Z5,Z6,Z7,Z8,Z9,Z10,Zc,↓reduceIte,reduceCtorEq, e0]
    rfl
  have e0 : rebR l bys = if (rebF bys [] l).2 ≠ 0 then ⟨[], bys, (rebF bys [] l).2⟩
    else if txnE (rebF bys [] l).1 ≠ 0 then ⟨[], bys, txnE (rebF bys [] l).1⟩ else ⟨(rebF bys [] l).1, bys.map fun z => j8 z l, 0⟩ := by rw [rebR, if_neg (by simpa using h1)]
  obtain ⟨hro, hrl⟩ := kEl hbo l [] ho (by simp)
  simp only [aR,N0,N1,N2,N3,N4,N5,Z0,Z1,Z2,Z3,Z4,Z5,Z6,Z7,Z8,Z9,Z10,Zc,↓reduceIte,reduceCtorEq, h1, kM]
  obtain ⟨St, hSt⟩ : ∃ St : { p : List Ac × Nat // p.2 ≤ l.length ∧ p.1.length ≤ p.2 ∧ rebF bys p.1 (l.drop p.2) = rebF bys [] l } → AS, ∀ p, St p = AS.of 80 [(0, .sl 0 6 (acts l)), (1, .sl 0 8 (ones bys)), (4, .sl 2 6 (acts p.1.1)), (6, .v (.int .i64 0)), (15, .sl 0 6 (acts l)), (16, .v (.int .i64 l.length)), (17, .v (.int .i64 p.1.2))] [] [(p.1.1.length, 46)] := ⟨_, fun _ => rfl⟩
  refine kX hΓ St (fun p => l.length - p.1.2) ⟨([], 0), by simp, by simp, rfl⟩ (by rw [hSt]; refine kH [] [.nil 6] ?_; simp only [aR,N0,N1,N2,N3,N4,N5,Z0,Z1,Z2,Z3,Z4,Z5,Z6,Z7,Z8,Z9,Z10,Zc,↓reduceIte,reduceCtorEq, acts, List.map_nil] <;> ((repeat' apply And.intro) <;> first | rfl | omega | trivial)) ?_
  rintro ⟨⟨out, i⟩, hi, hoi, hr⟩
  simp only at hi hoi hr
  rw [hSt]
  simp only
  simp only [aR,N0,N1,N2,N3,N4,N5,Z0,Z1,Z2,Z3,Z4,Z5,Z6,Z7,Z8,Z9,Z10,Zc,↓reduceIte,reduceCtorEq, kM]
  (with_reducible first | refine kC (fun h => ?_) (fun h => ?_) | refine kF (fun h => ?_) (fun h => ?_))
  · have hlt : i < l.length := by omega
    have e1 := qV l hlt
    have ha := ho _ (List.getElem_mem hlt)
    rw [List.drop_eq_getElem_cons hlt, rebF] at hr
    generalize l[i] = a at *
    obtain ⟨k, id, par, nm, dir, ops⟩ := a
    obtain ⟨oa, hn⟩ := ha
    simp only at oa hn hr
    have ox := getO_ok hbo id
    simp only [aR,N0,N1,N2,N3,N4,N5,Z0,Z1,Z2,Z3,Z4,Z5,Z6,Z7,Z8,Z9,Z10,Zc,↓reduceIte,reduceCtorEq, h, e1, aA, kM]
    (repeat (with_reducible refine And.intro ?_ ?_; focus (first | omega | exact kG | kernel_rfl)))
    refine call_get (by simp [kB]) rfl hb hbo ?_
    generalize hx : getO id bys = x at *
    obtain ⟨xid, xops, xed, xrm, xcr, xmv, xpar, xnm⟩ := x
    simp only at ox
    simp only [aR,N0,N1,N2,N3,N4,N5,Z0,Z1,Z2,Z3,Z4,Z5,Z6,Z7,Z8,Z9,Z10,Zc,↓reduceIte,reduceCtorEq, oA, List.map_cons, List.map_nil]
    refine call_why (by simp [kB]) (a := ⟨k, id, par, nm, dir, ops⟩) rfl rfl oa hn hb hbo ?_
    by_cases h2 : whyI ⟨k, id, par, nm, dir, ops⟩ bys = 0
    case neg =>
      rw [if_pos h2] at hr
      rw [← hr, if_pos h2] at e0
      simp only [aR,N0,N1,N2,N3,N4,N5,Z0,Z1,Z2,Z3,Z4,Z5,Z6,Z7,Z8,Z9,Z10,Zc,↓reduceIte,reduceCtorEq, h2]
      refine ⟨_, rfl, ?_⟩
      simp only [aR,N0,N1,N2,N3,N4,N5,Z0,Z1,Z2,Z3,Z4,Z5,Z6,Z7,Z8,Z9,Z10,Zc,↓reduceIte,reduceCtorEq]
      refine kC0 (by simp [kB]) rfl hb hbo ?_
      simp only [aR,N0,N1,N2,N3,N4,N5,Z0,Z1,Z2,Z3,Z4,Z5,Z6,Z7,Z8,Z9,Z10,Zc,↓reduceIte,reduceCtorEq, e0]
      rfl
    rw [if_neg (by simpa using h2)] at hr
    simp only [aR,N0,N1,N2,N3,N4,N5,Z0,Z1,Z2,Z3,Z4,Z5,Z6,Z7,Z8,Z9,Z10,Zc,↓reduceIte,reduceCtorEq, h2]
    by_cases h3 : k = 2
    · subst h3
      cases xrm
      · rw [if_neg (by simp [kBN]), if_neg (by omega)] at hr
        simp only [aR,N0,N1,N2,N3,N4,N5,Z0,Z1,Z2,Z3,Z4,Z5,Z6,Z7,Z8,Z9,Z10,Zc,↓reduceIte,reduceCtorEq, kM, List.map_cons, List.map_nil]
        (repeat (with_reducible refine And.intro ?_ ?_; focus (first | omega | exact kG | kernel_rfl)))
        simp only [aR,N0,N1,N2,N3,N4,N5,Z0,Z1,Z2,Z3,Z4,Z5,Z6,Z7,Z8,Z9,Z10,Zc,↓reduceIte,reduceCtorEq, kA (n := (i : Int) + 1) (by omega) (by omega)]
        refine kI ⟨(out ++ [⟨2, id, par, nm, dir, ops⟩], i + 1), by simp only; omega, by simp only [List.length_append, List.length_cons, List.length_nil]; omega, hr⟩ (by simp only; omega) ?_
        rw [hSt]; refine kH [] [.live 2] ?_
        simp only [aR,N0,N1,N2,N3,N4,N5,Z0,Z1,Z2,Z3,Z4,Z5,Z6,Z7,Z8,Z9,Z10,Zc,↓reduceIte,reduceCtorEq, acts, aA, List.map_append, List.map_cons, List.map_nil, List.length_append, List.length_cons, List.length_nil, List.length_map] <;> ((repeat' apply And.intro) <;> first | rfl | omega | trivial)
      · rw [if_pos (by simp [kBN])] at hr
        simp only [aR,N0,N1,N2,N3,N4,N5,Z0,Z1,Z2,Z3,Z4,Z5,Z6,Z7,Z8,Z9,Z10,Zc,↓reduceIte,reduceCtorEq, kA (n := (i : Int) + 1) (by omega) (by omega)]
        refine kI ⟨(out, i + 1), by simp only; omega, by simp only; omega, hr⟩ (by simp only; omega) ?_
        rw [hSt]; refine kH [] [.live 2] ?_
        simp only [aR,N0,N1,N2,N3,N4,N5,Z0,Z1,Z2,Z3,Z4,Z5,Z6,Z7,Z8,Z9,Z10,Zc,↓reduceIte,reduceCtorEq] <;> ((repeat' apply And.intro) <;> first | rfl | omega | trivial)
    by_cases h4 : k = 3
    · subst h4
      cases xmv
      · rw [if_neg (by simp [kBN]), if_neg (by omega)] at hr
        simp only [aR,N0,N1,N2,N3,N4,N5,Z0,Z1,Z2,Z3,Z4,Z5,Z6,Z7,Z8,Z9,Z10,Zc,↓reduceIte,reduceCtorEq, kM, List.map_cons, List.map_nil]
        (repeat (with_reducible refine And.intro ?_ ?_; focus (first | omega | exact kG | kernel_rfl)))
        simp only [aR,N0,N1,N2,N3,N4,N5,Z0,Z1,Z2,Z3,Z4,Z5,Z6,Z7,Z8,Z9,Z10,Zc,↓reduceIte,reduceCtorEq, kA (n := (i : Int) + 1) (by omega) (by omega)]
        refine kI ⟨(out ++ [⟨3, id, par, nm, dir, ops⟩], i + 1), by simp only; omega, by simp only [List.length_append, List.length_cons, List.length_nil]; omega, hr⟩ (by simp only; omega) ?_
        rw [hSt]; refine kH [] [.live 2] ?_
        simp only [aR,N0,N1,N2,N3,N4,N5,Z0,Z1,Z2,Z3,Z4,Z5,Z6,Z7,Z8,Z9,Z10,Zc,↓reduceIte,reduceCtorEq, acts, aA, List.map_append, List.map_cons, List.map_nil, List.length_append, List.length_cons, List.length_nil, List.length_map] <;> ((repeat' apply And.intro) <;> first | rfl | omega | trivial)
      · rw [if_pos (by simp [kBN])] at hr
        simp only [aR,N0,N1,N2,N3,N4,N5,Z0,Z1,Z2,Z3,Z4,Z5,Z6,Z7,Z8,Z9,Z10,Zc,↓reduceIte,reduceCtorEq, kA (n := (i : Int) + 1) (by omega) (by omega)]
        refine kI ⟨(out, i + 1), by simp only; omega, by simp only; omega, hr⟩ (by simp only; omega) ?_
        rw [hSt]; refine kH [] [.live 2] ?_
        simp only [aR,N0,N1,N2,N3,N4,N5,Z0,Z1,Z2,Z3,Z4,Z5,Z6,Z7,Z8,Z9,Z10,Zc,↓reduceIte,reduceCtorEq] <;> ((repeat' apply And.intro) <;> first | rfl | omega | trivial)
    by_cases h5 : k = 4
    · subst h5
      rw [if_neg (by simp [kBN]), if_pos rfl] at hr
      obtain ⟨g1, g2⟩ := editL_ok (a := ⟨4, id, par, nm, dir, ops⟩) (x := ⟨xid, xops, xed, xrm, xcr, xmv, xpar, xnm⟩) oa ox
      simp only [aR,N0,N1,N2,N3,N4,N5,Z0,Z1,Z2,Z3,Z4,Z5,Z6,Z7,Z8,Z9,Z10,Zc,↓reduceIte,reduceCtorEq, kM, List.map_cons, List.map_nil]
      refine call_edit (by simp [kB]) (a := ⟨4, id, par, nm, dir, ops⟩) (x := ⟨xid, xops, xed, xrm, xcr, xmv, xpar, xnm⟩) rfl rfl oa ox ?_
      generalize hq : kAJ ⟨4, id, par, nm, dir, ops⟩ ⟨xid, xops, xed, xrm, xcr, xmv, xpar, xnm⟩ = q at *
      obtain ⟨⟨bk, bid, bpar, bnm, bdir, bops⟩, be⟩ := q
      simp only at g1 g2 hr
      by_cases h6 : be = 0
      case neg =>
        rw [if_pos h6] at hr
        rw [← hr, if_pos h6] at e0
        simp only [aR,N0,N1,N2,N3,N4,N5,Z0,Z1,Z2,Z3,Z4,Z5,Z6,Z7,Z8,Z9,Z10,Zc,↓reduceIte,reduceCtorEq, h6, aA]
        refine ⟨_, rfl, ?_⟩
        simp only [aR,N0,N1,N2,N3,N4,N5,Z0,Z1,Z2,Z3,Z4,Z5,Z6,Z7,Z8,Z9,Z10,Zc,↓reduceIte,reduceCtorEq]
        refine kC0 (by simp [kB]) rfl hb hbo ?_
        simp only [aR,N0,N1,N2,N3,N4,N5,Z0,Z1,Z2,Z3,Z4,Z5,Z6,Z7,Z8,Z9,Z10,Zc,↓reduceIte,reduceCtorEq, e0]
        rfl
      rw [if_neg (by simpa using h6)] at hr
      simp only [aR,N0,N1,N2,N3,N4,N5,Z0,Z1,Z2,Z3,Z4,Z5,Z6,Z7,Z8,Z9,Z10,Zc,↓reduceIte,reduceCtorEq, h6, aA, kM, List.map_cons, List.map_nil]
      (repeat (with_reducible refine And.intro ?_ ?_; focus (first | omega | exact kG | kernel_rfl)))
      simp only [aR,N0,N1,N2,N3,N4,N5,Z0,Z1,Z2,Z3,Z4,Z5,Z6,Z7,Z8,Z9,Z10,Zc,↓reduceIte,reduceCtorEq, kA (n := (i : Int) + 1) (by omega) (by omega)]
      refine kI ⟨(out ++ [⟨bk, bid, bpar, bnm, bdir, bops⟩], i + 1), by simp only; omega, by simp only [List.length_append, List.length_cons, List.length_nil]; omega, hr⟩ (by simp only; omega) ?_
      rw [hSt]; refine kH [] [.live 2] ?_
      simp only [aR,N0,N1,N2,N3,N4,N5,Z0,Z1,Z2,Z3,Z4,Z5,Z6,Z7,Z8,Z9,Z10,Zc,↓reduceIte,reduceCtorEq, acts, aA, List.map_append, List.map_cons, List.map_nil, List.length_append, List.length_cons, List.length_nil, List.length_map] <;> ((repeat' apply And.intro) <;> first | rfl | omega | trivial)
    · rw [if_neg (by simp [kBN, h3, h4]), if_neg (h5)] at hr
      simp only [aR,N0,N1,N2,N3,N4,N5,Z0,Z1,Z2,Z3,Z4,Z5,Z6,Z7,Z8,Z9,Z10,Zc,↓reduceIte,reduceCtorEq, h3, h4, h5, kM, List.map_cons, List.map_nil]
      (repeat (with_reducible refine And.intro ?_ ?_; focus (first | omega | exact kG | kernel_rfl)))
      simp only [aR,N0,N1,N2,N3,N4,N5,Z0,Z1,Z2,Z3,Z4,Z5,Z6,Z7,Z8,Z9,Z10,Zc,↓reduceIte,reduceCtorEq, kA (n := (i : Int) + 1) (by omega) (by omega)]
      refine kI ⟨(out ++ [⟨k, id, par, nm, dir, ops⟩], i + 1), by simp only; omega, by simp only [List.length_append, List.length_cons, List.length_nil]; omega, hr⟩ (by simp only; omega) ?_
      rw [hSt]; refine kH [] [.live 2] ?_
      simp only [aR,N0,N1,N2,N3,N4,N5,Z0,Z1,Z2,Z3,Z4,Z5,Z6,Z7,Z8,Z9,Z10,Zc,↓reduceIte,reduceCtorEq, acts, aA, List.map_append, List.map_cons, List.map_nil, List.length_append, List.length_cons, List.length_nil, List.length_map] <;> ((repeat' apply And.intro) <;> first | rfl | omega | trivial)
  · rw [List.drop_of_length_le (by omega), rebF] at hr
    rw [← hr] at hro hrl e0
    simp only at hro e0
    rw [if_neg (by simp)] at e0
    simp only [aR,N0,N1,N2,N3,N4,N5,Z0,Z1,Z2,Z3,Z4,Z5,Z6,Z7,Z8,Z9,Z10,Zc,↓reduceIte,reduceCtorEq, h]
    refine kEN (by simp [kB]) rfl (by omega) hro ?_
    by_cases h3 : txnE out = 0
    case neg =>
      rw [if_pos h3] at e0
      simp only [aR,N0,N1,N2,N3,N4,N5,Z0,Z1,Z2,Z3,Z4,Z5,Z6,Z7,Z8,Z9,Z10,Zc,↓reduceIte,reduceCtorEq, h3]
      refine ⟨_, rfl, ?_⟩
      simp only [aR,N0,N1,N2,N3,N4,N5,Z0,Z1,Z2,Z3,Z4,Z5,Z6,Z7,Z8,Z9,Z10,Zc,↓reduceIte,reduceCtorEq]
      refine kC0 (by simp [kB]) rfl hb hbo ?_
      simp only [aR,N0,N1,N2,N3,N4,N5,Z0,Z1,Z2,Z3,Z4,Z5,Z6,Z7,Z8,Z9,Z10,Zc,↓reduceIte,reduceCtorEq, e0]
      rfl
    rw [if_neg (by simpa using h3)] at e0
    simp only [aR,N0,N1,N2,N3,N4,N5,Z0,Z1,Z2,Z3,Z4,Z5,Z6,Z7,Z8,Z9,Z10,Zc,↓reduceIte,reduceCtorEq, h3]
    refine call_eover0 (by simp [kB]) rfl rfl hb hbo (by omega) (fun a ha => (ho a ha).1) ?_
    simp only [aR,N0,N1,N2,N3,N4,N5,Z0,Z1,Z2,Z3,Z4,Z5,Z6,Z7,Z8,Z9,Z10,Zc,↓reduceIte,reduceCtorEq, e0]
end Go.Proofs
end
