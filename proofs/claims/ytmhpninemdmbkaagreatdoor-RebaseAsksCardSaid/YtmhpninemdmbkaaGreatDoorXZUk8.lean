/-
  Two transactions with nothing in common. Plain. law16: small, made, flat. The document's Why. The document's OverOnes. The document's Over.
-/
import Derived.Test.YtmhpninemdmbkaaGreatDoorXZUk2
import Derived.Test.YtmhpninemdmbkaaGreatDoorXZUn4
import Derived.Test.YtmhpninemdmbkaaGreatDoorXZUe11
import Derived.Test.YtmhpninemdmbkaaGreatDoorXZUe7
import Derived.Test.YtmhpninemdmbkaaGreatDoorXZAx1
set_option linter.unusedSimpArgs false
set_option linter.unusedVariables false
set_option linter.defProp false

-- ZUk8
section
namespace Go.Proofs
open Go Go.Rw
set_option maxRecDepth 100000
theorem effS_ids2 : ∀ (l : List Ac) (out : List On) (p : Int), p ∈ (effS out l).map On.id → p ∈ out.map On.id ∨ p ∈ l.map Ac.id
  | [], out, p, h => .inl h
  | a :: l, out, p, h => by
    rw [kDs] at h
    rcases effS_ids2 l (kE3 out a) p h with h | h
    · unfold kE3 at h
      split at h
      · rw [kB0] at h; exact .inl h
      · rw [List.map_append, List.mem_append] at h
        rcases h with h | h
        · exact .inl h
        · simp only [List.map_cons, List.map_nil, List.mem_singleton, kDB, newO] at h
          exact .inr (by rw [h]; simp)
    · exact .inr (by simp only [List.map_cons, List.mem_cons]; exact .inr h)
theorem kEe (l : List Ac) (p : Int) : p ∈ (effL l).map On.id ↔ p ∈ l.map Ac.id := by
  rw [effL, ((List.mergeSort_perm (effS [] l) leO).map On.id).mem_iff]
  constructor
  · intro h
    rcases effS_ids2 l [] p h with h | h
    · cases h
    · exact h
  · intro h
    obtain ⟨a, ha, rfl⟩ := List.mem_map.1 h
    exact (effS_ids l []).2 a ha
end Go.Proofs
end
-- ZUk15
section
namespace Go.Proofs
open Go Go.Rw
open _root_.Nat renaming reduceAdd → N0, reduceSub → N1, reduceMul → N2, reduceLT → N3, reduceLeDiff → N4, reduceEqDiff → N5
open _root_.Int renaming reduceNeg → Z0, reduceAdd → Z1, reduceSub → Z2, reduceMul → Z3, reduceGT → Z4, reduceGE → Z5, reduceLT → Z6, reduceLE → Z7, reduceEq → Z8, reduceNe → Z9, reduceToNat → Z10, cast_ofNat_Int → Zc
set_option maxRecDepth 100000
theorem small16_good : Rw.Good Tryz.prog 20 kB3 := by
  have hΓ : kL Tryz.prog [(31, kDP), (18, kC1)] := (kE kCf (kE kFC kJ))
  refine kS (nn := 32) hΓ Tryz.func20 (by kernel_rfl) rfl (show Tryz.f20.results.toList = [.tmp 2] from rfl) (fun _ => rfl) (fun x => by simp [AV.erL, AV.er, qD]) ?_
  rintro ⟨l, hl, hc⟩
  simp only [aR,N0,N1,N2,N3,N4,N5,Z0,Z1,Z2,Z3,Z4,Z5,Z6,Z7,Z8,Z9,Z10,Zc,↓reduceIte,reduceCtorEq, kN]
  obtain ⟨St, hSt⟩ : ∃ St : { p : Int × Nat // p.2 ≤ l.length ∧ (0 ≤ p.1 ∧ p.1 ≤ 1099511627776) ∧ wF 3000 0 (wO l) = wF 3000 p.1 (wO (l.drop p.2)) } → AS, ∀ p, St p = AS.of 32 [(0, .sl 0 8 (ones l)), (3, .v (.int .i64 p.1.1)), (4, .v (.int .i64 p.1.2))] [] [] := ⟨_, fun _ => rfl⟩
  refine kCc [(5, [], [])] hΓ St (fun p => l.length - p.1.2) ⟨(0, 0), by omega, by simp only; omega, rfl⟩ (by rw [hSt]; refine kH [] [] ?_; simp only [aR,N0,N1,N2,N3,N4,N5,Z0,Z1,Z2,Z3,Z4,Z5,Z6,Z7,Z8,Z9,Z10,Zc,↓reduceIte,reduceCtorEq] <;> ((repeat' apply And.intro) <;> first | rfl | omega | trivial)) ?_
  rintro ⟨⟨s, i⟩, hi, hs, hb⟩
  simp only at hi hs hb
  rw [hSt]
  simp only
  simp only [aR,N0,N1,N2,N3,N4,N5,Z0,Z1,Z2,Z3,Z4,Z5,Z6,Z7,Z8,Z9,Z10,Zc,↓reduceIte,reduceCtorEq, kP, kN]
  (with_reducible first | refine kC (fun h => ?_) (fun h => ?_) | refine kF (fun h => ?_) (fun h => ?_))
  · have hlt : i < l.length := by omega
    have hci := hc l[i] (List.getElem_mem hlt)
    have e1 := qT l hlt
    rw [List.drop_eq_getElem_cons hlt, wO_cons, wF] at hb
    generalize l[i] = a at *
    obtain ⟨id, ops, ed, rm, cr, mv, par, nm⟩ := a
    obtain ⟨hn, ho, hoc⟩ := hci
    simp only at hn ho hoc hb e1
    simp (disch := omega) only [aR,N0,N1,N2,N3,N4,N5,Z0,Z1,Z2,Z3,Z4,Z5,Z6,Z7,Z8,Z9,Z10,Zc,↓reduceIte,reduceCtorEq, kA, kP, h]
    (with_reducible first | refine kC (fun h2 => ?_) (fun h2 => ?_) | refine kF (fun h2 => ?_) (fun h2 => ?_))
    · simp (disch := omega) only [aR,N0,N1,N2,N3,N4,N5,Z0,Z1,Z2,Z3,Z4,Z5,Z6,Z7,Z8,Z9,Z10,Zc,↓reduceIte,reduceCtorEq, kA, kP, h2, e1, oA, kN]
      (repeat (with_reducible refine And.intro ?_ ?_; focus (first | omega | exact kG | kernel_rfl)))
      refine kEw (by simp [kB]) rfl ho (fun c h => (hoc c h).2) (by omega) ?_
      have hcb := kAe 3000 ops 0 (by omega) (by omega)
      simp (disch := omega) only [aR,N0,N1,N2,N3,N4,N5,Z0,Z1,Z2,Z3,Z4,Z5,Z6,Z7,Z8,Z9,Z10,Zc,↓reduceIte,reduceCtorEq, kA, kP]
      refine kBf (by simp [kB]) (y := [(nm.length : Int), zD 3000 0 ops, 3]) rfl hs (by simp; omega) (by simp) ?_
      simp (disch := omega) only [aR,N0,N1,N2,N3,N4,N5,Z0,Z1,Z2,Z3,Z4,Z5,Z6,Z7,Z8,Z9,Z10,Zc,↓reduceIte,reduceCtorEq, kA, kP]
      rw [if_pos h2] at hb
      have hr := jD [(nm.length : Int), zD 3000 0 ops, 3] hs (by simp; omega)
      refine kI ⟨(sumF s [(nm.length : Int), zD 3000 0 ops, 3], i + 1), by simp only; omega, by simp only; omega, hb⟩ (by simp only; omega) ?_
      rw [hSt]; refine kH [] [] ?_
      simp only [aR,N0,N1,N2,N3,N4,N5,Z0,Z1,Z2,Z3,Z4,Z5,Z6,Z7,Z8,Z9,Z10,Zc,↓reduceIte,reduceCtorEq] <;> ((repeat' apply And.intro) <;> first | rfl | omega | trivial)
    · simp (disch := omega) only [aR,N0,N1,N2,N3,N4,N5,Z0,Z1,Z2,Z3,Z4,Z5,Z6,Z7,Z8,Z9,Z10,Zc,↓reduceIte,reduceCtorEq, kA, kP, h2]
      rw [hb, if_neg h2]
      simp [h2]
  · simp only [aR,N0,N1,N2,N3,N4,N5,Z0,Z1,Z2,Z3,Z4,Z5,Z6,Z7,Z8,Z9,Z10,Zc,↓reduceIte,reduceCtorEq, kP, h]
    rw [List.drop_of_length_le (by omega)] at hb
    rw [hb]; rfl
theorem call_small16 {Γ : Env} (hf : Γ.get 20 = some kB3) {σ : AS} {dr : Bool} {l : List On} {ys : List AV} {d : Option Nat} {K : AS → Prop} (hy : ys = ones l) (h1 : l.length ≤ 9223372036854775807) (h2 : ∀ a ∈ l, a.nm.length ≤ 9223372036854775807 ∧ kBn a.ops)
    (hk : cont σ d (.v (.bool (decide (wF 3000 0 (wO l) ≤ 3000)))) K) : kR Tryz.prog Γ dr σ 20 [.sl 0 8 ys] d K := by
  subst hy
  exact kK (C := kB3) (i := ⟨l, h1, h2⟩) hf rfl rfl rfl (by simp [AV.erL, AV.er, qD]) (fun _ h => h) rfl hk
theorem made16_good : Rw.Good Tryz.prog 22 kB1 := by
  have hΓ : kL Tryz.prog [] := kJ
  refine kS (nn := 37) hΓ Tryz.func22 (by kernel_rfl) rfl (show Tryz.f22.results.toList = [.tmp 2] from rfl) (fun _ => rfl) (fun x => by simp [AV.erL, AV.er, qD]) ?_
  rintro ⟨l, hl⟩
  simp only [aR,N0,N1,N2,N3,N4,N5,Z0,Z1,Z2,Z3,Z4,Z5,Z6,Z7,Z8,Z9,Z10,Zc,↓reduceIte,reduceCtorEq, kN]
  obtain ⟨St, hSt⟩ : ∃ St : { i : Nat // i ≤ l.length } → AS, ∀ i, St i = AS.of 37 [(0, .sl 0 8 (ones l)), (3, .sl 2 8 (ones (l.take i.1))), (4, .v (.int .i64 i.1))] [] [(i.1, 48)] := ⟨_, fun _ => rfl⟩
  refine kX hΓ St (fun i => l.length - i.1) ⟨0, by omega⟩ (by rw [hSt]; refine kH [] [.nil 8] ?_; simp only [aR,N0,N1,N2,N3,N4,N5,Z0,Z1,Z2,Z3,Z4,Z5,Z6,Z7,Z8,Z9,Z10,Zc,↓reduceIte,reduceCtorEq, List.take_zero, kCL] <;> ((repeat' apply And.intro) <;> first | rfl | omega | trivial)) ?_
  rintro ⟨i, hi⟩
  rw [hSt]
  simp only
  simp only [aR,N0,N1,N2,N3,N4,N5,Z0,Z1,Z2,Z3,Z4,Z5,Z6,Z7,Z8,Z9,Z10,Zc,↓reduceIte,reduceCtorEq, kN]
  (with_reducible first | refine kC (fun h => ?_) (fun h => ?_) | refine kF (fun h => ?_) (fun h => ?_))
  · have hlt : i < l.length := by omega
    have e1 := qT l hlt
    have e2 : ones (l.take (i + 1)) = ones (l.take i) ++ [oA l[i]] := by rw [List.take_succ_eq_append_getElem hlt, ones, List.map_append]; rfl
    generalize l[i] = x at *
    simp only [oA] at e2
    simp only [aR,N0,N1,N2,N3,N4,N5,Z0,Z1,Z2,Z3,Z4,Z5,Z6,Z7,Z8,Z9,Z10,Zc,↓reduceIte,reduceCtorEq, h, e1, oA, kN, List.map_cons, List.map_nil, List.length_take, show min i l.length = i by omega, kA (n := (i : Int) + 1) (by omega) (by omega)]
    (repeat (with_reducible refine And.intro ?_ ?_; focus (first | omega | exact kG | kernel_rfl)))
    refine kI ⟨i + 1, by omega⟩ (by simp only; omega) ?_
    rw [hSt]; refine kH [] [.live 2] ?_
    rw [e2]
    simp only [aR,N0,N1,N2,N3,N4,N5,Z0,Z1,Z2,Z3,Z4,Z5,Z6,Z7,Z8,Z9,Z10,Zc,↓reduceIte,reduceCtorEq, List.length_append, List.length_cons, List.length_nil, kN, List.length_take, show min i l.length = i by omega] <;> ((repeat' apply And.intro) <;> first | rfl | omega | trivial)
  · have e5 : l.take i = l := List.take_of_length_le (by omega)
    rw [e5]
    simp only [aR,N0,N1,N2,N3,N4,N5,Z0,Z1,Z2,Z3,Z4,Z5,Z6,Z7,Z8,Z9,Z10,Zc,↓reduceIte,reduceCtorEq, h]
theorem flat16_good : Rw.Good Tryz.prog 27 kB1 := by
  have hΓ : kL Tryz.prog [] := kJ
  refine kS (nn := 37) hΓ Tryz.func27 (by kernel_rfl) rfl (show Tryz.f27.results.toList = [.tmp 2] from rfl) (fun _ => rfl) (fun x => by simp [AV.erL, AV.er, qD]) ?_
  rintro ⟨l, hl⟩
  simp only [aR,N0,N1,N2,N3,N4,N5,Z0,Z1,Z2,Z3,Z4,Z5,Z6,Z7,Z8,Z9,Z10,Zc,↓reduceIte,reduceCtorEq, kN]
  obtain ⟨St, hSt⟩ : ∃ St : { i : Nat // i ≤ l.length } → AS, ∀ i, St i = AS.of 37 [(0, .sl 0 8 (ones l)), (3, .sl 2 8 (ones (l.take i.1))), (4, .v (.int .i64 i.1))] [] [(i.1, 97)] := ⟨_, fun _ => rfl⟩
  refine kX hΓ St (fun i => l.length - i.1) ⟨0, by omega⟩ (by rw [hSt]; refine kH [] [.nil 8] ?_; simp only [aR,N0,N1,N2,N3,N4,N5,Z0,Z1,Z2,Z3,Z4,Z5,Z6,Z7,Z8,Z9,Z10,Zc,↓reduceIte,reduceCtorEq, List.take_zero, kCL] <;> ((repeat' apply And.intro) <;> first | rfl | omega | trivial)) ?_
  rintro ⟨i, hi⟩
  rw [hSt]
  simp only
  simp only [aR,N0,N1,N2,N3,N4,N5,Z0,Z1,Z2,Z3,Z4,Z5,Z6,Z7,Z8,Z9,Z10,Zc,↓reduceIte,reduceCtorEq, kN]
  (with_reducible first | refine kC (fun h => ?_) (fun h => ?_) | refine kF (fun h => ?_) (fun h => ?_))
  · have hlt : i < l.length := by omega
    have e1 := qT l hlt
    have e2 : ones (l.take (i + 1)) = ones (l.take i) ++ [oA l[i]] := by rw [List.take_succ_eq_append_getElem hlt, ones, List.map_append]; rfl
    generalize l[i] = x at *
    simp only [oA] at e2
    simp only [aR,N0,N1,N2,N3,N4,N5,Z0,Z1,Z2,Z3,Z4,Z5,Z6,Z7,Z8,Z9,Z10,Zc,↓reduceIte,reduceCtorEq, h, e1, oA, kN, List.map_cons, List.map_nil, List.length_take, show min i l.length = i by omega, kA (n := (i : Int) + 1) (by omega) (by omega)]
    (repeat (with_reducible refine And.intro ?_ ?_; focus (first | omega | exact kG | kernel_rfl)))
    refine kI ⟨i + 1, by omega⟩ (by simp only; omega) ?_
    rw [hSt]; refine kH [] [.live 2] ?_
    rw [e2]
    simp only [aR,N0,N1,N2,N3,N4,N5,Z0,Z1,Z2,Z3,Z4,Z5,Z6,Z7,Z8,Z9,Z10,Zc,↓reduceIte,reduceCtorEq, List.length_append, List.length_cons, List.length_nil, kN, List.length_take, show min i l.length = i by omega] <;> ((repeat' apply And.intro) <;> first | rfl | omega | trivial)
  · have e5 : l.take i = l := List.take_of_length_le (by omega)
    rw [e5]
    simp only [aR,N0,N1,N2,N3,N4,N5,Z0,Z1,Z2,Z3,Z4,Z5,Z6,Z7,Z8,Z9,Z10,Zc,↓reduceIte,reduceCtorEq, h]
end Go.Proofs
end
-- ZUk16
section
namespace Go.Proofs
open Go Go.Rw
open _root_.Nat renaming reduceAdd → N0, reduceSub → N1, reduceMul → N2, reduceLT → N3, reduceLeDiff → N4, reduceEqDiff → N5
open _root_.Int renaming reduceNeg → Z0, reduceAdd → Z1, reduceSub → Z2, reduceMul → Z3, reduceGT → Z4, reduceGE → Z5, reduceLT → Z6, reduceLE → Z7, reduceEq → Z8, reduceNe → Z9, reduceToNat → Z10, cast_ofNat_Int → Zc
set_option maxRecDepth 100000
theorem kCz {id : Int} {l : List On} : fndI id l = -1 ∧ getO id l = kAx ∨ ∃ h : fnd id l < l.length, fndI id l = (fnd id l : Int) ∧ getO id l = l[fnd id l] := by
  by_cases h : fnd id l < l.length
  · exact .inr ⟨h, by rw [fndI, if_pos h], by simp [getO, List.getD_eq_getElem?_getD, h]⟩
  · exact .inl ⟨by rw [fndI, if_neg h], by simp [getO, List.getD_eq_getElem?_getD, List.getElem?_eq_none (show l.length ≤ fnd id l by omega)]⟩
set_option maxHeartbeats 4000000 in
theorem rwhy_good : Rw.Good Tryz.prog 29 kAN := by
  have hΓ : kL Tryz.prog [(51, kA2)] := (kE rget_good kJ)
  refine kS (nn := 95) hΓ Tryz.func29 (by kernel_rfl) rfl (show Tryz.f29.results.toList = [.tmp 4] from rfl) (fun _ => rfl) (fun x => by simp [AV.erL, AV.er, kAd, qD]) ?_
  rintro ⟨⟨a, oa, hn⟩, ⟨bys, hb, hbo⟩⟩
  obtain ⟨k, id, par, nm, dir, ops⟩ := a
  have e0 : whyI ⟨k, id, par, nm, dir, ops⟩ bys = whyL k (zK (getO id bys) (getO par bys) ⟨k, id, par, nm, dir, ops⟩) := rfl
  simp only [aR,N0,N1,N2,N3,N4,N5,Z0,Z1,Z2,Z3,Z4,Z5,Z6,Z7,Z8,Z9,Z10,Zc,↓reduceIte,reduceCtorEq, aA]
  refine zZ (by simp [kB]) rfl hb ?_
  rcases kCz (id := id) (l := bys) with ⟨g1, g2⟩ | ⟨hlt, g1, g2⟩
  · have hk : k = 4 ∨ k = 2 ∨ k = 3 ∨ k = 1 ∨ (k ≠ 1 ∧ k ≠ 2 ∧ k ≠ 3 ∧ k ≠ 4) := by omega
    rcases hk with hk | hk | hk | hk | ⟨k1, k2, k3, k4⟩
    · subst hk
      all_goals
        simp only [aR,N0,N1,N2,N3,N4,N5,Z0,Z1,Z2,Z3,Z4,Z5,Z6,Z7,Z8,Z9,Z10,Zc,↓reduceIte,reduceCtorEq, g1]
        (repeat (with_reducible refine And.intro ?_ ?_; focus (first | omega | exact kG | kernel_rfl)))
      all_goals
        rw [e0]
        simp [zK, whyL, g2, kAx]
    · subst hk
      all_goals
        simp only [aR,N0,N1,N2,N3,N4,N5,Z0,Z1,Z2,Z3,Z4,Z5,Z6,Z7,Z8,Z9,Z10,Zc,↓reduceIte,reduceCtorEq, g1]
        (repeat (with_reducible refine And.intro ?_ ?_; focus (first | omega | exact kG | kernel_rfl)))
      all_goals
        rw [e0]
        simp [zK, whyL, g2, kAx]
    · subst hk
      simp only [aR,N0,N1,N2,N3,N4,N5,Z0,Z1,Z2,Z3,Z4,Z5,Z6,Z7,Z8,Z9,Z10,Zc,↓reduceIte,reduceCtorEq, g1]
      (repeat (with_reducible refine And.intro ?_ ?_; focus (first | omega | exact kG | kernel_rfl)))
      refine zZ (by simp [kB]) rfl hb ?_
      rcases kCz (id := par) (l := bys) with ⟨g3, g4⟩ | ⟨hlt2, g3, g4⟩
      · all_goals
          simp only [aR,N0,N1,N2,N3,N4,N5,Z0,Z1,Z2,Z3,Z4,Z5,Z6,Z7,Z8,Z9,Z10,Zc,↓reduceIte,reduceCtorEq, g1, g3]
          (repeat (with_reducible refine And.intro ?_ ?_; focus (first | omega | exact kG | kernel_rfl)))
        all_goals
          rw [e0]
          simp [zK, whyL, g2, kAx, g4]
      · have e2 := qT bys hlt2
        generalize bys[fnd par bys] = y at *
        obtain ⟨yid, yops, yed, yrm, ycr, ymv, ypar, ynm⟩ := y
        have hy0 : ¬ ((fnd par bys : Int) < 0) := by omega
        have hy1 : ((fnd par bys : Int) ≥ 0) := by omega
        simp only [aR,N0,N1,N2,N3,N4,N5,Z0,Z1,Z2,Z3,Z4,Z5,Z6,Z7,Z8,Z9,Z10,Zc,↓reduceIte,reduceCtorEq, g1, g3, hy0, hy1]
        (repeat (with_reducible refine And.intro ?_ ?_; focus (first | omega | exact kG | kernel_rfl)))
        refine zZ (by simp [kB]) rfl hb ?_
        cases yrm
        all_goals
          simp only [aR,N0,N1,N2,N3,N4,N5,Z0,Z1,Z2,Z3,Z4,Z5,Z6,Z7,Z8,Z9,Z10,Zc,↓reduceIte,reduceCtorEq, g1, g3, e2, oA, kN, hy0, hy1]
          (repeat (with_reducible refine And.intro ?_ ?_; focus (first | omega | exact kG | kernel_rfl)))
        all_goals
          rw [e0]
          simp [zK, whyL, g2, kAx, g4]
    · subst hk
      simp only [aR,N0,N1,N2,N3,N4,N5,Z0,Z1,Z2,Z3,Z4,Z5,Z6,Z7,Z8,Z9,Z10,Zc,↓reduceIte,reduceCtorEq, g1]
      (repeat (with_reducible refine And.intro ?_ ?_; focus (first | omega | exact kG | kernel_rfl)))
      refine zZ (by simp [kB]) rfl hb ?_
      rcases kCz (id := par) (l := bys) with ⟨g3, g4⟩ | ⟨hlt2, g3, g4⟩
      · all_goals
          simp only [aR,N0,N1,N2,N3,N4,N5,Z0,Z1,Z2,Z3,Z4,Z5,Z6,Z7,Z8,Z9,Z10,Zc,↓reduceIte,reduceCtorEq, g1, g3]
          (repeat (with_reducible refine And.intro ?_ ?_; focus (first | omega | exact kG | kernel_rfl)))
        all_goals
          rw [e0]
          simp [zK, whyL, g2, kAx, g4]
      · have e2 := qT bys hlt2
        generalize bys[fnd par bys] = y at *
        obtain ⟨yid, yops, yed, yrm, ycr, ymv, ypar, ynm⟩ := y
        have hy0 : ¬ ((fnd par bys : Int) < 0) := by omega
        have hy1 : ((fnd par bys : Int) ≥ 0) := by omega
        simp only [aR,N0,N1,N2,N3,N4,N5,Z0,Z1,Z2,Z3,Z4,Z5,Z6,Z7,Z8,Z9,Z10,Zc,↓reduceIte,reduceCtorEq, g1, g3, hy0, hy1]
        (repeat (with_reducible refine And.intro ?_ ?_; focus (first | omega | exact kG | kernel_rfl)))
        refine zZ (by simp [kB]) rfl hb ?_
        cases yrm
        all_goals
          simp only [aR,N0,N1,N2,N3,N4,N5,Z0,Z1,Z2,Z3,Z4,Z5,Z6,Z7,Z8,Z9,Z10,Zc,↓reduceIte,reduceCtorEq, g1, g3, e2, oA, kN, hy0, hy1]
          (repeat (with_reducible refine And.intro ?_ ?_; focus (first | omega | exact kG | kernel_rfl)))
        all_goals
          rw [e0]
          simp [zK, whyL, g2, kAx, g4]
    · simp only [aR,N0,N1,N2,N3,N4,N5,Z0,Z1,Z2,Z3,Z4,Z5,Z6,Z7,Z8,Z9,Z10,Zc,↓reduceIte,reduceCtorEq, g1, k1, k2, k3, k4]
      (repeat (with_reducible refine And.intro ?_ ?_; focus (first | omega | exact kG | kernel_rfl)))
      rw [e0]
      simp [zK, whyL, Ne.symm k1, Ne.symm k2, Ne.symm k3, Ne.symm k4]
  · have e1 := qT bys hlt
    generalize bys[fnd id bys] = x at *
    obtain ⟨xid, xops, xed, xrm, xcr, xmv, xpar, xnm⟩ := x
    have hx0 : ¬ ((fnd id bys : Int) < 0) := by omega
    have hx1 : ((fnd id bys : Int) ≥ 0) := by omega
    have hk : k = 4 ∨ k = 2 ∨ k = 3 ∨ k = 1 ∨ (k ≠ 1 ∧ k ≠ 2 ∧ k ≠ 3 ∧ k ≠ 4) := by omega
    rcases hk with hk | hk | hk | hk | ⟨k1, k2, k3, k4⟩
    · subst hk
      cases xrm <;> cases xed <;> cases xmv
      all_goals
        simp only [aR,N0,N1,N2,N3,N4,N5,Z0,Z1,Z2,Z3,Z4,Z5,Z6,Z7,Z8,Z9,Z10,Zc,↓reduceIte,reduceCtorEq, g1, e1, oA, kN, hx0, hx1]
        (repeat (with_reducible refine And.intro ?_ ?_; focus (first | omega | exact kG | kernel_rfl)))
      all_goals
        rw [e0]
        simp [zK, whyL, g2, kAx]
    · subst hk
      cases xrm <;> cases xed <;> cases xmv
      all_goals
        simp only [aR,N0,N1,N2,N3,N4,N5,Z0,Z1,Z2,Z3,Z4,Z5,Z6,Z7,Z8,Z9,Z10,Zc,↓reduceIte,reduceCtorEq, g1, e1, oA, kN, hx0, hx1]
        (repeat (with_reducible refine And.intro ?_ ?_; focus (first | omega | exact kG | kernel_rfl)))
      all_goals
        rw [e0]
        simp [zK, whyL, g2, kAx]
    · subst hk
      simp only [aR,N0,N1,N2,N3,N4,N5,Z0,Z1,Z2,Z3,Z4,Z5,Z6,Z7,Z8,Z9,Z10,Zc,↓reduceIte,reduceCtorEq, g1, e1, oA, kN, hx0, hx1]
      (repeat (with_reducible refine And.intro ?_ ?_; focus (first | omega | exact kG | kernel_rfl)))
      refine zZ (by simp [kB]) rfl hb ?_
      rcases kCz (id := par) (l := bys) with ⟨g3, g4⟩ | ⟨hlt2, g3, g4⟩
      · cases xrm <;> cases xcr <;> cases xmv
        all_goals
          by_cases c1 : xpar = par <;> by_cases c2 : xnm = nm
        all_goals
          simp only [aR,N0,N1,N2,N3,N4,N5,Z0,Z1,Z2,Z3,Z4,Z5,Z6,Z7,Z8,Z9,Z10,Zc,↓reduceIte,reduceCtorEq, g1, e1, oA, kN, hx0, hx1, g3, c1, c2]
          (repeat (with_reducible refine And.intro ?_ ?_; focus (first | omega | exact kG | kernel_rfl)))
        all_goals
          rw [e0]
          simp [zK, whyL, g2, kAx, g4, c1, c2]
      · have e2 := qT bys hlt2
        generalize bys[fnd par bys] = y at *
        obtain ⟨yid, yops, yed, yrm, ycr, ymv, ypar, ynm⟩ := y
        have hy0 : ¬ ((fnd par bys : Int) < 0) := by omega
        have hy1 : ((fnd par bys : Int) ≥ 0) := by omega
        simp only [aR,N0,N1,N2,N3,N4,N5,Z0,Z1,Z2,Z3,Z4,Z5,Z6,Z7,Z8,Z9,Z10,Zc,↓reduceIte,reduceCtorEq, g1, e1, oA, kN, hx0, hx1, g3, hy0, hy1]
        (repeat (with_reducible refine And.intro ?_ ?_; focus (first | omega | exact kG | kernel_rfl)))
        refine zZ (by simp [kB]) rfl hb ?_
        cases xrm <;> cases xcr <;> cases xmv <;> cases yrm
        all_goals
          by_cases c1 : xpar = par <;> by_cases c2 : xnm = nm
        all_goals
          simp only [aR,N0,N1,N2,N3,N4,N5,Z0,Z1,Z2,Z3,Z4,Z5,Z6,Z7,Z8,Z9,Z10,Zc,↓reduceIte,reduceCtorEq, g1, e1, oA, kN, hx0, hx1, g3, e2, oA, kN, hy0, hy1, c1, c2]
          (repeat (with_reducible refine And.intro ?_ ?_; focus (first | omega | exact kG | kernel_rfl)))
        all_goals
          rw [e0]
          simp [zK, whyL, g2, kAx, g4, c1, c2]
    · subst hk
      simp only [aR,N0,N1,N2,N3,N4,N5,Z0,Z1,Z2,Z3,Z4,Z5,Z6,Z7,Z8,Z9,Z10,Zc,↓reduceIte,reduceCtorEq, g1, e1, oA, kN, hx0, hx1]
      (repeat (with_reducible refine And.intro ?_ ?_; focus (first | omega | exact kG | kernel_rfl)))
      refine zZ (by simp [kB]) rfl hb ?_
      rcases kCz (id := par) (l := bys) with ⟨g3, g4⟩ | ⟨hlt2, g3, g4⟩
      · cases xrm <;> cases xcr <;> cases xmv
        all_goals
          simp only [aR,N0,N1,N2,N3,N4,N5,Z0,Z1,Z2,Z3,Z4,Z5,Z6,Z7,Z8,Z9,Z10,Zc,↓reduceIte,reduceCtorEq, g1, e1, oA, kN, hx0, hx1, g3]
          (repeat (with_reducible refine And.intro ?_ ?_; focus (first | omega | exact kG | kernel_rfl)))
        all_goals
          rw [e0]
          simp [zK, whyL, g2, kAx, g4]
      · have e2 := qT bys hlt2
        generalize bys[fnd par bys] = y at *
        obtain ⟨yid, yops, yed, yrm, ycr, ymv, ypar, ynm⟩ := y
        have hy0 : ¬ ((fnd par bys : Int) < 0) := by omega
        have hy1 : ((fnd par bys : Int) ≥ 0) := by omega
        simp only [aR,N0,N1,N2,N3,N4,N5,Z0,Z1,Z2,Z3,Z4,Z5,Z6,Z7,Z8,Z9,Z10,Zc,↓reduceIte,reduceCtorEq, g1, e1, oA, kN, hx0, hx1, g3, hy0, hy1]
        (repeat (with_reducible refine And.intro ?_ ?_; focus (first | omega | exact kG | kernel_rfl)))
        refine zZ (by simp [kB]) rfl hb ?_
        cases xrm <;> cases xcr <;> cases xmv <;> cases yrm
        all_goals
          simp only [aR,N0,N1,N2,N3,N4,N5,Z0,Z1,Z2,Z3,Z4,Z5,Z6,Z7,Z8,Z9,Z10,Zc,↓reduceIte,reduceCtorEq, g1, e1, oA, kN, hx0, hx1, g3, e2, oA, kN, hy0, hy1]
          (repeat (with_reducible refine And.intro ?_ ?_; focus (first | omega | exact kG | kernel_rfl)))
        all_goals
          rw [e0]
          simp [zK, whyL, g2, kAx, g4]
    · simp only [aR,N0,N1,N2,N3,N4,N5,Z0,Z1,Z2,Z3,Z4,Z5,Z6,Z7,Z8,Z9,Z10,Zc,↓reduceIte,reduceCtorEq, g1, e1, oA, kN, hx0, hx1, k1, k2, k3, k4]
      (repeat (with_reducible refine And.intro ?_ ?_; focus (first | omega | exact kG | kernel_rfl)))
      rw [e0]
      simp [zK, whyL, Ne.symm k1, Ne.symm k2, Ne.symm k3, Ne.symm k4]
end Go.Proofs
end
-- ZUk17
section
namespace Go.Proofs
open Go Go.Rw
open _root_.Nat renaming reduceAdd → N0, reduceSub → N1, reduceMul → N2, reduceLT → N3, reduceLeDiff → N4, reduceEqDiff → N5
open _root_.Int renaming reduceNeg → Z0, reduceAdd → Z1, reduceSub → Z2, reduceMul → Z3, reduceGT → Z4, reduceGE → Z5, reduceLT → Z6, reduceLE → Z7, reduceEq → Z8, reduceNe → Z9, reduceToNat → Z10, cast_ofNat_Int → Zc
set_option maxRecDepth 100000
def stepO (x : On) (a : Ac) : On := if a.k = 4 ∧ a.id = x.id ∧ x.ops ≠ [] then { x with ops := behL x.ops a.ops } else x
theorem overO_cons (x : On) (a : Ac) (r : List Ac) : j8 x (a :: r) = j8 (stepO x a) r := rfl
theorem mid_get (L R : List On) (y : On) {i : Nat} (h : L.length = i) : (ones (L ++ y :: R)).getD i .any = oA y := by
  subst h
  rw [qT _ (by simp)]
  simp
theorem mid_set (L R : List On) (y z : On) {i : Nat} (h : L.length = i) : (ones (L ++ y :: R)).set i (oA z) = ones (L ++ z :: R) := by
  subst h
  simp [ones]
set_option maxHeartbeats 4000000 in
theorem kEt : Rw.Good Tryz.prog 53 kAD := by
  have hΓ : kL Tryz.prog [(52, kBQ)] := (kE kF1 kJ)
  refine kS (nn := 75) hΓ Tryz.func53 (by kernel_rfl) rfl (show Tryz.f53.results.toList = [.tmp 4] from rfl) (fun _ => rfl) (fun x => by simp [AV.erL, AV.er, qD, qF]) ?_
  rintro ⟨⟨l, hl, ho⟩, ⟨ac, ha, hao⟩⟩
  simp only [aR,N0,N1,N2,N3,N4,N5,Z0,Z1,Z2,Z3,Z4,Z5,Z6,Z7,Z8,Z9,Z10,Zc,↓reduceIte,reduceCtorEq, kN, List.nil_append]
  (repeat (with_reducible refine And.intro ?_ ?_; focus (first | omega | exact kG | kernel_rfl)))
  obtain ⟨F, hF⟩ : ∃ F : On → On, F = fun z => j8 z ac := ⟨_, rfl⟩
  have hFi : ∀ z, F z = j8 z ac := fun z => by rw [hF]
  obtain ⟨St, hSt⟩ : ∃ St : { i : Nat // i ≤ l.length } → AS, ∀ i, St i = AS.of 75 [(1, .sl 0 6 (acts ac)), (5, .sl 2 8 (ones ((l.take i.1).map F ++ l.drop i.1))), (6, .v (.int .i64 i.1))] [] [(l.length, 97)] := ⟨_, fun _ => rfl⟩
  refine kX hΓ St (fun i => l.length - i.1) ⟨0, by omega⟩ (by rw [hSt]; refine kH [] [.live 2] ?_; simp only [aR,N0,N1,N2,N3,N4,N5,Z0,Z1,Z2,Z3,Z4,Z5,Z6,Z7,Z8,Z9,Z10,Zc,↓reduceIte,reduceCtorEq, List.take_zero, List.map_nil, List.nil_append, List.drop_zero] <;> ((repeat' apply And.intro) <;> first | rfl | omega | trivial)) ?_
  rintro ⟨i, hi⟩
  rw [hSt]
  simp only
  simp only [aR,N0,N1,N2,N3,N4,N5,Z0,Z1,Z2,Z3,Z4,Z5,Z6,Z7,Z8,Z9,Z10,Zc,↓reduceIte,reduceCtorEq, kN, List.length_append, List.length_map, List.length_take, List.length_drop, show min i l.length + (l.length - i) = l.length by omega]
  (with_reducible first | refine kC (fun h => ?_) (fun h => ?_) | refine kF (fun h => ?_) (fun h => ?_))
  · have hlt : i < l.length := by omega
    have hoi := ho _ (List.getElem_mem hlt)
    have hdr : l.drop i = l[i] :: l.drop (i + 1) := List.drop_eq_getElem_cons hlt
    have hlast : (l.take (i + 1)).map F ++ l.drop (i + 1) = (l.take i).map F ++ F l[i] :: l.drop (i + 1) := by rw [List.take_succ_eq_append_getElem hlt, List.map_append]; simp
    rw [hdr]
    generalize l[i] = x at *
    obtain ⟨L, hL⟩ : ∃ L, (l.take i).map F = L := ⟨_, rfl⟩
    obtain ⟨R, hR⟩ : ∃ R, l.drop (i + 1) = R := ⟨_, rfl⟩
    have hLl : L.length = i := by rw [← hL, List.length_map, List.length_take]; omega
    have hRl : R.length = l.length - (i + 1) := by rw [← hR, List.length_drop]
    rw [hL, hR] at hlast ⊢
    simp only [aR,N0,N1,N2,N3,N4,N5,Z0,Z1,Z2,Z3,Z4,Z5,Z6,Z7,Z8,Z9,Z10,Zc,↓reduceIte,reduceCtorEq, h]
    obtain ⟨Su, hSu⟩ : ∃ Su : { p : On × Nat // p.2 ≤ ac.length ∧ okL p.1.ops ∧ j8 p.1 (ac.drop p.2) = F x } → AS, ∀ p, Su p = AS.of 75 [(1, .sl 0 6 (acts ac)), (5, .sl 2 8 (ones (L ++ p.1.1 :: R))), (6, .v (.int .i64 i)), (7, .v (.int .i64 p.1.2))] [] [(l.length, 97)] := ⟨_, fun _ => rfl⟩
    refine kX hΓ Su (fun p => ac.length - p.1.2) ⟨(x, 0), by simp, hoi, (hFi x).symm⟩ (by rw [hSu]; refine kH [] [.live 2] ?_; simp only [aR,N0,N1,N2,N3,N4,N5,Z0,Z1,Z2,Z3,Z4,Z5,Z6,Z7,Z8,Z9,Z10,Zc,↓reduceIte,reduceCtorEq] <;> ((repeat' apply And.intro) <;> first | rfl | omega | trivial)) ?_
    rintro ⟨⟨y, j⟩, hj, hy, hf⟩
    simp only at hj hy hf
    rw [hSu]
    simp only
    have f1 := mid_get L R y hLl
    have hlen : (L ++ y :: R).length = l.length := by rw [List.length_append, List.length_cons]; omega
    simp only [aR,N0,N1,N2,N3,N4,N5,Z0,Z1,Z2,Z3,Z4,Z5,Z6,Z7,Z8,Z9,Z10,Zc,↓reduceIte,reduceCtorEq, kM]
    (with_reducible first | refine kC (fun h2 => ?_) (fun h2 => ?_) | refine kF (fun h2 => ?_) (fun h2 => ?_))
    · have hja : j < ac.length := by omega
      have f2 := qV ac hja
      have hai := hao _ (List.getElem_mem hja)
      rw [List.drop_eq_getElem_cons hja, overO_cons] at hf
      generalize ac[j] = a at *
      obtain ⟨k, id, par, nm, dir, ops⟩ := a
      obtain ⟨yid, yops, yed, yrm, ycr, ymv, ypar, ynm⟩ := y
      simp only at hai hy
      have same : stepO ⟨yid, yops, yed, yrm, ycr, ymv, ypar, ynm⟩ ⟨k, id, par, nm, dir, ops⟩ = ⟨yid, yops, yed, yrm, ycr, ymv, ypar, ynm⟩ → j8 ⟨yid, yops, yed, yrm, ycr, ymv, ypar, ynm⟩ (ac.drop (j + 1)) = F x := fun e => by rw [e] at hf; exact hf
      by_cases c1 : k = 4
      case neg =>
        have s1 := same (by rw [stepO, if_neg (fun h => c1 h.1)])
        simp only [aR,N0,N1,N2,N3,N4,N5,Z0,Z1,Z2,Z3,Z4,Z5,Z6,Z7,Z8,Z9,Z10,Zc,↓reduceIte,reduceCtorEq, h2, f1, f2, oA, aA, kM, kN, hlen, c1, kA (n := (j : Int) + 1) (by omega) (by omega)]
        (repeat (with_reducible refine And.intro ?_ ?_; focus (first | omega | exact kG | kernel_rfl)))
        refine kI ⟨(⟨yid, yops, yed, yrm, ycr, ymv, ypar, ynm⟩, j + 1), by simp only; omega, hy, s1⟩ (by simp only; omega) ?_
        rw [hSu]; refine kH [] [.live 2] ?_
        simp only [aR,N0,N1,N2,N3,N4,N5,Z0,Z1,Z2,Z3,Z4,Z5,Z6,Z7,Z8,Z9,Z10,Zc,↓reduceIte,reduceCtorEq] <;> ((repeat' apply And.intro) <;> first | rfl | omega | trivial)
      by_cases c2 : id = yid
      case neg =>
        have s1 := same (by rw [stepO, if_neg (fun h => c2 h.2.1)])
        simp only [aR,N0,N1,N2,N3,N4,N5,Z0,Z1,Z2,Z3,Z4,Z5,Z6,Z7,Z8,Z9,Z10,Zc,↓reduceIte,reduceCtorEq, h2, f1, f2, oA, aA, kM, kN, hlen, c1, c2, kA (n := (j : Int) + 1) (by omega) (by omega)]
        (repeat (with_reducible refine And.intro ?_ ?_; focus (first | omega | exact kG | kernel_rfl)))
        refine kI ⟨(⟨yid, yops, yed, yrm, ycr, ymv, ypar, ynm⟩, j + 1), by simp only; omega, hy, s1⟩ (by simp only; omega) ?_
        rw [hSu]; refine kH [] [.live 2] ?_
        simp only [aR,N0,N1,N2,N3,N4,N5,Z0,Z1,Z2,Z3,Z4,Z5,Z6,Z7,Z8,Z9,Z10,Zc,↓reduceIte,reduceCtorEq] <;> ((repeat' apply And.intro) <;> first | rfl | omega | trivial)
      by_cases c3 : yops = []
      · have s1 := same (by rw [stepO, if_neg (fun h => h.2.2 c3)])
        subst c3
        simp only [aR,N0,N1,N2,N3,N4,N5,Z0,Z1,Z2,Z3,Z4,Z5,Z6,Z7,Z8,Z9,Z10,Zc,↓reduceIte,reduceCtorEq, h2, f1, f2, oA, aA, kM, kN, hlen, c1, c2, qM, List.length_nil, kA (n := (j : Int) + 1) (by omega) (by omega)]
        (repeat (with_reducible refine And.intro ?_ ?_; focus (first | omega | exact kG | kernel_rfl)))
        refine kI ⟨(⟨yid, [], yed, yrm, ycr, ymv, ypar, ynm⟩, j + 1), by simp only; omega, hy, s1⟩ (by simp only; omega) ?_
        rw [hSu]; refine kH [] [.live 2] ?_
        simp only [aR,N0,N1,N2,N3,N4,N5,Z0,Z1,Z2,Z3,Z4,Z5,Z6,Z7,Z8,Z9,Z10,Zc,↓reduceIte,reduceCtorEq] <;> ((repeat' apply And.intro) <;> first | rfl | omega | trivial)
      have c4 : ((yops.length : Int) = 0) = False := eq_false (by have := List.length_pos_iff.2 c3; omega)
      have hst : stepO ⟨yid, yops, yed, yrm, ycr, ymv, ypar, ynm⟩ ⟨k, id, par, nm, dir, ops⟩ = ⟨yid, behL yops ops, yed, yrm, ycr, ymv, ypar, ynm⟩ := by rw [stepO, if_pos ⟨c1, c2, c3⟩]
      simp only [aR,N0,N1,N2,N3,N4,N5,Z0,Z1,Z2,Z3,Z4,Z5,Z6,Z7,Z8,Z9,Z10,Zc,↓reduceIte,reduceCtorEq, h2, f1, f2, oA, aA, kM, kN, hlen, c1, c2, c4, kD]
      (repeat (with_reducible refine And.intro ?_ ?_; focus (first | omega | exact kG | kernel_rfl)))
      refine kC9 (by simp [kB]) rfl rfl hy hai ?_
      by_cases he : ovE yops ops = 0
      · have hb : behL yops ops = ovN true yops ops := by rw [behL, if_pos he]
        rw [kDo he]
        have f3 : (ones (L ++ ⟨yid, yops, yed, yrm, ycr, ymv, ypar, ynm⟩ :: R)).set i (kCI ((ones (L ++ ⟨yid, yops, yed, yrm, ycr, ymv, ypar, ynm⟩ :: R)).getD i .any) 1 [.sl 0 3 (kU (ovN true yops ops))]) = ones (L ++ ⟨yid, ovN true yops ops, yed, yrm, ycr, ymv, ypar, ynm⟩ :: R) := by
          rw [f1]
          exact mid_set L R _ ⟨yid, ovN true yops ops, yed, yrm, ycr, ymv, ypar, ynm⟩ hLl
        rw [hst, hb] at hf
        simp only [aR,N0,N1,N2,N3,N4,N5,Z0,Z1,Z2,Z3,Z4,Z5,Z6,Z7,Z8,Z9,Z10,Zc,↓reduceIte,reduceCtorEq, res2, he, f3, kN, hlen, kA (n := (j : Int) + 1) (by omega) (by omega)]
        (repeat (with_reducible refine And.intro ?_ ?_; focus (first | omega | exact kG | kernel_rfl)))
        refine kI ⟨(⟨yid, ovN true yops ops, yed, yrm, ycr, ymv, ypar, ynm⟩, j + 1), by simp only; omega, (ov_facts true he hy hai).2.2.2, hf⟩ (by simp only; omega) ?_
        rw [hSu]; refine kH [] [.live 2] ?_
        simp only [aR,N0,N1,N2,N3,N4,N5,Z0,Z1,Z2,Z3,Z4,Z5,Z6,Z7,Z8,Z9,Z10,Zc,↓reduceIte,reduceCtorEq, hlen, kN, AV.turn] <;> ((repeat' apply And.intro) <;> first | rfl | omega | trivial)
      · have hb : behL yops ops = yops := by rw [behL, if_neg he]
        rw [ovR_err he]
        simp only [aR,N0,N1,N2,N3,N4,N5,Z0,Z1,Z2,Z3,Z4,Z5,Z6,Z7,Z8,Z9,Z10,Zc,↓reduceIte,reduceCtorEq, res2, he, kA (n := (j : Int) + 1) (by omega) (by omega)]
        refine kI ⟨(⟨yid, yops, yed, yrm, ycr, ymv, ypar, ynm⟩, j + 1), by simp only; omega, hy, by rw [hst, hb] at hf; exact hf⟩ (by simp only; omega) ?_
        rw [hSu]; refine kH [] [.live 2] ?_
        simp only [aR,N0,N1,N2,N3,N4,N5,Z0,Z1,Z2,Z3,Z4,Z5,Z6,Z7,Z8,Z9,Z10,Zc,↓reduceIte,reduceCtorEq] <;> ((repeat' apply And.intro) <;> first | rfl | omega | trivial)
    · rw [List.drop_of_length_le (by omega), j8] at hf
      subst hf
      simp only [aR,N0,N1,N2,N3,N4,N5,Z0,Z1,Z2,Z3,Z4,Z5,Z6,Z7,Z8,Z9,Z10,Zc,↓reduceIte,reduceCtorEq, h2, kA (n := (i : Int) + 1) (by omega) (by omega)]
      refine kI ⟨i + 1, by omega⟩ (by simp only; omega) ?_
      rw [hSt]; refine kH [] [.live 2] ?_
      simp only [aR,N0,N1,N2,N3,N4,N5,Z0,Z1,Z2,Z3,Z4,Z5,Z6,Z7,Z8,Z9,Z10,Zc,↓reduceIte,reduceCtorEq, hR, hlast] <;> ((repeat' apply And.intro) <;> first | rfl | omega | trivial)
  · simp only [aR,N0,N1,N2,N3,N4,N5,Z0,Z1,Z2,Z3,Z4,Z5,Z6,Z7,Z8,Z9,Z10,Zc,↓reduceIte,reduceCtorEq, h]
    rw [List.take_of_length_le (by omega), List.drop_of_length_le (by omega), List.append_nil, hF]
end Go.Proofs
end
-- ZUk18
section
namespace Go.Proofs
open Go Go.Rw
open _root_.Nat renaming reduceAdd → N0, reduceSub → N1, reduceMul → N2, reduceLT → N3, reduceLeDiff → N4, reduceEqDiff → N5
open _root_.Int renaming reduceNeg → Z0, reduceAdd → Z1, reduceSub → Z2, reduceMul → Z3, reduceGT → Z4, reduceGE → Z5, reduceLT → Z6, reduceLE → Z7, reduceEq → Z8, reduceNe → Z9, reduceToNat → Z10, cast_ofNat_Int → Zc
set_option maxRecDepth 100000
theorem call_why13 {Γ : Env} (hf : Γ.get 29 = some kAN) {σ : AS} {dr : Bool} {a : Ac} {l : List On} {y : AV} {ys : List AV} {d : Option Nat} {K : AS → Prop} (hy : y = aA a) (hz : ys = ones l) (oa : okL a.ops) (hn : a.nm.length ≤ 1099511627776) (hl : l.length ≤ 1099511627776) (ho : ∀ x ∈ l, okL x.ops)
    (hk : cont σ d (.v (.int .i64 (whyI a l))) K) : kR Tryz.prog Γ dr σ 29 [y, .sl 0 8 ys] d K := by
  subst hy hz
  exact kK (C := kAN) (i := (⟨a, oa, hn⟩, ⟨l, hl, ho⟩)) hf rfl rfl rfl (by simp [AV.erL, AV.er, kAd, qD]) (fun _ h => h) rfl hk
theorem z6 (l : List Ac) (a : Ac) : acts (l ++ [a]) = acts l ++ [aA a] := by simp [acts]
set_option maxHeartbeats 4000000 in
theorem kDS : Rw.Good Tryz.prog 23 qY := by
  have hΓ : kL Tryz.prog [(30, jZ), (29, kAN), (51, kA2), (52, kBQ), (53, kAD)] := (kE rtcheck_good (kE rwhy_good (kE rget_good (kE kF1 (kE kEt kJ)))))
  refine kS (nn := 121) hΓ Tryz.func23 (by kernel_rfl) rfl (show Tryz.f23.results.toList = [.tmp 4, .tmp 5, .tmp 6] from rfl) (fun _ => rfl) (fun x => by simp [AV.erL, AV.er, qF, qD]) ?_
  rintro ⟨⟨l, hl, ho⟩, ⟨bys, hb, hbo⟩⟩
  simp only [aR,N0,N1,N2,N3,N4,N5,Z0,Z1,Z2,Z3,Z4,Z5,Z6,Z7,Z8,Z9,Z10,Zc,↓reduceIte,reduceCtorEq]
  refine kK (C := jZ) (i := ⟨l, hl, ho⟩) (by simp [kB]) rfl rfl rfl (by simp [AV.erL, AV.er, qF]) (fun _ h => h) rfl ?_
  by_cases h1 : txnE l = 0
  case neg =>
    have e0 : rebR l bys = ⟨[], bys, txnE l⟩ := by rw [rebR, if_pos h1]
    simp only [aR,N0,N1,N2,N3,N4,N5,Z0,Z1,Z2,Z3,Z4,Z5,Z6,Z7,Z8,Z9,Z10,Zc,↓reduceIte,reduceCtorEq, h1, e0]
    rfl
  have e0 : rebR l bys = if (rebF bys [] l).2 ≠ 0 then ⟨[], bys, (rebF bys [] l).2⟩
    else if txnE (rebF bys [] l).1 ≠ 0 then ⟨[], bys, txnE (rebF bys [] l).1⟩ else ⟨(rebF bys [] l).1, bys.map fun z => j8 z l, 0⟩ := by rw [rebR, if_neg (by simpa using h1)]
  obtain ⟨hro, hrl⟩ := kEl hbo l [] ho (by simp)
  simp only [aR,N0,N1,N2,N3,N4,N5,Z0,Z1,Z2,Z3,Z4,Z5,Z6,Z7,Z8,Z9,Z10,Zc,↓reduceIte,reduceCtorEq, h1, kM]
  obtain ⟨St, hSt⟩ : ∃ St : { p : List Ac × Nat // p.2 ≤ l.length ∧ p.1.length ≤ p.2 ∧ rebF bys p.1 (l.drop p.2) = rebF bys [] l } → AS, ∀ p, St p = AS.of 121 [(0, .sl 0 6 (acts l)), (1, .sl 0 8 (ones bys)), (8, .sl 2 6 (acts p.1.1)), (9, .v (.int .i64 p.1.2))] [] [(p.1.1.length, 46)] := ⟨_, fun _ => rfl⟩
  refine kX hΓ St (fun p => l.length - p.1.2) ⟨([], 0), by simp, by simp, rfl⟩ (by rw [hSt]; refine kH [] [.nil 6] ?_; simp only [aR,N0,N1,N2,N3,N4,N5,Z0,Z1,Z2,Z3,Z4,Z5,Z6,Z7,Z8,Z9,Z10,Zc,↓reduceIte,reduceCtorEq, acts, List.map_nil] <;> ((repeat' apply And.intro) <;> first | rfl | omega | trivial)) ?_
  rintro ⟨⟨out, i⟩, hi, hoi, hr⟩
  simp only at hi hoi hr
  rw [hSt]
  simp only
  simp only [aR,N0,N1,N2,N3,N4,N5,Z0,Z1,Z2,Z3,Z4,Z5,Z6,Z7,Z8,Z9,Z10,Zc,↓reduceIte,reduceCtorEq, kM]
  (with_reducible first | refine kC (fun h => ?_) (fun h => ?_) | refine kF (fun h => ?_) (fun h => ?_))
  · have hlt : i < l.length := by omega
    have e1 := qV l hlt
    have ha := ho _ (List.getElem_mem hlt)
    rw [List.drop_eq_getElem_cons hlt, rebF] at hr
    generalize l[i] = a at *
    obtain ⟨k, id, par, nm, dir, ops⟩ := a
    obtain ⟨oa, hn⟩ := ha
    simp only at oa hn hr
    have ox := getO_ok hbo id
    simp only [aR,N0,N1,N2,N3,N4,N5,Z0,Z1,Z2,Z3,Z4,Z5,Z6,Z7,Z8,Z9,Z10,Zc,↓reduceIte,reduceCtorEq, h, e1, aA, kM]
    (repeat (with_reducible refine And.intro ?_ ?_; focus (first | omega | exact kG | kernel_rfl)))
    refine call_why13 (by simp [kB]) (a := ⟨k, id, par, nm, dir, ops⟩) rfl rfl oa hn hb hbo ?_
    by_cases h2 : whyI ⟨k, id, par, nm, dir, ops⟩ bys = 0
    case neg =>
      rw [if_pos h2] at hr
      rw [← hr, if_pos h2] at e0
      simp only [aR,N0,N1,N2,N3,N4,N5,Z0,Z1,Z2,Z3,Z4,Z5,Z6,Z7,Z8,Z9,Z10,Zc,↓reduceIte,reduceCtorEq, h2, e0]
      rfl
    rw [if_neg (by simpa using h2)] at hr
    simp only [aR,N0,N1,N2,N3,N4,N5,Z0,Z1,Z2,Z3,Z4,Z5,Z6,Z7,Z8,Z9,Z10,Zc,↓reduceIte,reduceCtorEq, h2]
    refine zZ (by simp [kB]) rfl hb ?_
    rcases kCz (id := id) (l := bys) with ⟨g1, g2⟩ | ⟨hlx, g1, g2⟩
    · rw [g2] at hr
      have hk : k = 2 ∨ k = 3 ∨ k = 4 ∨ (k ≠ 2 ∧ k ≠ 3 ∧ k ≠ 4) := by omega
      rcases hk with hk | hk | hk | ⟨k2, k3, k4⟩
      · subst hk
        rw [if_neg (by simp [kBN, kAx]), if_neg (by omega)] at hr
        simp only [aR,N0,N1,N2,N3,N4,N5,Z0,Z1,Z2,Z3,Z4,Z5,Z6,Z7,Z8,Z9,Z10,Zc,↓reduceIte,reduceCtorEq, g1, kM, List.map_cons, List.map_nil, kA (n := (i : Int) + 1) (by omega) (by omega)]
        (repeat (with_reducible refine And.intro ?_ ?_; focus (first | omega | exact kG | kernel_rfl)))
        refine kI ⟨(out ++ [⟨2, id, par, nm, dir, ops⟩], i + 1), by simp only; omega, by simp only [List.length_append, List.length_cons, List.length_nil]; omega, hr⟩ (by simp only; omega) ?_
        rw [hSt]; refine kH [] [.live 2] ?_
        simp only [aR,N0,N1,N2,N3,N4,N5,Z0,Z1,Z2,Z3,Z4,Z5,Z6,Z7,Z8,Z9,Z10,Zc,↓reduceIte,reduceCtorEq, z6, aA, kM, List.length_append, List.length_cons, List.length_nil] <;> ((repeat' apply And.intro) <;> first | rfl | omega | trivial)
      · subst hk
        rw [if_neg (by simp [kBN, kAx]), if_neg (by omega)] at hr
        simp only [aR,N0,N1,N2,N3,N4,N5,Z0,Z1,Z2,Z3,Z4,Z5,Z6,Z7,Z8,Z9,Z10,Zc,↓reduceIte,reduceCtorEq, g1, kM, List.map_cons, List.map_nil, kA (n := (i : Int) + 1) (by omega) (by omega)]
        (repeat (with_reducible refine And.intro ?_ ?_; focus (first | omega | exact kG | kernel_rfl)))
        refine kI ⟨(out ++ [⟨3, id, par, nm, dir, ops⟩], i + 1), by simp only; omega, by simp only [List.length_append, List.length_cons, List.length_nil]; omega, hr⟩ (by simp only; omega) ?_
        rw [hSt]; refine kH [] [.live 2] ?_
        simp only [aR,N0,N1,N2,N3,N4,N5,Z0,Z1,Z2,Z3,Z4,Z5,Z6,Z7,Z8,Z9,Z10,Zc,↓reduceIte,reduceCtorEq, z6, aA, kM, List.length_append, List.length_cons, List.length_nil] <;> ((repeat' apply And.intro) <;> first | rfl | omega | trivial)
      · subst hk
        rw [if_neg (by simp [kBN]), if_pos rfl, show kAJ ⟨4, id, par, nm, dir, ops⟩ kAx = (⟨4, id, par, nm, dir, ops⟩, 0) from rfl, if_neg (by simp)] at hr
        simp only [aR,N0,N1,N2,N3,N4,N5,Z0,Z1,Z2,Z3,Z4,Z5,Z6,Z7,Z8,Z9,Z10,Zc,↓reduceIte,reduceCtorEq, g1, kM, List.map_cons, List.map_nil, kA (n := (i : Int) + 1) (by omega) (by omega)]
        (repeat (with_reducible refine And.intro ?_ ?_; focus (first | omega | exact kG | kernel_rfl)))
        refine kI ⟨(out ++ [⟨4, id, par, nm, dir, ops⟩], i + 1), by simp only; omega, by simp only [List.length_append, List.length_cons, List.length_nil]; omega, hr⟩ (by simp only; omega) ?_
        rw [hSt]; refine kH [] [.live 2] ?_
        simp only [aR,N0,N1,N2,N3,N4,N5,Z0,Z1,Z2,Z3,Z4,Z5,Z6,Z7,Z8,Z9,Z10,Zc,↓reduceIte,reduceCtorEq, z6, aA, kM, List.length_append, List.length_cons, List.length_nil] <;> ((repeat' apply And.intro) <;> first | rfl | omega | trivial)
      · rw [if_neg (by simp [kBN, k2, k3]), if_neg k4] at hr
        simp only [aR,N0,N1,N2,N3,N4,N5,Z0,Z1,Z2,Z3,Z4,Z5,Z6,Z7,Z8,Z9,Z10,Zc,↓reduceIte,reduceCtorEq, g1, k2, k3, k4, kM, List.map_cons, List.map_nil, kA (n := (i : Int) + 1) (by omega) (by omega)]
        (repeat (with_reducible refine And.intro ?_ ?_; focus (first | omega | exact kG | kernel_rfl)))
        refine kI ⟨(out ++ [⟨k, id, par, nm, dir, ops⟩], i + 1), by simp only; omega, by simp only [List.length_append, List.length_cons, List.length_nil]; omega, hr⟩ (by simp only; omega) ?_
        rw [hSt]; refine kH [] [.live 2] ?_
        simp only [aR,N0,N1,N2,N3,N4,N5,Z0,Z1,Z2,Z3,Z4,Z5,Z6,Z7,Z8,Z9,Z10,Zc,↓reduceIte,reduceCtorEq, z6, aA, kM, List.length_append, List.length_cons, List.length_nil] <;> ((repeat' apply And.intro) <;> first | rfl | omega | trivial)
    · have e2 := qT bys hlx
      rw [g2] at hr ox
      generalize bys[fnd id bys] = x at *
      obtain ⟨xid, xops, xed, xrm, xcr, xmv, xpar, xnm⟩ := x
      simp only at ox
      have hx0 : ¬ ((fnd id bys : Int) < 0) := by omega
      have hx1 : ((fnd id bys : Int) ≥ 0) := by omega
      have hk : k = 2 ∨ k = 3 ∨ k = 4 ∨ (k ≠ 2 ∧ k ≠ 3 ∧ k ≠ 4) := by omega
      rcases hk with hk | hk | hk | ⟨k2, k3, k4⟩
      · subst hk
        cases xrm
        · rw [if_neg (by simp [kBN]), if_neg (by omega)] at hr
          simp only [aR,N0,N1,N2,N3,N4,N5,Z0,Z1,Z2,Z3,Z4,Z5,Z6,Z7,Z8,Z9,Z10,Zc,↓reduceIte,reduceCtorEq, g1, e2, oA, kN, hx0, hx1, kM, List.map_cons, List.map_nil, kA (n := (i : Int) + 1) (by omega) (by omega)]
          (repeat (with_reducible refine And.intro ?_ ?_; focus (first | omega | exact kG | kernel_rfl)))
          refine kI ⟨(out ++ [⟨2, id, par, nm, dir, ops⟩], i + 1), by simp only; omega, by simp only [List.length_append, List.length_cons, List.length_nil]; omega, hr⟩ (by simp only; omega) ?_
          rw [hSt]; refine kH [] [.live 2] ?_
          simp only [aR,N0,N1,N2,N3,N4,N5,Z0,Z1,Z2,Z3,Z4,Z5,Z6,Z7,Z8,Z9,Z10,Zc,↓reduceIte,reduceCtorEq, z6, aA, kM, List.length_append, List.length_cons, List.length_nil] <;> ((repeat' apply And.intro) <;> first | rfl | omega | trivial)
        · rw [if_pos (by simp [kBN])] at hr
          simp only [aR,N0,N1,N2,N3,N4,N5,Z0,Z1,Z2,Z3,Z4,Z5,Z6,Z7,Z8,Z9,Z10,Zc,↓reduceIte,reduceCtorEq, g1, e2, oA, kN, hx0, hx1, kA (n := (i : Int) + 1) (by omega) (by omega)]
          (repeat (with_reducible refine And.intro ?_ ?_; focus (first | omega | exact kG | kernel_rfl)))
          refine kI ⟨(out, i + 1), by simp only; omega, by simp only; omega, hr⟩ (by simp only; omega) ?_
          rw [hSt]; refine kH [] [.live 2] ?_
          simp only [aR,N0,N1,N2,N3,N4,N5,Z0,Z1,Z2,Z3,Z4,Z5,Z6,Z7,Z8,Z9,Z10,Zc,↓reduceIte,reduceCtorEq] <;> ((repeat' apply And.intro) <;> first | rfl | omega | trivial)
      · subst hk
        cases xmv
        · rw [if_neg (by simp [kBN]), if_neg (by omega)] at hr
          simp only [aR,N0,N1,N2,N3,N4,N5,Z0,Z1,Z2,Z3,Z4,Z5,Z6,Z7,Z8,Z9,Z10,Zc,↓reduceIte,reduceCtorEq, g1, e2, oA, kN, hx0, hx1, kM, List.map_cons, List.map_nil, kA (n := (i : Int) + 1) (by omega) (by omega)]
          (repeat (with_reducible refine And.intro ?_ ?_; focus (first | omega | exact kG | kernel_rfl)))
          refine kI ⟨(out ++ [⟨3, id, par, nm, dir, ops⟩], i + 1), by simp only; omega, by simp only [List.length_append, List.length_cons, List.length_nil]; omega, hr⟩ (by simp only; omega) ?_
          rw [hSt]; refine kH [] [.live 2] ?_
          simp only [aR,N0,N1,N2,N3,N4,N5,Z0,Z1,Z2,Z3,Z4,Z5,Z6,Z7,Z8,Z9,Z10,Zc,↓reduceIte,reduceCtorEq, z6, aA, kM, List.length_append, List.length_cons, List.length_nil] <;> ((repeat' apply And.intro) <;> first | rfl | omega | trivial)
        · rw [if_pos (by simp [kBN])] at hr
          simp only [aR,N0,N1,N2,N3,N4,N5,Z0,Z1,Z2,Z3,Z4,Z5,Z6,Z7,Z8,Z9,Z10,Zc,↓reduceIte,reduceCtorEq, g1, e2, oA, kN, hx0, hx1, kA (n := (i : Int) + 1) (by omega) (by omega)]
          (repeat (with_reducible refine And.intro ?_ ?_; focus (first | omega | exact kG | kernel_rfl)))
          refine kI ⟨(out, i + 1), by simp only; omega, by simp only; omega, hr⟩ (by simp only; omega) ?_
          rw [hSt]; refine kH [] [.live 2] ?_
          simp only [aR,N0,N1,N2,N3,N4,N5,Z0,Z1,Z2,Z3,Z4,Z5,Z6,Z7,Z8,Z9,Z10,Zc,↓reduceIte,reduceCtorEq] <;> ((repeat' apply And.intro) <;> first | rfl | omega | trivial)
      · subst hk
        rw [if_neg (by simp [kBN]), if_pos rfl] at hr
        cases xed
        · rw [show kAJ ⟨4, id, par, nm, dir, ops⟩ ⟨xid, xops, false, xrm, xcr, xmv, xpar, xnm⟩ = (⟨4, id, par, nm, dir, ops⟩, 0) from rfl, if_neg (by simp)] at hr
          simp only [aR,N0,N1,N2,N3,N4,N5,Z0,Z1,Z2,Z3,Z4,Z5,Z6,Z7,Z8,Z9,Z10,Zc,↓reduceIte,reduceCtorEq, g1, e2, oA, kN, hx0, hx1, kM, List.map_cons, List.map_nil, kA (n := (i : Int) + 1) (by omega) (by omega)]
          (repeat (with_reducible refine And.intro ?_ ?_; focus (first | omega | exact kG | kernel_rfl)))
          refine kI ⟨(out ++ [⟨4, id, par, nm, dir, ops⟩], i + 1), by simp only; omega, by simp only [List.length_append, List.length_cons, List.length_nil]; omega, hr⟩ (by simp only; omega) ?_
          rw [hSt]; refine kH [] [.live 2] ?_
          simp only [aR,N0,N1,N2,N3,N4,N5,Z0,Z1,Z2,Z3,Z4,Z5,Z6,Z7,Z8,Z9,Z10,Zc,↓reduceIte,reduceCtorEq, z6, aA, kM, List.length_append, List.length_cons, List.length_nil] <;> ((repeat' apply And.intro) <;> first | rfl | omega | trivial)
        by_cases c : xops = []
        · subst c
          rw [show kAJ ⟨4, id, par, nm, dir, ops⟩ ⟨xid, [], true, xrm, xcr, xmv, xpar, xnm⟩ = (⟨4, id, par, nm, dir, ops⟩, 0) from rfl, if_neg (by simp)] at hr
          simp only [aR,N0,N1,N2,N3,N4,N5,Z0,Z1,Z2,Z3,Z4,Z5,Z6,Z7,Z8,Z9,Z10,Zc,↓reduceIte,reduceCtorEq, g1, e2, oA, kN, hx0, hx1, qM, List.length_nil, kM, List.map_cons, List.map_nil, kA (n := (i : Int) + 1) (by omega) (by omega)]
          (repeat (with_reducible refine And.intro ?_ ?_; focus (first | omega | exact kG | kernel_rfl)))
          refine kI ⟨(out ++ [⟨4, id, par, nm, dir, ops⟩], i + 1), by simp only; omega, by simp only [List.length_append, List.length_cons, List.length_nil]; omega, hr⟩ (by simp only; omega) ?_
          rw [hSt]; refine kH [] [.live 2] ?_
          simp only [aR,N0,N1,N2,N3,N4,N5,Z0,Z1,Z2,Z3,Z4,Z5,Z6,Z7,Z8,Z9,Z10,Zc,↓reduceIte,reduceCtorEq, z6, aA, kM, List.length_append, List.length_cons, List.length_nil] <;> ((repeat' apply And.intro) <;> first | rfl | omega | trivial)
        have c4 : ((xops.length : Int) > 0) := by have := List.length_pos_iff.2 c; omega
        have c5 : (0 < (xops.length : Int)) = True := eq_true c4
        simp only [aR,N0,N1,N2,N3,N4,N5,Z0,Z1,Z2,Z3,Z4,Z5,Z6,Z7,Z8,Z9,Z10,Zc,↓reduceIte,reduceCtorEq, g1, e2, oA, kN, hx0, hx1, kD, c4, c5]
        (repeat (with_reducible refine And.intro ?_ ?_; focus (first | omega | exact kG | kernel_rfl)))
        refine kC9 (by simp [kB]) rfl rfl oa ox ?_
        by_cases he : ovE ops xops = 0
        · have ed : kAJ ⟨4, id, par, nm, dir, ops⟩ ⟨xid, xops, true, xrm, xcr, xmv, xpar, xnm⟩ = (⟨4, id, par, nm, dir, ovN false ops xops⟩, 0) := by rw [kAJ, if_neg (by simp [c]), if_pos he]
          rw [ed, if_neg (by simp)] at hr
          rw [kDo he]
          simp only [aR,N0,N1,N2,N3,N4,N5,Z0,Z1,Z2,Z3,Z4,Z5,Z6,Z7,Z8,Z9,Z10,Zc,↓reduceIte,reduceCtorEq, res2, he, kM, List.map_cons, List.map_nil, kA (n := (i : Int) + 1) (by omega) (by omega)]
          (repeat (with_reducible refine And.intro ?_ ?_; focus (first | omega | exact kG | kernel_rfl)))
          refine kI ⟨(out ++ [⟨4, id, par, nm, dir, ovN false ops xops⟩], i + 1), by simp only; omega, by simp only [List.length_append, List.length_cons, List.length_nil]; omega, hr⟩ (by simp only; omega) ?_
          rw [hSt]; refine kH [] [.live 2] ?_
          simp only [aR,N0,N1,N2,N3,N4,N5,Z0,Z1,Z2,Z3,Z4,Z5,Z6,Z7,Z8,Z9,Z10,Zc,↓reduceIte,reduceCtorEq, z6, aA, kM, List.length_append, List.length_cons, List.length_nil] <;> ((repeat' apply And.intro) <;> first | rfl | omega | trivial)
        · have ed : kAJ ⟨4, id, par, nm, dir, ops⟩ ⟨xid, xops, true, xrm, xcr, xmv, xpar, xnm⟩ = (⟨4, id, par, nm, dir, []⟩, ovE ops xops) := by rw [kAJ, if_neg (by simp [c]), if_neg he]
          rw [ed, if_pos he] at hr
          rw [← hr, if_pos he] at e0
          rw [ovR_err he]
          simp only [aR,N0,N1,N2,N3,N4,N5,Z0,Z1,Z2,Z3,Z4,Z5,Z6,Z7,Z8,Z9,Z10,Zc,↓reduceIte,reduceCtorEq, res2, he, e0]
          rfl
      · rw [if_neg (by simp [kBN, k2, k3]), if_neg k4] at hr
        simp only [aR,N0,N1,N2,N3,N4,N5,Z0,Z1,Z2,Z3,Z4,Z5,Z6,Z7,Z8,Z9,Z10,Zc,↓reduceIte,reduceCtorEq, g1, e2, oA, kN, hx0, hx1, k2, k3, k4, kM, List.map_cons, List.map_nil, kA (n := (i : Int) + 1) (by omega) (by omega)]
        (repeat (with_reducible refine And.intro ?_ ?_; focus (first | omega | exact kG | kernel_rfl)))
        refine kI ⟨(out ++ [⟨k, id, par, nm, dir, ops⟩], i + 1), by simp only; omega, by simp only [List.length_append, List.length_cons, List.length_nil]; omega, hr⟩ (by simp only; omega) ?_
        rw [hSt]; refine kH [] [.live 2] ?_
        simp only [aR,N0,N1,N2,N3,N4,N5,Z0,Z1,Z2,Z3,Z4,Z5,Z6,Z7,Z8,Z9,Z10,Zc,↓reduceIte,reduceCtorEq, z6, aA, kM, List.length_append, List.length_cons, List.length_nil] <;> ((repeat' apply And.intro) <;> first | rfl | omega | trivial)
  · rw [List.drop_of_length_le (by omega), rebF] at hr
    rw [← hr] at e0 hro hrl
    simp only at e0 hro hrl
    rw [if_neg (by simp)] at e0
    simp only [aR,N0,N1,N2,N3,N4,N5,Z0,Z1,Z2,Z3,Z4,Z5,Z6,Z7,Z8,Z9,Z10,Zc,↓reduceIte,reduceCtorEq, h]
    refine kK (C := jZ) (i := ⟨out, by omega, hro⟩) (by simp [kB]) rfl rfl rfl (by simp [AV.erL, AV.er, qF]) (fun _ h => h) rfl ?_
    by_cases h6 : txnE out = 0
    case neg =>
      rw [if_pos h6] at e0
      simp only [aR,N0,N1,N2,N3,N4,N5,Z0,Z1,Z2,Z3,Z4,Z5,Z6,Z7,Z8,Z9,Z10,Zc,↓reduceIte,reduceCtorEq, h6, e0]
      rfl
    rw [if_neg (by simpa using h6)] at e0
    simp only [aR,N0,N1,N2,N3,N4,N5,Z0,Z1,Z2,Z3,Z4,Z5,Z6,Z7,Z8,Z9,Z10,Zc,↓reduceIte,reduceCtorEq, h6]
    refine qK (C := kAD) (i := (⟨bys, hb, hbo⟩, ⟨l, by omega, fun a ha => (ho a ha).1⟩)) (r := .sl 0 8 (ones (bys.map fun z => j8 z l))) (by simp [kB]) rfl rfl (by simp [AV.erL, AV.er, qD, qF]) rfl (fun r h => h) ?_
    simp only [aR,N0,N1,N2,N3,N4,N5,Z0,Z1,Z2,Z3,Z4,Z5,Z6,Z7,Z8,Z9,Z10,Zc,↓reduceIte,reduceCtorEq, e0, AV.er, qD]
end Go.Proofs
end
