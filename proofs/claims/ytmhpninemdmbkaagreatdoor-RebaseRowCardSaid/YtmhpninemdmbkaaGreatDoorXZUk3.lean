/-
  The document's tree: an act. The document's Check of a transaction. The document's transaction on a tree.
-/
import Derived.Test.YtmhpninemdmbkaaGreatDoorXZUk2
import Derived.Test.YtmhpninemdmbkaaGreatDoorXZAp5
import Derived.Test.YtmhpninemdmbkaaGreatDoorXZAw9
import Derived.Test.YtmhpninemdmbkaaGreatDoorRwJ
set_option linter.unusedSimpArgs false
set_option linter.unusedVariables false
set_option linter.defProp false

-- ZUk3
section
namespace Go.Proofs
open Go Go.Rw
open _root_.Nat renaming reduceAdd → N0, reduceSub → N1, reduceMul → N2, reduceLT → N3, reduceLeDiff → N4, reduceEqDiff → N5
open _root_.Int renaming reduceNeg → Z0, reduceAdd → Z1, reduceSub → Z2, reduceMul → Z3, reduceGT → Z4, reduceGE → Z5, reduceLT → Z6, reduceLE → Z7, reduceEq → Z8, reduceNe → Z9, reduceToNat → Z10, cast_ofNat_Int → Zc
set_option maxRecDepth 100000
set_option linter.unusedSimpArgs false
set_option linter.unusedVariables false

abbrev okT (l : List Nd) : Prop := l.length ≤ 1000000 ∧ ∀ x ∈ l, x.text.length ≤ 1099511627776
abbrev doAcon : Con where
  ι := { p : List Nd × Ac // okT p.1 ∧ okA p.2 }
  args := fun p => [.sl 0 5 (qI p.1.1), aA p.1.2]
  post := fun p r => r = .tup [.sl 0 5 (qI (doN p.1.1 p.1.2).1), .v (.int .i64 (doN p.1.1 p.1.2).2)]
theorem atN_drop (id : Int) : ∀ (l : List Nd) (i : Nat), i ≤ atN id l → atN id l = i + atN id (l.drop i)
  | l, 0, _ => by simp
  | [], i + 1, h => by simp [atN] at h
  | x :: l, i + 1, h => by
    rw [atN] at h ⊢
    split at h
    · rename_i hx
      rw [if_pos hx, List.drop_succ_cons, atN_drop id l i (by omega)]; omega
    · omega
theorem kBT {l : List Nd} {i j : Nat} (hj : j ≤ l.length) : kAf 0 5 (qI l) i j = .sl 0 5 (qI ((l.drop i).take (j - i))) := by
  unfold kAf
  split
  · rename_i h
    obtain ⟨rfl, h2⟩ := h
    rw [kY] at h2
    rw [List.drop_zero, Nat.sub_zero, List.take_of_length_le (by omega)]
  · rw [nodes_drop, nodes_take]
set_option maxHeartbeats 8000000 in
theorem doA_good : Rw.Good Tryz.prog 38 doAcon := by
  have hΓ : kL Tryz.prog [(36, kBY), (32, kBs), (60, kDS), (61, withCon), (63, totCon), (62, doCon)] := (kD kCg (kD kFC (kD place_good (kD with_good (kD tot_good (kD rdo_good kJ))))))
  refine good_fna Tryz.func38 (by kernel_rfl) rfl (show Tryz.f38.results.toList = [.tmp 4, .tmp 5] from rfl) (nn := 202) (fun _ => rfl) (fun x => by simp [AV.erL, AV.er, kAr]) ?_
  rintro ⟨⟨l, a⟩, ⟨hl, ht⟩, oa, hn⟩
  obtain ⟨k, id, par, nm, dir, ops⟩ := a
  simp only at hl ht oa hn
  refine kAs hΓ (Ws := [(17, [2006], []), (26, [], [])]) _ ?_
  simp only [aR,N0,N1,N2,N3,N4,N5,Z0,Z1,Z2,Z3,Z4,Z5,Z6,Z7,Z8,Z9,Z10,Zc,↓reduceIte,reduceCtorEq, kM, aA]
  refine kC2 (by simp [kC]) rfl (by omega) ?_
  have nf : ¬ ndx id l < l.length → ndI id l = -1 := fun h => by rw [ndI, if_neg h]
  have yf : ndx id l < l.length → ndI id l = (ndx id l : Int) := fun h => by rw [ndI, if_pos h]
  by_cases k1 : k = 1
  · subst k1
    have e0 : doN l ⟨1, id, par, nm, dir, ops⟩ = if id < 1 ∨ id > 1099511627776 ∨ zC nm = false then (l, 1) else if ndx id l < l.length then (l, 6) else if jZ l par nm 0 ≠ 0 then (l, jZ l par nm 0) else if l.length ≥ 100 then (l, 4) else (l.take (atN id l) ++ ⟨id, par, nm, dir, []⟩ :: l.drop (atN id l), 0) := rfl
    simp only [aR,N0,N1,N2,N3,N4,N5,Z0,Z1,Z2,Z3,Z4,Z5,Z6,Z7,Z8,Z9,Z10,Zc,↓reduceIte,reduceCtorEq, kM]
    by_cases h1 : id < 1
    · rw [if_pos (.inl h1)] at e0
      simp only [aR,N0,N1,N2,N3,N4,N5,Z0,Z1,Z2,Z3,Z4,Z5,Z6,Z7,Z8,Z9,Z10,Zc,↓reduceIte,reduceCtorEq, kM, h1, e0]
    by_cases h2 : id > 1099511627776
    · rw [if_pos (.inr (.inl h2))] at e0
      simp only [aR,N0,N1,N2,N3,N4,N5,Z0,Z1,Z2,Z3,Z4,Z5,Z6,Z7,Z8,Z9,Z10,Zc,↓reduceIte,reduceCtorEq, kM, h1, h2, e0]
    simp only [aR,N0,N1,N2,N3,N4,N5,Z0,Z1,Z2,Z3,Z4,Z5,Z6,Z7,Z8,Z9,Z10,Zc,↓reduceIte,reduceCtorEq, kM, h1, h2]
    refine kBM (by simp [kC]) hn ?_
    cases hnm : zC nm
    · rw [if_pos (.inr (.inr hnm))] at e0
      simp only [aR,N0,N1,N2,N3,N4,N5,Z0,Z1,Z2,Z3,Z4,Z5,Z6,Z7,Z8,Z9,Z10,Zc,↓reduceIte,reduceCtorEq, kM, e0]
    rw [if_neg (by rintro (h | h | h); exact h1 h; exact h2 h; rw [hnm] at h; cases h)] at e0
    by_cases hf : ndx id l < l.length
    · rw [if_pos hf] at e0
      simp only [aR,N0,N1,N2,N3,N4,N5,Z0,Z1,Z2,Z3,Z4,Z5,Z6,Z7,Z8,Z9,Z10,Zc,↓reduceIte,reduceCtorEq, kM, yf hf, show ((ndx id l : Int) ≥ 0) = True from eq_true (by omega), e0]
    rw [if_neg hf] at e0
    simp only [aR,N0,N1,N2,N3,N4,N5,Z0,Z1,Z2,Z3,Z4,Z5,Z6,Z7,Z8,Z9,Z10,Zc,↓reduceIte,reduceCtorEq, kM, nf hf]
    refine kEm (by simp [kC]) rfl (by omega) ?_
    by_cases hp : jZ l par nm 0 = 0
    case neg =>
      rw [if_pos hp] at e0
      simp only [aR,N0,N1,N2,N3,N4,N5,Z0,Z1,Z2,Z3,Z4,Z5,Z6,Z7,Z8,Z9,Z10,Zc,↓reduceIte,reduceCtorEq, kM, hp, e0]
    rw [if_neg (by simpa using hp)] at e0
    by_cases h5 : (l.length : Int) ≥ 100
    · rw [if_pos (by omega)] at e0
      simp only [aR,N0,N1,N2,N3,N4,N5,Z0,Z1,Z2,Z3,Z4,Z5,Z6,Z7,Z8,Z9,Z10,Zc,↓reduceIte,reduceCtorEq, kM, hp, kY, h5, e0]
    rw [if_neg (by omega)] at e0
    simp only [aR,N0,N1,N2,N3,N4,N5,Z0,Z1,Z2,Z3,Z4,Z5,Z6,Z7,Z8,Z9,Z10,Zc,↓reduceIte,reduceCtorEq, kM, hp, kY, h5]
    obtain ⟨St, hSt⟩ : ∃ St : { i : Nat // i ≤ atN id l } → AS, ∀ i, St i = AS.of 202 [(0, .sl 0 5 (qI l)), (3, .ptr 0 0), (8, .v (.int .i64 i.1))] [.cells [.v (.int .i64 1), .v (.int .i64 id), .v (.int .i64 par), .v (sv nm), .v (.bool dir), .sl 0 3 (kN ops)]] [] := ⟨_, fun _ => rfl⟩
    have hal := atN_le id l
    refine vc_loopD [(17, [2006], [])] hΓ St (fun i => l.length - i.1) ⟨0, by omega⟩ (by rw [hSt]; refine kH [0] [] ?_; simp only [aR,N0,N1,N2,N3,N4,N5,Z0,Z1,Z2,Z3,Z4,Z5,Z6,Z7,Z8,Z9,Z10,Zc,↓reduceIte,reduceCtorEq] <;> ((repeat' apply And.intro) <;> first | rfl | omega | trivial)) ?_
    rintro ⟨i, hi⟩
    have hdr := atN_drop id l i hi
    rw [hSt]
    simp only
    simp only [aR,N0,N1,N2,N3,N4,N5,Z0,Z1,Z2,Z3,Z4,Z5,Z6,Z7,Z8,Z9,Z10,Zc,↓reduceIte,reduceCtorEq, kM, kY]
    (repeat (with_reducible refine And.intro ?_ ?_; focus (first | omega | exact kG | kernel_rfl)))
    have hp1 : ∀ j, j ≤ l.length → kAf 0 5 (qI l) 0 j = .sl 0 5 (qI (l.take j)) := fun j hj => by rw [kBT hj, List.drop_zero, Nat.sub_zero]
    have hp2 : ∀ j, j ≤ l.length → kAf 0 5 (qI l) j l.length = .sl 0 5 (qI (l.drop j)) := fun j hj => by rw [kBT (Nat.le_refl _), List.take_of_length_le (by rw [List.length_drop]; exact Nat.le_refl _)]
    by_cases h : (i : Int) < l.length
    · have hlt : i < l.length := by omega
      have e1 := zI l hlt
      rw [List.drop_eq_getElem_cons hlt, atN] at hdr
      by_cases hx : l[i].id < id
      · rw [if_pos hx] at hdr
        generalize l[i] = x at *
        simp only [aR,N0,N1,N2,N3,N4,N5,Z0,Z1,Z2,Z3,Z4,Z5,Z6,Z7,Z8,Z9,Z10,Zc,↓reduceIte,reduceCtorEq, kM, h, e1, nA, kY, hx, kA (n := (i : Int) + 1) (by omega) (by omega)]
        (repeat (with_reducible refine And.intro ?_ ?_; focus (first | omega | exact kG | kernel_rfl)))
        refine kI ⟨i + 1, by omega⟩ (by simp only; omega) ?_
        rw [hSt]; refine kH [0] [] ?_
        simp only [aR,N0,N1,N2,N3,N4,N5,Z0,Z1,Z2,Z3,Z4,Z5,Z6,Z7,Z8,Z9,Z10,Zc,↓reduceIte,reduceCtorEq] <;> ((repeat' apply And.intro) <;> first | rfl | omega | trivial)
      · rw [if_neg hx] at hdr
        have hi2 : atN id l = i := by omega
        rw [hi2] at e0
        generalize l[i] = x at *
        simp only [aR,N0,N1,N2,N3,N4,N5,Z0,Z1,Z2,Z3,Z4,Z5,Z6,Z7,Z8,Z9,Z10,Zc,↓reduceIte,reduceCtorEq, kM, h, e1, nA, kY, hx, hp1 i (by omega), hp2 i (by omega), List.map_nil, List.map_cons, List.length_append, List.length_take, List.length_drop, show min i l.length = i by omega]
        (repeat (with_reducible refine And.intro ?_ ?_; focus (first | omega | exact kG | kernel_rfl)))
        rw [e0]; simp [qI, nA]
    · have hi2 : atN id l = i := by omega
      rw [hi2] at e0
      simp only [aR,N0,N1,N2,N3,N4,N5,Z0,Z1,Z2,Z3,Z4,Z5,Z6,Z7,Z8,Z9,Z10,Zc,↓reduceIte,reduceCtorEq, kM, h, kY, hp1 i (by omega), hp2 i (by omega), List.map_nil, List.map_cons, List.length_append, List.length_take, List.length_drop, show min i l.length = i by omega]
      (repeat (with_reducible refine And.intro ?_ ?_; focus (first | omega | exact kG | kernel_rfl)))
      rw [e0]; simp [qI, nA]
  by_cases k2 : k = 2
  · subst k2
    have e0 : doN l ⟨2, id, par, nm, dir, ops⟩ = if ¬ ndx id l < l.length then (l, 5) else if (l.any fun y => decide (y.par = id)) = true then (l, 9) else (l.take (ndx id l) ++ l.drop (ndx id l + 1), 0) := rfl
    by_cases hf : ndx id l < l.length
    case neg =>
      rw [if_pos hf] at e0
      simp only [aR,N0,N1,N2,N3,N4,N5,Z0,Z1,Z2,Z3,Z4,Z5,Z6,Z7,Z8,Z9,Z10,Zc,↓reduceIte,reduceCtorEq, kM, nf hf, e0]
    rw [if_neg (by simpa using hf)] at e0
    rw [yf hf]
    simp only [aR,N0,N1,N2,N3,N4,N5,Z0,Z1,Z2,Z3,Z4,Z5,Z6,Z7,Z8,Z9,Z10,Zc,↓reduceIte,reduceCtorEq, kM, show ((ndx id l : Int) < 0) = False from eq_false (by omega)]
    obtain ⟨St, hSt⟩ : ∃ St : { i : Nat // i ≤ l.length ∧ (l.any fun y => decide (y.par = id)) = (l.drop i).any fun y => decide (y.par = id) } → AS, ∀ i, St i = AS.of 202 [(0, .sl 0 5 (qI l)), (3, .ptr 0 0), (6, .v (.int .i64 (ndx id l))), (10, .v (.int .i64 i.1))] [.cells [.v (.int .i64 2), .v (.int .i64 id), .v (.int .i64 par), .v (sv nm), .v (.bool dir), .sl 0 3 (kN ops)]] [] := ⟨_, fun _ => rfl⟩
    refine vc_loopD [] hΓ St (fun i => l.length - i.1) ⟨0, by omega, by simp⟩ (by rw [hSt]; refine kH [0] [] ?_; simp only [aR,N0,N1,N2,N3,N4,N5,Z0,Z1,Z2,Z3,Z4,Z5,Z6,Z7,Z8,Z9,Z10,Zc,↓reduceIte,reduceCtorEq] <;> ((repeat' apply And.intro) <;> first | rfl | omega | trivial)) ?_
    rintro ⟨i, hi, ha⟩
    rw [hSt]
    simp only
    simp only [aR,N0,N1,N2,N3,N4,N5,Z0,Z1,Z2,Z3,Z4,Z5,Z6,Z7,Z8,Z9,Z10,Zc,↓reduceIte,reduceCtorEq, kM, kY]
    (with_reducible first | refine kB (fun h => ?_) (fun h => ?_) | refine kE (fun h => ?_) (fun h => ?_))
    · have hlt : i < l.length := by omega
      have e1 := zI l hlt
      rw [List.drop_eq_getElem_cons hlt, List.any_cons] at ha
      generalize l[i] = x at *
      by_cases hx : x.par = id
      · rw [if_pos (by rw [ha]; simp [hx])] at e0
        simp only [aR,N0,N1,N2,N3,N4,N5,Z0,Z1,Z2,Z3,Z4,Z5,Z6,Z7,Z8,Z9,Z10,Zc,↓reduceIte,reduceCtorEq, kM, h, e1, nA, kY, hx, e0]
        (repeat (with_reducible refine And.intro ?_ ?_; focus (first | omega | exact kG | kernel_rfl)))
        ((repeat' apply And.intro) <;> first | rfl | omega | trivial)
      · simp only [aR,N0,N1,N2,N3,N4,N5,Z0,Z1,Z2,Z3,Z4,Z5,Z6,Z7,Z8,Z9,Z10,Zc,↓reduceIte,reduceCtorEq, kM, h, e1, nA, kY, hx, kA (n := (i : Int) + 1) (by omega) (by omega)]
        (repeat (with_reducible refine And.intro ?_ ?_; focus (first | omega | exact kG | kernel_rfl)))
        refine kI ⟨i + 1, by omega, by rw [ha]; simp [hx]⟩ (by simp only; omega) ?_
        rw [hSt]; refine kH [0] [] ?_
        simp only [aR,N0,N1,N2,N3,N4,N5,Z0,Z1,Z2,Z3,Z4,Z5,Z6,Z7,Z8,Z9,Z10,Zc,↓reduceIte,reduceCtorEq] <;> ((repeat' apply And.intro) <;> first | rfl | omega | trivial)
    · rw [List.drop_of_length_le (by omega)] at ha
      rw [if_neg (by rw [ha]; simp)] at e0
      have hp1 : kAf 0 5 (qI l) 0 (ndx id l) = .sl 0 5 (qI (l.take (ndx id l))) := by rw [kBT (by omega), List.drop_zero, Nat.sub_zero]
      have hp2 : kAf 0 5 (qI l) (ndx id l + 1) l.length = .sl 0 5 (qI (l.drop (ndx id l + 1))) := by rw [kBT (Nat.le_refl _), List.take_of_length_le (by rw [List.length_drop]; exact Nat.le_refl _)]
      simp only [aR,N0,N1,N2,N3,N4,N5,Z0,Z1,Z2,Z3,Z4,Z5,Z6,Z7,Z8,Z9,Z10,Zc,↓reduceIte,reduceCtorEq, kM, h, kY, kA (n := (ndx id l : Int) + 1) (by omega) (by omega), show ((ndx id l : Int) + 1).toNat = ndx id l + 1 by omega, hp1, hp2, List.map_nil, List.map_cons, List.length_append, List.length_take, List.length_drop, show min (ndx id l) l.length = ndx id l by omega]
      (repeat (with_reducible refine And.intro ?_ ?_; focus (first | omega | exact kG | kernel_rfl)))
      rw [e0]; simp [qI]
  by_cases k3 : k = 3
  · subst k3
    have e0 : doN l ⟨3, id, par, nm, dir, ops⟩ = if zC nm = false then (l, 1) else if ¬ ndx id l < l.length then (l, 5) else if jZ l par nm id ≠ 0 then (l, jZ l par nm id) else (l.set (ndx id l) ⟨(l.getD (ndx id l) j2).id, par, nm, (l.getD (ndx id l) j2).dir, (l.getD (ndx id l) j2).text⟩, 0) := rfl
    simp only [aR,N0,N1,N2,N3,N4,N5,Z0,Z1,Z2,Z3,Z4,Z5,Z6,Z7,Z8,Z9,Z10,Zc,↓reduceIte,reduceCtorEq, kM]
    refine kBM (by simp [kC]) hn ?_
    cases hnm : zC nm
    · rw [if_pos hnm] at e0
      simp only [aR,N0,N1,N2,N3,N4,N5,Z0,Z1,Z2,Z3,Z4,Z5,Z6,Z7,Z8,Z9,Z10,Zc,↓reduceIte,reduceCtorEq, kM, e0]
    rw [if_neg (by rw [hnm]; simp)] at e0
    by_cases hf : ndx id l < l.length
    case neg =>
      rw [if_pos hf] at e0
      simp only [aR,N0,N1,N2,N3,N4,N5,Z0,Z1,Z2,Z3,Z4,Z5,Z6,Z7,Z8,Z9,Z10,Zc,↓reduceIte,reduceCtorEq, kM, nf hf, e0]
    rw [if_neg (by simpa using hf)] at e0
    rw [yf hf]
    simp only [aR,N0,N1,N2,N3,N4,N5,Z0,Z1,Z2,Z3,Z4,Z5,Z6,Z7,Z8,Z9,Z10,Zc,↓reduceIte,reduceCtorEq, kM, show ((ndx id l : Int) < 0) = False from eq_false (by omega)]
    refine kEm (by simp [kC]) rfl (by omega) ?_
    by_cases hp : jZ l par nm id = 0
    case neg =>
      rw [if_pos hp] at e0
      simp only [aR,N0,N1,N2,N3,N4,N5,Z0,Z1,Z2,Z3,Z4,Z5,Z6,Z7,Z8,Z9,Z10,Zc,↓reduceIte,reduceCtorEq, kM, hp, e0]
    rw [if_neg (by simpa using hp)] at e0
    have e1 := zI l hf
    have e3 : l.getD (ndx id l) j2 = l[ndx id l] := by simp [List.getD_eq_getElem?_getD, hf]
    rw [e3] at e0
    generalize l[ndx id l] = x at *
    simp only [aR,N0,N1,N2,N3,N4,N5,Z0,Z1,Z2,Z3,Z4,Z5,Z6,Z7,Z8,Z9,Z10,Zc,↓reduceIte,reduceCtorEq, kM, hp, e1, nA, kY, List.map_nil, List.map_cons]
    (repeat (with_reducible refine And.intro ?_ ?_; focus (first | omega | exact kG | kernel_rfl)))
    refine call_with (by simp [kC]) rfl rfl (x := ⟨x.id, par, nm, x.dir, x.text⟩) rfl hl hf ?_
    simp only [aR,N0,N1,N2,N3,N4,N5,Z0,Z1,Z2,Z3,Z4,Z5,Z6,Z7,Z8,Z9,Z10,Zc,↓reduceIte,reduceCtorEq, kM, e0]
  by_cases k4 : k = 4
  · subst k4
    have e0 : doN l ⟨4, id, par, nm, dir, ops⟩ = if ¬ ndx id l < l.length then (l, 5) else if (l.getD (ndx id l) j2).dir = true then (l, 8) else if errI (l.getD (ndx id l) j2).text ops ≠ 0 then (l, errI (l.getD (ndx id l) j2).text ops)
      else if (totN (l.set (ndx id l) ⟨(l.getD (ndx id l) j2).id, (l.getD (ndx id l) j2).par, (l.getD (ndx id l) j2).nm, (l.getD (ndx id l) j2).dir, zQ (l.getD (ndx id l) j2).text ops⟩) : Int) > 10000 then (l, 4)
      else (l.set (ndx id l) ⟨(l.getD (ndx id l) j2).id, (l.getD (ndx id l) j2).par, (l.getD (ndx id l) j2).nm, (l.getD (ndx id l) j2).dir, zQ (l.getD (ndx id l) j2).text ops⟩, 0) := rfl
    by_cases hf : ndx id l < l.length
    case neg =>
      rw [if_pos hf] at e0
      simp only [aR,N0,N1,N2,N3,N4,N5,Z0,Z1,Z2,Z3,Z4,Z5,Z6,Z7,Z8,Z9,Z10,Zc,↓reduceIte,reduceCtorEq, kM, nf hf, e0]
    rw [if_neg (by simpa using hf)] at e0
    rw [yf hf]
    have e1 := zI l hf
    have e3 : l.getD (ndx id l) j2 = l[ndx id l] := by simp [List.getD_eq_getElem?_getD, hf]
    have hxt := ht _ (List.getElem_mem hf)
    rw [e3] at e0
    generalize l[ndx id l] = x at *
    obtain ⟨xi, xp, xn, xd, xt⟩ := x
    simp only at e0 hxt
    cases xd
    case true =>
      rw [if_pos rfl] at e0
      simp only [aR,N0,N1,N2,N3,N4,N5,Z0,Z1,Z2,Z3,Z4,Z5,Z6,Z7,Z8,Z9,Z10,Zc,↓reduceIte,reduceCtorEq, kM, show ((ndx id l : Int) < 0) = False from eq_false (by omega), e1, nA, kY, e0] <;> ((repeat' apply And.intro) <;> first | rfl | omega | trivial)
    rw [if_neg (by simp)] at e0
    simp only [aR,N0,N1,N2,N3,N4,N5,Z0,Z1,Z2,Z3,Z4,Z5,Z6,Z7,Z8,Z9,Z10,Zc,↓reduceIte,reduceCtorEq, kM, show ((ndx id l : Int) < 0) = False from eq_false (by omega), e1, nA, kY]
    (repeat (with_reducible refine And.intro ?_ ?_; focus (first | omega | exact kG | kernel_rfl)))
    refine call_do (by simp [kC]) rfl hxt oa ?_
    by_cases he : errI xt ops = 0
    case neg =>
      rw [if_pos he] at e0
      simp only [aR,N0,N1,N2,N3,N4,N5,Z0,Z1,Z2,Z3,Z4,Z5,Z6,Z7,Z8,Z9,Z10,Zc,↓reduceIte,reduceCtorEq, kM, doR, res2, he, e0]
    rw [if_neg (by simpa using he)] at e0
    simp only [aR,N0,N1,N2,N3,N4,N5,Z0,Z1,Z2,Z3,Z4,Z5,Z6,Z7,Z8,Z9,Z10,Zc,↓reduceIte,reduceCtorEq, kM, doR, res2, he, e1, nA, kY, List.map_nil, List.map_cons]
    (repeat (with_reducible refine And.intro ?_ ?_; focus (first | omega | exact kG | kernel_rfl)))
    refine call_with (by simp [kC]) rfl rfl (x := ⟨xi, xp, xn, false, zQ xt ops⟩) rfl hl hf ?_
    simp only [aR,N0,N1,N2,N3,N4,N5,Z0,Z1,Z2,Z3,Z4,Z5,Z6,Z7,Z8,Z9,Z10,Zc,↓reduceIte,reduceCtorEq, kM]
    refine call_tot (by simp [kC]) rfl (by rw [List.length_set]; exact hl) (fun y hy => ?_) ?_
    · rcases List.mem_or_eq_of_mem_set hy with h | h
      · exact ht y h
      · rw [h]
        have := kC3 xt ops
        simp only; omega
    by_cases h6 : (totN (l.set (ndx id l) ⟨xi, xp, xn, false, zQ xt ops⟩) : Int) > 10000
    · rw [if_pos h6] at e0
      simp only [aR,N0,N1,N2,N3,N4,N5,Z0,Z1,Z2,Z3,Z4,Z5,Z6,Z7,Z8,Z9,Z10,Zc,↓reduceIte,reduceCtorEq, kM, h6, e0]
    · rw [if_neg h6] at e0
      simp only [aR,N0,N1,N2,N3,N4,N5,Z0,Z1,Z2,Z3,Z4,Z5,Z6,Z7,Z8,Z9,Z10,Zc,↓reduceIte,reduceCtorEq, kM, h6, e0]
  · have e0 : doN l ⟨k, id, par, nm, dir, ops⟩ = (l, 1) := by simp [doN, k1, k2, k3, k4]
    simp only [aR,N0,N1,N2,N3,N4,N5,Z0,Z1,Z2,Z3,Z4,Z5,Z6,Z7,Z8,Z9,Z10,Zc,↓reduceIte,reduceCtorEq, kM, k1, k2, k3, k4, e0]
end Go.Proofs
end

-- ZUk4
section
namespace Go.Proofs
open Go Go.Rw
open _root_.Nat renaming reduceAdd → N0, reduceSub → N1, reduceMul → N2, reduceLT → N3, reduceLeDiff → N4, reduceEqDiff → N5
open _root_.Int renaming reduceNeg → Z0, reduceAdd → Z1, reduceSub → Z2, reduceMul → Z3, reduceGT → Z4, reduceGE → Z5, reduceLT → Z6, reduceLE → Z7, reduceEq → Z8, reduceNe → Z9, reduceToNat → Z10, cast_ofNat_Int → Zc
set_option maxRecDepth 100000
set_option linter.unusedSimpArgs false
set_option linter.unusedVariables false

theorem cnt_part {c : Cp} (h : qG c = true) : cnt c.t = if c.k = 2 then lc c.t else 0 := by
  rcases qD h with ⟨h1, _, _, h2⟩ | ⟨h1, _, h2⟩
  · rw [if_pos h1, cnt_cpts, lc_cpts h2]
  · rw [if_neg (by omega), h2]; rfl
theorem bad_rest {a : Ac} (h1 : ¬ a.k < 1) (h2 : ¬ a.k > 4) (h3 : a = zF a) : badA a = decide (a.id < 1 ∨ a.id > 1099511627776 ∨ a.par < 0 ∨ a.par > 1099511627776 ∨ ((a.k = 1 ∨ a.k = 3) ∧ zC a.nm = false)) := by
  unfold badA
  rw [Bool.eq_iff_iff, decide_eq_true_eq, decide_eq_true_eq]
  constructor
  · rintro (h | h | h | h)
    · exact absurd h h1
    · exact absurd h h2
    · exact absurd h3 h
    · exact h
  · exact fun h => .inr (.inr (.inr h))
theorem plain_ops {a : Ac} (h : a = zF a) (hk : a.k ≠ 4) : a.ops = [] := by
  rw [h]
  unfold zF
  repeat' split
  all_goals first | rfl | contradiction
theorem one_bad {a : Ac} (h : badA a = true) : oneI a = 1 := by rw [oneI, h]; rfl
theorem one_ok {a : Ac} (h : badA a = false) : oneI a = if a.k = 4 then kX a.ops else 0 := by rw [oneI, h]; rfl
theorem putS_snoc {l : List Ac} {i : Nat} (h : i < l.length) : putS (l.take (i + 1)) = putS (l.take i) + putC l[i].ops := by
  rw [List.take_succ_eq_append_getElem h]
  generalize l.take i = x
  generalize l[i] = a
  induction x with
  | nil => simp [putS]
  | cons b x ih => simp only [List.cons_append, putS, ih]; omega
theorem putC_snoc {l : List Cp} {i : Nat} (h : i < l.length) : putC (l.take (i + 1)) = putC (l.take i) + (if l[i].k = 2 then lc l[i].t else 0) := by
  rw [List.take_succ_eq_append_getElem h]
  generalize l.take i = x
  generalize l[i] = a
  induction x with
  | nil => simp [putC]
  | cons b x ih => simp only [List.cons_append, putC, ih]; omega
theorem putC_le (l : List Cp) (i : Nat) : putC (l.take i) ≤ putC l := by
  induction l generalizing i with
  | nil => simp [putC]
  | cons c l ih =>
    cases i with
    | zero => simp [putC]
    | succ i => rw [List.take_succ_cons, putC, putC]; have := ih i; omega
set_option maxHeartbeats 8000000 in
theorem rtcheck_good : Rw.Good Tryz.prog 30 kAG := by
  have hΓ : kL Tryz.prog [(57, kBW), (49, kAP), (32, kBs), (58, jW), (35, kA4)] := (kD rplain_good (kD kEM (kD kFC (kD kDr (kD kBk kJ)))))
  refine kR (nn := 121) hΓ Tryz.func30 (by kernel_rfl) rfl (show Tryz.f30.results.toList = [.tmp 2] from rfl) (fun _ => rfl) (fun x => by simp [AV.erL, AV.er, zN]) ?_
  rintro ⟨l, hl, ho⟩
  simp only [aR,N0,N1,N2,N3,N4,N5,Z0,Z1,Z2,Z3,Z4,Z5,Z6,Z7,Z8,Z9,Z10,Zc,↓reduceIte,reduceCtorEq, kS]
  by_cases hlen : (l.length : Int) > 20
  · have e0 : txnE l = 3 := by unfold txnE; rw [if_pos (by omega)]
    simp only [aR,N0,N1,N2,N3,N4,N5,Z0,Z1,Z2,Z3,Z4,Z5,Z6,Z7,Z8,Z9,Z10,Zc,↓reduceIte,reduceCtorEq, hlen, e0]
  have e0 : txnE l = if zZ [] l ≠ 0 then zZ [] l else if (putS l : Int) > 2000 then 3 else 0 := by unfold txnE; rw [if_neg (by omega)]
  have hsl := putS_le l fun a ha => (ho a ha).1
  simp only [aR,N0,N1,N2,N3,N4,N5,Z0,Z1,Z2,Z3,Z4,Z5,Z6,Z7,Z8,Z9,Z10,Zc,↓reduceIte,reduceCtorEq, hlen, kS]
  obtain ⟨St, hSt⟩ : ∃ St : { i : Nat // i ≤ l.length ∧ zZ (l.take i) (l.drop i) = zZ [] l ∧ putS (l.take i) ≤ i * 1099511627776 } → AS, ∀ i, St i = AS.of 121 [(0, .sl 0 6 (acts l)), (3, .v (.int .i64 (putS (l.take i.1)))), (4, .v (.int .i64 i.1))] [] [] := ⟨_, fun _ => rfl⟩
  refine kZ hΓ St (fun i => l.length - i.1) ⟨0, by omega, by simp, by simp [putS]⟩ (by rw [hSt]; refine kH [] [] ?_; simp only [aR,N0,N1,N2,N3,N4,N5,Z0,Z1,Z2,Z3,Z4,Z5,Z6,Z7,Z8,Z9,Z10,Zc,↓reduceIte,reduceCtorEq, List.take_zero, putS] <;> ((repeat' apply And.intro) <;> first | rfl | omega | trivial)) ?_
  rintro ⟨i, hi, hc, hpi⟩
  rw [hSt]
  simp only
  simp only [aR,N0,N1,N2,N3,N4,N5,Z0,Z1,Z2,Z3,Z4,Z5,Z6,Z7,Z8,Z9,Z10,Zc,↓reduceIte,reduceCtorEq, kS]
  (with_reducible first | refine kB (fun h => ?_) (fun h => ?_) | refine kE (fun h => ?_) (fun h => ?_))
  · have hlt : i < l.length := by omega
    have e1 := zD l hlt
    have ha := ho _ (List.getElem_mem hlt)
    have hps := putS_snoc hlt
    rw [List.drop_eq_getElem_cons hlt, zZ, ← List.take_succ_eq_append_getElem hlt] at hc
    have hcl : kBh (l.take i) l[i] = (l.take i).any fun b => decide (b.k = 4 ∧ b.id = l[i].id) := rfl
    generalize l[i] = a at *
    obtain ⟨k, id, par, nm, dir, ops⟩ := a
    obtain ⟨oa, hn⟩ := ha
    simp only at oa hn hps
    have wr1 := kA (n := (i : Int) + 1) (by omega) (by omega)
    have bad : badA ⟨k, id, par, nm, dir, ops⟩ = true → txnE l = 1 := fun hb => by
      have h1 := one_bad hb
      rw [if_pos (by rw [h1]; decide), h1] at hc
      rw [e0, ← hc]; rfl
    simp only [aR,N0,N1,N2,N3,N4,N5,Z0,Z1,Z2,Z3,Z4,Z5,Z6,Z7,Z8,Z9,Z10,Zc,↓reduceIte,reduceCtorEq, h, e1, aA, kS]
    (repeat (with_reducible refine And.intro ?_ ?_; focus (first | omega | exact kG | kernel_rfl)))
    by_cases h1 : k < 1
    · have eb := bad (by simp [badA, h1])
      simp only [aR,N0,N1,N2,N3,N4,N5,Z0,Z1,Z2,Z3,Z4,Z5,Z6,Z7,Z8,Z9,Z10,Zc,↓reduceIte,reduceCtorEq, h1, eb]
    by_cases h2 : k > 4
    · have eb := bad (by simp [badA, h2])
      simp only [aR,N0,N1,N2,N3,N4,N5,Z0,Z1,Z2,Z3,Z4,Z5,Z6,Z7,Z8,Z9,Z10,Zc,↓reduceIte,reduceCtorEq, h1, h2, eb]
    simp only [aR,N0,N1,N2,N3,N4,N5,Z0,Z1,Z2,Z3,Z4,Z5,Z6,Z7,Z8,Z9,Z10,Zc,↓reduceIte,reduceCtorEq, h1, h2]
    refine kEy (by simp [kC]) (a := ⟨k, id, par, nm, dir, ops⟩) rfl oa ?_
    simp only [aR,N0,N1,N2,N3,N4,N5,Z0,Z1,Z2,Z3,Z4,Z5,Z6,Z7,Z8,Z9,Z10,Zc,↓reduceIte,reduceCtorEq, h1, h2]
    refine kEt (by simp [kC]) (a := ⟨k, id, par, nm, dir, ops⟩) rfl rfl oa (plainA_ok (a := ⟨k, id, par, nm, dir, ops⟩) oa) ?_
    obtain ⟨b, hb⟩ : ∃ b, decide ((⟨k, id, par, nm, dir, ops⟩ : Ac) = zF ⟨k, id, par, nm, dir, ops⟩) = b := ⟨_, rfl⟩
    rw [hb]
    cases b
    · have hb2 : ¬ (⟨k, id, par, nm, dir, ops⟩ : Ac) = zF ⟨k, id, par, nm, dir, ops⟩ := of_decide_eq_false hb
      have eb := bad (by simp [badA, hb2])
      simp only [aR,N0,N1,N2,N3,N4,N5,Z0,Z1,Z2,Z3,Z4,Z5,Z6,Z7,Z8,Z9,Z10,Zc,↓reduceIte,reduceCtorEq, h1, h2, eb]
    have hb2 : (⟨k, id, par, nm, dir, ops⟩ : Ac) = zF ⟨k, id, par, nm, dir, ops⟩ := of_decide_eq_true hb
    have br := bad_rest (a := ⟨k, id, par, nm, dir, ops⟩) h1 h2 hb2
    have hpl := plain_ops hb2
    simp only at br hpl
    clear hb hb2
    by_cases h3 : id < 1
    · have eb := bad (by rw [br]; simp [h3])
      simp only [aR,N0,N1,N2,N3,N4,N5,Z0,Z1,Z2,Z3,Z4,Z5,Z6,Z7,Z8,Z9,Z10,Zc,↓reduceIte,reduceCtorEq, h1, h2, h3, eb]
    by_cases h4 : id > 1099511627776
    · have eb := bad (by rw [br]; simp [h4])
      simp only [aR,N0,N1,N2,N3,N4,N5,Z0,Z1,Z2,Z3,Z4,Z5,Z6,Z7,Z8,Z9,Z10,Zc,↓reduceIte,reduceCtorEq, h1, h2, h3, h4, eb]
    by_cases h5 : par < 0
    · have eb := bad (by rw [br]; simp [h5])
      simp only [aR,N0,N1,N2,N3,N4,N5,Z0,Z1,Z2,Z3,Z4,Z5,Z6,Z7,Z8,Z9,Z10,Zc,↓reduceIte,reduceCtorEq, h1, h2, h3, h4, h5, eb]
    by_cases h6 : par > 1099511627776
    · have eb := bad (by rw [br]; simp [h6])
      simp only [aR,N0,N1,N2,N3,N4,N5,Z0,Z1,Z2,Z3,Z4,Z5,Z6,Z7,Z8,Z9,Z10,Zc,↓reduceIte,reduceCtorEq, h1, h2, h3, h4, h5, h6, eb]
    have good : ¬ ((k = 1 ∨ k = 3) ∧ zC nm = false) → badA ⟨k, id, par, nm, dir, ops⟩ = false := fun hh => by
      rw [br, decide_eq_false_iff_not]
      rintro (h | h | h | h | h)
      · exact h3 h
      · exact h4 h
      · exact h5 h
      · exact h6 h
      · exact hh h
    -- whatever is not an edit
    have other : k ≠ 4 → badA ⟨k, id, par, nm, dir, ops⟩ = false → zZ (l.take (i + 1)) (l.drop (i + 1)) = zZ [] l ∧ putS (l.take (i + 1)) = putS (l.take i) := fun hk hbd => by
      have g1 := one_ok hbd
      rw [if_neg hk] at g1
      rw [if_neg (by rw [g1]; simp), if_neg (fun hh => hk hh.1)] at hc
      refine ⟨hc, ?_⟩
      rw [hps, hpl hk]; simp [putC]
    by_cases k1 : k = 1
    · subst k1
      simp only [aR,N0,N1,N2,N3,N4,N5,Z0,Z1,Z2,Z3,Z4,Z5,Z6,Z7,Z8,Z9,Z10,Zc,↓reduceIte,reduceCtorEq, h3, h4, h5, h6]
      refine kBM (by simp [kC]) hn ?_
      cases hnm : zC nm
      · have eb := bad (by rw [br]; simp [hnm])
        simp only [aR,N0,N1,N2,N3,N4,N5,Z0,Z1,Z2,Z3,Z4,Z5,Z6,Z7,Z8,Z9,Z10,Zc,↓reduceIte,reduceCtorEq, eb]
      · obtain ⟨g1, g2⟩ := other (by decide) (good (by simp [hnm]))
        simp only [aR,N0,N1,N2,N3,N4,N5,Z0,Z1,Z2,Z3,Z4,Z5,Z6,Z7,Z8,Z9,Z10,Zc,↓reduceIte,reduceCtorEq, wr1]
        refine kI ⟨i + 1, by omega, g1, by omega⟩ (by simp only; omega) ?_
        rw [hSt]; refine kH [] [] ?_
        simp only [aR,N0,N1,N2,N3,N4,N5,Z0,Z1,Z2,Z3,Z4,Z5,Z6,Z7,Z8,Z9,Z10,Zc,↓reduceIte,reduceCtorEq, g2] <;> ((repeat' apply And.intro) <;> first | rfl | omega | trivial)
    by_cases k3 : k = 3
    · subst k3
      simp only [aR,N0,N1,N2,N3,N4,N5,Z0,Z1,Z2,Z3,Z4,Z5,Z6,Z7,Z8,Z9,Z10,Zc,↓reduceIte,reduceCtorEq, h3, h4, h5, h6]
      refine kBM (by simp [kC]) hn ?_
      cases hnm : zC nm
      · have eb := bad (by rw [br]; simp [hnm])
        simp only [aR,N0,N1,N2,N3,N4,N5,Z0,Z1,Z2,Z3,Z4,Z5,Z6,Z7,Z8,Z9,Z10,Zc,↓reduceIte,reduceCtorEq, eb]
      · obtain ⟨g1, g2⟩ := other (by decide) (good (by simp [hnm]))
        simp only [aR,N0,N1,N2,N3,N4,N5,Z0,Z1,Z2,Z3,Z4,Z5,Z6,Z7,Z8,Z9,Z10,Zc,↓reduceIte,reduceCtorEq, wr1]
        refine kI ⟨i + 1, by omega, g1, by omega⟩ (by simp only; omega) ?_
        rw [hSt]; refine kH [] [] ?_
        simp only [aR,N0,N1,N2,N3,N4,N5,Z0,Z1,Z2,Z3,Z4,Z5,Z6,Z7,Z8,Z9,Z10,Zc,↓reduceIte,reduceCtorEq, g2] <;> ((repeat' apply And.intro) <;> first | rfl | omega | trivial)
    have gd := good (fun hh => by rcases hh.1 with h | h; exact k1 h; exact k3 h)
    by_cases k4 : k = 4
    case neg =>
      obtain ⟨g1, g2⟩ := other k4 gd
      simp only [aR,N0,N1,N2,N3,N4,N5,Z0,Z1,Z2,Z3,Z4,Z5,Z6,Z7,Z8,Z9,Z10,Zc,↓reduceIte,reduceCtorEq, h1, h2, h3, h4, h5, h6, k1, k3, k4, wr1]
      refine kI ⟨i + 1, by omega, g1, by omega⟩ (by simp only; omega) ?_
      rw [hSt]; refine kH [] [] ?_
      simp only [aR,N0,N1,N2,N3,N4,N5,Z0,Z1,Z2,Z3,Z4,Z5,Z6,Z7,Z8,Z9,Z10,Zc,↓reduceIte,reduceCtorEq, g2] <;> ((repeat' apply And.intro) <;> first | rfl | omega | trivial)
    subst k4
    have g1 := one_ok gd
    rw [if_pos rfl] at g1
    simp only at g1
    simp only [aR,N0,N1,N2,N3,N4,N5,Z0,Z1,Z2,Z3,Z4,Z5,Z6,Z7,Z8,Z9,Z10,Zc,↓reduceIte,reduceCtorEq, h3, h4, h5, h6]
    refine kED (by simp [kC]) rfl oa ?_
    by_cases hck : kX ops = 0
    case neg =>
      rw [if_pos (by rw [g1]; exact hck), g1] at hc
      rw [← hc, if_pos hck] at e0
      simp only [aR,N0,N1,N2,N3,N4,N5,Z0,Z1,Z2,Z3,Z4,Z5,Z6,Z7,Z8,Z9,Z10,Zc,↓reduceIte,reduceCtorEq, hck, e0]
    rw [if_neg (by rw [g1, hck]; simp)] at hc
    have hso := (zB hck).2.2.1
    have hol := (zB hck).1
    simp only [aR,N0,N1,N2,N3,N4,N5,Z0,Z1,Z2,Z3,Z4,Z5,Z6,Z7,Z8,Z9,Z10,Zc,↓reduceIte,reduceCtorEq, hck]
    obtain ⟨Sb, hSb⟩ : ∃ Sb : { j : Nat // j ≤ i ∧ ((l.take i).any fun b => decide (b.k = 4 ∧ b.id = id)) = ((l.take i).drop j).any fun b => decide (b.k = 4 ∧ b.id = id) } → AS, ∀ j, Sb j = AS.of 121 [(0, .sl 0 6 (acts l)), (3, .v (.int .i64 (putS (l.take i)))), (4, .v (.int .i64 i)), (5, .ptr 0 0), (7, .v (.int .i64 j.1))] [.cells [.v (.int .i64 4), .v (.int .i64 id), .v (.int .i64 par), .v (sv nm), .v (.bool dir), .sl 0 3 (kN ops)]] [] := ⟨_, fun _ => rfl⟩
    refine kZ hΓ Sb (fun j => i - j.1) ⟨0, by omega, by simp⟩ (by rw [hSb]; refine kH [0] [] ?_; simp only [aR,N0,N1,N2,N3,N4,N5,Z0,Z1,Z2,Z3,Z4,Z5,Z6,Z7,Z8,Z9,Z10,Zc,↓reduceIte,reduceCtorEq] <;> ((repeat' apply And.intro) <;> first | rfl | omega | trivial)) ?_
    rintro ⟨j, hj, hcj⟩
    rw [hSb]
    simp only
    simp only [aR,N0,N1,N2,N3,N4,N5,Z0,Z1,Z2,Z3,Z4,Z5,Z6,Z7,Z8,Z9,Z10,Zc,↓reduceIte,reduceCtorEq]
    (with_reducible first | refine kB (fun h7 => ?_) (fun h7 => ?_) | refine kE (fun h7 => ?_) (fun h7 => ?_))
    · have hlt2 : j < l.length := by omega
      have hlt3 : j < (l.take i).length := by rw [List.length_take]; omega
      have e3 := zD l hlt2
      rw [List.drop_eq_getElem_cons hlt3, List.any_cons, List.getElem_take] at hcj
      generalize l[j] = b at *
      obtain ⟨bk, bid, bpar, bnm, bdir, bops⟩ := b
      simp only at hcj
      have wr2 := kA (n := (j : Int) + 1) (by omega) (by omega)
      by_cases k5 : bk = 4
      · by_cases k6 : bid = id
        · have hT : kBh (l.take i) ⟨4, id, par, nm, dir, ops⟩ = true := by rw [hcl, hcj]; simp [k5, k6]
          rw [if_pos ⟨rfl, hT⟩] at hc
          rw [← hc, if_pos (by omega)] at e0
          simp only [aR,N0,N1,N2,N3,N4,N5,Z0,Z1,Z2,Z3,Z4,Z5,Z6,Z7,Z8,Z9,Z10,Zc,↓reduceIte,reduceCtorEq, h7, e3, aA, kS, k5, k6, e0]
          (repeat (with_reducible refine And.intro ?_ ?_; focus (first | omega | exact kG | kernel_rfl)))
          ((repeat' apply And.intro) <;> first | rfl | omega | trivial)
        · simp only [aR,N0,N1,N2,N3,N4,N5,Z0,Z1,Z2,Z3,Z4,Z5,Z6,Z7,Z8,Z9,Z10,Zc,↓reduceIte,reduceCtorEq, h7, e3, aA, kS, k5, k6, wr2]
          (repeat (with_reducible refine And.intro ?_ ?_; focus (first | omega | exact kG | kernel_rfl)))
          refine kI ⟨j + 1, by omega, by rw [hcj]; simp [k6]⟩ (by simp only; omega) ?_
          rw [hSb]; refine kH [0] [] ?_
          simp only [aR,N0,N1,N2,N3,N4,N5,Z0,Z1,Z2,Z3,Z4,Z5,Z6,Z7,Z8,Z9,Z10,Zc,↓reduceIte,reduceCtorEq] <;> ((repeat' apply And.intro) <;> first | rfl | omega | trivial)
      · simp only [aR,N0,N1,N2,N3,N4,N5,Z0,Z1,Z2,Z3,Z4,Z5,Z6,Z7,Z8,Z9,Z10,Zc,↓reduceIte,reduceCtorEq, h7, e3, aA, kS, k5, wr2]
        (repeat (with_reducible refine And.intro ?_ ?_; focus (first | omega | exact kG | kernel_rfl)))
        refine kI ⟨j + 1, by omega, by rw [hcj]; simp [k5]⟩ (by simp only; omega) ?_
        rw [hSb]; refine kH [0] [] ?_
        simp only [aR,N0,N1,N2,N3,N4,N5,Z0,Z1,Z2,Z3,Z4,Z5,Z6,Z7,Z8,Z9,Z10,Zc,↓reduceIte,reduceCtorEq] <;> ((repeat' apply And.intro) <;> first | rfl | omega | trivial)
    · rw [List.drop_of_length_le (by rw [List.length_take]; omega)] at hcj
      have hF : kBh (l.take i) ⟨4, id, par, nm, dir, ops⟩ = false := by rw [hcl, hcj]; rfl
      rw [if_neg (by rw [hF]; simp)] at hc
      have hpt := putC_tot ops
      have hot := oa.2.1
      simp only [aR,N0,N1,N2,N3,N4,N5,Z0,Z1,Z2,Z3,Z4,Z5,Z6,Z7,Z8,Z9,Z10,Zc,↓reduceIte,reduceCtorEq, h7]
      obtain ⟨Sd, hSd⟩ : ∃ Sd : { t : Nat // t ≤ ops.length } → AS, ∀ t, Sd t = AS.of 121 [(0, .sl 0 6 (acts l)), (3, .v (.int .i64 ((putS (l.take i) + putC (ops.take t.1) : Nat) : Int))), (4, .v (.int .i64 i)), (5, .ptr 0 0), (8, .v (.int .i64 t.1))] [.cells [.v (.int .i64 4), .v (.int .i64 id), .v (.int .i64 par), .v (sv nm), .v (.bool dir), .sl 0 3 (kN ops)]] [] := ⟨_, fun _ => rfl⟩
      refine kZ hΓ Sd (fun t => ops.length - t.1) ⟨0, by omega⟩ (by rw [hSd]; refine kH [0] [] ?_; simp only [aR,N0,N1,N2,N3,N4,N5,Z0,Z1,Z2,Z3,Z4,Z5,Z6,Z7,Z8,Z9,Z10,Zc,↓reduceIte,reduceCtorEq, List.take_zero, putC] <;> ((repeat' apply And.intro) <;> first | rfl | omega | trivial)) ?_
      rintro ⟨t, ht⟩
      rw [hSd]
      simp only
      simp only [aR,N0,N1,N2,N3,N4,N5,Z0,Z1,Z2,Z3,Z4,Z5,Z6,Z7,Z8,Z9,Z10,Zc,↓reduceIte,reduceCtorEq, kF]
      (with_reducible first | refine kB (fun h8 => ?_) (fun h8 => ?_) | refine kE (fun h8 => ?_) (fun h8 => ?_))
      · have hlt4 : t < ops.length := by omega
        have e4 := qC ops hlt4
        have hct := okL.text oa (List.getElem_mem hlt4)
        have hcp := cnt_part (hso _ (List.getElem_mem hlt4))
        have hpc := putC_snoc hlt4
        have hpl1 := putC_le ops (t + 1)
        have hpl2 := putC_le ops t
        rw [← hcp] at hpc
        generalize ops[t] = c at *
        obtain ⟨ck, cn, ct⟩ := c
        simp only at hct hpc
        simp only [aR,N0,N1,N2,N3,N4,N5,Z0,Z1,Z2,Z3,Z4,Z5,Z6,Z7,Z8,Z9,Z10,Zc,↓reduceIte,reduceCtorEq, h8, e4, cA, kF]
        (repeat (with_reducible refine And.intro ?_ ?_; focus (first | omega | exact kG | kernel_rfl)))
        refine kBo (by simp [kC]) hct ?_
        simp only [aR,N0,N1,N2,N3,N4,N5,Z0,Z1,Z2,Z3,Z4,Z5,Z6,Z7,Z8,Z9,Z10,Zc,↓reduceIte,reduceCtorEq, kA (n := ((putS (l.take i) + putC (ops.take t) : Nat) : Int) + cnt ct) (by omega) (by omega), kA (n := (t : Int) + 1) (by omega) (by omega)]
        refine kI ⟨t + 1, by omega⟩ (by simp only; omega) ?_
        rw [hSd]; refine kH [0] [] ?_
        simp only [aR,N0,N1,N2,N3,N4,N5,Z0,Z1,Z2,Z3,Z4,Z5,Z6,Z7,Z8,Z9,Z10,Zc,↓reduceIte,reduceCtorEq, hpc] <;> ((repeat' apply And.intro) <;> first | rfl | omega | trivial)
      · have e5 : ops.take t = ops := List.take_of_length_le (by omega)
        simp only [aR,N0,N1,N2,N3,N4,N5,Z0,Z1,Z2,Z3,Z4,Z5,Z6,Z7,Z8,Z9,Z10,Zc,↓reduceIte,reduceCtorEq, h8, e5, wr1]
        refine kI ⟨i + 1, by omega, hc, by omega⟩ (by simp only; omega) ?_
        rw [hSt]; refine kH [] [] ?_
        simp only [aR,N0,N1,N2,N3,N4,N5,Z0,Z1,Z2,Z3,Z4,Z5,Z6,Z7,Z8,Z9,Z10,Zc,↓reduceIte,reduceCtorEq, hps] <;> ((repeat' apply And.intro) <;> first | rfl | omega | trivial)
  · rw [List.drop_of_length_le (by omega), zZ] at hc
    rw [← hc, if_neg (by simp)] at e0
    simp only [aR,N0,N1,N2,N3,N4,N5,Z0,Z1,Z2,Z3,Z4,Z5,Z6,Z7,Z8,Z9,Z10,Zc,↓reduceIte,reduceCtorEq, h, show l.take i = l from List.take_of_length_le (by omega)]
    by_cases hp : (putS l : Int) > 2000
    · rw [if_pos hp] at e0
      simp only [aR,N0,N1,N2,N3,N4,N5,Z0,Z1,Z2,Z3,Z4,Z5,Z6,Z7,Z8,Z9,Z10,Zc,↓reduceIte,reduceCtorEq, hp, e0]
    · rw [if_neg hp] at e0
      simp only [aR,N0,N1,N2,N3,N4,N5,Z0,Z1,Z2,Z3,Z4,Z5,Z6,Z7,Z8,Z9,Z10,Zc,↓reduceIte,reduceCtorEq, hp, e0]
end Go.Proofs
end

-- ZUk5
section
namespace Go.Proofs
open Go Go.Rw
open _root_.Nat renaming reduceAdd → N0, reduceSub → N1, reduceMul → N2, reduceLT → N3, reduceLeDiff → N4, reduceEqDiff → N5
open _root_.Int renaming reduceNeg → Z0, reduceAdd → Z1, reduceSub → Z2, reduceMul → Z3, reduceGT → Z4, reduceGE → Z5, reduceLT → Z6, reduceLE → Z7, reduceEq → Z8, reduceNe → Z9, reduceToNat → Z10, cast_ofNat_Int → Zc
set_option maxRecDepth 100000
set_option linter.unusedSimpArgs false
set_option linter.unusedVariables false

theorem doN_ok {l : List Nd} {a : Ac} (h : okT l) : okT (doN l a).1 := by
  obtain ⟨hl, ht⟩ := h
  have hset : ∀ (k : Nat) (x : Nd), x.text.length ≤ 1099511627776 → okT (l.set k x) := fun k x hx => ⟨by rw [List.length_set]; exact hl, fun y hy => by
    rcases List.mem_or_eq_of_mem_set hy with h | h
    · exact ht y h
    · rw [h]; exact hx⟩
  have hx : (l.getD (ndx a.id l) j2).text.length ≤ 1099511627776 := by
    rw [List.getD_eq_getElem?_getD]
    cases h : l[ndx a.id l]? with
    | none => simp [j2]
    | some x => exact ht x (List.mem_of_getElem? h)
  have hd := kC3 (l.getD (ndx a.id l) j2).text a.ops
  unfold doN
  simp only
  split
  · split
    · exact ⟨hl, ht⟩
    · split
      · exact ⟨hl, ht⟩
      · split
        · exact ⟨hl, ht⟩
        · split
          · exact ⟨hl, ht⟩
          · refine ⟨?_, fun y hy => ?_⟩
            · simp only [List.length_append, List.length_cons, List.length_take, List.length_drop]; omega
            · rcases List.mem_append.1 hy with h | h
              · exact ht y (List.mem_of_mem_take h)
              · rcases List.mem_cons.1 h with h | h
                · rw [h]; simp
                · exact ht y (List.mem_of_mem_drop h)
  · split
    · split
      · exact ⟨hl, ht⟩
      · split
        · exact ⟨hl, ht⟩
        · refine ⟨?_, fun y hy => ?_⟩
          · simp only [List.length_append, List.length_take, List.length_drop]; omega
          · rcases List.mem_append.1 hy with h | h
            · exact ht y (List.mem_of_mem_take h)
            · exact ht y (List.mem_of_mem_drop h)
    · split
      · split
        · exact ⟨hl, ht⟩
        · split
          · exact ⟨hl, ht⟩
          · split
            · exact ⟨hl, ht⟩
            · exact hset _ _ hx
      · split
        · split
          · exact ⟨hl, ht⟩
          · split
            · exact ⟨hl, ht⟩
            · split
              · exact ⟨hl, ht⟩
              · split
                · exact ⟨hl, ht⟩
                · exact hset _ _ (by simp only; omega)
        · exact ⟨hl, ht⟩
abbrev kDM : Con where
  ι := { p : List Nd × List Ac // okT p.1 ∧ p.2.length ≤ 1000000 ∧ ∀ a ∈ p.2, okA a }
  args := fun p => [.sl 0 5 (qI p.1.1), .sl 0 6 (acts p.1.2)]
  post := fun p r => r = .tup [.sl 0 5 (qI (allN p.1.1 p.1.2).now), .v (.int .i64 (allN p.1.1 p.1.2).n), .v (.int .i64 (allN p.1.1 p.1.2).e)]
theorem rdoall_good : Rw.Good Tryz.prog 12 kDM := by
  have hΓ : kL Tryz.prog [(30, kAG), (38, doAcon)] := (kD rtcheck_good (kD doA_good kJ))
  refine kR (nn := 39) hΓ Tryz.func12 (by kernel_rfl) rfl (show Tryz.f12.results.toList = [.tmp 4, .tmp 5, .tmp 6] from rfl) (fun _ => rfl) (fun x => by simp [AV.erL, AV.er]) ?_
  rintro ⟨⟨t, l⟩, ht, hl, ho⟩
  simp only at ht hl ho
  simp only [aR,N0,N1,N2,N3,N4,N5,Z0,Z1,Z2,Z3,Z4,Z5,Z6,Z7,Z8,Z9,Z10,Zc,↓reduceIte,reduceCtorEq]
  refine kK (C := kAG) (i := ⟨l, hl, ho⟩) (by simp [kC]) rfl rfl rfl (by simp [AV.erL, AV.er]) (fun _ h => h) rfl ?_
  by_cases h1 : txnE l = 0
  case neg =>
    have e0 : allN t l = ⟨[], -1, txnE l⟩ := by rw [allN, if_pos h1]
    simp only [aR,N0,N1,N2,N3,N4,N5,Z0,Z1,Z2,Z3,Z4,Z5,Z6,Z7,Z8,Z9,Z10,Zc,↓reduceIte,reduceCtorEq, h1, e0]
    rfl
  have e0 : allN t l = allF t l 0 := by rw [allN, if_neg (by simpa using h1)]
  simp only [aR,N0,N1,N2,N3,N4,N5,Z0,Z1,Z2,Z3,Z4,Z5,Z6,Z7,Z8,Z9,Z10,Zc,↓reduceIte,reduceCtorEq, h1]
  obtain ⟨St, hSt⟩ : ∃ St : { p : List Nd × Nat // p.2 ≤ l.length ∧ okT p.1 ∧ allF p.1 (l.drop p.2) p.2 = allF t l 0 } → AS, ∀ p, St p = AS.of 39 [(0, .sl 0 5 (qI p.1.1)), (1, .sl 0 6 (acts l)), (8, .v (.int .i64 p.1.2))] [] [] := ⟨_, fun _ => rfl⟩
  refine kZ hΓ St (fun p => l.length - p.1.2) ⟨(t, 0), by simp, ht, rfl⟩ (by rw [hSt]; refine kH [] [] ?_; simp only [aR,N0,N1,N2,N3,N4,N5,Z0,Z1,Z2,Z3,Z4,Z5,Z6,Z7,Z8,Z9,Z10,Zc,↓reduceIte,reduceCtorEq] <;> ((repeat' apply And.intro) <;> first | rfl | omega | trivial)) ?_
  rintro ⟨⟨u, i⟩, hi, hu, hf⟩
  simp only at hi hu hf
  rw [hSt]
  simp only
  simp only [aR,N0,N1,N2,N3,N4,N5,Z0,Z1,Z2,Z3,Z4,Z5,Z6,Z7,Z8,Z9,Z10,Zc,↓reduceIte,reduceCtorEq, kS]
  (with_reducible first | refine kB (fun h => ?_) (fun h => ?_) | refine kE (fun h => ?_) (fun h => ?_))
  · have hlt : i < l.length := by omega
    have e1 := zD l hlt
    have ha := ho _ (List.getElem_mem hlt)
    rw [List.drop_eq_getElem_cons hlt, allF] at hf
    generalize l[i] = a at *
    simp only [aR,N0,N1,N2,N3,N4,N5,Z0,Z1,Z2,Z3,Z4,Z5,Z6,Z7,Z8,Z9,Z10,Zc,↓reduceIte,reduceCtorEq, h, e1, kS, aA]
    (repeat (with_reducible refine And.intro ?_ ?_; focus (first | omega | exact kG | kernel_rfl)))
    refine qN (C := doAcon) (i := ⟨(u, a), hu, ha⟩) (r := .tup [.sl 0 5 (qI (doN u a).1), .v (.int .i64 (doN u a).2)]) (by simp [kC]) rfl rfl (by simp [AV.erL, AV.er, aA, kCU]) rfl (fun _ h => h) ?_
    by_cases h2 : (doN u a).2 = 0
    · rw [if_neg (by simpa using h2)] at hf
      have hok := doN_ok (a := a) hu
      simp only [aR,N0,N1,N2,N3,N4,N5,Z0,Z1,Z2,Z3,Z4,Z5,Z6,Z7,Z8,Z9,Z10,Zc,↓reduceIte,reduceCtorEq, AV.er, AV.erL, h2, kA (n := (i : Int) + 1) (by omega) (by omega)]
      refine kI ⟨((doN u a).1, i + 1), by simp only; omega, hok, hf⟩ (by simp only; omega) ?_
      rw [hSt]; refine kH [] [] ?_
      simp only [aR,N0,N1,N2,N3,N4,N5,Z0,Z1,Z2,Z3,Z4,Z5,Z6,Z7,Z8,Z9,Z10,Zc,↓reduceIte,reduceCtorEq] <;> ((repeat' apply And.intro) <;> first | rfl | omega | trivial)
    · rw [if_pos h2] at hf
      simp only [aR,N0,N1,N2,N3,N4,N5,Z0,Z1,Z2,Z3,Z4,Z5,Z6,Z7,Z8,Z9,Z10,Zc,↓reduceIte,reduceCtorEq, AV.er, AV.erL, h2, e0, ← hf]
      rfl
  · rw [List.drop_of_length_le (by omega), allF] at hf
    have hil : i = l.length := by omega
    simp only [aR,N0,N1,N2,N3,N4,N5,Z0,Z1,Z2,Z3,Z4,Z5,Z6,Z7,Z8,Z9,Z10,Zc,↓reduceIte,reduceCtorEq, h, kS, e0, ← hf, hil]
theorem kC6 {Γ : Env} (hf : Γ.get 12 = some kDM) {n : Nat} {t : Nat → AV} {hd : Nat → Nat → AV} {nh nl : Nat} {h : Nat → Option AO} {fm : Nat → Nat} {lv : Nat → Option (Nat × Nat)} {mu : Bool} {x : List Nd} {l : List Ac} {xs ys : List AV} {t1 t2 : Nat} {d : Option Nat} {K : AS → Prop} (hx : xs = qI x) (hy : ys = acts l) (ht : okT x) (hl : l.length ≤ 1000000) (ho : ∀ a ∈ l, okA a) (h1 : t1 = 0 ∨ 2 ≤ t1) (h2 : t2 = 0 ∨ 2 ≤ t2)
    (hk : cont ⟨n, t, hd, ⟨nh, h, nl, fm, kill fm ((if t1 = 0 then [] else [t1]) ++ (if t2 = 0 then [] else [t2])) lv, mu⟩⟩ d (.tup [.sl 0 5 (qI (allN x l).now), .v (.int .i64 (allN x l).n), .v (.int .i64 (allN x l).e)]) K) : kP Tryz.prog Γ false ⟨n, t, hd, ⟨nh, h, nl, fm, lv, mu⟩⟩ 12 [.sl t1 5 xs, .sl t2 6 ys] d K := by
  subst hx hy
  refine kAE (C := kDM) (i := ⟨(x, l), ht, hl, ho⟩) hf rfl rfl rfl (by simp [AV.erL, AV.er]) (ts := (if t1 = 0 then [] else [t1]) ++ (if t2 = 0 then [] else [t2])) ?_ ?_
  · have c : ∀ t : Nat, (t = 0 ∨ 2 ≤ t) → (if 2 ≤ t then [t] else []) = (if t = 0 then [] else [t]) := fun t ht => by
      rcases ht with rfl | ht
      · rfl
      · rw [if_pos ht, if_neg (by omega)]
    rw [← c t1 h1, ← c t2 h2]
    simp [AV.tagsL, AV.tags]
  · rintro r rfl
    simp only [AV.er, AV.erL]
    exact hk
end Go.Proofs
end
