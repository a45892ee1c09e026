/-
  Whose kB9 a transaction touches.
-/
import Derived.Test.YtmhpninemdmbkaaGreatDoorXZUk8
set_option linter.unusedSimpArgs false
set_option linter.unusedVariables false
set_option linter.defProp false

-- ZUk9t
section
namespace Go.Proofs
open Go Go.Rw
open _root_.Nat renaming reduceAdd → N0, reduceSub → N1, reduceMul → N2, reduceLT → N3, reduceLeDiff → N4, reduceEqDiff → N5
open _root_.Int renaming reduceNeg → Z0, reduceAdd → Z1, reduceSub → Z2, reduceMul → Z3, reduceGT → Z4, reduceGE → Z5, reduceLT → Z6, reduceLE → Z7, reduceEq → Z8, reduceNe → Z9, reduceToNat → Z10, cast_ofNat_Int → Zc
set_option maxRecDepth 100000
set_option linter.unusedSimpArgs false
set_option linter.unusedVariables false

theorem kCy (l : List Int) (x : Int) : (insI l x).length ≤ l.length + 1 := by
  unfold insI
  split
  · omega
  · simp only [List.length_append, List.length_cons, List.length_take, List.length_drop]; omega
theorem foldI_len : ∀ (xs out : List Int), (xs.foldl insI out).length ≤ out.length + xs.length
  | [], out => by simp
  | x :: xs, out => by
    have h1 := kCy out x
    have h2 := foldI_len xs (insI out x)
    rw [List.foldl_cons, List.length_cons]; omega
theorem names_len (a : Ac) : (kAH a).length ≤ 2 := by unfold kAH; split <;> simp
theorem kCB {k : IntKind} {l : List Int} {i j : Nat} (hj : j ≤ l.length) : kB1 0 1 (ints k l) i j = .sl 0 1 (ints k ((l.drop i).take (j - i))) := by
  unfold kB1
  simp only [zJ]
  split
  · rename_i h
    obtain ⟨rfl, h2⟩ := h
    rw [List.drop_zero, Nat.sub_zero, List.take_of_length_le (by omega)]
  · simp [ints, List.map_take, List.map_drop]
theorem vcD_lp {Γ : Env} {Ws : List (Nat × List Nat × List Nat)} {c : Code} {Q : Exit → AS → Prop} {σ : AS} (h : vc Tryz.prog Γ (.loop c) Q σ) : vcD Tryz.prog Γ Ws (.loop c) Q σ := h
abbrev kCu : Con where
  ι := { l : List Ac // l.length ≤ 1000000 }
  args := fun p => [.sl 0 6 (acts p.1)]
  post := fun p r => r = .sl 0 1 (ints .i64 (jI [] p.1))
theorem touch_good : Rw.Good Tryz.prog 13 kCu := by
  have hΓ : kL Tryz.prog [] := kJ
  refine kS (nn := 104) hΓ Tryz.func13 (by kernel_rfl) rfl (show Tryz.f13.results.toList = [.tmp 2] from rfl) (fun _ => rfl) (fun x => by simp [AV.erL, AV.er]) ?_
  rintro ⟨l, hl⟩
  simp only [aR,N0,N1,N2,N3,N4,N5,Z0,Z1,Z2,Z3,Z4,Z5,Z6,Z7,Z8,Z9,Z10,Zc,↓reduceIte,reduceCtorEq, kQ]
  obtain ⟨St, hSt⟩ : ∃ St : { p : List Int × Nat // p.2 ≤ l.length ∧ jI p.1 (l.drop p.2) = jI [] l ∧ p.1.length ≤ 2 * p.2 } → AS, ∀ p, St p = AS.of 104 [(0, .sl 0 6 (acts l)), (3, .sl 0 1 (ints .i64 p.1.1)), (4, .v (.int .i64 p.1.2))] [] [] := ⟨_, fun _ => rfl⟩
  refine kY hΓ St (fun p => l.length - p.1.2) ⟨([], 0), by simp, rfl, by simp⟩ (by rw [hSt]; refine kH [] [] ?_; simp only [aR,N0,N1,N2,N3,N4,N5,Z0,Z1,Z2,Z3,Z4,Z5,Z6,Z7,Z8,Z9,Z10,Zc,↓reduceIte,reduceCtorEq, ints, List.map_nil] <;> ((repeat' apply And.intro) <;> first | rfl | omega | trivial)) ?_
  rintro ⟨⟨out, i⟩, hi, hf, hlen⟩
  simp only at hi hf hlen
  rw [hSt]
  simp only
  simp only [aR,N0,N1,N2,N3,N4,N5,Z0,Z1,Z2,Z3,Z4,Z5,Z6,Z7,Z8,Z9,Z10,Zc,↓reduceIte,reduceCtorEq, kQ]
  (with_reducible first | refine kB (fun h => ?_) (fun h => ?_) | refine kD (fun h => ?_) (fun h => ?_))
  · have hlt : i < l.length := by omega
    have e1 := qQ l hlt
    rw [List.drop_eq_getElem_cons hlt, jI] at hf
    have hnl := names_len l[i]
    generalize l[i] = a at *
    obtain ⟨k, id, par, nm, dir, ops⟩ := a
    obtain ⟨ns, hns⟩ : ∃ ns, kAH ⟨k, id, par, nm, dir, ops⟩ = ns := ⟨_, rfl⟩
    rw [hns] at hf hnl
    have cs : (k = 1 ∧ par ≠ 0 ∧ ns = [id, par]) ∨ (k = 3 ∧ par ≠ 0 ∧ ns = [id, par]) ∨ (¬ k = 1 ∧ ¬ k = 3 ∧ ns = [id]) ∨ (k = 1 ∧ par = 0 ∧ ns = [id]) ∨ (k = 3 ∧ par = 0 ∧ ns = [id]) := by
      by_cases c1 : k = 1
      · by_cases c2 : par = 0
        · right; right; right; left; exact ⟨c1, c2, by rw [← hns]; simp [kAH, c2]⟩
        · left; exact ⟨c1, c2, by rw [← hns]; simp [kAH, kAf, c1, c2]⟩
      · by_cases c3 : k = 3
        · by_cases c2 : par = 0
          · right; right; right; right; exact ⟨c3, c2, by rw [← hns]; simp [kAH, c2]⟩
          · right; left; exact ⟨c3, c2, by rw [← hns]; simp [kAH, kAf, c3, c2]⟩
        · right; right; left; exact ⟨c1, c3, by rw [← hns]; simp [kAH, kAf, c1, c3]⟩
    clear hns
    rcases cs with ⟨ck, cp, hns⟩ | ⟨ck, cp, hns⟩ | ⟨ck, cp, hns⟩ | ⟨ck, cp, hns⟩ | ⟨ck, cp, hns⟩
    all_goals
      first
        | simp only [aR,N0,N1,N2,N3,N4,N5,Z0,Z1,Z2,Z3,Z4,Z5,Z6,Z7,Z8,Z9,Z10,Zc,↓reduceIte,reduceCtorEq, h, e1, kQ, aA, ck, eq_false cp, List.map_cons, List.map_nil]
          (repeat (with_reducible refine And.intro ?_ ?_; focus (first | omega | exact kG | kernel_rfl)))
        | subst cp
          simp only [aR,N0,N1,N2,N3,N4,N5,Z0,Z1,Z2,Z3,Z4,Z5,Z6,Z7,Z8,Z9,Z10,Zc,↓reduceIte,reduceCtorEq, h, e1, kQ, aA, ck, List.map_cons, List.map_nil]
          (repeat (with_reducible refine And.intro ?_ ?_; focus (first | omega | exact kG | kernel_rfl)))
      obtain ⟨Su, hSu⟩ : ∃ Su : { p : List Int × Nat // p.2 ≤ ns.length ∧ (ns.drop p.2).foldl insI p.1 = ns.foldl insI out ∧ p.1.length ≤ 2 * i + p.2 } → AS, ∀ p, Su p = AS.of 104 [(0, .sl 0 6 (acts l)), (3, .sl 0 1 (ints .i64 p.1.1)), (4, .v (.int .i64 i)), (5, .sl 0 1 (ints .i64 ns)), (6, .v (.int .i64 p.1.2))] [] [] := ⟨_, fun _ => rfl⟩
      refine vc_loopD [(15, [2009], [])] hΓ Su (fun p => ns.length - p.1.2) ⟨(out, 0), by simp, rfl, by simpa using hlen⟩ (by rw [hSu]; refine kH [] [] ?_; rw [hns]; simp only [aR,N0,N1,N2,N3,N4,N5,Z0,Z1,Z2,Z3,Z4,Z5,Z6,Z7,Z8,Z9,Z10,Zc,↓reduceIte,reduceCtorEq, ints, List.map_cons, List.map_nil] <;> ((repeat' apply And.intro) <;> first | rfl | omega | trivial)) ?_
      rintro ⟨⟨o2, j⟩, hj, hg, hl2⟩
      simp only at hj hg hl2
      rw [hSu]
      simp only
      simp only [aR,N0,N1,N2,N3,N4,N5,Z0,Z1,Z2,Z3,Z4,Z5,Z6,Z7,Z8,Z9,Z10,Zc,↓reduceIte,reduceCtorEq, kN, zJ]
      (with_reducible first | refine kB (fun h2 => ?_) (fun h2 => ?_) | refine kD (fun h2 => ?_) (fun h2 => ?_))
      · have hjt : j < ns.length := by omega
        have e2 : (ints .i64 ns).getD j .any = .v (.int .i64 ns[j]) := by rw [kEN hjt, List.getD_eq_getElem?_getD, List.getElem?_eq_getElem hjt]; rfl
        rw [List.drop_eq_getElem_cons hjt, List.foldl_cons] at hg
        generalize ns[j] = x at *
        simp only [aR,N0,N1,N2,N3,N4,N5,Z0,Z1,Z2,Z3,Z4,Z5,Z6,Z7,Z8,Z9,Z10,Zc,↓reduceIte,reduceCtorEq, kN, h2, e2, zJ]
        obtain ⟨Sv, hSv⟩ : ∃ Sv : { k : Nat // k ≤ o2.length ∧ bkI x o2 k = bkI x o2 o2.length } → AS, ∀ k, Sv k = AS.of 104 [(0, .sl 0 6 (acts l)), (3, .sl 0 1 (ints .i64 o2)), (4, .v (.int .i64 i)), (5, .sl 0 1 (ints .i64 ns)), (6, .v (.int .i64 j)), (7, .v (.int .i64 k.1))] [] [] := ⟨_, fun _ => rfl⟩
        refine vcD_lp ?_
        refine kY hΓ Sv (fun k => k.1) ⟨o2.length, Nat.le_refl _, rfl⟩ (by rw [hSv]; refine kH [] [] ?_; simp only [aR,N0,N1,N2,N3,N4,N5,Z0,Z1,Z2,Z3,Z4,Z5,Z6,Z7,Z8,Z9,Z10,Zc,↓reduceIte,reduceCtorEq, zJ] <;> ((repeat' apply And.intro) <;> first | rfl | omega | trivial)) ?_
        rintro ⟨k, hk, hbk⟩
        rw [hSv]
        simp only
        cases k with
        | zero =>
          have hbk' : bkI x o2 o2.length = 0 := by rw [← hbk]; rfl
          have hin : insI o2 x = x :: o2 := by rw [insI, hbk', if_neg (by simp)]; simp
          have p1 : kB1 0 1 (ints .i64 o2) 0 0 = .sl 0 1 [] := by rw [kCB (by omega)]; simp [ints]
          have p2 : kB1 0 1 (ints .i64 o2) 0 o2.length = .sl 0 1 (ints .i64 o2) := by rw [kCB (by omega)]; simp
          simp only [aR,N0,N1,N2,N3,N4,N5,Z0,Z1,Z2,Z3,Z4,Z5,Z6,Z7,Z8,Z9,Z10,Zc,↓reduceIte,reduceCtorEq, zJ]
          (repeat (with_reducible refine And.intro ?_ ?_; focus (first | omega | exact kG | kernel_rfl)))
          simp only [aR,N0,N1,N2,N3,N4,N5,Z0,Z1,Z2,Z3,Z4,Z5,Z6,Z7,Z8,Z9,Z10,Zc,↓reduceIte,reduceCtorEq, kN, zJ, e2, List.map_cons, List.map_nil, p1, p2]
          (repeat (with_reducible refine And.intro ?_ ?_; focus (first | omega | exact kG | kernel_rfl)))
          simp only [aR,N0,N1,N2,N3,N4,N5,Z0,Z1,Z2,Z3,Z4,Z5,Z6,Z7,Z8,Z9,Z10,Zc,↓reduceIte,reduceCtorEq, kN, zJ, e2, List.map_cons, List.map_nil, p1, p2, kA (n := (j : Int) + 1) (by omega) (by omega)]
          refine kI ⟨(insI o2 x, j + 1), by simp only; omega, hg, by have := kCy o2 x; simp only; omega⟩ (by simp only; omega) ?_
          rw [hSu]; refine kH [] [] ?_
          simp only [aR,N0,N1,N2,N3,N4,N5,Z0,Z1,Z2,Z3,Z4,Z5,Z6,Z7,Z8,Z9,Z10,Zc,↓reduceIte,reduceCtorEq, hin, ints, List.map_cons, List.map_nil, List.map_append, List.nil_append, List.append_assoc, List.cons_append] <;> ((repeat' apply And.intro) <;> first | rfl | omega | trivial)
        | succ k =>
          have hkt : k < o2.length := by omega
          have e3 : (ints .i64 o2).getD k .any = .v (.int .i64 o2[k]) := by rw [kEN hkt, List.getD_eq_getElem?_getD, List.getElem?_eq_getElem hkt]; rfl
          have hw : IntKind.wrap .i64 (((k + 1 : Nat) : Int) - 1) = k := by rw [kA (by omega) (by omega)]; omega
          have hgd : o2.getD k 0 = o2[k] := by rw [List.getD_eq_getElem?_getD, List.getElem?_eq_getElem hkt]; rfl
          rw [bkI, hgd] at hbk
          have hin : insI o2 x = if 0 < bkI x o2 o2.length ∧ o2.getD (bkI x o2 o2.length - 1) 0 = x then o2 else o2.take (bkI x o2 o2.length) ++ x :: o2.drop (bkI x o2 o2.length) := rfl
          generalize o2[k] = y at *
          have hp : ((k + 1 : Nat) : Int) > 0 := by omega
          simp only [aR,N0,N1,N2,N3,N4,N5,Z0,Z1,Z2,Z3,Z4,Z5,Z6,Z7,Z8,Z9,Z10,Zc,↓reduceIte,reduceCtorEq, zJ, hw, e3, hp, e2]
          (repeat (with_reducible refine And.intro ?_ ?_; focus (first | omega | exact kG | kernel_rfl)))
          (with_reducible first | refine kB (fun h3 => ?_) (fun h3 => ?_) | refine kD (fun h3 => ?_) (fun h3 => ?_))
          · rw [if_pos h3] at hbk
            simp only [aR,N0,N1,N2,N3,N4,N5,Z0,Z1,Z2,Z3,Z4,Z5,Z6,Z7,Z8,Z9,Z10,Zc,↓reduceIte,reduceCtorEq, kN, h3, hw]
            refine kI ⟨k, by omega, hbk⟩ (by simp only; omega) ?_
            rw [hSv]; refine kH [] [] ?_
            simp only [aR,N0,N1,N2,N3,N4,N5,Z0,Z1,Z2,Z3,Z4,Z5,Z6,Z7,Z8,Z9,Z10,Zc,↓reduceIte,reduceCtorEq] <;> ((repeat' apply And.intro) <;> first | rfl | omega | trivial)
          · rw [if_neg h3] at hbk
            rw [← hbk, show k + 1 - 1 = k by omega, hgd] at hin
            have p1 : kB1 0 1 (ints .i64 o2) 0 (k + 1) = .sl 0 1 (ints .i64 (o2.take (k + 1))) := by rw [kCB (by omega)]; simp
            have p2 : kB1 0 1 (ints .i64 o2) (k + 1) o2.length = .sl 0 1 (ints .i64 (o2.drop (k + 1))) := by rw [kCB (by omega), List.take_of_length_le (by simp)]
            by_cases h4 : y = x
            · rw [if_pos ⟨by omega, h4⟩] at hin
              simp only [aR,N0,N1,N2,N3,N4,N5,Z0,Z1,Z2,Z3,Z4,Z5,Z6,Z7,Z8,Z9,Z10,Zc,↓reduceIte,reduceCtorEq, kN, h3, zJ, e2, e3, hw, hp, h4, List.map_cons, List.map_nil]
              (repeat (with_reducible refine And.intro ?_ ?_; focus (first | omega | exact kG | kernel_rfl)))
              simp only [aR,N0,N1,N2,N3,N4,N5,Z0,Z1,Z2,Z3,Z4,Z5,Z6,Z7,Z8,Z9,Z10,Zc,↓reduceIte,reduceCtorEq, kN, kA (n := (j : Int) + 1) (by omega) (by omega)]
              refine kI ⟨(insI o2 x, j + 1), by simp only; omega, hg, by have := kCy o2 x; simp only; omega⟩ (by simp only; omega) ?_
              rw [hSu]; refine kH [] [] ?_
              simp only [aR,N0,N1,N2,N3,N4,N5,Z0,Z1,Z2,Z3,Z4,Z5,Z6,Z7,Z8,Z9,Z10,Zc,↓reduceIte,reduceCtorEq, hin, ints, List.map_cons, List.map_nil, List.map_append, List.nil_append, List.append_assoc, List.cons_append] <;> ((repeat' apply And.intro) <;> first | rfl | omega | trivial)
            · rw [if_neg (by omega)] at hin
              simp only [aR,N0,N1,N2,N3,N4,N5,Z0,Z1,Z2,Z3,Z4,Z5,Z6,Z7,Z8,Z9,Z10,Zc,↓reduceIte,reduceCtorEq, kN, h3, zJ, e2, e3, hw, hp, h4, List.map_cons, List.map_nil, p1, p2, List.length_append, List.length_take, List.length_drop, List.length_cons, List.length_nil, show min (k + 1) o2.length = k + 1 by omega]
              (repeat (with_reducible refine And.intro ?_ ?_; focus (first | omega | exact kG | kernel_rfl)))
              simp only [aR,N0,N1,N2,N3,N4,N5,Z0,Z1,Z2,Z3,Z4,Z5,Z6,Z7,Z8,Z9,Z10,Zc,↓reduceIte,reduceCtorEq, kN, zJ, e2, List.map_cons, List.map_nil, p1, p2, List.length_append, List.length_take, List.length_drop, List.length_cons, List.length_nil, show min (k + 1) o2.length = k + 1 by omega, kA (n := (j : Int) + 1) (by omega) (by omega)]
              refine kI ⟨(insI o2 x, j + 1), by simp only; omega, hg, by have := kCy o2 x; simp only; omega⟩ (by simp only; omega) ?_
              rw [hSu]; refine kH [] [] ?_
              simp only [aR,N0,N1,N2,N3,N4,N5,Z0,Z1,Z2,Z3,Z4,Z5,Z6,Z7,Z8,Z9,Z10,Zc,↓reduceIte,reduceCtorEq, hin, ints, List.map_cons, List.map_nil, List.map_append, List.nil_append, List.append_assoc, List.cons_append] <;> ((repeat' apply And.intro) <;> first | rfl | omega | trivial)
      · rw [List.drop_of_length_le (by omega), List.foldl_nil] at hg
        rw [← hg] at hf
        simp only [aR,N0,N1,N2,N3,N4,N5,Z0,Z1,Z2,Z3,Z4,Z5,Z6,Z7,Z8,Z9,Z10,Zc,↓reduceIte,reduceCtorEq, kN, h2, kA (n := (i : Int) + 1) (by omega) (by omega)]
        refine kI ⟨(o2, i + 1), by simp only; omega, hf, by simp only; omega⟩ (by simp only; omega) ?_
        rw [hSt]; refine kH [] [] ?_
        simp only [aR,N0,N1,N2,N3,N4,N5,Z0,Z1,Z2,Z3,Z4,Z5,Z6,Z7,Z8,Z9,Z10,Zc,↓reduceIte,reduceCtorEq] <;> ((repeat' apply And.intro) <;> first | rfl | omega | trivial)
  · rw [List.drop_of_length_le (by omega), jI] at hf
    simp only [aR,N0,N1,N2,N3,N4,N5,Z0,Z1,Z2,Z3,Z4,Z5,Z6,Z7,Z8,Z9,Z10,Zc,↓reduceIte,reduceCtorEq, h, kQ, hf]
end Go.Proofs
end
