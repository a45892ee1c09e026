/-
  Is a tree qF.
-/
import Derived.Test.YtmhpninemdmbkaaGreatDoorXZUk8
set_option linter.unusedSimpArgs false
set_option linter.unusedVariables false
set_option linter.defProp false

-- ZUk9s
section
namespace Go.Proofs
open Go Go.Rw
open _root_.Nat renaming reduceAdd → N0, reduceSub → N1, reduceMul → N2, reduceLT → N3, reduceLeDiff → N4, reduceEqDiff → N5
open _root_.Int renaming reduceNeg → Z0, reduceAdd → Z1, reduceSub → Z2, reduceMul → Z3, reduceGT → Z4, reduceGE → Z5, reduceLT → Z6, reduceLE → Z7, reduceEq → Z8, reduceNe → Z9, reduceToNat → Z10, cast_ofNat_Int → Zc
set_option maxRecDepth 100000
set_option linter.unusedSimpArgs false
set_option linter.unusedVariables false

abbrev kCV : Con where
  ι := { l : List Nd // l.length ≤ 1000000 ∧ ∀ x ∈ l, x.nm.length ≤ 1099511627776 ∧ x.text.length ≤ 1099511627776 }
  args := fun p => [.sl 0 5 (k9 p.1)]
  post := fun p r => ∃ b, r = .v (.bool b) ∧ (b = true → srtN p.1)
theorem srt_snoc {l : List Nd} {i : Nat} (h : i < l.length) (h1 : srtN (l.take i)) (h2 : ∀ k, ∀ hk : k + 1 = i, (l[k]'(by omega)).id < l[i].id) : srtN (l.take (i + 1)) := by
  rw [List.take_succ_eq_append_getElem h, srtN, List.map_append, List.pairwise_append]
  refine ⟨h1, by simp, fun a ha b hb => ?_⟩
  simp only [List.map_cons, List.map_nil, List.mem_singleton] at hb
  subst hb
  cases i with
  | zero => simp at ha
  | succ k =>
    have h3 := h2 k rfl
    rw [List.take_succ_eq_append_getElem (by omega), srtN, List.map_append, List.pairwise_append] at h1
    rw [List.take_succ_eq_append_getElem (by omega), List.map_append, List.mem_append] at ha
    rcases ha with ha | ha
    · have := h1.2.2 a ha l[k].id (by simp)
      omega
    · simp only [List.map_cons, List.map_nil, List.mem_singleton] at ha
      omega
set_option maxHeartbeats 4000000 in
theorem tsound_good : Rw.Good Tryz.prog 10 kCV := by
  have hΓ : kM Tryz.prog [(32, kBH), (33, kidCon), (34, jM), (35, kAF), (36, kAr), (37, kBI)] := (kD kCm (kD kid_good (kD kBx (kD kAp (kD kBc (kD kEA kJ))))))
  refine kR (nn := 119) hΓ Tryz.func10 (by kernel_rfl) rfl (show Tryz.f10.results.toList = [.tmp 2] from rfl) (fun _ => rfl) (fun x => by simp [AV.erL, AV.er, kB1]) ?_
  rintro ⟨l, hl, ht⟩
  by_cases h0 : (l.length : Int) > 100
  · simp only [aR,N0,N1,N2,N3,N4,N5,Z0,Z1,Z2,Z3,Z4,Z5,Z6,Z7,Z8,Z9,Z10,Zc,↓reduceIte,reduceCtorEq, kP, h0]
    exact ⟨false, rfl, by simp⟩
  simp only [aR,N0,N1,N2,N3,N4,N5,Z0,Z1,Z2,Z3,Z4,Z5,Z6,Z7,Z8,Z9,Z10,Zc,↓reduceIte,reduceCtorEq, kP, h0]
  obtain ⟨St, hSt⟩ : ∃ St : { p : Int × Nat // p.2 ≤ l.length ∧ (0 ≤ p.1 ∧ p.1 ≤ 10000) ∧ srtN (l.take p.2) } → AS, ∀ p, St p = AS.of 119 [(0, .sl 0 5 (k9 l)), (3, .v (.int .i64 p.1.1)), (4, .v (.int .i64 p.1.2))] [] [] := ⟨_, fun _ => rfl⟩
  refine kY hΓ St (fun p => l.length - p.1.2) ⟨(0, 0), by omega, by simp only; omega, by simp [srtN]⟩ (by rw [hSt]; refine kH [] [] ?_; simp only [aR,N0,N1,N2,N3,N4,N5,Z0,Z1,Z2,Z3,Z4,Z5,Z6,Z7,Z8,Z9,Z10,Zc,↓reduceIte,reduceCtorEq] <;> ((repeat' apply And.intro) <;> first | rfl | omega | trivial)) ?_
  rintro ⟨⟨s, i⟩, hi, hs, hb⟩
  simp only at hi hs hb
  rw [hSt]
  simp only
  simp only [aR,N0,N1,N2,N3,N4,N5,Z0,Z1,Z2,Z3,Z4,Z5,Z6,Z7,Z8,Z9,Z10,Zc,↓reduceIte,reduceCtorEq, kP]
  (with_reducible first | refine kC (fun h => ?_) (fun h => ?_) | refine kE (fun h => ?_) (fun h => ?_))
  · have hlt : i < l.length := by omega
    have hci := ht l[i] (List.getElem_mem hlt)
    have e1 := qI l hlt
    have hsn := srt_snoc hlt hb
    generalize l[i] = x at *
    obtain ⟨id, par, nm, dir, tx⟩ := x
    obtain ⟨hn, ho⟩ := hci
    simp only at hn ho e1 hsn
    simp only [aR,N0,N1,N2,N3,N4,N5,Z0,Z1,Z2,Z3,Z4,Z5,Z6,Z7,Z8,Z9,Z10,Zc,↓reduceIte,reduceCtorEq, h, e1, kP, nA]
    (repeat (with_reducible refine And.intro ?_ ?_; focus (first | omega | exact kF | kernel_rfl)))
    by_cases c1 : id < 1
    · simp only [aR,N0,N1,N2,N3,N4,N5,Z0,Z1,Z2,Z3,Z4,Z5,Z6,Z7,Z8,Z9,Z10,Zc,↓reduceIte,reduceCtorEq, c1]
      (repeat (with_reducible refine And.intro ?_ ?_; focus (first | omega | exact kF | kernel_rfl)))
      exact ⟨false, rfl, by simp⟩
    by_cases c2 : id > 1099511627776
    · simp only [aR,N0,N1,N2,N3,N4,N5,Z0,Z1,Z2,Z3,Z4,Z5,Z6,Z7,Z8,Z9,Z10,Zc,↓reduceIte,reduceCtorEq, c1, c2]
      (repeat (with_reducible refine And.intro ?_ ?_; focus (first | omega | exact kF | kernel_rfl)))
      exact ⟨false, rfl, by simp⟩
    cases i with
    | zero =>
      have srt1 : srtN (l.take 1) := hsn fun k hk => by omega
      simp only [aR,N0,N1,N2,N3,N4,N5,Z0,Z1,Z2,Z3,Z4,Z5,Z6,Z7,Z8,Z9,Z10,Zc,↓reduceIte,reduceCtorEq, c1, c2]
      (repeat (with_reducible refine And.intro ?_ ?_; focus (first | omega | exact kF | kernel_rfl)))
      refine kAP (by simp [kB]) hn ?_
      cases hnm : qV nm
      · simp only [aR,N0,N1,N2,N3,N4,N5,Z0,Z1,Z2,Z3,Z4,Z5,Z6,Z7,Z8,Z9,Z10,Zc,↓reduceIte,reduceCtorEq, hnm]
        (repeat (with_reducible refine And.intro ?_ ?_; focus (first | omega | exact kF | kernel_rfl)))
        exact ⟨false, rfl, by simp⟩
      simp only [aR,N0,N1,N2,N3,N4,N5,Z0,Z1,Z2,Z3,Z4,Z5,Z6,Z7,Z8,Z9,Z10,Zc,↓reduceIte,reduceCtorEq, hnm]
      (repeat (with_reducible refine And.intro ?_ ?_; focus (first | omega | exact kF | kernel_rfl)))
      refine kCc (by simp [kB]) rfl (by omega) ?_
      by_cases c4 : kid par nm l = id
      case neg =>
        simp only [aR,N0,N1,N2,N3,N4,N5,Z0,Z1,Z2,Z3,Z4,Z5,Z6,Z7,Z8,Z9,Z10,Zc,↓reduceIte,reduceCtorEq, c4]
        (repeat (with_reducible refine And.intro ?_ ?_; focus (first | omega | exact kF | kernel_rfl)))
        exact ⟨false, rfl, by simp⟩

      by_cases c5 : dir = true ∧ tx ≠ []
      · obtain ⟨rfl, c6⟩ := c5
        simp only [aR,N0,N1,N2,N3,N4,N5,Z0,Z1,Z2,Z3,Z4,Z5,Z6,Z7,Z8,Z9,Z10,Zc,↓reduceIte,reduceCtorEq, c4, c6]
        (repeat (with_reducible refine And.intro ?_ ?_; focus (first | omega | exact kF | kernel_rfl)))
        exact ⟨false, rfl, by simp⟩

      have more : ∀ Z : Prop, (dir = false → Z) → (dir = true → tx = [] → Z) → Z := fun Z f g => by
        cases dir
        · exact f rfl
        · exact g rfl (Decidable.not_not.1 fun hh => c5 ⟨rfl, hh⟩)
      have hcl : cnt tx ≤ tx.length := by rw [kD9]; exact kC2 tx
      refine more _ (fun hd => ?_) (fun hd he => ?_)
      all_goals
        subst hd
        by_cases c7 : (tx.length : Int) > 8000
        · first
            | simp only [aR,N0,N1,N2,N3,N4,N5,Z0,Z1,Z2,Z3,Z4,Z5,Z6,Z7,Z8,Z9,Z10,Zc,↓reduceIte,reduceCtorEq, c4, c7, eq_true he]
              (repeat (with_reducible refine And.intro ?_ ?_; focus (first | omega | exact kF | kernel_rfl)))
              exact ⟨false, rfl, by simp⟩

            | simp only [aR,N0,N1,N2,N3,N4,N5,Z0,Z1,Z2,Z3,Z4,Z5,Z6,Z7,Z8,Z9,Z10,Zc,↓reduceIte,reduceCtorEq, c4, c7]
              (repeat (with_reducible refine And.intro ?_ ?_; focus (first | omega | exact kF | kernel_rfl)))
              exact ⟨false, rfl, by simp⟩

        first
          | simp only [aR,N0,N1,N2,N3,N4,N5,Z0,Z1,Z2,Z3,Z4,Z5,Z6,Z7,Z8,Z9,Z10,Zc,↓reduceIte,reduceCtorEq, c4, c7, eq_true he]
            (repeat (with_reducible refine And.intro ?_ ?_; focus (first | omega | exact kF | kernel_rfl)))
          | simp only [aR,N0,N1,N2,N3,N4,N5,Z0,Z1,Z2,Z3,Z4,Z5,Z6,Z7,Z8,Z9,Z10,Zc,↓reduceIte,reduceCtorEq, c4, c7]
            (repeat (with_reducible refine And.intro ?_ ?_; focus (first | omega | exact kF | kernel_rfl)))
        refine kAH (by simp [kB]) (by omega) ?_
        cases hv : (pts tx).isSome
        · simp only [aR,N0,N1,N2,N3,N4,N5,Z0,Z1,Z2,Z3,Z4,Z5,Z6,Z7,Z8,Z9,Z10,Zc,↓reduceIte,reduceCtorEq, hv]
          (repeat (with_reducible refine And.intro ?_ ?_; focus (first | omega | exact kF | kernel_rfl)))
          exact ⟨false, rfl, by simp⟩

        simp only [aR,N0,N1,N2,N3,N4,N5,Z0,Z1,Z2,Z3,Z4,Z5,Z6,Z7,Z8,Z9,Z10,Zc,↓reduceIte,reduceCtorEq, hv]
        (repeat (with_reducible refine And.intro ?_ ?_; focus (first | omega | exact kF | kernel_rfl)))
        refine kAE (by simp [kB]) (by omega) ?_
        by_cases c8 : (cnt tx : Int) > 2000
        · simp only [aR,N0,N1,N2,N3,N4,N5,Z0,Z1,Z2,Z3,Z4,Z5,Z6,Z7,Z8,Z9,Z10,Zc,↓reduceIte,reduceCtorEq, c8]
          (repeat (with_reducible refine And.intro ?_ ?_; focus (first | omega | exact kF | kernel_rfl)))
          exact ⟨false, rfl, by simp⟩

        by_cases c9 : s + (cnt tx : Int) > 10000
        · simp only [aR,N0,N1,N2,N3,N4,N5,Z0,Z1,Z2,Z3,Z4,Z5,Z6,Z7,Z8,Z9,Z10,Zc,↓reduceIte,reduceCtorEq, c8, c9, kA (n := s + (cnt tx : Int)) (by omega) (by omega)]
          (repeat (with_reducible refine And.intro ?_ ?_; focus (first | omega | exact kF | kernel_rfl)))
          exact ⟨false, rfl, by simp⟩

        by_cases c10 : par = 0
        · simp only [aR,N0,N1,N2,N3,N4,N5,Z0,Z1,Z2,Z3,Z4,Z5,Z6,Z7,Z8,Z9,Z10,Zc,↓reduceIte,reduceCtorEq, c8, c9, c10, kA (n := s + (cnt tx : Int)) (by omega) (by omega), kA (n := 0 + 1) (by omega) (by omega)]
          (repeat (with_reducible refine And.intro ?_ ?_; focus (first | omega | exact kF | kernel_rfl)))
          refine kI ⟨(s + (cnt tx : Int), 1), by simp only; omega, by simp only; omega, srt1⟩ (by simp only; omega) ?_
          rw [hSt]; refine kH [] [] ?_
          simp only [aR,N0,N1,N2,N3,N4,N5,Z0,Z1,Z2,Z3,Z4,Z5,Z6,Z7,Z8,Z9,Z10,Zc,↓reduceIte,reduceCtorEq] <;> ((repeat' apply And.intro) <;> first | rfl | omega | trivial)
        simp only [aR,N0,N1,N2,N3,N4,N5,Z0,Z1,Z2,Z3,Z4,Z5,Z6,Z7,Z8,Z9,Z10,Zc,↓reduceIte,reduceCtorEq, c8, c9, c10, kA (n := s + (cnt tx : Int)) (by omega) (by omega)]
        (repeat (with_reducible refine And.intro ?_ ?_; focus (first | omega | exact kF | kernel_rfl)))
        refine kAh (by simp [kB]) rfl (by omega) ?_
        by_cases c11 : ndx par l < l.length
        case neg =>
          simp only [aR,N0,N1,N2,N3,N4,N5,Z0,Z1,Z2,Z3,Z4,Z5,Z6,Z7,Z8,Z9,Z10,Zc,↓reduceIte,reduceCtorEq, ndI, if_neg c11]
          (repeat (with_reducible refine And.intro ?_ ?_; focus (first | omega | exact kF | kernel_rfl)))
          exact ⟨false, rfl, by simp⟩

        have e4 := qI l c11
        generalize l[ndx par l] = y at *
        obtain ⟨yid, ypar, ynm, ydir, ytx⟩ := y
        have hnn : ((ndx par l : Int) < 0) = False := eq_false (by omega)
        cases ydir
        · simp only [aR,N0,N1,N2,N3,N4,N5,Z0,Z1,Z2,Z3,Z4,Z5,Z6,Z7,Z8,Z9,Z10,Zc,↓reduceIte,reduceCtorEq, ndI, if_pos c11, e4, nA, hnn, kP]
          (repeat (with_reducible refine And.intro ?_ ?_; focus (first | omega | exact kF | kernel_rfl)))
          exact ⟨false, rfl, by simp⟩

        simp only [aR,N0,N1,N2,N3,N4,N5,Z0,Z1,Z2,Z3,Z4,Z5,Z6,Z7,Z8,Z9,Z10,Zc,↓reduceIte,reduceCtorEq, ndI, if_pos c11, e4, nA, hnn, kP]
        (repeat (with_reducible refine And.intro ?_ ?_; focus (first | omega | exact kF | kernel_rfl)))
        refine kBy (by simp [kB]) rfl (by omega) ?_
        cases hw : kBJ l par id
        case true =>
          simp only [aR,N0,N1,N2,N3,N4,N5,Z0,Z1,Z2,Z3,Z4,Z5,Z6,Z7,Z8,Z9,Z10,Zc,↓reduceIte,reduceCtorEq]
          exact ⟨false, rfl, by simp⟩

        simp only [aR,N0,N1,N2,N3,N4,N5,Z0,Z1,Z2,Z3,Z4,Z5,Z6,Z7,Z8,Z9,Z10,Zc,↓reduceIte,reduceCtorEq, kA (n := 0 + 1) (by omega) (by omega)]
        refine kI ⟨(s + (cnt tx : Int), 1), by simp only; omega, by simp only; omega, srt1⟩ (by simp only; omega) ?_
        rw [hSt]; refine kH [] [] ?_
        simp only [aR,N0,N1,N2,N3,N4,N5,Z0,Z1,Z2,Z3,Z4,Z5,Z6,Z7,Z8,Z9,Z10,Zc,↓reduceIte,reduceCtorEq] <;> ((repeat' apply And.intro) <;> first | rfl | omega | trivial)
    | succ k =>
      have hkt : k < l.length := by omega
      have e3 := qI l hkt
      have hw : IntKind.wrap .i64 (((k + 1 : Nat) : Int) - 1) = k := by rw [kA (by omega) (by omega)]; omega
      have hp : ((k + 1 : Nat) : Int) > 0 := by omega
      have srt0 : l[k].id < id → srtN (l.take (k + 1 + 1)) := fun hlt2 => hsn fun k2 hk2 => by
        have : k2 = k := by omega
        subst this; exact hlt2
      clear hsn
      generalize l[k] = z at *
      obtain ⟨zid, zpar, znm, zdir, ztx⟩ := z
      simp only at srt0
      by_cases c3 : zid ≥ id
      · simp only [aR,N0,N1,N2,N3,N4,N5,Z0,Z1,Z2,Z3,Z4,Z5,Z6,Z7,Z8,Z9,Z10,Zc,↓reduceIte,reduceCtorEq, c1, c2, hw, hp, e3, nA, c3, kP]
        (repeat (with_reducible refine And.intro ?_ ?_; focus (first | omega | exact kF | kernel_rfl)))
        exact ⟨false, rfl, by simp⟩
      have srt1 := srt0 (by omega)
      simp only [aR,N0,N1,N2,N3,N4,N5,Z0,Z1,Z2,Z3,Z4,Z5,Z6,Z7,Z8,Z9,Z10,Zc,↓reduceIte,reduceCtorEq, c1, c2, hw, hp, e3, nA, c3, kP]
      (repeat (with_reducible refine And.intro ?_ ?_; focus (first | omega | exact kF | kernel_rfl)))
      refine kAP (by simp [kB]) hn ?_
      cases hnm : qV nm
      · simp only [aR,N0,N1,N2,N3,N4,N5,Z0,Z1,Z2,Z3,Z4,Z5,Z6,Z7,Z8,Z9,Z10,Zc,↓reduceIte,reduceCtorEq, hnm]
        (repeat (with_reducible refine And.intro ?_ ?_; focus (first | omega | exact kF | kernel_rfl)))
        exact ⟨false, rfl, by simp⟩
      simp only [aR,N0,N1,N2,N3,N4,N5,Z0,Z1,Z2,Z3,Z4,Z5,Z6,Z7,Z8,Z9,Z10,Zc,↓reduceIte,reduceCtorEq, hnm]
      (repeat (with_reducible refine And.intro ?_ ?_; focus (first | omega | exact kF | kernel_rfl)))
      refine kCc (by simp [kB]) rfl (by omega) ?_
      by_cases c4 : kid par nm l = id
      case neg =>
        simp only [aR,N0,N1,N2,N3,N4,N5,Z0,Z1,Z2,Z3,Z4,Z5,Z6,Z7,Z8,Z9,Z10,Zc,↓reduceIte,reduceCtorEq, c4]
        (repeat (with_reducible refine And.intro ?_ ?_; focus (first | omega | exact kF | kernel_rfl)))
        exact ⟨false, rfl, by simp⟩

      by_cases c5 : dir = true ∧ tx ≠ []
      · obtain ⟨rfl, c6⟩ := c5
        simp only [aR,N0,N1,N2,N3,N4,N5,Z0,Z1,Z2,Z3,Z4,Z5,Z6,Z7,Z8,Z9,Z10,Zc,↓reduceIte,reduceCtorEq, c4, c6]
        (repeat (with_reducible refine And.intro ?_ ?_; focus (first | omega | exact kF | kernel_rfl)))
        exact ⟨false, rfl, by simp⟩

      have more : ∀ Z : Prop, (dir = false → Z) → (dir = true → tx = [] → Z) → Z := fun Z f g => by
        cases dir
        · exact f rfl
        · exact g rfl (Decidable.not_not.1 fun hh => c5 ⟨rfl, hh⟩)
      have hcl : cnt tx ≤ tx.length := by rw [kD9]; exact kC2 tx
      refine more _ (fun hd => ?_) (fun hd he => ?_)
      all_goals
        subst hd
        by_cases c7 : (tx.length : Int) > 8000
        · first
            | simp only [aR,N0,N1,N2,N3,N4,N5,Z0,Z1,Z2,Z3,Z4,Z5,Z6,Z7,Z8,Z9,Z10,Zc,↓reduceIte,reduceCtorEq, c4, c7, eq_true he]
              (repeat (with_reducible refine And.intro ?_ ?_; focus (first | omega | exact kF | kernel_rfl)))
              exact ⟨false, rfl, by simp⟩

            | simp only [aR,N0,N1,N2,N3,N4,N5,Z0,Z1,Z2,Z3,Z4,Z5,Z6,Z7,Z8,Z9,Z10,Zc,↓reduceIte,reduceCtorEq, c4, c7]
              (repeat (with_reducible refine And.intro ?_ ?_; focus (first | omega | exact kF | kernel_rfl)))
              exact ⟨false, rfl, by simp⟩

        first
          | simp only [aR,N0,N1,N2,N3,N4,N5,Z0,Z1,Z2,Z3,Z4,Z5,Z6,Z7,Z8,Z9,Z10,Zc,↓reduceIte,reduceCtorEq, c4, c7, eq_true he]
            (repeat (with_reducible refine And.intro ?_ ?_; focus (first | omega | exact kF | kernel_rfl)))
          | simp only [aR,N0,N1,N2,N3,N4,N5,Z0,Z1,Z2,Z3,Z4,Z5,Z6,Z7,Z8,Z9,Z10,Zc,↓reduceIte,reduceCtorEq, c4, c7]
            (repeat (with_reducible refine And.intro ?_ ?_; focus (first | omega | exact kF | kernel_rfl)))
        refine kAH (by simp [kB]) (by omega) ?_
        cases hv : (pts tx).isSome
        · simp only [aR,N0,N1,N2,N3,N4,N5,Z0,Z1,Z2,Z3,Z4,Z5,Z6,Z7,Z8,Z9,Z10,Zc,↓reduceIte,reduceCtorEq, hv]
          (repeat (with_reducible refine And.intro ?_ ?_; focus (first | omega | exact kF | kernel_rfl)))
          exact ⟨false, rfl, by simp⟩

        simp only [aR,N0,N1,N2,N3,N4,N5,Z0,Z1,Z2,Z3,Z4,Z5,Z6,Z7,Z8,Z9,Z10,Zc,↓reduceIte,reduceCtorEq, hv]
        (repeat (with_reducible refine And.intro ?_ ?_; focus (first | omega | exact kF | kernel_rfl)))
        refine kAE (by simp [kB]) (by omega) ?_
        by_cases c8 : (cnt tx : Int) > 2000
        · simp only [aR,N0,N1,N2,N3,N4,N5,Z0,Z1,Z2,Z3,Z4,Z5,Z6,Z7,Z8,Z9,Z10,Zc,↓reduceIte,reduceCtorEq, c8]
          (repeat (with_reducible refine And.intro ?_ ?_; focus (first | omega | exact kF | kernel_rfl)))
          exact ⟨false, rfl, by simp⟩

        by_cases c9 : s + (cnt tx : Int) > 10000
        · simp only [aR,N0,N1,N2,N3,N4,N5,Z0,Z1,Z2,Z3,Z4,Z5,Z6,Z7,Z8,Z9,Z10,Zc,↓reduceIte,reduceCtorEq, c8, c9, kA (n := s + (cnt tx : Int)) (by omega) (by omega)]
          (repeat (with_reducible refine And.intro ?_ ?_; focus (first | omega | exact kF | kernel_rfl)))
          exact ⟨false, rfl, by simp⟩

        by_cases c10 : par = 0
        · simp only [aR,N0,N1,N2,N3,N4,N5,Z0,Z1,Z2,Z3,Z4,Z5,Z6,Z7,Z8,Z9,Z10,Zc,↓reduceIte,reduceCtorEq, c8, c9, c10, kA (n := s + (cnt tx : Int)) (by omega) (by omega), kA (n := ((k + 1 : Nat) : Int) + 1) (by omega) (by omega)]
          (repeat (with_reducible refine And.intro ?_ ?_; focus (first | omega | exact kF | kernel_rfl)))
          refine kI ⟨(s + (cnt tx : Int), k + 1 + 1), by simp only; omega, by simp only; omega, srt1⟩ (by simp only; omega) ?_
          rw [hSt]; refine kH [] [] ?_
          simp only [aR,N0,N1,N2,N3,N4,N5,Z0,Z1,Z2,Z3,Z4,Z5,Z6,Z7,Z8,Z9,Z10,Zc,↓reduceIte,reduceCtorEq] <;> ((repeat' apply And.intro) <;> first | rfl | omega | trivial)
        simp only [aR,N0,N1,N2,N3,N4,N5,Z0,Z1,Z2,Z3,Z4,Z5,Z6,Z7,Z8,Z9,Z10,Zc,↓reduceIte,reduceCtorEq, c8, c9, c10, kA (n := s + (cnt tx : Int)) (by omega) (by omega)]
        (repeat (with_reducible refine And.intro ?_ ?_; focus (first | omega | exact kF | kernel_rfl)))
        refine kAh (by simp [kB]) rfl (by omega) ?_
        by_cases c11 : ndx par l < l.length
        case neg =>
          simp only [aR,N0,N1,N2,N3,N4,N5,Z0,Z1,Z2,Z3,Z4,Z5,Z6,Z7,Z8,Z9,Z10,Zc,↓reduceIte,reduceCtorEq, ndI, if_neg c11]
          (repeat (with_reducible refine And.intro ?_ ?_; focus (first | omega | exact kF | kernel_rfl)))
          exact ⟨false, rfl, by simp⟩

        have e4 := qI l c11
        generalize l[ndx par l] = y at *
        obtain ⟨yid, ypar, ynm, ydir, ytx⟩ := y
        have hnn : ((ndx par l : Int) < 0) = False := eq_false (by omega)
        cases ydir
        · simp only [aR,N0,N1,N2,N3,N4,N5,Z0,Z1,Z2,Z3,Z4,Z5,Z6,Z7,Z8,Z9,Z10,Zc,↓reduceIte,reduceCtorEq, ndI, if_pos c11, e4, nA, hnn, kP]
          (repeat (with_reducible refine And.intro ?_ ?_; focus (first | omega | exact kF | kernel_rfl)))
          exact ⟨false, rfl, by simp⟩

        simp only [aR,N0,N1,N2,N3,N4,N5,Z0,Z1,Z2,Z3,Z4,Z5,Z6,Z7,Z8,Z9,Z10,Zc,↓reduceIte,reduceCtorEq, ndI, if_pos c11, e4, nA, hnn, kP]
        (repeat (with_reducible refine And.intro ?_ ?_; focus (first | omega | exact kF | kernel_rfl)))
        refine kBy (by simp [kB]) rfl (by omega) ?_
        cases hw : kBJ l par id
        case true =>
          simp only [aR,N0,N1,N2,N3,N4,N5,Z0,Z1,Z2,Z3,Z4,Z5,Z6,Z7,Z8,Z9,Z10,Zc,↓reduceIte,reduceCtorEq]
          exact ⟨false, rfl, by simp⟩

        simp only [aR,N0,N1,N2,N3,N4,N5,Z0,Z1,Z2,Z3,Z4,Z5,Z6,Z7,Z8,Z9,Z10,Zc,↓reduceIte,reduceCtorEq, kA (n := ((k + 1 : Nat) : Int) + 1) (by omega) (by omega)]
        refine kI ⟨(s + (cnt tx : Int), k + 1 + 1), by simp only; omega, by simp only; omega, srt1⟩ (by simp only; omega) ?_
        rw [hSt]; refine kH [] [] ?_
        simp only [aR,N0,N1,N2,N3,N4,N5,Z0,Z1,Z2,Z3,Z4,Z5,Z6,Z7,Z8,Z9,Z10,Zc,↓reduceIte,reduceCtorEq] <;> ((repeat' apply And.intro) <;> first | rfl | omega | trivial)
  · simp only [aR,N0,N1,N2,N3,N4,N5,Z0,Z1,Z2,Z3,Z4,Z5,Z6,Z7,Z8,Z9,Z10,Zc,↓reduceIte,reduceCtorEq, h, kP]
    exact ⟨true, rfl, fun _ => by rwa [List.take_of_length_le (by omega)] at hb⟩
end Go.Proofs
end
