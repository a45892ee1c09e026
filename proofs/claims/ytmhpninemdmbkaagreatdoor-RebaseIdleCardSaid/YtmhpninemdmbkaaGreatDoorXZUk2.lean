/-
  The document's tree: names, texts; acts held against each other.
-/
import Derived.Test.YtmhpninemdmbkaaGreatDoorXZUk0
import Derived.Test.YtmhpninemdmbkaaGreatDoorXZUk1e
set_option linter.unusedSimpArgs false
set_option linter.unusedVariables false
set_option linter.defProp false

-- ZUk2
section
namespace Go.Proofs
open Go Go.Rw
open _root_.Nat renaming reduceAdd → N0, reduceSub → N1, reduceMul → N2, reduceLT → N3, reduceLeDiff → N4, reduceEqDiff → N5
open _root_.Int renaming reduceNeg → Z0, reduceAdd → Z1, reduceSub → Z2, reduceMul → Z3, reduceGT → Z4, reduceGE → Z5, reduceLT → Z6, reduceLE → Z7, reduceEq → Z8, reduceNe → Z9, reduceToNat → Z10, cast_ofNat_Int → Zc
set_option maxRecDepth 100000
set_option linter.unusedSimpArgs false
set_option linter.unusedVariables false

theorem rname_good : Rw.Good Tryz.prog 32 kC4 := by
  have hΓ : kL Tryz.prog [] := kJ
  refine kS (nn := 56) hΓ Tryz.func32 (by kernel_rfl) rfl (show Tryz.f32.results.toList = [.tmp 2] from rfl) (fun _ => rfl) (fun _ => rfl) ?_
  rintro ⟨s, hs⟩
  simp only [aR,N0,N1,N2,N3,N4,N5,Z0,Z1,Z2,Z3,Z4,Z5,Z6,Z7,Z8,Z9,Z10,Zc,↓reduceIte,reduceCtorEq]
  have e0 : jD s = (s.all zK && decide (1 ≤ s.length ∧ s.length ≤ 20 ∧ s ≠ [46] ∧ s ≠ [46, 46])) := rfl
  by_cases h1 : (s.length : Int) < 1
  · have e1 : jD s = false := by rw [e0, decide_eq_false (by omega), Bool.and_false]
    simp only [aR,N0,N1,N2,N3,N4,N5,Z0,Z1,Z2,Z3,Z4,Z5,Z6,Z7,Z8,Z9,Z10,Zc,↓reduceIte,reduceCtorEq, h1, e1]
  by_cases h2 : (s.length : Int) > 20
  · have e1 : jD s = false := by rw [e0, decide_eq_false (by omega), Bool.and_false]
    simp only [aR,N0,N1,N2,N3,N4,N5,Z0,Z1,Z2,Z3,Z4,Z5,Z6,Z7,Z8,Z9,Z10,Zc,↓reduceIte,reduceCtorEq, h1, h2, e1]
  by_cases h3 : s = [46]
  · have e1 : jD s = false := by rw [e0, decide_eq_false (fun hh => hh.2.2.1 h3), Bool.and_false]
    have h4 : decide (s = [46]) = true := decide_eq_true h3
    clear h3
    simp only [aR,N0,N1,N2,N3,N4,N5,Z0,Z1,Z2,Z3,Z4,Z5,Z6,Z7,Z8,Z9,Z10,Zc,↓reduceIte,reduceCtorEq, h1, h2, h4, e1]
  by_cases h4 : s = [46, 46]
  · have e1 : jD s = false := by rw [e0, decide_eq_false (fun hh => hh.2.2.2 h4), Bool.and_false]
    have h5 : decide (s = [46, 46]) = true := decide_eq_true h4
    clear h4
    simp only [aR,N0,N1,N2,N3,N4,N5,Z0,Z1,Z2,Z3,Z4,Z5,Z6,Z7,Z8,Z9,Z10,Zc,↓reduceIte,reduceCtorEq, h1, h2, h3, h5, e1]
  rw [decide_eq_true (by refine ⟨by omega, by omega, h3, h4⟩), Bool.and_true] at e0
  simp only [aR,N0,N1,N2,N3,N4,N5,Z0,Z1,Z2,Z3,Z4,Z5,Z6,Z7,Z8,Z9,Z10,Zc,↓reduceIte,reduceCtorEq, h1, h2, h3, h4]
  obtain ⟨St, hSt⟩ : ∃ St : { i : Nat // i ≤ s.length ∧ (s.take i).all zK = true } → AS, ∀ i, St i = AS.of 56 [(0, .v (sv s)), (3, .v (.int .i64 i.1))] [] [] := ⟨_, fun _ => rfl⟩
  refine kY hΓ St (fun i => s.length - i.1) ⟨0, by omega, by simp⟩ (by rw [hSt]; refine kH [] [] ?_; simp only [aR,N0,N1,N2,N3,N4,N5,Z0,Z1,Z2,Z3,Z4,Z5,Z6,Z7,Z8,Z9,Z10,Zc,↓reduceIte,reduceCtorEq] <;> ((repeat' apply And.intro) <;> first | rfl | omega | trivial)) ?_
  rintro ⟨i, hi, ha⟩
  rw [hSt]
  simp only
  simp only [aR,N0,N1,N2,N3,N4,N5,Z0,Z1,Z2,Z3,Z4,Z5,Z6,Z7,Z8,Z9,Z10,Zc,↓reduceIte,reduceCtorEq]
  (with_reducible first | refine kB (fun h => ?_) (fun h => ?_) | refine kD (fun h => ?_) (fun h => ?_))
  · have hlt : i < s.length := by omega
    have e2 : (s.take (i + 1)).all zK = zK s[i] := by rw [List.take_succ_eq_append_getElem hlt, List.all_append, ha]; simp
    have e3 : zK s[i] = false → jD s = false := fun hc => by
      rw [e0]; exact List.all_eq_false.2 ⟨s[i], List.getElem_mem hlt, by simp [hc]⟩
    have e4 : s.getD i 0 = s[i] := by simp [List.getD_eq_getElem?_getD, hlt]
    have e5 : zK s[i] = decide ((97 ≤ s[i].toNat ∧ s[i].toNat ≤ 122) ∨ (48 ≤ s[i].toNat ∧ s[i].toNat ≤ 57) ∨ s[i].toNat = 46 ∨ s[i].toNat = 45 ∨ s[i].toNat = 95) := rfl
    generalize s[i] = c at *
    cases hc : zK c
    · have e6 := e3 hc
      rw [hc] at e5
      have e7 := of_decide_eq_false e5.symm
      clear e5 e3 e2 e0
      simp only [aR,N0,N1,N2,N3,N4,N5,Z0,Z1,Z2,Z3,Z4,Z5,Z6,Z7,Z8,Z9,Z10,Zc,↓reduceIte,reduceCtorEq, h, e4]
      (repeat (with_reducible refine And.intro ?_ ?_; focus (first | omega | exact kG | kernel_rfl)))
      (try ((with_reducible first | refine kB (fun q1 => ?_) (fun q1 => ?_) | refine kD (fun q1 => ?_) (fun q1 => ?_)) <;> simp (disch := omega) only [aR,N0,N1,N2,N3,N4,N5,Z0,Z1,Z2,Z3,Z4,Z5,Z6,Z7,Z8,Z9,Z10,Zc,↓reduceIte,reduceCtorEq, kA, q1, e6] <;> (with_reducible first | (refine And.intro ?_ ?_; focus (first | omega | exact kG | kernel_rfl)); (repeat (with_reducible refine And.intro ?_ ?_; focus (first | omega | exact kG | kernel_rfl))); (try simp (disch := omega) only [aR,N0,N1,N2,N3,N4,N5,Z0,Z1,Z2,Z3,Z4,Z5,Z6,Z7,Z8,Z9,Z10,Zc,↓reduceIte,reduceCtorEq, kA, q1, e6]) | skip) <;> (try ((with_reducible first | refine kB (fun q2 => ?_) (fun q2 => ?_) | refine kD (fun q2 => ?_) (fun q2 => ?_)) <;> simp (disch := omega) only [aR,N0,N1,N2,N3,N4,N5,Z0,Z1,Z2,Z3,Z4,Z5,Z6,Z7,Z8,Z9,Z10,Zc,↓reduceIte,reduceCtorEq, kA, q2, e6] <;> (with_reducible first | (refine And.intro ?_ ?_; focus (first | omega | exact kG | kernel_rfl)); (repeat (with_reducible refine And.intro ?_ ?_; focus (first | omega | exact kG | kernel_rfl))); (try simp (disch := omega) only [aR,N0,N1,N2,N3,N4,N5,Z0,Z1,Z2,Z3,Z4,Z5,Z6,Z7,Z8,Z9,Z10,Zc,↓reduceIte,reduceCtorEq, kA, q2, e6]) | skip) <;> (try ((with_reducible first | refine kB (fun q3 => ?_) (fun q3 => ?_) | refine kD (fun q3 => ?_) (fun q3 => ?_)) <;> simp (disch := omega) only [aR,N0,N1,N2,N3,N4,N5,Z0,Z1,Z2,Z3,Z4,Z5,Z6,Z7,Z8,Z9,Z10,Zc,↓reduceIte,reduceCtorEq, kA, q3, e6] <;> (with_reducible first | (refine And.intro ?_ ?_; focus (first | omega | exact kG | kernel_rfl)); (repeat (with_reducible refine And.intro ?_ ?_; focus (first | omega | exact kG | kernel_rfl))); (try simp (disch := omega) only [aR,N0,N1,N2,N3,N4,N5,Z0,Z1,Z2,Z3,Z4,Z5,Z6,Z7,Z8,Z9,Z10,Zc,↓reduceIte,reduceCtorEq, kA, q3, e6]) | skip) <;> (try ((with_reducible first | refine kB (fun q4 => ?_) (fun q4 => ?_) | refine kD (fun q4 => ?_) (fun q4 => ?_)) <;> simp (disch := omega) only [aR,N0,N1,N2,N3,N4,N5,Z0,Z1,Z2,Z3,Z4,Z5,Z6,Z7,Z8,Z9,Z10,Zc,↓reduceIte,reduceCtorEq, kA, q4, e6] <;> (with_reducible first | (refine And.intro ?_ ?_; focus (first | omega | exact kG | kernel_rfl)); (repeat (with_reducible refine And.intro ?_ ?_; focus (first | omega | exact kG | kernel_rfl))); (try simp (disch := omega) only [aR,N0,N1,N2,N3,N4,N5,Z0,Z1,Z2,Z3,Z4,Z5,Z6,Z7,Z8,Z9,Z10,Zc,↓reduceIte,reduceCtorEq, kA, q4, e6]) | skip) <;> (try ((with_reducible first | refine kB (fun q5 => ?_) (fun q5 => ?_) | refine kD (fun q5 => ?_) (fun q5 => ?_)) <;> simp (disch := omega) only [aR,N0,N1,N2,N3,N4,N5,Z0,Z1,Z2,Z3,Z4,Z5,Z6,Z7,Z8,Z9,Z10,Zc,↓reduceIte,reduceCtorEq, kA, q5, e6] <;> (with_reducible first | (refine And.intro ?_ ?_; focus (first | omega | exact kG | kernel_rfl)); (repeat (with_reducible refine And.intro ?_ ?_; focus (first | omega | exact kG | kernel_rfl))); (try simp (disch := omega) only [aR,N0,N1,N2,N3,N4,N5,Z0,Z1,Z2,Z3,Z4,Z5,Z6,Z7,Z8,Z9,Z10,Zc,↓reduceIte,reduceCtorEq, kA, q5, e6]) | skip) <;> (try ((with_reducible first | refine kB (fun q6 => ?_) (fun q6 => ?_) | refine kD (fun q6 => ?_) (fun q6 => ?_)) <;> simp (disch := omega) only [aR,N0,N1,N2,N3,N4,N5,Z0,Z1,Z2,Z3,Z4,Z5,Z6,Z7,Z8,Z9,Z10,Zc,↓reduceIte,reduceCtorEq, kA, q6, e6] <;> (with_reducible first | (refine And.intro ?_ ?_; focus (first | omega | exact kG | kernel_rfl)); (repeat (with_reducible refine And.intro ?_ ?_; focus (first | omega | exact kG | kernel_rfl))); (try simp (disch := omega) only [aR,N0,N1,N2,N3,N4,N5,Z0,Z1,Z2,Z3,Z4,Z5,Z6,Z7,Z8,Z9,Z10,Zc,↓reduceIte,reduceCtorEq, kA, q6, e6]) | skip) <;> (try ((with_reducible first | refine kB (fun q7 => ?_) (fun q7 => ?_) | refine kD (fun q7 => ?_) (fun q7 => ?_)) <;> simp (disch := omega) only [aR,N0,N1,N2,N3,N4,N5,Z0,Z1,Z2,Z3,Z4,Z5,Z6,Z7,Z8,Z9,Z10,Zc,↓reduceIte,reduceCtorEq, kA, q7, e6] <;> (with_reducible first | (refine And.intro ?_ ?_; focus (first | omega | exact kG | kernel_rfl)); (repeat (with_reducible refine And.intro ?_ ?_; focus (first | omega | exact kG | kernel_rfl))); (try simp (disch := omega) only [aR,N0,N1,N2,N3,N4,N5,Z0,Z1,Z2,Z3,Z4,Z5,Z6,Z7,Z8,Z9,Z10,Zc,↓reduceIte,reduceCtorEq, kA, q7, e6]) | skip) <;> skip))))))))))))))
      all_goals (exfalso; omega)
    · rw [hc] at e5 e2
      have e7 := of_decide_eq_true e5.symm
      clear e5 e3
      simp only [aR,N0,N1,N2,N3,N4,N5,Z0,Z1,Z2,Z3,Z4,Z5,Z6,Z7,Z8,Z9,Z10,Zc,↓reduceIte,reduceCtorEq, h, e4]
      (repeat (with_reducible refine And.intro ?_ ?_; focus (first | omega | exact kG | kernel_rfl)))
      (try ((with_reducible first | refine kB (fun q1 => ?_) (fun q1 => ?_) | refine kD (fun q1 => ?_) (fun q1 => ?_)) <;> simp (disch := omega) only [aR,N0,N1,N2,N3,N4,N5,Z0,Z1,Z2,Z3,Z4,Z5,Z6,Z7,Z8,Z9,Z10,Zc,↓reduceIte,reduceCtorEq, kA, q1, kA (n := (i : Int) + 1) (by omega) (by omega)] <;> (with_reducible first | (refine And.intro ?_ ?_; focus (first | omega | exact kG | kernel_rfl)); (repeat (with_reducible refine And.intro ?_ ?_; focus (first | omega | exact kG | kernel_rfl))); (try simp (disch := omega) only [aR,N0,N1,N2,N3,N4,N5,Z0,Z1,Z2,Z3,Z4,Z5,Z6,Z7,Z8,Z9,Z10,Zc,↓reduceIte,reduceCtorEq, kA, q1, kA (n := (i : Int) + 1) (by omega) (by omega)]) | skip) <;> (try ((with_reducible first | refine kB (fun q2 => ?_) (fun q2 => ?_) | refine kD (fun q2 => ?_) (fun q2 => ?_)) <;> simp (disch := omega) only [aR,N0,N1,N2,N3,N4,N5,Z0,Z1,Z2,Z3,Z4,Z5,Z6,Z7,Z8,Z9,Z10,Zc,↓reduceIte,reduceCtorEq, kA, q2, kA (n := (i : Int) + 1) (by omega) (by omega)] <;> (with_reducible first | (refine And.intro ?_ ?_; focus (first | omega | exact kG | kernel_rfl)); (repeat (with_reducible refine And.intro ?_ ?_; focus (first | omega | exact kG | kernel_rfl))); (try simp (disch := omega) only [aR,N0,N1,N2,N3,N4,N5,Z0,Z1,Z2,Z3,Z4,Z5,Z6,Z7,Z8,Z9,Z10,Zc,↓reduceIte,reduceCtorEq, kA, q2, kA (n := (i : Int) + 1) (by omega) (by omega)]) | skip) <;> (try ((with_reducible first | refine kB (fun q3 => ?_) (fun q3 => ?_) | refine kD (fun q3 => ?_) (fun q3 => ?_)) <;> simp (disch := omega) only [aR,N0,N1,N2,N3,N4,N5,Z0,Z1,Z2,Z3,Z4,Z5,Z6,Z7,Z8,Z9,Z10,Zc,↓reduceIte,reduceCtorEq, kA, q3, kA (n := (i : Int) + 1) (by omega) (by omega)] <;> (with_reducible first | (refine And.intro ?_ ?_; focus (first | omega | exact kG | kernel_rfl)); (repeat (with_reducible refine And.intro ?_ ?_; focus (first | omega | exact kG | kernel_rfl))); (try simp (disch := omega) only [aR,N0,N1,N2,N3,N4,N5,Z0,Z1,Z2,Z3,Z4,Z5,Z6,Z7,Z8,Z9,Z10,Zc,↓reduceIte,reduceCtorEq, kA, q3, kA (n := (i : Int) + 1) (by omega) (by omega)]) | skip) <;> (try ((with_reducible first | refine kB (fun q4 => ?_) (fun q4 => ?_) | refine kD (fun q4 => ?_) (fun q4 => ?_)) <;> simp (disch := omega) only [aR,N0,N1,N2,N3,N4,N5,Z0,Z1,Z2,Z3,Z4,Z5,Z6,Z7,Z8,Z9,Z10,Zc,↓reduceIte,reduceCtorEq, kA, q4, kA (n := (i : Int) + 1) (by omega) (by omega)] <;> (with_reducible first | (refine And.intro ?_ ?_; focus (first | omega | exact kG | kernel_rfl)); (repeat (with_reducible refine And.intro ?_ ?_; focus (first | omega | exact kG | kernel_rfl))); (try simp (disch := omega) only [aR,N0,N1,N2,N3,N4,N5,Z0,Z1,Z2,Z3,Z4,Z5,Z6,Z7,Z8,Z9,Z10,Zc,↓reduceIte,reduceCtorEq, kA, q4, kA (n := (i : Int) + 1) (by omega) (by omega)]) | skip) <;> (try ((with_reducible first | refine kB (fun q5 => ?_) (fun q5 => ?_) | refine kD (fun q5 => ?_) (fun q5 => ?_)) <;> simp (disch := omega) only [aR,N0,N1,N2,N3,N4,N5,Z0,Z1,Z2,Z3,Z4,Z5,Z6,Z7,Z8,Z9,Z10,Zc,↓reduceIte,reduceCtorEq, kA, q5, kA (n := (i : Int) + 1) (by omega) (by omega)] <;> (with_reducible first | (refine And.intro ?_ ?_; focus (first | omega | exact kG | kernel_rfl)); (repeat (with_reducible refine And.intro ?_ ?_; focus (first | omega | exact kG | kernel_rfl))); (try simp (disch := omega) only [aR,N0,N1,N2,N3,N4,N5,Z0,Z1,Z2,Z3,Z4,Z5,Z6,Z7,Z8,Z9,Z10,Zc,↓reduceIte,reduceCtorEq, kA, q5, kA (n := (i : Int) + 1) (by omega) (by omega)]) | skip) <;> (try ((with_reducible first | refine kB (fun q6 => ?_) (fun q6 => ?_) | refine kD (fun q6 => ?_) (fun q6 => ?_)) <;> simp (disch := omega) only [aR,N0,N1,N2,N3,N4,N5,Z0,Z1,Z2,Z3,Z4,Z5,Z6,Z7,Z8,Z9,Z10,Zc,↓reduceIte,reduceCtorEq, kA, q6, kA (n := (i : Int) + 1) (by omega) (by omega)] <;> (with_reducible first | (refine And.intro ?_ ?_; focus (first | omega | exact kG | kernel_rfl)); (repeat (with_reducible refine And.intro ?_ ?_; focus (first | omega | exact kG | kernel_rfl))); (try simp (disch := omega) only [aR,N0,N1,N2,N3,N4,N5,Z0,Z1,Z2,Z3,Z4,Z5,Z6,Z7,Z8,Z9,Z10,Zc,↓reduceIte,reduceCtorEq, kA, q6, kA (n := (i : Int) + 1) (by omega) (by omega)]) | skip) <;> (try ((with_reducible first | refine kB (fun q7 => ?_) (fun q7 => ?_) | refine kD (fun q7 => ?_) (fun q7 => ?_)) <;> simp (disch := omega) only [aR,N0,N1,N2,N3,N4,N5,Z0,Z1,Z2,Z3,Z4,Z5,Z6,Z7,Z8,Z9,Z10,Zc,↓reduceIte,reduceCtorEq, kA, q7, kA (n := (i : Int) + 1) (by omega) (by omega)] <;> (with_reducible first | (refine And.intro ?_ ?_; focus (first | omega | exact kG | kernel_rfl)); (repeat (with_reducible refine And.intro ?_ ?_; focus (first | omega | exact kG | kernel_rfl))); (try simp (disch := omega) only [aR,N0,N1,N2,N3,N4,N5,Z0,Z1,Z2,Z3,Z4,Z5,Z6,Z7,Z8,Z9,Z10,Zc,↓reduceIte,reduceCtorEq, kA, q7, kA (n := (i : Int) + 1) (by omega) (by omega)]) | skip) <;> skip))))))))))))))
      all_goals first
        | (exfalso; omega)
        | (refine kI ⟨i + 1, by omega, e2⟩ (by simp only; omega) ?_
           rw [hSt]; refine kH [] [] ?_
           simp only [aR,N0,N1,N2,N3,N4,N5,Z0,Z1,Z2,Z3,Z4,Z5,Z6,Z7,Z8,Z9,Z10,Zc,↓reduceIte,reduceCtorEq] <;> ((repeat' apply And.intro) <;> first | rfl | omega | trivial))
  · rw [List.take_of_length_le (by omega)] at ha
    simp only [aR,N0,N1,N2,N3,N4,N5,Z0,Z1,Z2,Z3,Z4,Z5,Z6,Z7,Z8,Z9,Z10,Zc,↓reduceIte,reduceCtorEq, h, e0, ha]
theorem rplain_good : Rw.Good Tryz.prog 57 kBB := by
  have hΓ : kL Tryz.prog [] := kJ
  refine kS (nn := 48) hΓ Tryz.func57 (by kernel_rfl) rfl (show Tryz.f57.results.toList = [.cell 2 46] from rfl) (fun _ => rfl) (fun x => by simp [AV.erL, kB0]) ?_
  rintro ⟨a, oa⟩
  obtain ⟨k, id, par, nm, dir, ops⟩ := a
  simp only at oa
  by_cases h1 : k = 1
  · simp only [aR,N0,N1,N2,N3,N4,N5,Z0,Z1,Z2,Z3,Z4,Z5,Z6,Z7,Z8,Z9,Z10,Zc,↓reduceIte,reduceCtorEq, aA, h1]
    simp [zA, h1, aA, qS]
  by_cases h2 : k = 2
  · simp only [aR,N0,N1,N2,N3,N4,N5,Z0,Z1,Z2,Z3,Z4,Z5,Z6,Z7,Z8,Z9,Z10,Zc,↓reduceIte,reduceCtorEq, aA, h1, h2]
    simp [zA, h2, aA, qS]
  by_cases h3 : k = 3
  · simp only [aR,N0,N1,N2,N3,N4,N5,Z0,Z1,Z2,Z3,Z4,Z5,Z6,Z7,Z8,Z9,Z10,Zc,↓reduceIte,reduceCtorEq, aA, h1, h2, h3]
    simp [zA, h3, aA, qS]
  by_cases h4 : k = 4
  · simp only [aR,N0,N1,N2,N3,N4,N5,Z0,Z1,Z2,Z3,Z4,Z5,Z6,Z7,Z8,Z9,Z10,Zc,↓reduceIte,reduceCtorEq, aA, h1, h2, h3, h4]
    simp [zA, h4, aA]
  · simp only [aR,N0,N1,N2,N3,N4,N5,Z0,Z1,Z2,Z3,Z4,Z5,Z6,Z7,Z8,Z9,Z10,Zc,↓reduceIte,reduceCtorEq, aA, h1, h2, h3, h4]
    simp [zA, h1, h2, h3, h4, aA, qS]
theorem kEB : Rw.Good Tryz.prog 49 kAK := by
  have hΓ : kL Tryz.prog [(56, kC3)] := (kE rsame_good kJ)
  refine kS (nn := 45) hΓ Tryz.func49 (by kernel_rfl) rfl (show Tryz.f49.results.toList = [.tmp 4] from rfl) (fun _ => rfl) (fun x => by simp [AV.erL, kB0]) ?_
  rintro ⟨⟨x, hx⟩, ⟨y, hy⟩⟩
  have dk : decide (x = y) = decide (x.k = y.k ∧ x.id = y.id ∧ x.par = y.par ∧ x.nm = y.nm ∧ x.dir = y.dir ∧ x.ops = y.ops) := by
    cases x; cases y
    simp only [Ac.mk.injEq]
  simp only [dk]
  obtain ⟨k, id, par, nm, dir, ops⟩ := x
  obtain ⟨k', id', par', nm', dir', ops'⟩ := y
  simp only [aR,N0,N1,N2,N3,N4,N5,Z0,Z1,Z2,Z3,Z4,Z5,Z6,Z7,Z8,Z9,Z10,Zc,↓reduceIte,reduceCtorEq, aA]
  by_cases h1 : k = k'
  case neg =>
    simp only [aR,N0,N1,N2,N3,N4,N5,Z0,Z1,Z2,Z3,Z4,Z5,Z6,Z7,Z8,Z9,Z10,Zc,↓reduceIte,reduceCtorEq, h1]
    simp [h1]
  by_cases h2 : id = id'
  case neg =>
    simp only [aR,N0,N1,N2,N3,N4,N5,Z0,Z1,Z2,Z3,Z4,Z5,Z6,Z7,Z8,Z9,Z10,Zc,↓reduceIte,reduceCtorEq, h2, h1]
    simp [h2]
  by_cases h3 : par = par'
  case neg =>
    simp only [aR,N0,N1,N2,N3,N4,N5,Z0,Z1,Z2,Z3,Z4,Z5,Z6,Z7,Z8,Z9,Z10,Zc,↓reduceIte,reduceCtorEq, h3, h1, h2]
    simp [h3]
  by_cases h4 : nm = nm'
  case neg =>
    simp only [aR,N0,N1,N2,N3,N4,N5,Z0,Z1,Z2,Z3,Z4,Z5,Z6,Z7,Z8,Z9,Z10,Zc,↓reduceIte,reduceCtorEq, h4, h1, h2, h3]
    simp [h4]
  by_cases h5 : dir = dir'
  case neg =>
    have nn : (dir == dir') = false := by simp [h5]
    simp only [aR,N0,N1,N2,N3,N4,N5,Z0,Z1,Z2,Z3,Z4,Z5,Z6,Z7,Z8,Z9,Z10,Zc,↓reduceIte,reduceCtorEq, nn, h1, h2, h3, h4]
    simp [h5]
  have b5 : (dir == dir') = true := by simp [h5]
  simp only [aR,N0,N1,N2,N3,N4,N5,Z0,Z1,Z2,Z3,Z4,Z5,Z6,Z7,Z8,Z9,Z10,Zc,↓reduceIte,reduceCtorEq, h1, h2, h3, h4, b5]
  refine call_same (by simp [kC]) rfl rfl (by have := hx.1; simp only at this; omega) (by have := hy.1; simp only at this; omega) ?_
  simp only [aR,N0,N1,N2,N3,N4,N5,Z0,Z1,Z2,Z3,Z4,Z5,Z6,Z7,Z8,Z9,Z10,Zc,↓reduceIte,reduceCtorEq, h1, h2, h3, h4, b5]
  simp [h1, h2, h3, h4, h5]
abbrev ActsS := { l : List Ac // l.length ≤ 1099511627776 ∧ ∀ a ∈ l, okL a.ops }
abbrev kCw : Con where
  ι := ActsS × ActsS
  args := fun p => [.sl 0 6 (acts p.1.1), .sl 0 6 (acts p.2.1)]
  post := fun p r => r = .v (.bool (decide (p.1.1 = p.2.1)))
  plain := true
theorem sacts_good : Rw.Good Tryz.prog 16 kCw := by
  have hΓ : kL Tryz.prog [(49, kAK)] := (kE kEB kJ)
  refine kS (nn := 27) hΓ Tryz.func16 (by kernel_rfl) rfl (show Tryz.f16.results.toList = [.tmp 4] from rfl) (fun _ => rfl) (fun x => by simp [AV.erL, AV.er]) ?_
  rintro ⟨⟨a, ha, hao⟩, ⟨b, hb, hbo⟩⟩
  simp only [aR,N0,N1,N2,N3,N4,N5,Z0,Z1,Z2,Z3,Z4,Z5,Z6,Z7,Z8,Z9,Z10,Zc,↓reduceIte,reduceCtorEq, kQ]
  by_cases hl : a.length = b.length
  case neg =>
    have hne : a ≠ b := fun e => hl (by rw [e])
    simp only [aR,N0,N1,N2,N3,N4,N5,Z0,Z1,Z2,Z3,Z4,Z5,Z6,Z7,Z8,Z9,Z10,Zc,↓reduceIte,reduceCtorEq, show ((a.length : Int) = b.length) = False from eq_false (by omega), hne]
  simp only [aR,N0,N1,N2,N3,N4,N5,Z0,Z1,Z2,Z3,Z4,Z5,Z6,Z7,Z8,Z9,Z10,Zc,↓reduceIte,reduceCtorEq, hl, kQ]
  obtain ⟨St, hSt⟩ : ∃ St : { i : Nat // i ≤ b.length ∧ a.take i = b.take i } → AS, ∀ i, St i = AS.of 27 [(0, .sl 0 6 (acts a)), (1, .sl 0 6 (acts b)), (5, .v (.int .i64 i.1))] [] [] := ⟨_, fun _ => rfl⟩
  refine kY hΓ St (fun i => b.length - i.1) ⟨0, by omega, by simp⟩ (by rw [hSt]; refine kH [] [] ?_; simp only [aR,N0,N1,N2,N3,N4,N5,Z0,Z1,Z2,Z3,Z4,Z5,Z6,Z7,Z8,Z9,Z10,Zc,↓reduceIte,reduceCtorEq] <;> ((repeat' apply And.intro) <;> first | rfl | omega | trivial)) ?_
  rintro ⟨i, hi, hs⟩
  rw [hSt]
  simp only
  simp only [aR,N0,N1,N2,N3,N4,N5,Z0,Z1,Z2,Z3,Z4,Z5,Z6,Z7,Z8,Z9,Z10,Zc,↓reduceIte,reduceCtorEq, kQ]
  (with_reducible first | refine kB (fun h => ?_) (fun h => ?_) | refine kD (fun h => ?_) (fun h => ?_))
  · have hlt : i < a.length := by omega
    have hlt2 : i < b.length := by omega
    have e1 := qQ a hlt
    have e2 := qQ b hlt2
    have hx := hao _ (List.getElem_mem hlt)
    have hy := hbo _ (List.getElem_mem hlt2)
    have ta := List.take_succ_eq_append_getElem hlt
    have tb := List.take_succ_eq_append_getElem hlt2
    have hab : a[i] = b[i] → a.take (i + 1) = b.take (i + 1) := fun he => by rw [ta, tb, he, hs]
    have hne : ¬ a[i] = b[i] → a ≠ b := fun he hh => he (by subst hh; rfl)
    generalize a[i] = x at *
    generalize b[i] = y at *
    simp only [aR,N0,N1,N2,N3,N4,N5,Z0,Z1,Z2,Z3,Z4,Z5,Z6,Z7,Z8,Z9,Z10,Zc,↓reduceIte,reduceCtorEq, h, e1, e2, aA, kQ]
    (repeat (with_reducible refine And.intro ?_ ?_; focus (first | omega | exact kG | kernel_rfl)))
    refine kK (C := kAK) (i := (⟨x, hx⟩, ⟨y, hy⟩)) (by simp [kC]) rfl rfl rfl (by simp [AV.erL, AV.er, aA, kDK]) (fun _ h => h) rfl ?_
    by_cases hxy : x = y
    · simp only [aR,N0,N1,N2,N3,N4,N5,Z0,Z1,Z2,Z3,Z4,Z5,Z6,Z7,Z8,Z9,Z10,Zc,↓reduceIte,reduceCtorEq, hxy, kA (n := (i : Int) + 1) (by omega) (by omega)]
      refine kI ⟨i + 1, by omega, hab hxy⟩ (by simp only; omega) ?_
      rw [hSt]; refine kH [] [] ?_
      simp only [aR,N0,N1,N2,N3,N4,N5,Z0,Z1,Z2,Z3,Z4,Z5,Z6,Z7,Z8,Z9,Z10,Zc,↓reduceIte,reduceCtorEq] <;> ((repeat' apply And.intro) <;> first | rfl | omega | trivial)
    · simp only [aR,N0,N1,N2,N3,N4,N5,Z0,Z1,Z2,Z3,Z4,Z5,Z6,Z7,Z8,Z9,Z10,Zc,↓reduceIte,reduceCtorEq, hxy, hne hxy]
  · have e1 : a.take i = a := List.take_of_length_le (by omega)
    have e2 : b.take i = b := List.take_of_length_le (by omega)
    rw [e1, e2] at hs
    simp only [aR,N0,N1,N2,N3,N4,N5,Z0,Z1,Z2,Z3,Z4,Z5,Z6,Z7,Z8,Z9,Z10,Zc,↓reduceIte,reduceCtorEq, h, hs]
theorem kEW {Γ : Env} (hf : Γ.get 16 = some kCw) {σ : AS} {a b : List Ac} {t1 t2 : Nat} {xs ys : List AV} {d : Option Nat} {K : AS → Prop} (hx : xs = acts a) (hy : ys = acts b) (ha : a.length ≤ 1099511627776) (hao : ∀ x ∈ a, okL x.ops) (hb : b.length ≤ 1099511627776) (hbo : ∀ x ∈ b, okL x.ops)
    (hk : cont σ d (.v (.bool (decide (a = b)))) K) : kP Tryz.prog Γ false σ 16 [.sl t1 6 xs, .sl t2 6 ys] d K := by
  subst hx hy
  exact kK (C := kCw) (i := (⟨a, ha, hao⟩, ⟨b, hb, hbo⟩)) hf rfl rfl rfl (by simp [AV.erL, AV.er]) (fun _ h => h) rfl hk
end Go.Proofs
end
