/-
  The document's tree: names, texts; acts held against each other. The document's tree: an act. The document's Check of a transaction. The document's transaction on a tree.
-/
import Derived.Test.YtmhpninemdmbkaaGreatDoorXZUk0
import Derived.Test.YtmhpninemdmbkaaGreatDoorXZUk1e
import Derived.Test.YtmhpninemdmbkaaGreatDoorXZAp5
import Derived.Test.YtmhpninemdmbkaaGreatDoorXZAw9
import Derived.Test.YtmhpninemdmbkaaGreatDoorRwJ
set_option linter.unusedSimpArgs false
set_option linter.unusedVariables false
set_option linter.defProp false

-- ZUk2
section
namespace Go.Proofs
open Go Go.Rw
open _root_.Nat renaming reduceAdd → N0, reduceSub → N1, reduceMul → N2, reduceLT → N3, reduceLeDiff → N4, reduceEqDiff → N5
open _root_.Int renaming reduceNeg → Z0, reduceAdd → Z1, reduceSub → Z2, reduceMul → Z3, reduceGT → Z4, reduceGE → Z5, reduceLT → Z6, reduceLE → Z7, reduceEq → Z8, reduceNe → Z9, reduceToNat → Z10, cast_ofNat_Int → Zc
set_option maxRecDepth 100000
theorem rname_good : Rw.Good Tryz.prog 32 kCj := by
  have hΓ : kL Tryz.prog [] := kJ
  refine kS (nn := 56) hΓ Tryz.func32 (by kernel_rfl) rfl (show Tryz.f32.results.toList = [.tmp 2] from rfl) (fun _ => rfl) (fun _ => rfl) ?_
  rintro ⟨s, hs⟩
  simp only [aR,N0,N1,N2,N3,N4,N5,Z0,Z1,Z2,Z3,Z4,Z5,Z6,Z7,Z8,Z9,Z10,Zc,↓reduceIte,reduceCtorEq]
  have e0 : jI s = (s.all zS && decide (1 ≤ s.length ∧ s.length ≤ 20 ∧ s ≠ [46] ∧ s ≠ [46, 46])) := rfl
  by_cases h1 : (s.length : Int) < 1
  · have e1 : jI s = false := by rw [e0, decide_eq_false (by omega), Bool.and_false]
    simp only [aR,N0,N1,N2,N3,N4,N5,Z0,Z1,Z2,Z3,Z4,Z5,Z6,Z7,Z8,Z9,Z10,Zc,↓reduceIte,reduceCtorEq, h1, e1]
  by_cases h2 : (s.length : Int) > 20
  · have e1 : jI s = false := by rw [e0, decide_eq_false (by omega), Bool.and_false]
    simp only [aR,N0,N1,N2,N3,N4,N5,Z0,Z1,Z2,Z3,Z4,Z5,Z6,Z7,Z8,Z9,Z10,Zc,↓reduceIte,reduceCtorEq, h1, h2, e1]
  by_cases h3 : s = [46]
  · have e1 : jI s = false := by rw [e0, decide_eq_false (fun hh => hh.2.2.1 h3), Bool.and_false]
    have h4 : decide (s = [46]) = true := decide_eq_true h3
    clear h3
    simp only [aR,N0,N1,N2,N3,N4,N5,Z0,Z1,Z2,Z3,Z4,Z5,Z6,Z7,Z8,Z9,Z10,Zc,↓reduceIte,reduceCtorEq, h1, h2, h4, e1]
  by_cases h4 : s = [46, 46]
  · have e1 : jI s = false := by rw [e0, decide_eq_false (fun hh => hh.2.2.2 h4), Bool.and_false]
    have h5 : decide (s = [46, 46]) = true := decide_eq_true h4
    clear h4
    simp only [aR,N0,N1,N2,N3,N4,N5,Z0,Z1,Z2,Z3,Z4,Z5,Z6,Z7,Z8,Z9,Z10,Zc,↓reduceIte,reduceCtorEq, h1, h2, h3, h5, e1]
  rw [decide_eq_true (by refine ⟨by omega, by omega, h3, h4⟩), Bool.and_true] at e0
  simp only [aR,N0,N1,N2,N3,N4,N5,Z0,Z1,Z2,Z3,Z4,Z5,Z6,Z7,Z8,Z9,Z10,Zc,↓reduceIte,reduceCtorEq, h1, h2, h3, h4]
  obtain ⟨St, hSt⟩ : ∃ St : { i : Nat // i ≤ s.length ∧ (s.take i).all zS = true } → AS, ∀ i, St i = AS.of 56 [(0, .v (sv s)), (3, .v (.int .i64 i.1))] [] [] := ⟨_, fun _ => rfl⟩
  refine kX hΓ St (fun i => s.length - i.1) ⟨0, by omega, by simp⟩ (by rw [hSt]; refine kH [] [] ?_; simp only [aR,N0,N1,N2,N3,N4,N5,Z0,Z1,Z2,Z3,Z4,Z5,Z6,Z7,Z8,Z9,Z10,Zc,↓reduceIte,reduceCtorEq] <;> ((repeat' apply And.intro) <;> first | rfl | omega | trivial)) ?_
  rintro ⟨i, hi, ha⟩
  rw [hSt]
  simp only
  simp only [aR,N0,N1,N2,N3,N4,N5,Z0,Z1,Z2,Z3,Z4,Z5,Z6,Z7,Z8,Z9,Z10,Zc,↓reduceIte,reduceCtorEq]
  (with_reducible first | refine kC (fun h => ?_) (fun h => ?_) | refine kF (fun h => ?_) (fun h => ?_))
  · have hlt : i < s.length := by omega
    have e2 : (s.take (i + 1)).all zS = zS s[i] := by rw [List.take_succ_eq_append_getElem hlt, List.all_append, ha]; simp
    have e3 : zS s[i] = false → jI s = false := fun hc => by
      rw [e0]; exact List.all_eq_false.2 ⟨s[i], List.getElem_mem hlt, by simp [hc]⟩
    have e4 : s.getD i 0 = s[i] := by simp [List.getD_eq_getElem?_getD, hlt]
    have e5 : zS s[i] = decide ((97 ≤ s[i].toNat ∧ s[i].toNat ≤ 122) ∨ (48 ≤ s[i].toNat ∧ s[i].toNat ≤ 57) ∨ s[i].toNat = 46 ∨ s[i].toNat = 45 ∨ s[i].toNat = 95) := rfl
    generalize s[i] = c at *
    cases hc : zS c
    · have e6 := e3 hc
      rw [hc] at e5
      have e7 := of_decide_eq_false e5.symm
      clear e5 e3 e2 e0
      simp only [aR,N0,N1,N2,N3,N4,N5,Z0,Z1,Z2,Z3,Z4,Z5,Z6,Z7,Z8,Z9,Z10,Zc,↓reduceIte,reduceCtorEq, h, e4]
      (repeat (with_reducible refine And.intro ?_ ?_; focus (first | omega | exact kG | kernel_rfl)))
      (try ((with_reducible first | refine kC (fun q1 => ?_) (fun q1 => ?_) | refine kF (fun q1 => ?_) (fun q1 => ?_)) <;> simp (disch := omega) only [aR,N0,N1,N2,N3,N4,N5,Z0,Z1,Z2,Z3,Z4,Z5,Z6,Z7,Z8,Z9,Z10,Zc,↓reduceIte,reduceCtorEq, kA, q1, e6] <;> (with_reducible first | (refine And.intro ?_ ?_; focus (first | omega | exact kG | kernel_rfl)); (repeat (with_reducible refine And.intro ?_ ?_; focus (first | omega | exact kG | kernel_rfl))); (try simp (disch := omega) only [aR,N0,N1,N2,N3,N4,N5,Z0,Z1,Z2,Z3,Z4,Z5,Z6,Z7,Z8,Z9,Z10,Zc,↓reduceIte,reduceCtorEq, kA, q1, e6]) | skip) <;> (try ((with_reducible first | refine kC (fun q2 => ?_) (fun q2 => ?_) | refine kF (fun q2 => ?_) (fun q2 => ?_)) <;> simp (disch := omega) only [aR,N0,N1,N2,N3,N4,N5,Z0,Z1,Z2,Z3,Z4,Z5,Z6,Z7,Z8,Z9,Z10,Zc,↓reduceIte,reduceCtorEq, kA, q2, e6] <;> (with_reducible first | (refine And.intro ?_ ?_; focus (first | omega | exact kG | kernel_rfl)); (repeat (with_reducible refine And.intro ?_ ?_; focus (first | omega | exact kG | kernel_rfl))); (try simp (disch := omega) only [aR,N0,N1,N2,N3,N4,N5,Z0,Z1,Z2,Z3,Z4,Z5,Z6,Z7,Z8,Z9,Z10,Zc,↓reduceIte,reduceCtorEq, kA, q2, e6]) | skip) <;> (try ((with_reducible first | refine kC (fun q3 => ?_) (fun q3 => ?_) | refine kF (fun q3 => ?_) (fun q3 => ?_)) <;> simp (disch := omega) only [aR,N0,N1,N2,N3,N4,N5,Z0,Z1,Z2,Z3,Z4,Z5,Z6,Z7,Z8,Z9,Z10,Zc,↓reduceIte,reduceCtorEq, kA, q3, e6] <;> (with_reducible first | (refine And.intro ?_ ?_; focus (first | omega | exact kG | kernel_rfl)); (repeat (with_reducible refine And.intro ?_ ?_; focus (first | omega | exact kG | kernel_rfl))); (try simp (disch := omega) only [aR,N0,N1,N2,N3,N4,N5,Z0,Z1,Z2,Z3,Z4,Z5,Z6,Z7,Z8,Z9,Z10,Zc,↓reduceIte,reduceCtorEq, kA, q3, e6]) | skip) <;> (try ((with_reducible first | refine kC (fun q4 => ?_) (fun q4 => ?_) | refine kF (fun q4 => ?_) (fun q4 => ?_)) <;> simp (disch := omega) only [aR,N0,N1,N2,N3,N4,N5,Z0,Z1,Z2,Z3,Z4,Z5,Z6,Z7,Z8,Z9,Z10,Zc,↓reduceIte,reduceCtorEq, kA, q4, e6] <;> (with_reducible first | (refine And.intro ?_ ?_; focus (first | omega | exact kG | kernel_rfl)); (repeat (with_reducible refine And.intro ?_ ?_; focus (first | omega | exact kG | kernel_rfl))); (try simp (disch := omega) only [aR,N0,N1,N2,N3,N4,N5,Z0,Z1,Z2,Z3,Z4,Z5,Z6,Z7,Z8,Z9,Z10,Zc,↓reduceIte,reduceCtorEq, kA, q4, e6]) | skip) <;> (try ((with_reducible first | refine kC (fun q5 => ?_) (fun q5 => ?_) | refine kF (fun q5 => ?_) (fun q5 => ?_)) <;> simp (disch := omega) only [aR,N0,N1,N2,N3,N4,N5,Z0,Z1,Z2,Z3,Z4,Z5,Z6,Z7,Z8,Z9,Z10,Zc,↓reduceIte,reduceCtorEq, kA, q5, e6] <;> (with_reducible first | (refine And.intro ?_ ?_; focus (first | omega | exact kG | kernel_rfl)); (repeat (with_reducible refine And.intro ?_ ?_; focus (first | omega | exact kG | kernel_rfl))); (try simp (disch := omega) only [aR,N0,N1,N2,N3,N4,N5,Z0,Z1,Z2,Z3,Z4,Z5,Z6,Z7,Z8,Z9,Z10,Zc,↓reduceIte,reduceCtorEq, kA, q5, e6]) | skip) <;> (try ((with_reducible first | refine kC (fun q6 => ?_) (fun q6 => ?_) | refine kF (fun q6 => ?_) (fun q6 => ?_)) <;> simp (disch := omega) only [aR,N0,N1,N2,N3,N4,N5,Z0,Z1,Z2,Z3,Z4,Z5,Z6,Z7,Z8,Z9,Z10,Zc,↓reduceIte,reduceCtorEq, kA, q6, e6] <;> (with_reducible first | (refine And.intro ?_ ?_; focus (first | omega | exact kG | kernel_rfl)); (repeat (with_reducible refine And.intro ?_ ?_; focus (first | omega | exact kG | kernel_rfl))); (try simp (disch := omega) only [aR,N0,N1,N2,N3,N4,N5,Z0,Z1,Z2,Z3,Z4,Z5,Z6,Z7,Z8,Z9,Z10,Zc,↓reduceIte,reduceCtorEq, kA, q6, e6]) | skip) <;> (try ((with_reducible first | refine kC (fun q7 => ?_) (fun q7 => ?_) | refine kF (fun q7 => ?_) (fun q7 => ?_)) <;> simp (disch := omega) only [aR,N0,N1,N2,N3,N4,N5,Z0,Z1,Z2,Z3,Z4,Z5,Z6,Z7,Z8,Z9,Z10,Zc,↓reduceIte,reduceCtorEq, kA, q7, e6] <;> (with_reducible first | (refine And.intro ?_ ?_; focus (first | omega | exact kG | kernel_rfl)); (repeat (with_reducible refine And.intro ?_ ?_; focus (first | omega | exact kG | kernel_rfl))); (try simp (disch := omega) only [aR,N0,N1,N2,N3,N4,N5,Z0,Z1,Z2,Z3,Z4,Z5,Z6,Z7,Z8,Z9,Z10,Zc,↓reduceIte,reduceCtorEq, kA, q7, e6]) | skip) <;> skip))))))))))))))
      all_goals (exfalso; omega)
    · rw [hc] at e5 e2
      have e7 := of_decide_eq_true e5.symm
      clear e5 e3
      simp only [aR,N0,N1,N2,N3,N4,N5,Z0,Z1,Z2,Z3,Z4,Z5,Z6,Z7,Z8,Z9,Z10,Zc,↓reduceIte,reduceCtorEq, h, e4]
      (repeat (with_reducible refine And.intro ?_ ?_; focus (first | omega | exact kG | kernel_rfl)))
      (try ((with_reducible first | refine kC (fun q1 => ?_) (fun q1 => ?_) | refine kF (fun q1 => ?_) (fun q1 => ?_)) <;> simp (disch := omega) only [aR,N0,N1,N2,N3,N4,N5,Z0,Z1,Z2,Z3,Z4,Z5,Z6,Z7,Z8,Z9,Z10,Zc,↓reduceIte,reduceCtorEq, kA, q1, kA (n := (i : Int) + 1) (by omega) (by omega)] <;> (with_reducible first | (refine And.intro ?_ ?_; focus (first | omega | exact kG | kernel_rfl)); (repeat (with_reducible refine And.intro ?_ ?_; focus (first | omega | exact kG | kernel_rfl))); (try simp (disch := omega) only [aR,N0,N1,N2,N3,N4,N5,Z0,Z1,Z2,Z3,Z4,Z5,Z6,Z7,Z8,Z9,Z10,Zc,↓reduceIte,reduceCtorEq, kA, q1, kA (n := (i : Int) + 1) (by omega) (by omega)]) | skip) <;> (try ((with_reducible first | refine kC (fun q2 => ?_) (fun q2 => ?_) | refine kF (fun q2 => ?_) (fun q2 => ?_)) <;> simp (disch := omega) only [aR,N0,N1,N2,N3,N4,N5,Z0,Z1,Z2,Z3,Z4,Z5,Z6,Z7,Z8,Z9,Z10,Zc,↓reduceIte,reduceCtorEq, kA, q2, kA (n := (i : Int) + 1) (by omega) (by omega)] <;> (with_reducible first | (refine And.intro ?_ ?_; focus (first | omega | exact kG | kernel_rfl)); (repeat (with_reducible refine And.intro ?_ ?_; focus (first | omega | exact kG | kernel_rfl))); (try simp (disch := omega) only [aR,N0,N1,N2,N3,N4,N5,Z0,Z1,Z2,Z3,Z4,Z5,Z6,Z7,Z8,Z9,Z10,Zc,↓reduceIte,reduceCtorEq, kA, q2, kA (n := (i : Int) + 1) (by omega) (by omega)]) | skip) <;> (try ((with_reducible first | refine kC (fun q3 => ?_) (fun q3 => ?_) | refine kF (fun q3 => ?_) (fun q3 => ?_)) <;> simp (disch := omega) only [aR,N0,N1,N2,N3,N4,N5,Z0,Z1,Z2,Z3,Z4,Z5,Z6,Z7,Z8,Z9,Z10,Zc,↓reduceIte,reduceCtorEq, kA, q3, kA (n := (i : Int) + 1) (by omega) (by omega)] <;> (with_reducible first | (refine And.intro ?_ ?_; focus (first | omega | exact kG | kernel_rfl)); (repeat (with_reducible refine And.intro ?_ ?_; focus (first | omega | exact kG | kernel_rfl))); (try simp (disch := omega) only [aR,N0,N1,N2,N3,N4,N5,Z0,Z1,Z2,Z3,Z4,Z5,Z6,Z7,Z8,Z9,Z10,Zc,↓reduceIte,reduceCtorEq, kA, q3, kA (n := (i : Int) + 1) (by omega) (by omega)]) | skip) <;> (try ((with_reducible first | refine kC (fun q4 => ?_) (fun q4 => ?_) | refine kF (fun q4 => ?_) (fun q4 => ?_)) <;> simp (disch := omega) only [aR,N0,N1,N2,N3,N4,N5,Z0,Z1,Z2,Z3,Z4,Z5,Z6,Z7,Z8,Z9,Z10,Zc,↓reduceIte,reduceCtorEq, kA, q4, kA (n := (i : Int) + 1) (by omega) (by omega)] <;> (with_reducible first | (refine And.intro ?_ ?_; focus (first | omega | exact kG | kernel_rfl)); (repeat (with_reducible refine And.intro ?_ ?_; focus (first | omega | exact kG | kernel_rfl))); (try simp (disch := omega) only [aR,N0,N1,N2,N3,N4,N5,Z0,Z1,Z2,Z3,Z4,Z5,Z6,Z7,Z8,Z9,Z10,Zc,↓reduceIte,reduceCtorEq, kA, q4, kA (n := (i : Int) + 1) (by omega) (by omega)]) | skip) <;> (try ((with_reducible first | refine kC (fun q5 => ?_) (fun q5 => ?_) | refine kF (fun q5 => ?_) (fun q5 => ?_)) <;> simp (disch := omega) only [aR,N0,N1,N2,N3,N4,N5,Z0,Z1,Z2,Z3,Z4,Z5,Z6,Z7,Z8,Z9,Z10,Zc,↓reduceIte,reduceCtorEq, kA, q5, kA (n := (i : Int) + 1) (by omega) (by omega)] <;> (with_reducible first | (refine And.intro ?_ ?_; focus (first | omega | exact kG | kernel_rfl)); (repeat (with_reducible refine And.intro ?_ ?_; focus (first | omega | exact kG | kernel_rfl))); (try simp (disch := omega) only [aR,N0,N1,N2,N3,N4,N5,Z0,Z1,Z2,Z3,Z4,Z5,Z6,Z7,Z8,Z9,Z10,Zc,↓reduceIte,reduceCtorEq, kA, q5, kA (n := (i : Int) + 1) (by omega) (by omega)]) | skip) <;> (try ((with_reducible first | refine kC (fun q6 => ?_) (fun q6 => ?_) | refine kF (fun q6 => ?_) (fun q6 => ?_)) <;> simp (disch := omega) only [aR,N0,N1,N2,N3,N4,N5,Z0,Z1,Z2,Z3,Z4,Z5,Z6,Z7,Z8,Z9,Z10,Zc,↓reduceIte,reduceCtorEq, kA, q6, kA (n := (i : Int) + 1) (by omega) (by omega)] <;> (with_reducible first | (refine And.intro ?_ ?_; focus (first | omega | exact kG | kernel_rfl)); (repeat (with_reducible refine And.intro ?_ ?_; focus (first | omega | exact kG | kernel_rfl))); (try simp (disch := omega) only [aR,N0,N1,N2,N3,N4,N5,Z0,Z1,Z2,Z3,Z4,Z5,Z6,Z7,Z8,Z9,Z10,Zc,↓reduceIte,reduceCtorEq, kA, q6, kA (n := (i : Int) + 1) (by omega) (by omega)]) | skip) <;> (try ((with_reducible first | refine kC (fun q7 => ?_) (fun q7 => ?_) | refine kF (fun q7 => ?_) (fun q7 => ?_)) <;> simp (disch := omega) only [aR,N0,N1,N2,N3,N4,N5,Z0,Z1,Z2,Z3,Z4,Z5,Z6,Z7,Z8,Z9,Z10,Zc,↓reduceIte,reduceCtorEq, kA, q7, kA (n := (i : Int) + 1) (by omega) (by omega)] <;> (with_reducible first | (refine And.intro ?_ ?_; focus (first | omega | exact kG | kernel_rfl)); (repeat (with_reducible refine And.intro ?_ ?_; focus (first | omega | exact kG | kernel_rfl))); (try simp (disch := omega) only [aR,N0,N1,N2,N3,N4,N5,Z0,Z1,Z2,Z3,Z4,Z5,Z6,Z7,Z8,Z9,Z10,Zc,↓reduceIte,reduceCtorEq, kA, q7, kA (n := (i : Int) + 1) (by omega) (by omega)]) | skip) <;> skip))))))))))))))
      all_goals first
        | (exfalso; omega)
        | (refine kI ⟨i + 1, by omega, e2⟩ (by simp only; omega) ?_
           rw [hSt]; refine kH [] [] ?_
           simp only [aR,N0,N1,N2,N3,N4,N5,Z0,Z1,Z2,Z3,Z4,Z5,Z6,Z7,Z8,Z9,Z10,Zc,↓reduceIte,reduceCtorEq] <;> ((repeat' apply And.intro) <;> first | rfl | omega | trivial))
  · rw [List.take_of_length_le (by omega)] at ha
    simp only [aR,N0,N1,N2,N3,N4,N5,Z0,Z1,Z2,Z3,Z4,Z5,Z6,Z7,Z8,Z9,Z10,Zc,↓reduceIte,reduceCtorEq, h, e0, ha]
theorem rplain_good : Rw.Good Tryz.prog 57 kBY := by
  have hΓ : kL Tryz.prog [] := kJ
  refine kS (nn := 48) hΓ Tryz.func57 (by kernel_rfl) rfl (show Tryz.f57.results.toList = [.cell 2 46] from rfl) (fun _ => rfl) (fun x => by simp [AV.erL, kAd]) ?_
  rintro ⟨a, oa⟩
  obtain ⟨k, id, par, nm, dir, ops⟩ := a
  simp only at oa
  by_cases h1 : k = 1
  · simp only [aR,N0,N1,N2,N3,N4,N5,Z0,Z1,Z2,Z3,Z4,Z5,Z6,Z7,Z8,Z9,Z10,Zc,↓reduceIte,reduceCtorEq, aA, h1]
    simp [zL, h1, aA, qM]
  by_cases h2 : k = 2
  · simp only [aR,N0,N1,N2,N3,N4,N5,Z0,Z1,Z2,Z3,Z4,Z5,Z6,Z7,Z8,Z9,Z10,Zc,↓reduceIte,reduceCtorEq, aA, h1, h2]
    simp [zL, h2, aA, qM]
  by_cases h3 : k = 3
  · simp only [aR,N0,N1,N2,N3,N4,N5,Z0,Z1,Z2,Z3,Z4,Z5,Z6,Z7,Z8,Z9,Z10,Zc,↓reduceIte,reduceCtorEq, aA, h1, h2, h3]
    simp [zL, h3, aA, qM]
  by_cases h4 : k = 4
  · simp only [aR,N0,N1,N2,N3,N4,N5,Z0,Z1,Z2,Z3,Z4,Z5,Z6,Z7,Z8,Z9,Z10,Zc,↓reduceIte,reduceCtorEq, aA, h1, h2, h3, h4]
    simp [zL, h4, aA]
  · simp only [aR,N0,N1,N2,N3,N4,N5,Z0,Z1,Z2,Z3,Z4,Z5,Z6,Z7,Z8,Z9,Z10,Zc,↓reduceIte,reduceCtorEq, aA, h1, h2, h3, h4]
    simp [zL, h1, h2, h3, h4, aA, qM]
theorem kEK : Rw.Good Tryz.prog 49 kAW := by
  have hΓ : kL Tryz.prog [(56, kCF)] := (kE kFW kJ)
  refine kS (nn := 45) hΓ Tryz.func49 (by kernel_rfl) rfl (show Tryz.f49.results.toList = [.tmp 4] from rfl) (fun _ => rfl) (fun x => by simp [AV.erL, kAd]) ?_
  rintro ⟨⟨x, hx⟩, ⟨y, hy⟩⟩
  have dk : decide (x = y) = decide (x.k = y.k ∧ x.id = y.id ∧ x.par = y.par ∧ x.nm = y.nm ∧ x.dir = y.dir ∧ x.ops = y.ops) := by
    cases x; cases y
    simp only [Ac.mk.injEq]
  simp only [dk]
  obtain ⟨k, id, par, nm, dir, ops⟩ := x
  obtain ⟨k', id', par', nm', dir', ops'⟩ := y
  simp only [aR,N0,N1,N2,N3,N4,N5,Z0,Z1,Z2,Z3,Z4,Z5,Z6,Z7,Z8,Z9,Z10,Zc,↓reduceIte,reduceCtorEq, aA]
  by_cases h1 : k = k'
  case neg =>
    simp only [aR,N0,N1,N2,N3,N4,N5,Z0,Z1,Z2,Z3,Z4,Z5,Z6,Z7,Z8,Z9,Z10,Zc,↓reduceIte,reduceCtorEq, h1]
    simp [h1]
  by_cases h2 : id = id'
  case neg =>
    simp only [aR,N0,N1,N2,N3,N4,N5,Z0,Z1,Z2,Z3,Z4,Z5,Z6,Z7,Z8,Z9,Z10,Zc,↓reduceIte,reduceCtorEq, h2, h1]
    simp [h2]
  by_cases h3 : par = par'
  case neg =>
    simp only [aR,N0,N1,N2,N3,N4,N5,Z0,Z1,Z2,Z3,Z4,Z5,Z6,Z7,Z8,Z9,Z10,Zc,↓reduceIte,reduceCtorEq, h3, h1, h2]
    simp [h3]
  by_cases h4 : nm = nm'
  case neg =>
    simp only [aR,N0,N1,N2,N3,N4,N5,Z0,Z1,Z2,Z3,Z4,Z5,Z6,Z7,Z8,Z9,Z10,Zc,↓reduceIte,reduceCtorEq, h4, h1, h2, h3]
    simp [h4]
  by_cases h5 : dir = dir'
  case neg =>
    have nn : (dir == dir') = false := by simp [h5]
    simp only [aR,N0,N1,N2,N3,N4,N5,Z0,Z1,Z2,Z3,Z4,Z5,Z6,Z7,Z8,Z9,Z10,Zc,↓reduceIte,reduceCtorEq, nn, h1, h2, h3, h4]
    simp [h5]
  have b5 : (dir == dir') = true := by simp [h5]
  simp only [aR,N0,N1,N2,N3,N4,N5,Z0,Z1,Z2,Z3,Z4,Z5,Z6,Z7,Z8,Z9,Z10,Zc,↓reduceIte,reduceCtorEq, h1, h2, h3, h4, b5]
  refine kEr (by simp [kB]) rfl rfl (by have := hx.1; simp only at this; omega) (by have := hy.1; simp only at this; omega) ?_
  simp only [aR,N0,N1,N2,N3,N4,N5,Z0,Z1,Z2,Z3,Z4,Z5,Z6,Z7,Z8,Z9,Z10,Zc,↓reduceIte,reduceCtorEq, h1, h2, h3, h4, b5]
  simp [h1, h2, h3, h4, h5]
abbrev ActsS := { l : List Ac // l.length ≤ 1099511627776 ∧ ∀ a ∈ l, okL a.ops }
abbrev kDk : Con where
  ι := ActsS × ActsS
  args := fun p => [.sl 0 6 (acts p.1.1), .sl 0 6 (acts p.2.1)]
  post := fun p r => r = .v (.bool (decide (p.1.1 = p.2.1)))
  plain := true
theorem sacts_good : Rw.Good Tryz.prog 16 kDk := by
  have hΓ : kL Tryz.prog [(49, kAW)] := (kE kEK kJ)
  refine kS (nn := 27) hΓ Tryz.func16 (by kernel_rfl) rfl (show Tryz.f16.results.toList = [.tmp 4] from rfl) (fun _ => rfl) (fun x => by simp [AV.erL, AV.er]) ?_
  rintro ⟨⟨a, ha, hao⟩, ⟨b, hb, hbo⟩⟩
  simp only [aR,N0,N1,N2,N3,N4,N5,Z0,Z1,Z2,Z3,Z4,Z5,Z6,Z7,Z8,Z9,Z10,Zc,↓reduceIte,reduceCtorEq, kM]
  by_cases hl : a.length = b.length
  case neg =>
    have hne : a ≠ b := fun e => hl (by rw [e])
    simp only [aR,N0,N1,N2,N3,N4,N5,Z0,Z1,Z2,Z3,Z4,Z5,Z6,Z7,Z8,Z9,Z10,Zc,↓reduceIte,reduceCtorEq, show ((a.length : Int) = b.length) = False from eq_false (by omega), hne]
  simp only [aR,N0,N1,N2,N3,N4,N5,Z0,Z1,Z2,Z3,Z4,Z5,Z6,Z7,Z8,Z9,Z10,Zc,↓reduceIte,reduceCtorEq, hl, kM]
  obtain ⟨St, hSt⟩ : ∃ St : { i : Nat // i ≤ b.length ∧ a.take i = b.take i } → AS, ∀ i, St i = AS.of 27 [(0, .sl 0 6 (acts a)), (1, .sl 0 6 (acts b)), (5, .v (.int .i64 i.1))] [] [] := ⟨_, fun _ => rfl⟩
  refine kX hΓ St (fun i => b.length - i.1) ⟨0, by omega, by simp⟩ (by rw [hSt]; refine kH [] [] ?_; simp only [aR,N0,N1,N2,N3,N4,N5,Z0,Z1,Z2,Z3,Z4,Z5,Z6,Z7,Z8,Z9,Z10,Zc,↓reduceIte,reduceCtorEq] <;> ((repeat' apply And.intro) <;> first | rfl | omega | trivial)) ?_
  rintro ⟨i, hi, hs⟩
  rw [hSt]
  simp only
  simp only [aR,N0,N1,N2,N3,N4,N5,Z0,Z1,Z2,Z3,Z4,Z5,Z6,Z7,Z8,Z9,Z10,Zc,↓reduceIte,reduceCtorEq, kM]
  (with_reducible first | refine kC (fun h => ?_) (fun h => ?_) | refine kF (fun h => ?_) (fun h => ?_))
  · have hlt : i < a.length := by omega
    have hlt2 : i < b.length := by omega
    have e1 := qV a hlt
    have e2 := qV b hlt2
    have hx := hao _ (List.getElem_mem hlt)
    have hy := hbo _ (List.getElem_mem hlt2)
    have ta := List.take_succ_eq_append_getElem hlt
    have tb := List.take_succ_eq_append_getElem hlt2
    have hab : a[i] = b[i] → a.take (i + 1) = b.take (i + 1) := fun he => by rw [ta, tb, he, hs]
    have hne : ¬ a[i] = b[i] → a ≠ b := fun he hh => he (by subst hh; rfl)
    generalize a[i] = x at *
    generalize b[i] = y at *
    simp only [aR,N0,N1,N2,N3,N4,N5,Z0,Z1,Z2,Z3,Z4,Z5,Z6,Z7,Z8,Z9,Z10,Zc,↓reduceIte,reduceCtorEq, h, e1, e2, aA, kM]
    (repeat (with_reducible refine And.intro ?_ ?_; focus (first | omega | exact kG | kernel_rfl)))
    refine kK (C := kAW) (i := (⟨x, hx⟩, ⟨y, hy⟩)) (by simp [kB]) rfl rfl rfl (by simp [AV.erL, AV.er, aA, kCe]) (fun _ h => h) rfl ?_
    by_cases hxy : x = y
    · simp only [aR,N0,N1,N2,N3,N4,N5,Z0,Z1,Z2,Z3,Z4,Z5,Z6,Z7,Z8,Z9,Z10,Zc,↓reduceIte,reduceCtorEq, hxy, kA (n := (i : Int) + 1) (by omega) (by omega)]
      refine kI ⟨i + 1, by omega, hab hxy⟩ (by simp only; omega) ?_
      rw [hSt]; refine kH [] [] ?_
      simp only [aR,N0,N1,N2,N3,N4,N5,Z0,Z1,Z2,Z3,Z4,Z5,Z6,Z7,Z8,Z9,Z10,Zc,↓reduceIte,reduceCtorEq] <;> ((repeat' apply And.intro) <;> first | rfl | omega | trivial)
    · simp only [aR,N0,N1,N2,N3,N4,N5,Z0,Z1,Z2,Z3,Z4,Z5,Z6,Z7,Z8,Z9,Z10,Zc,↓reduceIte,reduceCtorEq, hxy, hne hxy]
  · have e1 : a.take i = a := List.take_of_length_le (by omega)
    have e2 : b.take i = b := List.take_of_length_le (by omega)
    rw [e1, e2] at hs
    simp only [aR,N0,N1,N2,N3,N4,N5,Z0,Z1,Z2,Z3,Z4,Z5,Z6,Z7,Z8,Z9,Z10,Zc,↓reduceIte,reduceCtorEq, h, hs]
end Go.Proofs
end
-- ZUk3
section
namespace Go.Proofs
open Go Go.Rw
open _root_.Nat renaming reduceAdd → N0, reduceSub → N1, reduceMul → N2, reduceLT → N3, reduceLeDiff → N4, reduceEqDiff → N5
open _root_.Int renaming reduceNeg → Z0, reduceAdd → Z1, reduceSub → Z2, reduceMul → Z3, reduceGT → Z4, reduceGE → Z5, reduceLT → Z6, reduceLE → Z7, reduceEq → Z8, reduceNe → Z9, reduceToNat → Z10, cast_ofNat_Int → Zc
set_option maxRecDepth 100000
end Go.Proofs
end
-- ZUk4
section
namespace Go.Proofs
open Go Go.Rw
open _root_.Nat renaming reduceAdd → N0, reduceSub → N1, reduceMul → N2, reduceLT → N3, reduceLeDiff → N4, reduceEqDiff → N5
open _root_.Int renaming reduceNeg → Z0, reduceAdd → Z1, reduceSub → Z2, reduceMul → Z3, reduceGT → Z4, reduceGE → Z5, reduceLT → Z6, reduceLE → Z7, reduceEq → Z8, reduceNe → Z9, reduceToNat → Z10, cast_ofNat_Int → Zc
set_option maxRecDepth 100000
theorem cnt_part {c : Cp} (h : qE c = true) : cnt c.t = if c.k = 2 then lc c.t else 0 := by
  rcases qB h with ⟨h1, _, _, h2⟩ | ⟨h1, _, h2⟩
  · rw [if_pos h1, cnt_cpts, lc_cpts h2]
  · rw [if_neg (by omega), h2]; rfl
theorem bad_rest {a : Ac} (h1 : ¬ a.k < 1) (h2 : ¬ a.k > 4) (h3 : a = zL a) : badA a = decide (a.id < 1 ∨ a.id > 1099511627776 ∨ a.par < 0 ∨ a.par > 1099511627776 ∨ ((a.k = 1 ∨ a.k = 3) ∧ jI a.nm = false)) := by
  unfold badA
  rw [Bool.eq_iff_iff, decide_eq_true_eq, decide_eq_true_eq]
  constructor
  · rintro (h | h | h | h)
    · exact absurd h h1
    · exact absurd h h2
    · exact absurd h3 h
    · exact h
  · exact fun h => .inr (.inr (.inr h))
theorem plain_ops {a : Ac} (h : a = zL a) (hk : a.k ≠ 4) : a.ops = [] := by
  rw [h]
  unfold zL
  repeat' split
  all_goals first | rfl | contradiction
theorem one_bad {a : Ac} (h : badA a = true) : oneI a = 1 := by rw [oneI, h]; rfl
theorem one_ok {a : Ac} (h : badA a = false) : oneI a = if a.k = 4 then qI a.ops else 0 := by rw [oneI, h]; rfl
theorem putS_snoc {l : List Ac} {i : Nat} (h : i < l.length) : putS (l.take (i + 1)) = putS (l.take i) + putC l[i].ops := by
  rw [List.take_succ_eq_append_getElem h]
  generalize l.take i = x
  generalize l[i] = a
  induction x with
  | nil => simp [putS]
  | cons b x ih => simp only [List.cons_append, putS, ih]; omega
theorem putC_snoc {l : List Cp} {i : Nat} (h : i < l.length) : putC (l.take (i + 1)) = putC (l.take i) + (if l[i].k = 2 then lc l[i].t else 0) := by
  rw [List.take_succ_eq_append_getElem h]
  generalize l.take i = x
  generalize l[i] = a
  induction x with
  | nil => simp [putC]
  | cons b x ih => simp only [List.cons_append, putC, ih]; omega
theorem putC_le (l : List Cp) (i : Nat) : putC (l.take i) ≤ putC l := by
  induction l generalizing i with
  | nil => simp [putC]
  | cons c l ih =>
    cases i with
    | zero => simp [putC]
    | succ i => rw [List.take_succ_cons, putC, putC]; have := ih i; omega
set_option maxHeartbeats 8000000 in
theorem rtcheck_good : Rw.Good Tryz.prog 30 jZ := by
  have hΓ : kL Tryz.prog [(57, kBY), (49, kAW), (32, kCj), (58, jX), (35, j7)] := (kE rplain_good (kE kEK (kE rname_good (kE kET (kE kEG kJ)))))
  refine kS (nn := 121) hΓ Tryz.func30 (by kernel_rfl) rfl (show Tryz.f30.results.toList = [.tmp 2] from rfl) (fun _ => rfl) (fun x => by simp [AV.erL, AV.er, qF]) ?_
  rintro ⟨l, hl, ho⟩
  simp only [aR,N0,N1,N2,N3,N4,N5,Z0,Z1,Z2,Z3,Z4,Z5,Z6,Z7,Z8,Z9,Z10,Zc,↓reduceIte,reduceCtorEq, kM]
  by_cases hlen : (l.length : Int) > 20
  · have e0 : txnE l = 3 := by unfold txnE; rw [if_pos (by omega)]
    simp only [aR,N0,N1,N2,N3,N4,N5,Z0,Z1,Z2,Z3,Z4,Z5,Z6,Z7,Z8,Z9,Z10,Zc,↓reduceIte,reduceCtorEq, hlen, e0]
  have e0 : txnE l = if jK [] l ≠ 0 then jK [] l else if (putS l : Int) > 2000 then 3 else 0 := by unfold txnE; rw [if_neg (by omega)]
  have hsl := putS_le l fun a ha => (ho a ha).1
  simp only [aR,N0,N1,N2,N3,N4,N5,Z0,Z1,Z2,Z3,Z4,Z5,Z6,Z7,Z8,Z9,Z10,Zc,↓reduceIte,reduceCtorEq, hlen, kM]
  obtain ⟨St, hSt⟩ : ∃ St : { i : Nat // i ≤ l.length ∧ jK (l.take i) (l.drop i) = jK [] l ∧ putS (l.take i) ≤ i * 1099511627776 } → AS, ∀ i, St i = AS.of 121 [(0, .sl 0 6 (acts l)), (3, .v (.int .i64 (putS (l.take i.1)))), (4, .v (.int .i64 i.1))] [] [] := ⟨_, fun _ => rfl⟩
  refine kX hΓ St (fun i => l.length - i.1) ⟨0, by omega, by simp, by simp [putS]⟩ (by rw [hSt]; refine kH [] [] ?_; simp only [aR,N0,N1,N2,N3,N4,N5,Z0,Z1,Z2,Z3,Z4,Z5,Z6,Z7,Z8,Z9,Z10,Zc,↓reduceIte,reduceCtorEq, List.take_zero, putS] <;> ((repeat' apply And.intro) <;> first | rfl | omega | trivial)) ?_
  rintro ⟨i, hi, hc, hpi⟩
  rw [hSt]
  simp only
  simp only [aR,N0,N1,N2,N3,N4,N5,Z0,Z1,Z2,Z3,Z4,Z5,Z6,Z7,Z8,Z9,Z10,Zc,↓reduceIte,reduceCtorEq, kM]
  (with_reducible first | refine kC (fun h => ?_) (fun h => ?_) | refine kF (fun h => ?_) (fun h => ?_))
  · have hlt : i < l.length := by omega
    have e1 := qV l hlt
    have ha := ho _ (List.getElem_mem hlt)
    have hps := putS_snoc hlt
    rw [List.drop_eq_getElem_cons hlt, jK, ← List.take_succ_eq_append_getElem hlt] at hc
    have hcl : kCP (l.take i) l[i] = (l.take i).any fun b => decide (b.k = 4 ∧ b.id = l[i].id) := rfl
    generalize l[i] = a at *
    obtain ⟨k, id, par, nm, dir, ops⟩ := a
    obtain ⟨oa, hn⟩ := ha
    simp only at oa hn hps
    have wr1 := kA (n := (i : Int) + 1) (by omega) (by omega)
    have bad : badA ⟨k, id, par, nm, dir, ops⟩ = true → txnE l = 1 := fun hb => by
      have h1 := one_bad hb
      rw [if_pos (by rw [h1]; decide), h1] at hc
      rw [e0, ← hc]; rfl
    simp only [aR,N0,N1,N2,N3,N4,N5,Z0,Z1,Z2,Z3,Z4,Z5,Z6,Z7,Z8,Z9,Z10,Zc,↓reduceIte,reduceCtorEq, h, e1, aA, kM]
    (repeat (with_reducible refine And.intro ?_ ?_; focus (first | omega | exact kG | kernel_rfl)))
    by_cases h1 : k < 1
    · have eb := bad (by simp [badA, h1])
      simp only [aR,N0,N1,N2,N3,N4,N5,Z0,Z1,Z2,Z3,Z4,Z5,Z6,Z7,Z8,Z9,Z10,Zc,↓reduceIte,reduceCtorEq, h1, eb]
    by_cases h2 : k > 4
    · have eb := bad (by simp [badA, h2])
      simp only [aR,N0,N1,N2,N3,N4,N5,Z0,Z1,Z2,Z3,Z4,Z5,Z6,Z7,Z8,Z9,Z10,Zc,↓reduceIte,reduceCtorEq, h1, h2, eb]
    simp only [aR,N0,N1,N2,N3,N4,N5,Z0,Z1,Z2,Z3,Z4,Z5,Z6,Z7,Z8,Z9,Z10,Zc,↓reduceIte,reduceCtorEq, h1, h2]
    refine kF3 (by simp [kB]) (a := ⟨k, id, par, nm, dir, ops⟩) rfl oa ?_
    simp only [aR,N0,N1,N2,N3,N4,N5,Z0,Z1,Z2,Z3,Z4,Z5,Z6,Z7,Z8,Z9,Z10,Zc,↓reduceIte,reduceCtorEq, h1, h2]
    refine kFH (by simp [kB]) (a := ⟨k, id, par, nm, dir, ops⟩) rfl rfl oa (plainA_ok (a := ⟨k, id, par, nm, dir, ops⟩) oa) ?_
    obtain ⟨b, hb⟩ : ∃ b, decide ((⟨k, id, par, nm, dir, ops⟩ : Ac) = zL ⟨k, id, par, nm, dir, ops⟩) = b := ⟨_, rfl⟩
    rw [hb]
    cases b
    · have hb2 : ¬ (⟨k, id, par, nm, dir, ops⟩ : Ac) = zL ⟨k, id, par, nm, dir, ops⟩ := of_decide_eq_false hb
      have eb := bad (by simp [badA, hb2])
      simp only [aR,N0,N1,N2,N3,N4,N5,Z0,Z1,Z2,Z3,Z4,Z5,Z6,Z7,Z8,Z9,Z10,Zc,↓reduceIte,reduceCtorEq, h1, h2, eb]
    have hb2 : (⟨k, id, par, nm, dir, ops⟩ : Ac) = zL ⟨k, id, par, nm, dir, ops⟩ := of_decide_eq_true hb
    have br := bad_rest (a := ⟨k, id, par, nm, dir, ops⟩) h1 h2 hb2
    have hpl := plain_ops hb2
    simp only at br hpl
    clear hb hb2
    by_cases h3 : id < 1
    · have eb := bad (by rw [br]; simp [h3])
      simp only [aR,N0,N1,N2,N3,N4,N5,Z0,Z1,Z2,Z3,Z4,Z5,Z6,Z7,Z8,Z9,Z10,Zc,↓reduceIte,reduceCtorEq, h1, h2, h3, eb]
    by_cases h4 : id > 1099511627776
    · have eb := bad (by rw [br]; simp [h4])
      simp only [aR,N0,N1,N2,N3,N4,N5,Z0,Z1,Z2,Z3,Z4,Z5,Z6,Z7,Z8,Z9,Z10,Zc,↓reduceIte,reduceCtorEq, h1, h2, h3, h4, eb]
    by_cases h5 : par < 0
    · have eb := bad (by rw [br]; simp [h5])
      simp only [aR,N0,N1,N2,N3,N4,N5,Z0,Z1,Z2,Z3,Z4,Z5,Z6,Z7,Z8,Z9,Z10,Zc,↓reduceIte,reduceCtorEq, h1, h2, h3, h4, h5, eb]
    by_cases h6 : par > 1099511627776
    · have eb := bad (by rw [br]; simp [h6])
      simp only [aR,N0,N1,N2,N3,N4,N5,Z0,Z1,Z2,Z3,Z4,Z5,Z6,Z7,Z8,Z9,Z10,Zc,↓reduceIte,reduceCtorEq, h1, h2, h3, h4, h5, h6, eb]
    have good : ¬ ((k = 1 ∨ k = 3) ∧ jI nm = false) → badA ⟨k, id, par, nm, dir, ops⟩ = false := fun hh => by
      rw [br, decide_eq_false_iff_not]
      rintro (h | h | h | h | h)
      · exact h3 h
      · exact h4 h
      · exact h5 h
      · exact h6 h
      · exact hh h
    -- whatever is not an edit
    have other : k ≠ 4 → badA ⟨k, id, par, nm, dir, ops⟩ = false → jK (l.take (i + 1)) (l.drop (i + 1)) = jK [] l ∧ putS (l.take (i + 1)) = putS (l.take i) := fun hk hbd => by
      have g1 := one_ok hbd
      rw [if_neg hk] at g1
      rw [if_neg (by rw [g1]; simp), if_neg (fun hh => hk hh.1)] at hc
      refine ⟨hc, ?_⟩
      rw [hps, hpl hk]; simp [putC]
    by_cases k1 : k = 1
    · subst k1
      simp only [aR,N0,N1,N2,N3,N4,N5,Z0,Z1,Z2,Z3,Z4,Z5,Z6,Z7,Z8,Z9,Z10,Zc,↓reduceIte,reduceCtorEq, h3, h4, h5, h6]
      refine kEj (by simp [kB]) hn ?_
      cases hnm : jI nm
      · have eb := bad (by rw [br]; simp [hnm])
        simp only [aR,N0,N1,N2,N3,N4,N5,Z0,Z1,Z2,Z3,Z4,Z5,Z6,Z7,Z8,Z9,Z10,Zc,↓reduceIte,reduceCtorEq, eb]
      · obtain ⟨g1, g2⟩ := other (by decide) (good (by simp [hnm]))
        simp only [aR,N0,N1,N2,N3,N4,N5,Z0,Z1,Z2,Z3,Z4,Z5,Z6,Z7,Z8,Z9,Z10,Zc,↓reduceIte,reduceCtorEq, wr1]
        refine kI ⟨i + 1, by omega, g1, by omega⟩ (by simp only; omega) ?_
        rw [hSt]; refine kH [] [] ?_
        simp only [aR,N0,N1,N2,N3,N4,N5,Z0,Z1,Z2,Z3,Z4,Z5,Z6,Z7,Z8,Z9,Z10,Zc,↓reduceIte,reduceCtorEq, g2] <;> ((repeat' apply And.intro) <;> first | rfl | omega | trivial)
    by_cases k3 : k = 3
    · subst k3
      simp only [aR,N0,N1,N2,N3,N4,N5,Z0,Z1,Z2,Z3,Z4,Z5,Z6,Z7,Z8,Z9,Z10,Zc,↓reduceIte,reduceCtorEq, h3, h4, h5, h6]
      refine kEj (by simp [kB]) hn ?_
      cases hnm : jI nm
      · have eb := bad (by rw [br]; simp [hnm])
        simp only [aR,N0,N1,N2,N3,N4,N5,Z0,Z1,Z2,Z3,Z4,Z5,Z6,Z7,Z8,Z9,Z10,Zc,↓reduceIte,reduceCtorEq, eb]
      · obtain ⟨g1, g2⟩ := other (by decide) (good (by simp [hnm]))
        simp only [aR,N0,N1,N2,N3,N4,N5,Z0,Z1,Z2,Z3,Z4,Z5,Z6,Z7,Z8,Z9,Z10,Zc,↓reduceIte,reduceCtorEq, wr1]
        refine kI ⟨i + 1, by omega, g1, by omega⟩ (by simp only; omega) ?_
        rw [hSt]; refine kH [] [] ?_
        simp only [aR,N0,N1,N2,N3,N4,N5,Z0,Z1,Z2,Z3,Z4,Z5,Z6,Z7,Z8,Z9,Z10,Zc,↓reduceIte,reduceCtorEq, g2] <;> ((repeat' apply And.intro) <;> first | rfl | omega | trivial)
    have gd := good (fun hh => by rcases hh.1 with h | h; exact k1 h; exact k3 h)
    by_cases k4 : k = 4
    case neg =>
      obtain ⟨g1, g2⟩ := other k4 gd
      simp only [aR,N0,N1,N2,N3,N4,N5,Z0,Z1,Z2,Z3,Z4,Z5,Z6,Z7,Z8,Z9,Z10,Zc,↓reduceIte,reduceCtorEq, h1, h2, h3, h4, h5, h6, k1, k3, k4, wr1]
      refine kI ⟨i + 1, by omega, g1, by omega⟩ (by simp only; omega) ?_
      rw [hSt]; refine kH [] [] ?_
      simp only [aR,N0,N1,N2,N3,N4,N5,Z0,Z1,Z2,Z3,Z4,Z5,Z6,Z7,Z8,Z9,Z10,Zc,↓reduceIte,reduceCtorEq, g2] <;> ((repeat' apply And.intro) <;> first | rfl | omega | trivial)
    subst k4
    have g1 := one_ok gd
    rw [if_pos rfl] at g1
    simp only at g1
    simp only [aR,N0,N1,N2,N3,N4,N5,Z0,Z1,Z2,Z3,Z4,Z5,Z6,Z7,Z8,Z9,Z10,Zc,↓reduceIte,reduceCtorEq, h3, h4, h5, h6]
    refine kBz (by simp [kB]) rfl oa ?_
    by_cases hck : qI ops = 0
    case neg =>
      rw [if_pos (by rw [g1]; exact hck), g1] at hc
      rw [← hc, if_pos hck] at e0
      simp only [aR,N0,N1,N2,N3,N4,N5,Z0,Z1,Z2,Z3,Z4,Z5,Z6,Z7,Z8,Z9,Z10,Zc,↓reduceIte,reduceCtorEq, hck, e0]
    rw [if_neg (by rw [g1, hck]; simp)] at hc
    have hso := (kAm hck).2.2.1
    have hol := (kAm hck).1
    simp only [aR,N0,N1,N2,N3,N4,N5,Z0,Z1,Z2,Z3,Z4,Z5,Z6,Z7,Z8,Z9,Z10,Zc,↓reduceIte,reduceCtorEq, hck]
    obtain ⟨Sb, hSb⟩ : ∃ Sb : { j : Nat // j ≤ i ∧ ((l.take i).any fun b => decide (b.k = 4 ∧ b.id = id)) = ((l.take i).drop j).any fun b => decide (b.k = 4 ∧ b.id = id) } → AS, ∀ j, Sb j = AS.of 121 [(0, .sl 0 6 (acts l)), (3, .v (.int .i64 (putS (l.take i)))), (4, .v (.int .i64 i)), (5, .ptr 0 0), (7, .v (.int .i64 j.1))] [.cells [.v (.int .i64 4), .v (.int .i64 id), .v (.int .i64 par), .v (sv nm), .v (.bool dir), .sl 0 3 (kU ops)]] [] := ⟨_, fun _ => rfl⟩
    refine kX hΓ Sb (fun j => i - j.1) ⟨0, by omega, by simp⟩ (by rw [hSb]; refine kH [0] [] ?_; simp only [aR,N0,N1,N2,N3,N4,N5,Z0,Z1,Z2,Z3,Z4,Z5,Z6,Z7,Z8,Z9,Z10,Zc,↓reduceIte,reduceCtorEq] <;> ((repeat' apply And.intro) <;> first | rfl | omega | trivial)) ?_
    rintro ⟨j, hj, hcj⟩
    rw [hSb]
    simp only
    simp only [aR,N0,N1,N2,N3,N4,N5,Z0,Z1,Z2,Z3,Z4,Z5,Z6,Z7,Z8,Z9,Z10,Zc,↓reduceIte,reduceCtorEq]
    (with_reducible first | refine kC (fun h7 => ?_) (fun h7 => ?_) | refine kF (fun h7 => ?_) (fun h7 => ?_))
    · have hlt2 : j < l.length := by omega
      have hlt3 : j < (l.take i).length := by rw [List.length_take]; omega
      have e3 := qV l hlt2
      rw [List.drop_eq_getElem_cons hlt3, List.any_cons, List.getElem_take] at hcj
      generalize l[j] = b at *
      obtain ⟨bk, bid, bpar, bnm, bdir, bops⟩ := b
      simp only at hcj
      have wr2 := kA (n := (j : Int) + 1) (by omega) (by omega)
      by_cases k5 : bk = 4
      · by_cases k6 : bid = id
        · have hT : kCP (l.take i) ⟨4, id, par, nm, dir, ops⟩ = true := by rw [hcl, hcj]; simp [k5, k6]
          rw [if_pos ⟨rfl, hT⟩] at hc
          rw [← hc, if_pos (by omega)] at e0
          simp only [aR,N0,N1,N2,N3,N4,N5,Z0,Z1,Z2,Z3,Z4,Z5,Z6,Z7,Z8,Z9,Z10,Zc,↓reduceIte,reduceCtorEq, h7, e3, aA, kM, k5, k6, e0]
          (repeat (with_reducible refine And.intro ?_ ?_; focus (first | omega | exact kG | kernel_rfl)))
          ((repeat' apply And.intro) <;> first | rfl | omega | trivial)
        · simp only [aR,N0,N1,N2,N3,N4,N5,Z0,Z1,Z2,Z3,Z4,Z5,Z6,Z7,Z8,Z9,Z10,Zc,↓reduceIte,reduceCtorEq, h7, e3, aA, kM, k5, k6, wr2]
          (repeat (with_reducible refine And.intro ?_ ?_; focus (first | omega | exact kG | kernel_rfl)))
          refine kI ⟨j + 1, by omega, by rw [hcj]; simp [k6]⟩ (by simp only; omega) ?_
          rw [hSb]; refine kH [0] [] ?_
          simp only [aR,N0,N1,N2,N3,N4,N5,Z0,Z1,Z2,Z3,Z4,Z5,Z6,Z7,Z8,Z9,Z10,Zc,↓reduceIte,reduceCtorEq] <;> ((repeat' apply And.intro) <;> first | rfl | omega | trivial)
      · simp only [aR,N0,N1,N2,N3,N4,N5,Z0,Z1,Z2,Z3,Z4,Z5,Z6,Z7,Z8,Z9,Z10,Zc,↓reduceIte,reduceCtorEq, h7, e3, aA, kM, k5, wr2]
        (repeat (with_reducible refine And.intro ?_ ?_; focus (first | omega | exact kG | kernel_rfl)))
        refine kI ⟨j + 1, by omega, by rw [hcj]; simp [k5]⟩ (by simp only; omega) ?_
        rw [hSb]; refine kH [0] [] ?_
        simp only [aR,N0,N1,N2,N3,N4,N5,Z0,Z1,Z2,Z3,Z4,Z5,Z6,Z7,Z8,Z9,Z10,Zc,↓reduceIte,reduceCtorEq] <;> ((repeat' apply And.intro) <;> first | rfl | omega | trivial)
    · rw [List.drop_of_length_le (by rw [List.length_take]; omega)] at hcj
      have hF : kCP (l.take i) ⟨4, id, par, nm, dir, ops⟩ = false := by rw [hcl, hcj]; rfl
      rw [if_neg (by rw [hF]; simp)] at hc
      have hpt := putC_tot ops
      have hot := oa.2.1
      simp only [aR,N0,N1,N2,N3,N4,N5,Z0,Z1,Z2,Z3,Z4,Z5,Z6,Z7,Z8,Z9,Z10,Zc,↓reduceIte,reduceCtorEq, h7]
      obtain ⟨Sd, hSd⟩ : ∃ Sd : { t : Nat // t ≤ ops.length } → AS, ∀ t, Sd t = AS.of 121 [(0, .sl 0 6 (acts l)), (3, .v (.int .i64 ((putS (l.take i) + putC (ops.take t.1) : Nat) : Int))), (4, .v (.int .i64 i)), (5, .ptr 0 0), (8, .v (.int .i64 t.1))] [.cells [.v (.int .i64 4), .v (.int .i64 id), .v (.int .i64 par), .v (sv nm), .v (.bool dir), .sl 0 3 (kU ops)]] [] := ⟨_, fun _ => rfl⟩
      refine kX hΓ Sd (fun t => ops.length - t.1) ⟨0, by omega⟩ (by rw [hSd]; refine kH [0] [] ?_; simp only [aR,N0,N1,N2,N3,N4,N5,Z0,Z1,Z2,Z3,Z4,Z5,Z6,Z7,Z8,Z9,Z10,Zc,↓reduceIte,reduceCtorEq, List.take_zero, putC] <;> ((repeat' apply And.intro) <;> first | rfl | omega | trivial)) ?_
      rintro ⟨t, ht⟩
      rw [hSd]
      simp only
      simp only [aR,N0,N1,N2,N3,N4,N5,Z0,Z1,Z2,Z3,Z4,Z5,Z6,Z7,Z8,Z9,Z10,Zc,↓reduceIte,reduceCtorEq, kD]
      (with_reducible first | refine kC (fun h8 => ?_) (fun h8 => ?_) | refine kF (fun h8 => ?_) (fun h8 => ?_))
      · have hlt4 : t < ops.length := by omega
        have e4 := k9 ops hlt4
        have hct := okL.text oa (List.getElem_mem hlt4)
        have hcp := cnt_part (hso _ (List.getElem_mem hlt4))
        have hpc := putC_snoc hlt4
        have hpl1 := putC_le ops (t + 1)
        have hpl2 := putC_le ops t
        rw [← hcp] at hpc
        generalize ops[t] = c at *
        obtain ⟨ck, cn, ct⟩ := c
        simp only at hct hpc
        simp only [aR,N0,N1,N2,N3,N4,N5,Z0,Z1,Z2,Z3,Z4,Z5,Z6,Z7,Z8,Z9,Z10,Zc,↓reduceIte,reduceCtorEq, h8, e4, cA, kD]
        (repeat (with_reducible refine And.intro ?_ ?_; focus (first | omega | exact kG | kernel_rfl)))
        refine kEX (by simp [kB]) hct ?_
        simp only [aR,N0,N1,N2,N3,N4,N5,Z0,Z1,Z2,Z3,Z4,Z5,Z6,Z7,Z8,Z9,Z10,Zc,↓reduceIte,reduceCtorEq, kA (n := ((putS (l.take i) + putC (ops.take t) : Nat) : Int) + cnt ct) (by omega) (by omega), kA (n := (t : Int) + 1) (by omega) (by omega)]
        refine kI ⟨t + 1, by omega⟩ (by simp only; omega) ?_
        rw [hSd]; refine kH [0] [] ?_
        simp only [aR,N0,N1,N2,N3,N4,N5,Z0,Z1,Z2,Z3,Z4,Z5,Z6,Z7,Z8,Z9,Z10,Zc,↓reduceIte,reduceCtorEq, hpc] <;> ((repeat' apply And.intro) <;> first | rfl | omega | trivial)
      · have e5 : ops.take t = ops := List.take_of_length_le (by omega)
        simp only [aR,N0,N1,N2,N3,N4,N5,Z0,Z1,Z2,Z3,Z4,Z5,Z6,Z7,Z8,Z9,Z10,Zc,↓reduceIte,reduceCtorEq, h8, e5, wr1]
        refine kI ⟨i + 1, by omega, hc, by omega⟩ (by simp only; omega) ?_
        rw [hSt]; refine kH [] [] ?_
        simp only [aR,N0,N1,N2,N3,N4,N5,Z0,Z1,Z2,Z3,Z4,Z5,Z6,Z7,Z8,Z9,Z10,Zc,↓reduceIte,reduceCtorEq, hps] <;> ((repeat' apply And.intro) <;> first | rfl | omega | trivial)
  · rw [List.drop_of_length_le (by omega), jK] at hc
    rw [← hc, if_neg (by simp)] at e0
    simp only [aR,N0,N1,N2,N3,N4,N5,Z0,Z1,Z2,Z3,Z4,Z5,Z6,Z7,Z8,Z9,Z10,Zc,↓reduceIte,reduceCtorEq, h, show l.take i = l from List.take_of_length_le (by omega)]
    by_cases hp : (putS l : Int) > 2000
    · rw [if_pos hp] at e0
      simp only [aR,N0,N1,N2,N3,N4,N5,Z0,Z1,Z2,Z3,Z4,Z5,Z6,Z7,Z8,Z9,Z10,Zc,↓reduceIte,reduceCtorEq, hp, e0]
    · rw [if_neg hp] at e0
      simp only [aR,N0,N1,N2,N3,N4,N5,Z0,Z1,Z2,Z3,Z4,Z5,Z6,Z7,Z8,Z9,Z10,Zc,↓reduceIte,reduceCtorEq, hp, e0]
end Go.Proofs
end
-- ZUk5
section
namespace Go.Proofs
open Go Go.Rw
open _root_.Nat renaming reduceAdd → N0, reduceSub → N1, reduceMul → N2, reduceLT → N3, reduceLeDiff → N4, reduceEqDiff → N5
open _root_.Int renaming reduceNeg → Z0, reduceAdd → Z1, reduceSub → Z2, reduceMul → Z3, reduceGT → Z4, reduceGE → Z5, reduceLT → Z6, reduceLE → Z7, reduceEq → Z8, reduceNe → Z9, reduceToNat → Z10, cast_ofNat_Int → Zc
set_option maxRecDepth 100000
end Go.Proofs
end
