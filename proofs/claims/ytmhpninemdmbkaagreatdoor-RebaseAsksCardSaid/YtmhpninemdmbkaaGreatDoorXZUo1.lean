/-
  Counts of an edit's parts; which parts may be.
-/
import Derived.Test.YtmhpninemdmbkaaGreatDoorXZUt1
import Derived.Test.YtmhpninemdmbkaaGreatDoorRwF
set_option linter.unusedSimpArgs false
set_option linter.unusedVariables false
set_option linter.defProp false

-- ZUo1
section
namespace Go.Proofs
open Go Go.Rw
open _root_.Nat renaming reduceAdd → N0, reduceSub → N1, reduceMul → N2, reduceLT → N3, reduceLeDiff → N4, reduceEqDiff → N5
open _root_.Int renaming reduceNeg → Z0, reduceAdd → Z1, reduceSub → Z2, reduceMul → Z3, reduceGT → Z4, reduceGE → Z5, reduceLT → Z6, reduceLE → Z7, reduceEq → Z8, reduceNe → Z9, reduceToNat → Z10, cast_ofNat_Int → Zc
set_option maxRecDepth 100000
abbrev kEz : Con where
  ι := { p : Int × Int // 0 ≤ p.1 ∧ p.1 ≤ 1099511627776 ∧ 0 ≤ p.2 ∧ p.2 ≤ 9223372036854775807 }
  args := fun p => [.v (.int .i64 p.1.1), .v (.int .i64 p.1.2)]
  post := fun p r => r = .v (.int .i64 (addI p.1.1 p.1.2))
  plain := true
theorem add_good : Rw.Good Tryz.prog 120 kEz := by
  have hΓ : kL Tryz.prog [] := kJ
  refine kS (nn := 12) hΓ Tryz.func120 (by kernel_rfl) rfl (show Tryz.f120.results.toList = [.tmp 4] from rfl) (fun _ => rfl) (fun _ => rfl) ?_
  rintro ⟨⟨n, m⟩, h1, h2, h3, h4⟩
  simp only at h1 h2 h3 h4 ⊢
  simp (disch := omega) only [aR,N0,N1,N2,N3,N4,N5,Z0,Z1,Z2,Z3,Z4,Z5,Z6,Z7,Z8,Z9,Z10,Zc,↓reduceIte,reduceCtorEq, kA]
  (try ((with_reducible first | refine kC (fun q1 => ?_) (fun q1 => ?_) | refine kF (fun q1 => ?_) (fun q1 => ?_)) <;> simp (disch := omega) only [aR,N0,N1,N2,N3,N4,N5,Z0,Z1,Z2,Z3,Z4,Z5,Z6,Z7,Z8,Z9,Z10,Zc,↓reduceIte,reduceCtorEq, kA, q1] <;> (with_reducible first | (refine And.intro ?_ ?_; focus (first | omega | exact kG | kernel_rfl)); (repeat (with_reducible refine And.intro ?_ ?_; focus (first | omega | exact kG | kernel_rfl))); (try simp (disch := omega) only [aR,N0,N1,N2,N3,N4,N5,Z0,Z1,Z2,Z3,Z4,Z5,Z6,Z7,Z8,Z9,Z10,Zc,↓reduceIte,reduceCtorEq, kA, q1]) | skip) <;> skip))
  all_goals (unfold addI; omega)
theorem kAn {Γ : Env} (hf : Γ.get 120 = some kEz) {σ : AS} {dr : Bool} {n m : Int} {d : Option Nat} {K : AS → Prop} (h : 0 ≤ n ∧ n ≤ 1099511627776) (h2 : 0 ≤ m ∧ m ≤ 9223372036854775807)
    (hk : cont σ d (.v (.int .i64 (addI n m))) K) : kR Tryz.prog Γ dr σ 120 [.v (.int .i64 n), .v (.int .i64 m)] d K :=
  kK (C := kEz) (i := ⟨(n, m), h.1, h.2, h2.1, h2.2⟩) hf rfl rfl rfl rfl (fun _ h => h) rfl hk
abbrev Ed := { l : List Cp // okL l }
theorem kCe (l : List Cp) : AV.erL (kU l) = kU l := by
  induction l with
  | nil => rfl
  | cons c r ih => show AV.er (cA c) :: AV.erL (kU r) = _; rw [ih]; rfl
abbrev kA4 : Con where
  ι := Ed
  args := fun l => [.sl 0 3 (kU l.1)]
  post := fun l r => r = .v (.int .i64 (zY l.1))
  plain := true
theorem base_good : Rw.Good Tryz.prog 116 kA4 := by
  have hΓ : kL Tryz.prog [(120, kEz)] := (kE add_good kJ)
  refine kS (nn := 26) hΓ Tryz.func116 (by kernel_rfl) rfl (show Tryz.f116.results.toList = [.tmp 2] from rfl) (fun _ => rfl) (fun _ => rfl) ?_
  rintro ⟨l, hl, htot, hc⟩
  simp only [aR,N0,N1,N2,N3,N4,N5,Z0,Z1,Z2,Z3,Z4,Z5,Z6,Z7,Z8,Z9,Z10,Zc,↓reduceIte,reduceCtorEq, kD]
  obtain ⟨St, hSt⟩ : ∃ St : { p : Int × Nat // p.2 ≤ l.length ∧ 0 ≤ p.1 ∧ p.1 ≤ 1099511627776 ∧ zY l = zX p.1 (l.drop p.2) } → AS, ∀ p, St p = AS.of 26 [(2, .v (.int .i64 p.1.1)), (5, .sl 0 3 (kU l)), (6, .v (.int .i64 l.length)), (7, .v (.int .i64 p.1.2))] [] [] := ⟨_, fun _ => rfl⟩
  refine kX hΓ St (fun p => l.length - p.1.2) ⟨(0, 0), by omega, by omega, by omega, rfl⟩ (by rw [hSt]; refine kH [] [] ?_; simp only [aR,N0,N1,N2,N3,N4,N5,Z0,Z1,Z2,Z3,Z4,Z5,Z6,Z7,Z8,Z9,Z10,Zc,↓reduceIte,reduceCtorEq] <;> ((repeat' apply And.intro) <;> first | rfl | omega | trivial)) ?_
  rintro ⟨⟨n, i⟩, hi, hn1, hn2, hb⟩
  simp only at hi hn1 hn2 hb
  rw [hSt]
  simp only
  simp only [aR,N0,N1,N2,N3,N4,N5,Z0,Z1,Z2,Z3,Z4,Z5,Z6,Z7,Z8,Z9,Z10,Zc,↓reduceIte,reduceCtorEq]
  (with_reducible first | refine kC (fun h => ?_) (fun h => ?_) | refine kF (fun h => ?_) (fun h => ?_))
  · have hlt : i < l.length := by omega
    have hci := And.intro (hc l[i] (List.getElem_mem hlt)) (okL.text ⟨hl, htot, hc⟩ (List.getElem_mem hlt))
    have e1 := k9 l hlt
    rw [List.drop_eq_getElem_cons hlt] at hb
    simp only [zX] at hb
    generalize l[i] = c at *
    obtain ⟨k, m, t⟩ := c
    simp only at hci hb e1
    have yes : (k = 1 ∨ k = 3) → zY l = zX (addI n (max m 0)) (l.drop (i + 1)) := fun h => by rw [hb, if_pos h]
    have no : ¬ (k = 1 ∨ k = 3) → zY l = zX n (l.drop (i + 1)) := fun h => by rw [hb, if_neg h]
    have hr := k8 hn1 (show 0 ≤ max m 0 by omega)
    simp (disch := omega) only [aR,N0,N1,N2,N3,N4,N5,Z0,Z1,Z2,Z3,Z4,Z5,Z6,Z7,Z8,Z9,Z10,Zc,↓reduceIte,reduceCtorEq, kA, h, e1, kD]
    (repeat (with_reducible refine And.intro ?_ ?_; focus (first | omega | exact kG | kernel_rfl)))
    (try ((with_reducible first | refine kC (fun q1 => ?_) (fun q1 => ?_) | refine kF (fun q1 => ?_) (fun q1 => ?_)) <;> simp (disch := omega) only [aR,N0,N1,N2,N3,N4,N5,Z0,Z1,Z2,Z3,Z4,Z5,Z6,Z7,Z8,Z9,Z10,Zc,↓reduceIte,reduceCtorEq, kA, q1, zU] <;> (with_reducible first | (refine And.intro ?_ ?_; focus (first | omega | exact kG | kernel_rfl)); (repeat (with_reducible refine And.intro ?_ ?_; focus (first | omega | exact kG | kernel_rfl))); (try simp (disch := omega) only [aR,N0,N1,N2,N3,N4,N5,Z0,Z1,Z2,Z3,Z4,Z5,Z6,Z7,Z8,Z9,Z10,Zc,↓reduceIte,reduceCtorEq, kA, q1, zU]) | skip) <;> (try ((with_reducible first | refine kC (fun q2 => ?_) (fun q2 => ?_) | refine kF (fun q2 => ?_) (fun q2 => ?_)) <;> simp (disch := omega) only [aR,N0,N1,N2,N3,N4,N5,Z0,Z1,Z2,Z3,Z4,Z5,Z6,Z7,Z8,Z9,Z10,Zc,↓reduceIte,reduceCtorEq, kA, q2, zU] <;> (with_reducible first | (refine And.intro ?_ ?_; focus (first | omega | exact kG | kernel_rfl)); (repeat (with_reducible refine And.intro ?_ ?_; focus (first | omega | exact kG | kernel_rfl))); (try simp (disch := omega) only [aR,N0,N1,N2,N3,N4,N5,Z0,Z1,Z2,Z3,Z4,Z5,Z6,Z7,Z8,Z9,Z10,Zc,↓reduceIte,reduceCtorEq, kA, q2, zU]) | skip) <;> skip))))
    all_goals first
      | (refine kAn (by simp [kB]) ⟨hn1, hn2⟩ (by omega) ?_
         simp (disch := omega) only [aR,N0,N1,N2,N3,N4,N5,Z0,Z1,Z2,Z3,Z4,Z5,Z6,Z7,Z8,Z9,Z10,Zc,↓reduceIte,reduceCtorEq, kA]
         refine kI ⟨(addI n (max m 0), i + 1), by omega, hr.1, hr.2, yes (by omega)⟩ (by simp only; omega) ?_
         rw [hSt]; refine kH [] [] ?_
         simp only [aR,N0,N1,N2,N3,N4,N5,Z0,Z1,Z2,Z3,Z4,Z5,Z6,Z7,Z8,Z9,Z10,Zc,↓reduceIte,reduceCtorEq] <;> ((repeat' apply And.intro) <;> first | rfl | omega | trivial))
      | (refine kI ⟨(n, i + 1), by omega, hn1, hn2, no (by omega)⟩ (by simp only; omega) ?_
         rw [hSt]; refine kH [] [] ?_
         simp only [aR,N0,N1,N2,N3,N4,N5,Z0,Z1,Z2,Z3,Z4,Z5,Z6,Z7,Z8,Z9,Z10,Zc,↓reduceIte,reduceCtorEq] <;> ((repeat' apply And.intro) <;> first | rfl | omega | trivial))
      | trace_state
  · simp only [aR,N0,N1,N2,N3,N4,N5,Z0,Z1,Z2,Z3,Z4,Z5,Z6,Z7,Z8,Z9,Z10,Zc,↓reduceIte,reduceCtorEq, h]
    rw [List.drop_of_length_le (by omega)] at hb
    rw [hb]; rfl
theorem kEg {Γ : Env} (hf : Γ.get 116 = some kA4) {σ : AS} {dr : Bool} {l : List Cp} {t : Nat} {ys : List AV} {d : Option Nat} {K : AS → Prop} (hy : ys = kU l) (h : okL l)
    (hk : cont σ d (.v (.int .i64 (zY l))) K) : kR Tryz.prog Γ dr σ 116 [.sl t 3 ys] d K := by
  subst hy
  exact kK (C := kA4) (i := ⟨l, h⟩) hf rfl rfl rfl rfl (fun _ h => h) rfl hk
abbrev kCd : Con where
  ι := Str
  args := fun s => [.v (sv s.1)]
  post := fun s r => r = .v (.int .i64 (lc s.1))
  plain := true
theorem dec2_lc {s : List UInt8} {p : Nat} : dec2 s p = (Lib.decodeL (s.drop p)).2 := by unfold dec2; rw [kCb]
theorem rc_good : Rw.Good Tryz.prog 92 kCd := by
  have hΓ : kL Tryz.prog [] := kJ
  refine kS (nn := 10) hΓ Tryz.func92 (by kernel_rfl) rfl (show Tryz.f92.results.toList = [.tmp 2] from rfl) (fun _ => rfl) (fun _ => rfl) ?_
  rintro ⟨s, hs⟩
  simp only [aR,N0,N1,N2,N3,N4,N5,Z0,Z1,Z2,Z3,Z4,Z5,Z6,Z7,Z8,Z9,Z10,Zc,↓reduceIte,reduceCtorEq]
  have hll := kDY s
  obtain ⟨St, hSt⟩ : ∃ St : { p : Nat × Nat // p.1 + lc (s.drop p.2) = lc s } → AS, ∀ p, St p = AS.of 10 [(2, .v (.int .i64 p.1.1)), (4, .ptr 0 0)] [.iter ⟨s.toArray⟩ p.1.2] [] := ⟨_, fun _ => rfl⟩
  refine kX hΓ St (fun p => s.length - p.1.2) ⟨(0, 0), by simp⟩ (by rw [hSt]; refine kH [0] [] ?_; simp only [aR,N0,N1,N2,N3,N4,N5,Z0,Z1,Z2,Z3,Z4,Z5,Z6,Z7,Z8,Z9,Z10,Zc,↓reduceIte,reduceCtorEq] <;> ((repeat' apply And.intro) <;> first | rfl | omega | trivial)) ?_
  rintro ⟨⟨n, p⟩, hn⟩
  simp only at hn
  rw [hSt]
  simp only
  simp only [aR,N0,N1,N2,N3,N4,N5,Z0,Z1,Z2,Z3,Z4,Z5,Z6,Z7,Z8,Z9,Z10,Zc,↓reduceIte,reduceCtorEq]
  by_cases hp : p < s.length
  · rw [nextO_in hp]
    have hw := Lib.decodeL_width (s.drop p)
    rw [lc_step (drop_ne hp), List.drop_drop] at hn
    simp (disch := omega) only [aR,N0,N1,N2,N3,N4,N5,Z0,Z1,Z2,Z3,Z4,Z5,Z6,Z7,Z8,Z9,Z10,Zc,↓reduceIte,reduceCtorEq, kA, dec2_lc]
    refine kI ⟨(n + 1, p + (Lib.decodeL (s.drop p)).2), by simp only; omega⟩ (by simp only; omega) ?_
    rw [hSt]; refine kH [0] [] ?_
    simp only [aR,N0,N1,N2,N3,N4,N5,Z0,Z1,Z2,Z3,Z4,Z5,Z6,Z7,Z8,Z9,Z10,Zc,↓reduceIte,reduceCtorEq] <;> ((repeat' apply And.intro) <;> first | rfl | omega | trivial)
  · rw [nextO_end hp]
    rw [List.drop_of_length_le (by omega), kD6] at hn
    simp only [aR,N0,N1,N2,N3,N4,N5,Z0,Z1,Z2,Z3,Z4,Z5,Z6,Z7,Z8,Z9,Z10,Zc,↓reduceIte,reduceCtorEq]
    omega
theorem call_rc {Γ : Env} (hf : Γ.get 92 = some kCd) {σ : AS} {dr : Bool} {l : List UInt8} {d : Option Nat} {K : AS → Prop} (h : l.length ≤ 1099511627776)
    (hk : cont σ d (.v (.int .i64 (lc l))) K) : kR Tryz.prog Γ dr σ 92 [.v (sv l)] d K :=
  kK (C := kCd) (i := ⟨l, h⟩) hf rfl rfl rfl rfl (fun _ h => h) rfl hk
abbrev kD8 : Con where
  ι := Ed
  args := fun l => [.sl 0 3 (kU l.1)]
  post := fun l r => r = .v (.int .i64 (outL l.1))
  plain := true
theorem out_good : Rw.Good Tryz.prog 117 kD8 := by
  have hΓ : kL Tryz.prog [(120, kEz), (92, kCd)] := (kE add_good (kE rc_good kJ))
  refine kS (nn := 29) hΓ Tryz.func117 (by kernel_rfl) rfl (show Tryz.f117.results.toList = [.tmp 2] from rfl) (fun _ => rfl) (fun _ => rfl) ?_
  rintro ⟨l, hl, htot, hc⟩
  simp only [aR,N0,N1,N2,N3,N4,N5,Z0,Z1,Z2,Z3,Z4,Z5,Z6,Z7,Z8,Z9,Z10,Zc,↓reduceIte,reduceCtorEq, kD]
  obtain ⟨St, hSt⟩ : ∃ St : { p : Int × Nat // p.2 ≤ l.length ∧ 0 ≤ p.1 ∧ p.1 ≤ 1099511627776 ∧ outL l = outF p.1 (l.drop p.2) } → AS, ∀ p, St p = AS.of 29 [(2, .v (.int .i64 p.1.1)), (5, .sl 0 3 (kU l)), (6, .v (.int .i64 l.length)), (7, .v (.int .i64 p.1.2))] [] [] := ⟨_, fun _ => rfl⟩
  refine kX hΓ St (fun p => l.length - p.1.2) ⟨(0, 0), by omega, by omega, by omega, rfl⟩ (by rw [hSt]; refine kH [] [] ?_; simp only [aR,N0,N1,N2,N3,N4,N5,Z0,Z1,Z2,Z3,Z4,Z5,Z6,Z7,Z8,Z9,Z10,Zc,↓reduceIte,reduceCtorEq] <;> ((repeat' apply And.intro) <;> first | rfl | omega | trivial)) ?_
  rintro ⟨⟨n, i⟩, hi, hn1, hn2, hb⟩
  simp only at hi hn1 hn2 hb
  rw [hSt]
  simp only
  simp only [aR,N0,N1,N2,N3,N4,N5,Z0,Z1,Z2,Z3,Z4,Z5,Z6,Z7,Z8,Z9,Z10,Zc,↓reduceIte,reduceCtorEq]
  (with_reducible first | refine kC (fun h => ?_) (fun h => ?_) | refine kF (fun h => ?_) (fun h => ?_))
  · have hlt : i < l.length := by omega
    have hci := And.intro (hc l[i] (List.getElem_mem hlt)) (okL.text ⟨hl, htot, hc⟩ (List.getElem_mem hlt))
    have e1 := k9 l hlt
    rw [List.drop_eq_getElem_cons hlt] at hb
    simp only [outF] at hb
    generalize l[i] = c at *
    obtain ⟨k, m, t⟩ := c
    simp only at hci hb e1
    have hl1 : k = 1 → outL l = outF (addI n (max m 0)) (l.drop (i + 1)) := fun h => by rw [hb, if_pos h]
    have hl2 : ¬ k = 1 → k = 2 → outL l = outF (addI n (lc t)) (l.drop (i + 1)) := fun h h2 => by rw [hb, if_neg h, if_pos h2]
    have hl3 : ¬ k = 1 → ¬ k = 2 → outL l = outF n (l.drop (i + 1)) := fun h h2 => by rw [hb, if_neg h, if_neg h2]
    have hr := k8 hn1 (show 0 ≤ max m 0 by omega)
    have hr2 := k8 hn1 (show 0 ≤ (lc t : Int) by omega)
    have hlt2 := kDY t
    simp (disch := omega) only [aR,N0,N1,N2,N3,N4,N5,Z0,Z1,Z2,Z3,Z4,Z5,Z6,Z7,Z8,Z9,Z10,Zc,↓reduceIte,reduceCtorEq, kA, h, e1, kD]
    (repeat (with_reducible refine And.intro ?_ ?_; focus (first | omega | exact kG | kernel_rfl)))
    (try ((with_reducible first | refine kC (fun q1 => ?_) (fun q1 => ?_) | refine kF (fun q1 => ?_) (fun q1 => ?_)) <;> simp (disch := omega) only [aR,N0,N1,N2,N3,N4,N5,Z0,Z1,Z2,Z3,Z4,Z5,Z6,Z7,Z8,Z9,Z10,Zc,↓reduceIte,reduceCtorEq, kA, q1, zU] <;> (with_reducible first | (refine And.intro ?_ ?_; focus (first | omega | exact kG | kernel_rfl)); (repeat (with_reducible refine And.intro ?_ ?_; focus (first | omega | exact kG | kernel_rfl))); (try simp (disch := omega) only [aR,N0,N1,N2,N3,N4,N5,Z0,Z1,Z2,Z3,Z4,Z5,Z6,Z7,Z8,Z9,Z10,Zc,↓reduceIte,reduceCtorEq, kA, q1, zU]) | skip) <;> (try ((with_reducible first | refine kC (fun q2 => ?_) (fun q2 => ?_) | refine kF (fun q2 => ?_) (fun q2 => ?_)) <;> simp (disch := omega) only [aR,N0,N1,N2,N3,N4,N5,Z0,Z1,Z2,Z3,Z4,Z5,Z6,Z7,Z8,Z9,Z10,Zc,↓reduceIte,reduceCtorEq, kA, q2, zU] <;> (with_reducible first | (refine And.intro ?_ ?_; focus (first | omega | exact kG | kernel_rfl)); (repeat (with_reducible refine And.intro ?_ ?_; focus (first | omega | exact kG | kernel_rfl))); (try simp (disch := omega) only [aR,N0,N1,N2,N3,N4,N5,Z0,Z1,Z2,Z3,Z4,Z5,Z6,Z7,Z8,Z9,Z10,Zc,↓reduceIte,reduceCtorEq, kA, q2, zU]) | skip) <;> skip))))
    all_goals first
      | (refine kAn (by simp [kB]) ⟨hn1, hn2⟩ (by omega) ?_
         simp (disch := omega) only [aR,N0,N1,N2,N3,N4,N5,Z0,Z1,Z2,Z3,Z4,Z5,Z6,Z7,Z8,Z9,Z10,Zc,↓reduceIte,reduceCtorEq, kA]
         refine kI ⟨(addI n (max m 0), i + 1), by omega, hr.1, hr.2, hl1 (by omega)⟩ (by simp only; omega) ?_
         rw [hSt]; refine kH [] [] ?_
         simp only [aR,N0,N1,N2,N3,N4,N5,Z0,Z1,Z2,Z3,Z4,Z5,Z6,Z7,Z8,Z9,Z10,Zc,↓reduceIte,reduceCtorEq] <;> ((repeat' apply And.intro) <;> first | rfl | omega | trivial))
      | (refine call_rc (by simp [kB]) hci.2 ?_
         simp (disch := omega) only [aR,N0,N1,N2,N3,N4,N5,Z0,Z1,Z2,Z3,Z4,Z5,Z6,Z7,Z8,Z9,Z10,Zc,↓reduceIte,reduceCtorEq, kA]
         refine kAn (by simp [kB]) ⟨hn1, hn2⟩ (by omega) ?_
         simp (disch := omega) only [aR,N0,N1,N2,N3,N4,N5,Z0,Z1,Z2,Z3,Z4,Z5,Z6,Z7,Z8,Z9,Z10,Zc,↓reduceIte,reduceCtorEq, kA]
         refine kI ⟨(addI n (lc t), i + 1), by omega, hr2.1, hr2.2, hl2 (by omega) (by omega)⟩ (by simp only; omega) ?_
         rw [hSt]; refine kH [] [] ?_
         simp only [aR,N0,N1,N2,N3,N4,N5,Z0,Z1,Z2,Z3,Z4,Z5,Z6,Z7,Z8,Z9,Z10,Zc,↓reduceIte,reduceCtorEq] <;> ((repeat' apply And.intro) <;> first | rfl | omega | trivial))
      | (refine kI ⟨(n, i + 1), by omega, hn1, hn2, hl3 (by omega) (by omega)⟩ (by simp only; omega) ?_
         rw [hSt]; refine kH [] [] ?_
         simp only [aR,N0,N1,N2,N3,N4,N5,Z0,Z1,Z2,Z3,Z4,Z5,Z6,Z7,Z8,Z9,Z10,Zc,↓reduceIte,reduceCtorEq] <;> ((repeat' apply And.intro) <;> first | rfl | omega | trivial))
      | trace_state
  · simp only [aR,N0,N1,N2,N3,N4,N5,Z0,Z1,Z2,Z3,Z4,Z5,Z6,Z7,Z8,Z9,Z10,Zc,↓reduceIte,reduceCtorEq, h]
    rw [List.drop_of_length_le (by omega)] at hb
    rw [hb]; rfl
theorem call_out {Γ : Env} (hf : Γ.get 117 = some kD8) {σ : AS} {dr : Bool} {l : List Cp} {t : Nat} {ys : List AV} {d : Option Nat} {K : AS → Prop} (hy : ys = kU l) (h : okL l)
    (hk : cont σ d (.v (.int .i64 (outL l))) K) : kR Tryz.prog Γ dr σ 117 [.sl t 3 ys] d K := by
  subst hy
  exact kK (C := kD8) (i := ⟨l, h⟩) hf rfl rfl rfl rfl (fun _ h => h) rfl hk
abbrev kBB (F : Cp → Bool) : Con where
  ι := { c : Cp // c.t.length ≤ 1099511627776 }
  args := fun c => [cA c.1]
  post := fun c r => r = .v (.bool (F c.1))
  plain := true
theorem some_good : Rw.Good Tryz.prog 119 (kBB qJ) := by
  have hΓ : kL Tryz.prog [] := kJ
  refine kS (nn := 22) hΓ Tryz.func119 (by kernel_rfl) rfl (show Tryz.f119.results.toList = [.tmp 2] from rfl) (fun _ => rfl) (fun _ => rfl) ?_
  rintro ⟨⟨k, n, t⟩, ht⟩
  simp only at ht
  simp only [aR,N0,N1,N2,N3,N4,N5,Z0,Z1,Z2,Z3,Z4,Z5,Z6,Z7,Z8,Z9,Z10,Zc,↓reduceIte,reduceCtorEq, cA, qJ]
  (try ((with_reducible first | refine kC (fun q1 => ?_) (fun q1 => ?_) | refine kF (fun q1 => ?_) (fun q1 => ?_)) <;> simp (disch := omega) only [aR,N0,N1,N2,N3,N4,N5,Z0,Z1,Z2,Z3,Z4,Z5,Z6,Z7,Z8,Z9,Z10,Zc,↓reduceIte,reduceCtorEq, kA, q1] <;> (with_reducible first | (refine And.intro ?_ ?_; focus (first | omega | exact kG | kernel_rfl)); (repeat (with_reducible refine And.intro ?_ ?_; focus (first | omega | exact kG | kernel_rfl))); (try simp (disch := omega) only [aR,N0,N1,N2,N3,N4,N5,Z0,Z1,Z2,Z3,Z4,Z5,Z6,Z7,Z8,Z9,Z10,Zc,↓reduceIte,reduceCtorEq, kA, q1]) | skip) <;> (try ((with_reducible first | refine kC (fun q2 => ?_) (fun q2 => ?_) | refine kF (fun q2 => ?_) (fun q2 => ?_)) <;> simp (disch := omega) only [aR,N0,N1,N2,N3,N4,N5,Z0,Z1,Z2,Z3,Z4,Z5,Z6,Z7,Z8,Z9,Z10,Zc,↓reduceIte,reduceCtorEq, kA, q2] <;> (with_reducible first | (refine And.intro ?_ ?_; focus (first | omega | exact kG | kernel_rfl)); (repeat (with_reducible refine And.intro ?_ ?_; focus (first | omega | exact kG | kernel_rfl))); (try simp (disch := omega) only [aR,N0,N1,N2,N3,N4,N5,Z0,Z1,Z2,Z3,Z4,Z5,Z6,Z7,Z8,Z9,Z10,Zc,↓reduceIte,reduceCtorEq, kA, q2]) | skip) <;> (try ((with_reducible first | refine kC (fun q3 => ?_) (fun q3 => ?_) | refine kF (fun q3 => ?_) (fun q3 => ?_)) <;> simp (disch := omega) only [aR,N0,N1,N2,N3,N4,N5,Z0,Z1,Z2,Z3,Z4,Z5,Z6,Z7,Z8,Z9,Z10,Zc,↓reduceIte,reduceCtorEq, kA, q3] <;> (with_reducible first | (refine And.intro ?_ ?_; focus (first | omega | exact kG | kernel_rfl)); (repeat (with_reducible refine And.intro ?_ ?_; focus (first | omega | exact kG | kernel_rfl))); (try simp (disch := omega) only [aR,N0,N1,N2,N3,N4,N5,Z0,Z1,Z2,Z3,Z4,Z5,Z6,Z7,Z8,Z9,Z10,Zc,↓reduceIte,reduceCtorEq, kA, q3]) | skip) <;> (try ((with_reducible first | refine kC (fun q4 => ?_) (fun q4 => ?_) | refine kF (fun q4 => ?_) (fun q4 => ?_)) <;> simp (disch := omega) only [aR,N0,N1,N2,N3,N4,N5,Z0,Z1,Z2,Z3,Z4,Z5,Z6,Z7,Z8,Z9,Z10,Zc,↓reduceIte,reduceCtorEq, kA, q4] <;> (with_reducible first | (refine And.intro ?_ ?_; focus (first | omega | exact kG | kernel_rfl)); (repeat (with_reducible refine And.intro ?_ ?_; focus (first | omega | exact kG | kernel_rfl))); (try simp (disch := omega) only [aR,N0,N1,N2,N3,N4,N5,Z0,Z1,Z2,Z3,Z4,Z5,Z6,Z7,Z8,Z9,Z10,Zc,↓reduceIte,reduceCtorEq, kA, q4]) | skip) <;> skip))))))))
  all_goals first
    | done
    | (simp [*]; done)
    | trace_state
theorem kC6 {Γ : Env} (hf : Γ.get 119 = some (kBB qJ)) {σ : AS} {dr : Bool} {c : Cp} {d : Option Nat} {K : AS → Prop} (h : c.t.length ≤ 1099511627776)
    (hk : cont σ d (.v (.bool (qJ c))) K) : kR Tryz.prog Γ dr σ 119 [.agg [.v (.int .i64 c.k), .v (.int .i64 c.n), .v (sv c.t)]] d K :=
  kK (C := kBB qJ) (i := ⟨c, h⟩) hf rfl rfl rfl rfl (fun _ h => h) rfl hk
theorem sound_good : Rw.Good Tryz.prog 127 (kBB qE) := by
  have hΓ : kL Tryz.prog [(130, kAE)] := (kE kFD kJ)
  refine kS (nn := 31) hΓ Tryz.func127 (by kernel_rfl) rfl (show Tryz.f127.results.toList = [.tmp 2] from rfl) (fun _ => rfl) (fun _ => rfl) ?_
  rintro ⟨⟨k, n, t⟩, ht⟩
  simp only at ht
  simp only [aR,N0,N1,N2,N3,N4,N5,Z0,Z1,Z2,Z3,Z4,Z5,Z6,Z7,Z8,Z9,Z10,Zc,↓reduceIte,reduceCtorEq, cA, qE]
  (try ((with_reducible first | refine kC (fun q1 => ?_) (fun q1 => ?_) | refine kF (fun q1 => ?_) (fun q1 => ?_)) <;> simp (disch := omega) only [aR,N0,N1,N2,N3,N4,N5,Z0,Z1,Z2,Z3,Z4,Z5,Z6,Z7,Z8,Z9,Z10,Zc,↓reduceIte,reduceCtorEq, kA, q1] <;> (with_reducible first | (refine And.intro ?_ ?_; focus (first | omega | exact kG | kernel_rfl)); (repeat (with_reducible refine And.intro ?_ ?_; focus (first | omega | exact kG | kernel_rfl))); (try simp (disch := omega) only [aR,N0,N1,N2,N3,N4,N5,Z0,Z1,Z2,Z3,Z4,Z5,Z6,Z7,Z8,Z9,Z10,Zc,↓reduceIte,reduceCtorEq, kA, q1]) | skip) <;> (try ((with_reducible first | refine kC (fun q2 => ?_) (fun q2 => ?_) | refine kF (fun q2 => ?_) (fun q2 => ?_)) <;> simp (disch := omega) only [aR,N0,N1,N2,N3,N4,N5,Z0,Z1,Z2,Z3,Z4,Z5,Z6,Z7,Z8,Z9,Z10,Zc,↓reduceIte,reduceCtorEq, kA, q2] <;> (with_reducible first | (refine And.intro ?_ ?_; focus (first | omega | exact kG | kernel_rfl)); (repeat (with_reducible refine And.intro ?_ ?_; focus (first | omega | exact kG | kernel_rfl))); (try simp (disch := omega) only [aR,N0,N1,N2,N3,N4,N5,Z0,Z1,Z2,Z3,Z4,Z5,Z6,Z7,Z8,Z9,Z10,Zc,↓reduceIte,reduceCtorEq, kA, q2]) | skip) <;> (try ((with_reducible first | refine kC (fun q3 => ?_) (fun q3 => ?_) | refine kF (fun q3 => ?_) (fun q3 => ?_)) <;> simp (disch := omega) only [aR,N0,N1,N2,N3,N4,N5,Z0,Z1,Z2,Z3,Z4,Z5,Z6,Z7,Z8,Z9,Z10,Zc,↓reduceIte,reduceCtorEq, kA, q3] <;> (with_reducible first | (refine And.intro ?_ ?_; focus (first | omega | exact kG | kernel_rfl)); (repeat (with_reducible refine And.intro ?_ ?_; focus (first | omega | exact kG | kernel_rfl))); (try simp (disch := omega) only [aR,N0,N1,N2,N3,N4,N5,Z0,Z1,Z2,Z3,Z4,Z5,Z6,Z7,Z8,Z9,Z10,Zc,↓reduceIte,reduceCtorEq, kA, q3]) | skip) <;> (try ((with_reducible first | refine kC (fun q4 => ?_) (fun q4 => ?_) | refine kF (fun q4 => ?_) (fun q4 => ?_)) <;> simp (disch := omega) only [aR,N0,N1,N2,N3,N4,N5,Z0,Z1,Z2,Z3,Z4,Z5,Z6,Z7,Z8,Z9,Z10,Zc,↓reduceIte,reduceCtorEq, kA, q4] <;> (with_reducible first | (refine And.intro ?_ ?_; focus (first | omega | exact kG | kernel_rfl)); (repeat (with_reducible refine And.intro ?_ ?_; focus (first | omega | exact kG | kernel_rfl))); (try simp (disch := omega) only [aR,N0,N1,N2,N3,N4,N5,Z0,Z1,Z2,Z3,Z4,Z5,Z6,Z7,Z8,Z9,Z10,Zc,↓reduceIte,reduceCtorEq, kA, q4]) | skip) <;> skip))))))))
  all_goals first
    | done
    | (refine kFY (by simp [kB]) ht ?_
       simp only [aR,N0,N1,N2,N3,N4,N5,Z0,Z1,Z2,Z3,Z4,Z5,Z6,Z7,Z8,Z9,Z10,Zc,↓reduceIte,reduceCtorEq] <;> simp [*])
    | (simp [*]; done)
    | trace_state
theorem call_sound {Γ : Env} (hf : Γ.get 127 = some (kBB qE)) {σ : AS} {dr : Bool} {c : Cp} {d : Option Nat} {K : AS → Prop} (h : c.t.length ≤ 1099511627776)
    (hk : cont σ d (.v (.bool (qE c))) K) : kR Tryz.prog Γ dr σ 127 [.agg [.v (.int .i64 c.k), .v (.int .i64 c.n), .v (sv c.t)]] d K :=
  kK (C := kBB qE) (i := ⟨c, h⟩) hf rfl rfl rfl rfl (fun _ h => h) rfl hk
end Go.Proofs
end
