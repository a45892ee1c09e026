/-
  Names: what may be one. Transactions: their acts, one by one. txn.names, Plain, same. Transactions: whether they may be. txn.one, puts, Check.
-/
import Derived.Test.YtmhpninemdmbkaaGreatDoorXZUo1
import Derived.Test.YtmhpninemdmbkaaGreatDoorXZUe2b
import Derived.Test.YtmhpninemdmbkaaGreatDoorXZUo2
set_option linter.unusedSimpArgs false
set_option linter.unusedVariables false
set_option linter.defProp false

-- ZUn1
section
namespace Go.Proofs
open Go Go.Rw
open _root_.Nat renaming reduceAdd → N0, reduceSub → N1, reduceMul → N2, reduceLT → N3, reduceLeDiff → N4, reduceEqDiff → N5
open _root_.Int renaming reduceNeg → Z0, reduceAdd → Z1, reduceSub → Z2, reduceMul → Z3, reduceGT → Z4, reduceGE → Z5, reduceLT → Z6, reduceLE → Z7, reduceEq → Z8, reduceNe → Z9, reduceToNat → Z10, cast_ofNat_Int → Zc
set_option maxRecDepth 100000
def zS (c : UInt8) : Bool := decide ((97 ≤ c.toNat ∧ c.toNat ≤ 122) ∨ (48 ≤ c.toNat ∧ c.toNat ≤ 57) ∨ c.toNat = 46 ∨ c.toNat = 45 ∨ c.toNat = 95)
def jI (s : List UInt8) : Bool := s.all zS && decide (1 ≤ s.length ∧ s.length ≤ 20 ∧ s ≠ [46] ∧ s ≠ [46, 46])
theorem bytesA_eq (l : List UInt8) : kFS l = l.map fun b => .v (.int .u8 b.toNat) := by simp [kFS, zV]
theorem kCo (l : List UInt8) : (kFS l).length = l.length := by simp [bytesA_eq]
theorem bytesA_getD (l : List UInt8) {i : Nat} (h : i < l.length) : (kFS l).getD i .any = .v (.int .u8 l[i].toNat) := by simp [bytesA_eq, List.getD_eq_getElem?_getD, h]
abbrev kCZ : Con where
  ι := UInt8
  args := fun b => [.v (.int .u8 b.toNat)]
  post := fun b r => r = .v (.bool (zS b))
  plain := true
theorem letter_good : Rw.Good Tryz.prog 114 kCZ := by
  have hΓ : kL Tryz.prog [] := kJ
  refine kS (nn := 29) hΓ Tryz.func114 (by kernel_rfl) rfl (show Tryz.f114.results.toList = [.tmp 2] from rfl) (fun _ => rfl) (fun _ => rfl) ?_
  intro b
  simp only [aR,N0,N1,N2,N3,N4,N5,Z0,Z1,Z2,Z3,Z4,Z5,Z6,Z7,Z8,Z9,Z10,Zc,↓reduceIte,reduceCtorEq]
  (try ((with_reducible first | refine kC (fun q1 => ?_) (fun q1 => ?_) | refine kF (fun q1 => ?_) (fun q1 => ?_)) <;> simp (disch := omega) only [aR,N0,N1,N2,N3,N4,N5,Z0,Z1,Z2,Z3,Z4,Z5,Z6,Z7,Z8,Z9,Z10,Zc,↓reduceIte,reduceCtorEq, kA, q1] <;> (with_reducible first | (refine And.intro ?_ ?_; focus (first | omega | exact kG | kernel_rfl)); (repeat (with_reducible refine And.intro ?_ ?_; focus (first | omega | exact kG | kernel_rfl))); (try simp (disch := omega) only [aR,N0,N1,N2,N3,N4,N5,Z0,Z1,Z2,Z3,Z4,Z5,Z6,Z7,Z8,Z9,Z10,Zc,↓reduceIte,reduceCtorEq, kA, q1]) | skip) <;> (try ((with_reducible first | refine kC (fun q2 => ?_) (fun q2 => ?_) | refine kF (fun q2 => ?_) (fun q2 => ?_)) <;> simp (disch := omega) only [aR,N0,N1,N2,N3,N4,N5,Z0,Z1,Z2,Z3,Z4,Z5,Z6,Z7,Z8,Z9,Z10,Zc,↓reduceIte,reduceCtorEq, kA, q2] <;> (with_reducible first | (refine And.intro ?_ ?_; focus (first | omega | exact kG | kernel_rfl)); (repeat (with_reducible refine And.intro ?_ ?_; focus (first | omega | exact kG | kernel_rfl))); (try simp (disch := omega) only [aR,N0,N1,N2,N3,N4,N5,Z0,Z1,Z2,Z3,Z4,Z5,Z6,Z7,Z8,Z9,Z10,Zc,↓reduceIte,reduceCtorEq, kA, q2]) | skip) <;> (try ((with_reducible first | refine kC (fun q3 => ?_) (fun q3 => ?_) | refine kF (fun q3 => ?_) (fun q3 => ?_)) <;> simp (disch := omega) only [aR,N0,N1,N2,N3,N4,N5,Z0,Z1,Z2,Z3,Z4,Z5,Z6,Z7,Z8,Z9,Z10,Zc,↓reduceIte,reduceCtorEq, kA, q3] <;> (with_reducible first | (refine And.intro ?_ ?_; focus (first | omega | exact kG | kernel_rfl)); (repeat (with_reducible refine And.intro ?_ ?_; focus (first | omega | exact kG | kernel_rfl))); (try simp (disch := omega) only [aR,N0,N1,N2,N3,N4,N5,Z0,Z1,Z2,Z3,Z4,Z5,Z6,Z7,Z8,Z9,Z10,Zc,↓reduceIte,reduceCtorEq, kA, q3]) | skip) <;> (try ((with_reducible first | refine kC (fun q4 => ?_) (fun q4 => ?_) | refine kF (fun q4 => ?_) (fun q4 => ?_)) <;> simp (disch := omega) only [aR,N0,N1,N2,N3,N4,N5,Z0,Z1,Z2,Z3,Z4,Z5,Z6,Z7,Z8,Z9,Z10,Zc,↓reduceIte,reduceCtorEq, kA, q4] <;> (with_reducible first | (refine And.intro ?_ ?_; focus (first | omega | exact kG | kernel_rfl)); (repeat (with_reducible refine And.intro ?_ ?_; focus (first | omega | exact kG | kernel_rfl))); (try simp (disch := omega) only [aR,N0,N1,N2,N3,N4,N5,Z0,Z1,Z2,Z3,Z4,Z5,Z6,Z7,Z8,Z9,Z10,Zc,↓reduceIte,reduceCtorEq, kA, q4]) | skip) <;> (try ((with_reducible first | refine kC (fun q5 => ?_) (fun q5 => ?_) | refine kF (fun q5 => ?_) (fun q5 => ?_)) <;> simp (disch := omega) only [aR,N0,N1,N2,N3,N4,N5,Z0,Z1,Z2,Z3,Z4,Z5,Z6,Z7,Z8,Z9,Z10,Zc,↓reduceIte,reduceCtorEq, kA, q5] <;> (with_reducible first | (refine And.intro ?_ ?_; focus (first | omega | exact kG | kernel_rfl)); (repeat (with_reducible refine And.intro ?_ ?_; focus (first | omega | exact kG | kernel_rfl))); (try simp (disch := omega) only [aR,N0,N1,N2,N3,N4,N5,Z0,Z1,Z2,Z3,Z4,Z5,Z6,Z7,Z8,Z9,Z10,Zc,↓reduceIte,reduceCtorEq, kA, q5]) | skip) <;> (try ((with_reducible first | refine kC (fun q6 => ?_) (fun q6 => ?_) | refine kF (fun q6 => ?_) (fun q6 => ?_)) <;> simp (disch := omega) only [aR,N0,N1,N2,N3,N4,N5,Z0,Z1,Z2,Z3,Z4,Z5,Z6,Z7,Z8,Z9,Z10,Zc,↓reduceIte,reduceCtorEq, kA, q6] <;> (with_reducible first | (refine And.intro ?_ ?_; focus (first | omega | exact kG | kernel_rfl)); (repeat (with_reducible refine And.intro ?_ ?_; focus (first | omega | exact kG | kernel_rfl))); (try simp (disch := omega) only [aR,N0,N1,N2,N3,N4,N5,Z0,Z1,Z2,Z3,Z4,Z5,Z6,Z7,Z8,Z9,Z10,Zc,↓reduceIte,reduceCtorEq, kA, q6]) | skip) <;> (try ((with_reducible first | refine kC (fun q7 => ?_) (fun q7 => ?_) | refine kF (fun q7 => ?_) (fun q7 => ?_)) <;> simp (disch := omega) only [aR,N0,N1,N2,N3,N4,N5,Z0,Z1,Z2,Z3,Z4,Z5,Z6,Z7,Z8,Z9,Z10,Zc,↓reduceIte,reduceCtorEq, kA, q7] <;> (with_reducible first | (refine And.intro ?_ ?_; focus (first | omega | exact kG | kernel_rfl)); (repeat (with_reducible refine And.intro ?_ ?_; focus (first | omega | exact kG | kernel_rfl))); (try simp (disch := omega) only [aR,N0,N1,N2,N3,N4,N5,Z0,Z1,Z2,Z3,Z4,Z5,Z6,Z7,Z8,Z9,Z10,Zc,↓reduceIte,reduceCtorEq, kA, q7]) | skip) <;> skip))))))))))))))
  all_goals (unfold zS; rw [Bool.eq_iff_iff]; simp only [decide_eq_true_eq, Bool.false_eq_true, true_iff, false_iff, iff_true, iff_false]; omega)
theorem call_letter {Γ : Env} (hf : Γ.get 114 = some kCZ) {σ : AS} {dr : Bool} {b : UInt8} {n : Int} {d : Option Nat} {K : AS → Prop} (hn : n = b.toNat)
    (hk : cont σ d (.v (.bool (zS b))) K) : kR Tryz.prog Γ dr σ 114 [.v (.int .u8 n)] d K := by
  subst hn
  exact kK (C := kCZ) (i := b) hf rfl rfl rfl rfl (fun _ h => h) rfl hk
abbrev kCj : Con where
  ι := Str
  args := fun s => [.v (sv s.1)]
  post := fun s r => r = .v (.bool (jI s.1))
  plain := true
theorem name_good : Rw.Good Tryz.prog 89 kCj := by
  have hΓ : kL Tryz.prog [(114, kCZ)] := (kE letter_good kJ)
  refine kS (nn := 32) hΓ Tryz.func89 (by kernel_rfl) rfl (show Tryz.f89.results.toList = [.tmp 2] from rfl) (fun _ => rfl) (fun _ => rfl) ?_
  rintro ⟨s, hs⟩
  simp only [aR,N0,N1,N2,N3,N4,N5,Z0,Z1,Z2,Z3,Z4,Z5,Z6,Z7,Z8,Z9,Z10,Zc,↓reduceIte,reduceCtorEq, kCo]
  (repeat (with_reducible refine And.intro ?_ ?_; focus (first | omega | exact kG | kernel_rfl)))
  obtain ⟨St, hSt⟩ : ∃ St : { i : Nat // i ≤ s.length ∧ (s.take i).all zS = true } → AS, ∀ i, St i = AS.of 32 [(0, .v (sv s)), (6, .sl 0 1 (kFS s)), (7, .v (.int .i64 s.length)), (8, .v (.int .i64 i.1))] [] [] := ⟨_, fun _ => rfl⟩
  refine kX hΓ St (fun i => s.length - i.1) ⟨0, by omega, by simp⟩ (by rw [hSt]; refine kH [] [] ?_; simp only [aR,N0,N1,N2,N3,N4,N5,Z0,Z1,Z2,Z3,Z4,Z5,Z6,Z7,Z8,Z9,Z10,Zc,↓reduceIte,reduceCtorEq] <;> ((repeat' apply And.intro) <;> first | rfl | omega | trivial)) ?_
  rintro ⟨i, hi, ha⟩
  rw [hSt]
  simp only
  simp only [aR,N0,N1,N2,N3,N4,N5,Z0,Z1,Z2,Z3,Z4,Z5,Z6,Z7,Z8,Z9,Z10,Zc,↓reduceIte,reduceCtorEq, kCo]
  (with_reducible first | refine kC (fun h => ?_) (fun h => ?_) | refine kF (fun h => ?_) (fun h => ?_))
  · have hlt : i < s.length := by omega
    have e1 := bytesA_getD s hlt
    have e2 : (s.take (i + 1)).all zS = zS s[i] := by rw [List.take_succ_eq_append_getElem hlt, List.all_append, ha]; simp
    have e3 : zS s[i] = false → jI s = false := fun hc => by
      have : s.all zS = false := List.all_eq_false.2 ⟨s[i], List.getElem_mem hlt, by simp [hc]⟩
      rw [jI, this]; rfl
    generalize s[i] = c at *
    simp only [aR,N0,N1,N2,N3,N4,N5,Z0,Z1,Z2,Z3,Z4,Z5,Z6,Z7,Z8,Z9,Z10,Zc,↓reduceIte,reduceCtorEq, h, e1, kCo]
    (repeat (with_reducible refine And.intro ?_ ?_; focus (first | omega | exact kG | kernel_rfl)))
    refine call_letter (by simp [kB]) rfl ?_
    cases hc : zS c
    · simp only [aR,N0,N1,N2,N3,N4,N5,Z0,Z1,Z2,Z3,Z4,Z5,Z6,Z7,Z8,Z9,Z10,Zc,↓reduceIte,reduceCtorEq, hc]
      rw [e3 hc]
    · rw [hc] at e2
      simp only [aR,N0,N1,N2,N3,N4,N5,Z0,Z1,Z2,Z3,Z4,Z5,Z6,Z7,Z8,Z9,Z10,Zc,↓reduceIte,reduceCtorEq, hc, kA (n := (i : Int) + 1) (by omega) (by omega)]
      refine kI ⟨i + 1, by omega, e2⟩ (by simp only; omega) ?_
      rw [hSt]; refine kH [] [] ?_
      simp only [aR,N0,N1,N2,N3,N4,N5,Z0,Z1,Z2,Z3,Z4,Z5,Z6,Z7,Z8,Z9,Z10,Zc,↓reduceIte,reduceCtorEq] <;> ((repeat' apply And.intro) <;> first | rfl | omega | trivial)
  · rw [List.take_of_length_le (by omega)] at ha
    have e0 : jI s = decide (1 ≤ s.length ∧ s.length ≤ 20 ∧ s ≠ [46] ∧ s ≠ [46, 46]) := by rw [jI, ha]; rfl
    simp only [aR,N0,N1,N2,N3,N4,N5,Z0,Z1,Z2,Z3,Z4,Z5,Z6,Z7,Z8,Z9,Z10,Zc,↓reduceIte,reduceCtorEq, h, e0]
    (try ((with_reducible first | refine kC (fun q1 => ?_) (fun q1 => ?_) | refine kF (fun q1 => ?_) (fun q1 => ?_)) <;> simp (disch := omega) only [aR,N0,N1,N2,N3,N4,N5,Z0,Z1,Z2,Z3,Z4,Z5,Z6,Z7,Z8,Z9,Z10,Zc,↓reduceIte,reduceCtorEq, kA, q1] <;> (with_reducible first | (refine And.intro ?_ ?_; focus (first | omega | exact kG | kernel_rfl)); (repeat (with_reducible refine And.intro ?_ ?_; focus (first | omega | exact kG | kernel_rfl))); (try simp (disch := omega) only [aR,N0,N1,N2,N3,N4,N5,Z0,Z1,Z2,Z3,Z4,Z5,Z6,Z7,Z8,Z9,Z10,Zc,↓reduceIte,reduceCtorEq, kA, q1]) | skip) <;> (try ((with_reducible first | refine kC (fun q2 => ?_) (fun q2 => ?_) | refine kF (fun q2 => ?_) (fun q2 => ?_)) <;> simp (disch := omega) only [aR,N0,N1,N2,N3,N4,N5,Z0,Z1,Z2,Z3,Z4,Z5,Z6,Z7,Z8,Z9,Z10,Zc,↓reduceIte,reduceCtorEq, kA, q2] <;> (with_reducible first | (refine And.intro ?_ ?_; focus (first | omega | exact kG | kernel_rfl)); (repeat (with_reducible refine And.intro ?_ ?_; focus (first | omega | exact kG | kernel_rfl))); (try simp (disch := omega) only [aR,N0,N1,N2,N3,N4,N5,Z0,Z1,Z2,Z3,Z4,Z5,Z6,Z7,Z8,Z9,Z10,Zc,↓reduceIte,reduceCtorEq, kA, q2]) | skip) <;> (try ((with_reducible first | refine kC (fun q3 => ?_) (fun q3 => ?_) | refine kF (fun q3 => ?_) (fun q3 => ?_)) <;> simp (disch := omega) only [aR,N0,N1,N2,N3,N4,N5,Z0,Z1,Z2,Z3,Z4,Z5,Z6,Z7,Z8,Z9,Z10,Zc,↓reduceIte,reduceCtorEq, kA, q3] <;> (with_reducible first | (refine And.intro ?_ ?_; focus (first | omega | exact kG | kernel_rfl)); (repeat (with_reducible refine And.intro ?_ ?_; focus (first | omega | exact kG | kernel_rfl))); (try simp (disch := omega) only [aR,N0,N1,N2,N3,N4,N5,Z0,Z1,Z2,Z3,Z4,Z5,Z6,Z7,Z8,Z9,Z10,Zc,↓reduceIte,reduceCtorEq, kA, q3]) | skip) <;> (try ((with_reducible first | refine kC (fun q4 => ?_) (fun q4 => ?_) | refine kF (fun q4 => ?_) (fun q4 => ?_)) <;> simp (disch := omega) only [aR,N0,N1,N2,N3,N4,N5,Z0,Z1,Z2,Z3,Z4,Z5,Z6,Z7,Z8,Z9,Z10,Zc,↓reduceIte,reduceCtorEq, kA, q4] <;> (with_reducible first | (refine And.intro ?_ ?_; focus (first | omega | exact kG | kernel_rfl)); (repeat (with_reducible refine And.intro ?_ ?_; focus (first | omega | exact kG | kernel_rfl))); (try simp (disch := omega) only [aR,N0,N1,N2,N3,N4,N5,Z0,Z1,Z2,Z3,Z4,Z5,Z6,Z7,Z8,Z9,Z10,Zc,↓reduceIte,reduceCtorEq, kA, q4]) | skip) <;> skip))))))))
    all_goals (rw [e0, Bool.eq_iff_iff]; simp only [decide_eq_true_eq, Bool.false_eq_true, false_iff, ne_eq])
    all_goals first
      | exact ⟨fun h5 => ⟨by omega, by omega, by assumption, h5⟩, fun h5 => h5.2.2.2⟩
      | (rintro ⟨h5, h6, h7, h8⟩; first | omega | contradiction)
theorem kEj {Γ : Env} {f : Nat} (hf : Γ.get f = some kCj) {σ : AS} {dr : Bool} {s : List UInt8} {d : Option Nat} {K : AS → Prop} (hs : s.length ≤ 1099511627776)
    (hk : cont σ d (.v (.bool (jI s))) K) : kR Tryz.prog Γ dr σ f [.v (sv s)] d K :=
  kK (C := kCj) (i := ⟨s, hs⟩) hf rfl rfl rfl rfl (fun _ h => h) rfl hk
end Go.Proofs
end
-- ZUn2
section
namespace Go.Proofs
open Go Go.Rw
open _root_.Nat renaming reduceAdd → N0, reduceSub → N1, reduceMul → N2, reduceLT → N3, reduceLeDiff → N4, reduceEqDiff → N5
open _root_.Int renaming reduceNeg → Z0, reduceAdd → Z1, reduceSub → Z2, reduceMul → Z3, reduceGT → Z4, reduceGE → Z5, reduceLT → Z6, reduceLE → Z7, reduceEq → Z8, reduceNe → Z9, reduceToNat → Z10, cast_ofNat_Int → Zc
set_option maxRecDepth 100000
def kFL (a : Ac) : Bool := decide (a.k = 1 ∨ a.k = 3)
def zL (a : Ac) : Ac :=
  if a.k = 1 then ⟨1, a.id, a.par, a.nm, a.dir, []⟩ else if a.k = 2 then ⟨2, a.id, 0, [], false, []⟩ else if a.k = 3 then ⟨3, a.id, a.par, a.nm, false, []⟩
  else if a.k = 4 then ⟨4, a.id, 0, [], false, a.ops⟩ else ⟨a.k, 0, 0, [], false, []⟩
theorem plainA_ok {a : Ac} (h : okL a.ops) : okL (zL a).ops := by
  have h0 : okL ([] : List Cp) := ⟨by decide, by decide, fun c hc => by cases hc⟩
  unfold zL
  repeat' split
  all_goals first | exact h0 | exact h
abbrev AcS := { a : Ac // okL a.ops }
abbrev kDi : Con where
  ι := Ac
  args := fun a => [aA a]
  post := fun a r => r = .v (.bool (kFL a))
  plain := true
theorem names_good : Rw.Good Tryz.prog 88 kDi := by
  have hΓ : kL Tryz.prog [] := kJ
  refine kS (nn := 11) hΓ Tryz.func88 (by kernel_rfl) rfl (show Tryz.f88.results.toList = [.tmp 2] from rfl) (fun _ => rfl) (fun x => by simp [AV.erL, kAd]) ?_
  intro a
  obtain ⟨k, id, par, nm, dir, ops⟩ := a
  simp only [aR,N0,N1,N2,N3,N4,N5,Z0,Z1,Z2,Z3,Z4,Z5,Z6,Z7,Z8,Z9,Z10,Zc,↓reduceIte,reduceCtorEq, aA]
  by_cases h1 : k = 1
  · subst h1
    simp only [aR,N0,N1,N2,N3,N4,N5,Z0,Z1,Z2,Z3,Z4,Z5,Z6,Z7,Z8,Z9,Z10,Zc,↓reduceIte,reduceCtorEq, kFL]
  · simp only [aR,N0,N1,N2,N3,N4,N5,Z0,Z1,Z2,Z3,Z4,Z5,Z6,Z7,Z8,Z9,Z10,Zc,↓reduceIte,reduceCtorEq, h1]
    simp [kFL, h1]
abbrev kBY : Con where
  ι := AcS
  args := fun a => [aA a.1]
  post := fun a r => r = aA (zL a.1)
theorem plain_good : Rw.Good Tryz.prog 87 kBY := by
  have hΓ : kL Tryz.prog [(69, kAG)] := (kE kA9 kJ)
  refine good_fna Tryz.func87 (by kernel_rfl) rfl (show Tryz.f87.results.toList = [.cell 2 46] from rfl) (nn := 49) (fun _ => rfl) (fun x => by simp [AV.erL, kAd]) ?_
  rintro ⟨a, oa⟩
  refine kBv hΓ (Ws := [(4, [2], []), (8, [2], []), (10, [2], [])]) _ ?_
  obtain ⟨k, id, par, nm, dir, ops⟩ := a
  simp only at oa
  by_cases h1 : k = 1
  · simp only [aR,N0,N1,N2,N3,N4,N5,Z0,Z1,Z2,Z3,Z4,Z5,Z6,Z7,Z8,Z9,Z10,Zc,↓reduceIte,reduceCtorEq, kP, aA, h1]
    (repeat (with_reducible refine And.intro ?_ ?_; focus (first | omega | exact kG | kernel_rfl)))
    simp [zL, h1, aA, qM]
  by_cases h2 : k = 2
  · simp only [aR,N0,N1,N2,N3,N4,N5,Z0,Z1,Z2,Z3,Z4,Z5,Z6,Z7,Z8,Z9,Z10,Zc,↓reduceIte,reduceCtorEq, kP, aA, h1, h2]
    simp [zL, h2, aA, qM]
  by_cases h3 : k = 3
  · simp only [aR,N0,N1,N2,N3,N4,N5,Z0,Z1,Z2,Z3,Z4,Z5,Z6,Z7,Z8,Z9,Z10,Zc,↓reduceIte,reduceCtorEq, kP, aA, h1, h2, h3]
    (repeat (with_reducible refine And.intro ?_ ?_; focus (first | omega | exact kG | kernel_rfl)))
    simp [zL, h3, aA, qM]
  by_cases h4 : k = 4
  · simp only [aR,N0,N1,N2,N3,N4,N5,Z0,Z1,Z2,Z3,Z4,Z5,Z6,Z7,Z8,Z9,Z10,Zc,↓reduceIte,reduceCtorEq, kP, aA, h1, h2, h3, h4]
    (repeat (with_reducible refine And.intro ?_ ?_; focus (first | omega | exact kG | kernel_rfl)))
    refine kA7 (by simp [kB]) rfl oa ?_
    simp only [aR,N0,N1,N2,N3,N4,N5,Z0,Z1,Z2,Z3,Z4,Z5,Z6,Z7,Z8,Z9,Z10,Zc,↓reduceIte,reduceCtorEq, kP, aA]
    simp [zL]
  · simp only [aR,N0,N1,N2,N3,N4,N5,Z0,Z1,Z2,Z3,Z4,Z5,Z6,Z7,Z8,Z9,Z10,Zc,↓reduceIte,reduceCtorEq, kP, aA, h1, h2, h3, h4]
    simp [zL, h1, h2, h3, h4, aA, qM]
theorem kF3 {Γ : Env} {f : Nat} (hf : Γ.get f = some kBY) {σ : AS} {dr : Bool} {a : Ac} {y : AV} {d : Option Nat} {K : AS → Prop} (hy : y = aA a) (oa : okL a.ops)
    (hk : cont σ d (aA (zL a)) K) : kR Tryz.prog Γ dr σ f [y] d K := by
  subst hy
  exact qK (C := kBY) (i := ⟨a, oa⟩) (r := aA (zL a)) hf rfl rfl (by simp [AV.erL, kAd]) rfl (fun _ h => h) (by rw [kAd]; exact hk)
theorem call_names {Γ : Env} (hf : Γ.get 88 = some kDi) {σ : AS} {dr : Bool} {a : Ac} {y : AV} {d : Option Nat} {K : AS → Prop} (hy : y = aA a)
    (hk : cont σ d (.v (.bool (kFL a))) K) : kR Tryz.prog Γ dr σ 88 [y] d K := by
  subst hy
  exact kK (C := kDi) (i := a) hf rfl rfl rfl (by simp [AV.erL, kAd]) (fun _ h => h) rfl hk
abbrev kAW : Con where
  ι := AcS × AcS
  args := fun p => [aA p.1.1, aA p.2.1]
  post := fun p r => r = .v (.bool (decide (p.1.1 = p.2.1)))
  plain := true
theorem same1_good : Rw.Good Tryz.prog 86 kAW := by
  have hΓ : kL Tryz.prog [(113, kCF)] := (kE sequal_good kJ)
  refine kS (nn := 47) hΓ Tryz.func86 (by kernel_rfl) rfl (show Tryz.f86.results.toList = [.tmp 4] from rfl) (fun _ => rfl) (fun x => by simp [AV.erL, kAd]) ?_
  rintro ⟨⟨x, hx⟩, ⟨y, hy⟩⟩
  have dk : decide (x = y) = decide (x.k = y.k ∧ x.id = y.id ∧ x.par = y.par ∧ x.nm = y.nm ∧ x.dir = y.dir ∧ x.ops = y.ops) := by
    cases x; cases y
    simp only [Ac.mk.injEq]
  simp only [dk]
  obtain ⟨k, id, par, nm, dir, ops⟩ := x
  obtain ⟨k', id', par', nm', dir', ops'⟩ := y
  simp only [aR,N0,N1,N2,N3,N4,N5,Z0,Z1,Z2,Z3,Z4,Z5,Z6,Z7,Z8,Z9,Z10,Zc,↓reduceIte,reduceCtorEq, aA]
  by_cases h1 : k = k'
  case neg =>
    simp only [aR,N0,N1,N2,N3,N4,N5,Z0,Z1,Z2,Z3,Z4,Z5,Z6,Z7,Z8,Z9,Z10,Zc,↓reduceIte,reduceCtorEq, h1]
    simp [h1]
  by_cases h2 : id = id'
  case neg =>
    simp only [aR,N0,N1,N2,N3,N4,N5,Z0,Z1,Z2,Z3,Z4,Z5,Z6,Z7,Z8,Z9,Z10,Zc,↓reduceIte,reduceCtorEq, h2, h1]
    simp [h2]
  by_cases h3 : par = par'
  case neg =>
    simp only [aR,N0,N1,N2,N3,N4,N5,Z0,Z1,Z2,Z3,Z4,Z5,Z6,Z7,Z8,Z9,Z10,Zc,↓reduceIte,reduceCtorEq, h3, h1, h2]
    simp [h3]
  by_cases h4 : nm = nm'
  case neg =>
    simp only [aR,N0,N1,N2,N3,N4,N5,Z0,Z1,Z2,Z3,Z4,Z5,Z6,Z7,Z8,Z9,Z10,Zc,↓reduceIte,reduceCtorEq, h4, h1, h2, h3]
    simp [h4]
  by_cases h5 : dir = dir'
  case neg =>
    have nn : (dir == dir') = false := by simp [h5]
    simp only [aR,N0,N1,N2,N3,N4,N5,Z0,Z1,Z2,Z3,Z4,Z5,Z6,Z7,Z8,Z9,Z10,Zc,↓reduceIte,reduceCtorEq, nn, h1, h2, h3, h4]
    simp [h5]
  have b5 : (dir == dir') = true := by simp [h5]
  simp only [aR,N0,N1,N2,N3,N4,N5,Z0,Z1,Z2,Z3,Z4,Z5,Z6,Z7,Z8,Z9,Z10,Zc,↓reduceIte,reduceCtorEq, h1, h2, h3, h4, b5]
  refine kEr (by simp [kB]) rfl rfl (by have := hx.1; simp only at this; omega) (by have := hy.1; simp only at this; omega) ?_
  simp only [aR,N0,N1,N2,N3,N4,N5,Z0,Z1,Z2,Z3,Z4,Z5,Z6,Z7,Z8,Z9,Z10,Zc,↓reduceIte,reduceCtorEq, h1, h2, h3, h4, b5]
  simp [h1, h2, h3, h4, h5]
theorem kFH {Γ : Env} {f : Nat} (hf : Γ.get f = some kAW) {σ : AS} {dr : Bool} {a b : Ac} {x y : AV} {d : Option Nat} {K : AS → Prop} (hx : x = aA a) (hy : y = aA b) (oa : okL a.ops) (ob : okL b.ops)
    (hk : cont σ d (.v (.bool (decide (a = b)))) K) : kR Tryz.prog Γ dr σ f [x, y] d K := by
  subst hx hy
  exact kK (C := kAW) (i := (⟨a, oa⟩, ⟨b, ob⟩)) hf rfl rfl rfl (by simp [AV.erL, kAd]) (fun _ h => h) rfl hk
end Go.Proofs
end
-- ZUn3
section
namespace Go.Proofs
open Go Go.Rw
open _root_.Nat renaming reduceAdd → N0, reduceSub → N1, reduceMul → N2, reduceLT → N3, reduceLeDiff → N4, reduceEqDiff → N5
open _root_.Int renaming reduceNeg → Z0, reduceAdd → Z1, reduceSub → Z2, reduceMul → Z3, reduceGT → Z4, reduceGE → Z5, reduceLT → Z6, reduceLE → Z7, reduceEq → Z8, reduceNe → Z9, reduceToNat → Z10, cast_ofNat_Int → Zc
set_option maxRecDepth 100000
def badA (a : Ac) : Bool := decide (a.k < 1 ∨ a.k > 4 ∨ ¬ a = zL a ∨ a.id < 1 ∨ a.id > 1099511627776 ∨ a.par < 0 ∨ a.par > 1099511627776 ∨ ((a.k = 1 ∨ a.k = 3) ∧ jI a.nm = false))
def oneI (a : Ac) : Int := if badA a then 1 else if a.k = 4 then qI a.ops else 0
abbrev AcN := { a : Ac // okL a.ops ∧ a.nm.length ≤ 1099511627776 }
abbrev oneCon : Con where
  ι := AcN
  args := fun a => [aA a.1]
  post := fun a r => r = .v (.int .i64 (oneI a.1))
  plain := true
theorem one_good : Rw.Good Tryz.prog 64 oneCon := by
  have hΓ : kL Tryz.prog [(87, kBY), (86, kAW), (88, kDi), (89, kCj), (90, jX)] := (kE plain_good (kE same1_good (kE names_good (kE name_good (kE kFP kJ)))))
  refine kS (nn := 58) hΓ Tryz.func64 (by kernel_rfl) rfl (show Tryz.f64.results.toList = [.tmp 2] from rfl) (fun _ => rfl) (fun x => by simp [AV.erL, kAd]) ?_
  rintro ⟨a, oa, hn⟩
  obtain ⟨k, id, par, nm, dir, ops⟩ := a
  simp only at oa hn
  simp only [aR,N0,N1,N2,N3,N4,N5,Z0,Z1,Z2,Z3,Z4,Z5,Z6,Z7,Z8,Z9,Z10,Zc,↓reduceIte,reduceCtorEq, aA]
  (repeat (with_reducible refine And.intro ?_ ?_; focus (first | omega | exact kG | kernel_rfl)))
  by_cases h1 : k < 1
  · simp only [aR,N0,N1,N2,N3,N4,N5,Z0,Z1,Z2,Z3,Z4,Z5,Z6,Z7,Z8,Z9,Z10,Zc,↓reduceIte,reduceCtorEq, h1]
    simp [oneI, badA, h1]
  by_cases h2 : k > 4
  · simp only [aR,N0,N1,N2,N3,N4,N5,Z0,Z1,Z2,Z3,Z4,Z5,Z6,Z7,Z8,Z9,Z10,Zc,↓reduceIte,reduceCtorEq, h1, h2]
    simp [oneI, badA, h2]
  simp only [aR,N0,N1,N2,N3,N4,N5,Z0,Z1,Z2,Z3,Z4,Z5,Z6,Z7,Z8,Z9,Z10,Zc,↓reduceIte,reduceCtorEq, h1, h2]
  refine kF3 (by simp [kB]) (a := ⟨k, id, par, nm, dir, ops⟩) rfl oa ?_
  simp only [aR,N0,N1,N2,N3,N4,N5,Z0,Z1,Z2,Z3,Z4,Z5,Z6,Z7,Z8,Z9,Z10,Zc,↓reduceIte,reduceCtorEq, h1, h2]
  refine kFH (by simp [kB]) (a := ⟨k, id, par, nm, dir, ops⟩) rfl rfl oa (plainA_ok (a := ⟨k, id, par, nm, dir, ops⟩) oa) ?_
  obtain ⟨b, hb⟩ : ∃ b, decide ((⟨k, id, par, nm, dir, ops⟩ : Ac) = zL ⟨k, id, par, nm, dir, ops⟩) = b := ⟨_, rfl⟩
  rw [hb]
  cases b
  · have hb2 : ¬ (⟨k, id, par, nm, dir, ops⟩ : Ac) = zL ⟨k, id, par, nm, dir, ops⟩ := of_decide_eq_false hb
    simp only [aR,N0,N1,N2,N3,N4,N5,Z0,Z1,Z2,Z3,Z4,Z5,Z6,Z7,Z8,Z9,Z10,Zc,↓reduceIte,reduceCtorEq, h1, h2]
    simp [oneI, badA, hb2]
  have hb2 : (⟨k, id, par, nm, dir, ops⟩ : Ac) = zL ⟨k, id, par, nm, dir, ops⟩ := of_decide_eq_true hb
  have e0 : badA ⟨k, id, par, nm, dir, ops⟩ = decide (id < 1 ∨ id > 1099511627776 ∨ par < 0 ∨ par > 1099511627776 ∨ ((k = 1 ∨ k = 3) ∧ jI nm = false)) := by
    unfold badA
    rw [Bool.eq_iff_iff, decide_eq_true_eq, decide_eq_true_eq]
    constructor
    · rintro (h | h | h | h)
      · exact absurd h h1
      · exact absurd h h2
      · exact absurd hb2 h
      · exact h
    · exact fun h => .inr (.inr (.inr h))
  clear hb hb2
  by_cases h3 : id < 1
  · simp only [aR,N0,N1,N2,N3,N4,N5,Z0,Z1,Z2,Z3,Z4,Z5,Z6,Z7,Z8,Z9,Z10,Zc,↓reduceIte,reduceCtorEq, h1, h2, h3]
    simp [oneI, e0, h3]
  by_cases h4 : id > 1099511627776
  · simp only [aR,N0,N1,N2,N3,N4,N5,Z0,Z1,Z2,Z3,Z4,Z5,Z6,Z7,Z8,Z9,Z10,Zc,↓reduceIte,reduceCtorEq, h1, h2, h3, h4]
    simp [oneI, e0, h4]
  by_cases h5 : par < 0
  · simp only [aR,N0,N1,N2,N3,N4,N5,Z0,Z1,Z2,Z3,Z4,Z5,Z6,Z7,Z8,Z9,Z10,Zc,↓reduceIte,reduceCtorEq, h1, h2, h3, h4, h5]
    simp [oneI, e0, h5]
  by_cases h6 : par > 1099511627776
  · simp only [aR,N0,N1,N2,N3,N4,N5,Z0,Z1,Z2,Z3,Z4,Z5,Z6,Z7,Z8,Z9,Z10,Zc,↓reduceIte,reduceCtorEq, h1, h2, h3, h4, h5, h6]
    simp [oneI, e0, h6]
  simp only [aR,N0,N1,N2,N3,N4,N5,Z0,Z1,Z2,Z3,Z4,Z5,Z6,Z7,Z8,Z9,Z10,Zc,↓reduceIte,reduceCtorEq, h1, h2, h3, h4, h5, h6]
  refine call_names (by simp [kB]) (a := ⟨k, id, par, nm, dir, ops⟩) rfl ?_
  obtain ⟨b, hb⟩ : ∃ b, kFL ⟨k, id, par, nm, dir, ops⟩ = b := ⟨_, rfl⟩
  have hb2 : (k = 1 ∨ k = 3) ↔ b = true := by rw [← hb, kFL]; simp
  rw [hb]
  have last : ∀ e1 : badA ⟨k, id, par, nm, dir, ops⟩ = false, oneI ⟨k, id, par, nm, dir, ops⟩ = if k = 4 then qI ops else 0 := fun e1 => by
    rw [oneI, e1]; rfl
  cases b
  · have e1 : badA ⟨k, id, par, nm, dir, ops⟩ = false := by
      rw [e0, decide_eq_false_iff_not]
      rintro (h | h | h | h | h)
      · exact h3 h
      · exact h4 h
      · exact h5 h
      · exact h6 h
      · exact absurd (hb2.1 h.1) (by simp)
    have e2 := last e1
    by_cases h7 : k = 4
    · subst h7
      rw [if_pos rfl] at e2
      simp only [aR,N0,N1,N2,N3,N4,N5,Z0,Z1,Z2,Z3,Z4,Z5,Z6,Z7,Z8,Z9,Z10,Zc,↓reduceIte,reduceCtorEq, e2]
      refine kDD (by simp [kB]) rfl oa ?_
      simp only [aR,N0,N1,N2,N3,N4,N5,Z0,Z1,Z2,Z3,Z4,Z5,Z6,Z7,Z8,Z9,Z10,Zc,↓reduceIte,reduceCtorEq, e2]
    · rw [if_neg h7] at e2
      simp only [aR,N0,N1,N2,N3,N4,N5,Z0,Z1,Z2,Z3,Z4,Z5,Z6,Z7,Z8,Z9,Z10,Zc,↓reduceIte,reduceCtorEq, h7, e2]
  · simp only [aR,N0,N1,N2,N3,N4,N5,Z0,Z1,Z2,Z3,Z4,Z5,Z6,Z7,Z8,Z9,Z10,Zc,↓reduceIte,reduceCtorEq]
    refine kEj (by simp [kB]) hn ?_
    cases hnm : jI nm
    · have e1 : badA ⟨k, id, par, nm, dir, ops⟩ = true := by
        rw [e0, decide_eq_true_eq]
        exact .inr (.inr (.inr (.inr ⟨hb2.2 rfl, hnm⟩)))
      simp only [aR,N0,N1,N2,N3,N4,N5,Z0,Z1,Z2,Z3,Z4,Z5,Z6,Z7,Z8,Z9,Z10,Zc,↓reduceIte,reduceCtorEq]
      simp [oneI, e1]
    · have e1 : badA ⟨k, id, par, nm, dir, ops⟩ = false := by
        rw [e0, decide_eq_false_iff_not]
        rintro (h | h | h | h | h)
        · exact h3 h
        · exact h4 h
        · exact h5 h
        · exact h6 h
        · rw [hnm] at h; exact absurd h.2 (by simp)
      have e2 := last e1
      have h7 : ¬ k = 4 := fun h => by have := hb2.2 rfl; omega
      rw [if_neg h7] at e2
      simp only [aR,N0,N1,N2,N3,N4,N5,Z0,Z1,Z2,Z3,Z4,Z5,Z6,Z7,Z8,Z9,Z10,Zc,↓reduceIte,reduceCtorEq, h7, e2]
def putC : List Cp → Nat
  | [] => 0
  | c :: r => (if c.k = 2 then lc c.t else 0) + putC r
def putS : List Ac → Nat
  | [] => 0
  | a :: r => putC a.ops + putS r
theorem putC_tot : ∀ l : List Cp, putC l ≤ tot l
  | [] => Nat.le_refl _
  | c :: r => by
    have := putC_tot r
    have := kDY c.t
    rw [putC, tot]
    split <;> omega
theorem putC_take {l : List Cp} {i : Nat} (h : i < l.length) : putC (l.drop i) = (if l[i].k = 2 then lc l[i].t else 0) + putC (l.drop (i + 1)) := by
  rw [List.drop_eq_getElem_cons h, putC]
theorem putS_take {l : List Ac} {i : Nat} (h : i < l.length) : putS (l.drop i) = putC l[i].ops + putS (l.drop (i + 1)) := by
  rw [List.drop_eq_getElem_cons h, putS]
theorem putS_le : ∀ (l : List Ac), (∀ a ∈ l, okL a.ops) → putS l ≤ l.length * 1099511627776
  | [], _ => by simp [putS]
  | a :: l, h => by
    have h1 := putS_le l fun b hb => h b (List.mem_cons_of_mem _ hb)
    have h2 := (h a (List.mem_cons_self ..)).2.1
    have h3 := putC_tot a.ops
    rw [putS, List.length_cons, Nat.add_mul]; omega
abbrev okA (a : Ac) : Prop := okL a.ops ∧ a.nm.length ≤ 1099511627776
abbrev ActsN := { l : List Ac // l.length ≤ 1000000 ∧ ∀ a ∈ l, okL a.ops ∧ a.nm.length ≤ 1099511627776 }
abbrev putsCon : Con where
  ι := ActsN
  args := fun l => [.sl 0 6 (acts l.1)]
  post := fun l r => r = .v (.int .i64 (putS l.1))
  plain := true
theorem puts_good : Rw.Good Tryz.prog 67 putsCon := by
  have hΓ : kL Tryz.prog [(92, kCd)] := (kE rc_good kJ)
  refine kS (nn := 31) hΓ Tryz.func67 (by kernel_rfl) rfl (show Tryz.f67.results.toList = [.tmp 2] from rfl) (fun _ => rfl) (fun x => by simp [AV.erL, AV.er, qF]) ?_
  rintro ⟨l, hl, ho⟩
  have hb := putS_le l fun a ha => (ho a ha).1
  simp only [aR,N0,N1,N2,N3,N4,N5,Z0,Z1,Z2,Z3,Z4,Z5,Z6,Z7,Z8,Z9,Z10,Zc,↓reduceIte,reduceCtorEq, kM]
  obtain ⟨St, hSt⟩ : ∃ St : { p : Nat × Nat // p.2 ≤ l.length ∧ p.1 + putS (l.drop p.2) = putS l } → AS, ∀ p, St p = AS.of 31 [(2, .v (.int .i64 p.1.1)), (7, .sl 0 6 (acts l)), (8, .v (.int .i64 l.length)), (9, .v (.int .i64 p.1.2))] [] [] := ⟨_, fun _ => rfl⟩
  refine kX hΓ St (fun p => l.length - p.1.2) ⟨(0, 0), by simp, by simp⟩ (by rw [hSt]; refine kH [] [] ?_; simp only [aR,N0,N1,N2,N3,N4,N5,Z0,Z1,Z2,Z3,Z4,Z5,Z6,Z7,Z8,Z9,Z10,Zc,↓reduceIte,reduceCtorEq] <;> ((repeat' apply And.intro) <;> first | rfl | omega | trivial)) ?_
  rintro ⟨⟨n, i⟩, hi, hs⟩
  simp only at hi hs
  rw [hSt]
  simp only
  simp only [aR,N0,N1,N2,N3,N4,N5,Z0,Z1,Z2,Z3,Z4,Z5,Z6,Z7,Z8,Z9,Z10,Zc,↓reduceIte,reduceCtorEq, kM]
  (with_reducible first | refine kC (fun h => ?_) (fun h => ?_) | refine kF (fun h => ?_) (fun h => ?_))
  · have hlt : i < l.length := by omega
    have e1 := qV l hlt
    have ha := ho _ (List.getElem_mem hlt)
    rw [putS_take hlt] at hs
    generalize l[i] = a at *
    obtain ⟨k, id, par, nm, dir, ops⟩ := a
    obtain ⟨oa, _⟩ := ha
    simp only at hs oa
    have hol := oa.1
    simp only [aR,N0,N1,N2,N3,N4,N5,Z0,Z1,Z2,Z3,Z4,Z5,Z6,Z7,Z8,Z9,Z10,Zc,↓reduceIte,reduceCtorEq, h, e1, aA, kM, kD]
    (repeat (with_reducible refine And.intro ?_ ?_; focus (first | omega | exact kG | kernel_rfl)))
    obtain ⟨Sb, hSb⟩ : ∃ Sb : { p : Nat × Nat // p.2 ≤ ops.length ∧ p.1 + putC (ops.drop p.2) = n + putC ops } → AS, ∀ p, Sb p = AS.of 31 [(2, .v (.int .i64 p.1.1)), (7, .sl 0 6 (acts l)), (8, .v (.int .i64 l.length)), (9, .v (.int .i64 i)), (14, .sl 0 3 (kU ops)), (15, .v (.int .i64 ops.length)), (16, .v (.int .i64 p.1.2))] [] [] := ⟨_, fun _ => rfl⟩
    refine kX hΓ Sb (fun p => ops.length - p.1.2) ⟨(n, 0), by simp, by simp⟩ (by rw [hSb]; refine kH [] [] ?_; simp only [aR,N0,N1,N2,N3,N4,N5,Z0,Z1,Z2,Z3,Z4,Z5,Z6,Z7,Z8,Z9,Z10,Zc,↓reduceIte,reduceCtorEq] <;> ((repeat' apply And.intro) <;> first | rfl | omega | trivial)) ?_
    rintro ⟨⟨m, j⟩, hj, hm⟩
    simp only at hj hm
    rw [hSb]
    simp only
    simp only [aR,N0,N1,N2,N3,N4,N5,Z0,Z1,Z2,Z3,Z4,Z5,Z6,Z7,Z8,Z9,Z10,Zc,↓reduceIte,reduceCtorEq, kD]
    (with_reducible first | refine kC (fun h2 => ?_) (fun h2 => ?_) | refine kF (fun h2 => ?_) (fun h2 => ?_))
    · have hlt2 : j < ops.length := by omega
      have e3 := k9 ops hlt2
      have hct := okL.text oa (List.getElem_mem hlt2)
      rw [putC_take hlt2] at hm
      generalize ops[j] = c at *
      obtain ⟨ck, cn, ct⟩ := c
      simp only at hm hct
      by_cases hk : ck = 2
      · rw [if_pos hk] at hm
        simp only [aR,N0,N1,N2,N3,N4,N5,Z0,Z1,Z2,Z3,Z4,Z5,Z6,Z7,Z8,Z9,Z10,Zc,↓reduceIte,reduceCtorEq, h2, e3, cA, kD, hk]
        (repeat (with_reducible refine And.intro ?_ ?_; focus (first | omega | exact kG | kernel_rfl)))
        refine call_rc (by simp [kB]) hct ?_
        simp only [aR,N0,N1,N2,N3,N4,N5,Z0,Z1,Z2,Z3,Z4,Z5,Z6,Z7,Z8,Z9,Z10,Zc,↓reduceIte,reduceCtorEq, kA (n := (m : Int) + lc ct) (by omega) (by omega), kA (n := (j : Int) + 1) (by omega) (by omega)]
        refine kI ⟨(m + lc ct, j + 1), by simp only; omega, by simp only; omega⟩ (by simp only; omega) ?_
        rw [hSb]; refine kH [] [] ?_
        simp only [aR,N0,N1,N2,N3,N4,N5,Z0,Z1,Z2,Z3,Z4,Z5,Z6,Z7,Z8,Z9,Z10,Zc,↓reduceIte,reduceCtorEq] <;> ((repeat' apply And.intro) <;> first | rfl | omega | trivial)
      · rw [if_neg hk] at hm
        simp only [aR,N0,N1,N2,N3,N4,N5,Z0,Z1,Z2,Z3,Z4,Z5,Z6,Z7,Z8,Z9,Z10,Zc,↓reduceIte,reduceCtorEq, h2, e3, cA, kD, hk, kA (n := (j : Int) + 1) (by omega) (by omega)]
        (repeat (with_reducible refine And.intro ?_ ?_; focus (first | omega | exact kG | kernel_rfl)))
        refine kI ⟨(m, j + 1), by simp only; omega, by simp only; omega⟩ (by simp only; omega) ?_
        rw [hSb]; refine kH [] [] ?_
        simp only [aR,N0,N1,N2,N3,N4,N5,Z0,Z1,Z2,Z3,Z4,Z5,Z6,Z7,Z8,Z9,Z10,Zc,↓reduceIte,reduceCtorEq] <;> ((repeat' apply And.intro) <;> first | rfl | omega | trivial)
    · rw [List.drop_of_length_le (by omega), putC] at hm
      simp only [aR,N0,N1,N2,N3,N4,N5,Z0,Z1,Z2,Z3,Z4,Z5,Z6,Z7,Z8,Z9,Z10,Zc,↓reduceIte,reduceCtorEq, h2, kA (n := (i : Int) + 1) (by omega) (by omega)]
      refine kI ⟨(m, i + 1), by simp only; omega, by simp only; omega⟩ (by simp only; omega) ?_
      rw [hSt]; refine kH [] [] ?_
      simp only [aR,N0,N1,N2,N3,N4,N5,Z0,Z1,Z2,Z3,Z4,Z5,Z6,Z7,Z8,Z9,Z10,Zc,↓reduceIte,reduceCtorEq] <;> ((repeat' apply And.intro) <;> first | rfl | omega | trivial)
  · rw [List.drop_of_length_le (by omega), putS] at hs
    simp only [aR,N0,N1,N2,N3,N4,N5,Z0,Z1,Z2,Z3,Z4,Z5,Z6,Z7,Z8,Z9,Z10,Zc,↓reduceIte,reduceCtorEq, h]
    omega
theorem call_puts {Γ : Env} (hf : Γ.get 67 = some putsCon) {σ : AS} {dr : Bool} {l : List Ac} {ys : List AV} {d : Option Nat} {K : AS → Prop} (hy : ys = acts l) (hl : l.length ≤ 1000000) (ho : ∀ a ∈ l, okL a.ops ∧ a.nm.length ≤ 1099511627776)
    (hk : cont σ d (.v (.int .i64 (putS l))) K) : kR Tryz.prog Γ dr σ 67 [.sl 0 6 ys] d K := by
  subst hy
  exact kK (C := putsCon) (i := ⟨l, hl, ho⟩) hf rfl rfl rfl (by simp [AV.erL, AV.er, qF]) (fun _ h => h) rfl hk
def kCP (pre : List Ac) (a : Ac) : Bool := pre.any fun b => decide (b.k = 4 ∧ b.id = a.id)
def jK : List Ac → List Ac → Int
  | _, [] => 0
  | pre, a :: r => if oneI a ≠ 0 then oneI a else if a.k = 4 ∧ kCP pre a = true then 1 else jK (pre ++ [a]) r
def txnE (l : List Ac) : Int := if l.length > 20 then 3 else if jK [] l ≠ 0 then jK [] l else if (putS l : Int) > 2000 then 3 else 0
abbrev jZ : Con where
  ι := ActsN
  args := fun l => [.sl 0 6 (acts l.1)]
  post := fun l r => r = .v (.int .i64 (txnE l.1))
  plain := true
theorem tcheck_good : Rw.Good Tryz.prog 39 jZ := by
  have hΓ : kL Tryz.prog [(64, oneCon), (67, putsCon)] := (kE one_good (kE puts_good kJ))
  refine kS (nn := 34) hΓ Tryz.func39 (by kernel_rfl) rfl (show Tryz.f39.results.toList = [.tmp 2] from rfl) (fun _ => rfl) (fun x => by simp [AV.erL, AV.er, qF]) ?_
  rintro ⟨l, hl, ho⟩
  simp only [aR,N0,N1,N2,N3,N4,N5,Z0,Z1,Z2,Z3,Z4,Z5,Z6,Z7,Z8,Z9,Z10,Zc,↓reduceIte,reduceCtorEq]
  refine vc_scope hΓ 1 ?_
  simp only [aR,N0,N1,N2,N3,N4,N5,Z0,Z1,Z2,Z3,Z4,Z5,Z6,Z7,Z8,Z9,Z10,Zc,↓reduceIte,reduceCtorEq, kM]
  by_cases hlen : (l.length : Int) > 20
  · have e0 : txnE l = 3 := by unfold txnE; rw [if_pos (by omega)]
    simp only [aR,N0,N1,N2,N3,N4,N5,Z0,Z1,Z2,Z3,Z4,Z5,Z6,Z7,Z8,Z9,Z10,Zc,↓reduceIte,reduceCtorEq, hlen, e0]
  have e0 : txnE l = if jK [] l ≠ 0 then jK [] l else if (putS l : Int) > 2000 then 3 else 0 := by unfold txnE; rw [if_neg (by omega)]
  simp only [aR,N0,N1,N2,N3,N4,N5,Z0,Z1,Z2,Z3,Z4,Z5,Z6,Z7,Z8,Z9,Z10,Zc,↓reduceIte,reduceCtorEq, hlen, kM]
  obtain ⟨St, hSt⟩ : ∃ St : { i : Nat // i ≤ l.length ∧ jK (l.take i) (l.drop i) = jK [] l } → AS, ∀ i, St i = AS.of 34 [(0, .sl 0 6 (acts l)), (2, .v (.int .i64 0)), (8, .sl 0 6 (acts l)), (9, .v (.int .i64 l.length)), (10, .v (.int .i64 i.1))] [] [] := ⟨_, fun _ => rfl⟩
  refine kX hΓ St (fun i => l.length - i.1) ⟨0, by omega, by simp⟩ (by rw [hSt]; refine kH [] [] ?_; simp only [aR,N0,N1,N2,N3,N4,N5,Z0,Z1,Z2,Z3,Z4,Z5,Z6,Z7,Z8,Z9,Z10,Zc,↓reduceIte,reduceCtorEq] <;> ((repeat' apply And.intro) <;> first | rfl | omega | trivial)) ?_
  rintro ⟨i, hi, hc⟩
  rw [hSt]
  simp only
  simp only [aR,N0,N1,N2,N3,N4,N5,Z0,Z1,Z2,Z3,Z4,Z5,Z6,Z7,Z8,Z9,Z10,Zc,↓reduceIte,reduceCtorEq, kM]
  (with_reducible first | refine kC (fun h => ?_) (fun h => ?_) | refine kF (fun h => ?_) (fun h => ?_))
  · have hlt : i < l.length := by omega
    have e1 := qV l hlt
    have ha := ho _ (List.getElem_mem hlt)
    rw [List.drop_eq_getElem_cons hlt, jK, ← List.take_succ_eq_append_getElem hlt] at hc
    generalize l[i] = a at *
    obtain ⟨k, id, par, nm, dir, ops⟩ := a
    simp only [aR,N0,N1,N2,N3,N4,N5,Z0,Z1,Z2,Z3,Z4,Z5,Z6,Z7,Z8,Z9,Z10,Zc,↓reduceIte,reduceCtorEq, h, e1, aA, kM]
    (repeat (with_reducible refine And.intro ?_ ?_; focus (first | omega | exact kG | kernel_rfl)))
    refine kK (C := oneCon) (i := ⟨⟨k, id, par, nm, dir, ops⟩, ha⟩) (by simp [kB]) rfl rfl rfl (by simp [AV.erL, AV.er, aA, kCe]) (fun _ h => h) rfl ?_
    by_cases h1 : oneI ⟨k, id, par, nm, dir, ops⟩ = 0
    case neg =>
      rw [if_pos h1] at hc
      rw [← hc, if_pos h1] at e0
      simp only [aR,N0,N1,N2,N3,N4,N5,Z0,Z1,Z2,Z3,Z4,Z5,Z6,Z7,Z8,Z9,Z10,Zc,↓reduceIte,reduceCtorEq, h1]
      refine ⟨_, rfl, ?_⟩
      simp only [aR,N0,N1,N2,N3,N4,N5,Z0,Z1,Z2,Z3,Z4,Z5,Z6,Z7,Z8,Z9,Z10,Zc,↓reduceIte,reduceCtorEq, e0]
    rw [if_neg (by simpa using h1)] at hc
    by_cases h4 : k = 4
    · subst h4
      have hpa : kBm 0 6 (acts l) 0 i = .sl 0 6 (acts (l.take i)) := by
        unfold kBm
        split
        · rename_i h5
          rw [List.take_of_length_le (by have := h5.2; rw [kM] at this; omega)]
        · simp [acts, List.map_take]
      have htl : (l.take i).length = i := by rw [List.length_take]; omega
      have hcb : ∀ x : Bool, kCP (l.take i) ⟨4, id, par, nm, dir, ops⟩ = x → (if x = true then 1 else jK (l.take (i + 1)) (l.drop (i + 1))) = jK [] l := fun x hx => by
        subst hx
        rw [← hc]
        by_cases h5 : kCP (l.take i) ⟨4, id, par, nm, dir, ops⟩ = true
        · rw [if_pos h5, if_pos ⟨rfl, h5⟩]
        · rw [if_neg h5, if_neg (fun hh => h5 hh.2)]
      have hcl : kCP (l.take i) ⟨4, id, par, nm, dir, ops⟩ = (l.take i).any fun b => decide (b.k = 4 ∧ b.id = id) := rfl
      obtain ⟨pre, hpre⟩ : ∃ pre, l.take i = pre := ⟨_, rfl⟩
      rw [hpre] at hpa htl hcb hcl
      simp only [aR,N0,N1,N2,N3,N4,N5,Z0,Z1,Z2,Z3,Z4,Z5,Z6,Z7,Z8,Z9,Z10,Zc,↓reduceIte,reduceCtorEq, h1, hpa, kM, List.map_cons, List.map_nil]
      (repeat (with_reducible refine And.intro ?_ ?_; focus (first | omega | exact kG | kernel_rfl)))
      refine qX (nn := 9) hΓ (by first | assumption | simp [kB, kQ]) Tryz.func65 (by kernel_rfl) rfl (show Tryz.f65.results.toList = [.tmp 4] from rfl) rfl ?_
      simp only [aR,N0,N1,N2,N3,N4,N5,Z0,Z1,Z2,Z3,Z4,Z5,Z6,Z7,Z8,Z9,Z10,Zc,↓reduceIte,reduceCtorEq]
      refine qX (nn := 19) hΓ (by first | assumption | simp [kB, kQ]) Tryz.func91 (by kernel_rfl) rfl (show Tryz.f91.results.toList = [.tmp 4] from rfl) rfl ?_
      simp only [aR,N0,N1,N2,N3,N4,N5,Z0,Z1,Z2,Z3,Z4,Z5,Z6,Z7,Z8,Z9,Z10,Zc,↓reduceIte,reduceCtorEq, kM, htl]
      refine kDa hΓ (fun j : { j : Nat // j ≤ i ∧ (pre.any fun b => decide (b.k = 4 ∧ b.id = id)) = (pre.drop j).any fun b => decide (b.k = 4 ∧ b.id = id) } => [(0, .sl 0 6 (acts pre)), (1, .fn 66 [.ptr 0 0]), (7, .v (.int .i64 i)), (8, .v (.int .i64 j.1))]) (fun j => i - j.1) ⟨0, Nat.zero_le _, by simp⟩ (by simp only [aR,N0,N1,N2,N3,N4,N5,Z0,Z1,Z2,Z3,Z4,Z5,Z6,Z7,Z8,Z9,Z10,Zc,↓reduceIte,reduceCtorEq] <;> ((repeat' apply And.intro) <;> first | rfl | omega | trivial)) ?_
      rintro ⟨j, hj, hn⟩ q hq
      simp only
      simp only [aR,N0,N1,N2,N3,N4,N5,Z0,Z1,Z2,Z3,Z4,Z5,Z6,Z7,Z8,Z9,Z10,Zc,↓reduceIte,reduceCtorEq, List.map_cons, List.map_nil]
      (with_reducible first | refine kC (fun h2 => ?_) (fun h2 => ?_) | refine kF (fun h2 => ?_) (fun h2 => ?_))
      · have hlt2 : j < pre.length := by omega
        have e3 := qV pre hlt2
        rw [List.drop_eq_getElem_cons hlt2, List.any_cons] at hn
        generalize pre[j] = b at *
        obtain ⟨bk, bid, bpar, bnm, bdir, bops⟩ := b
        simp only at hn
        simp only [aR,N0,N1,N2,N3,N4,N5,Z0,Z1,Z2,Z3,Z4,Z5,Z6,Z7,Z8,Z9,Z10,Zc,↓reduceIte,reduceCtorEq, h2, e3, kM, htl, aA]
        (repeat (with_reducible refine And.intro ?_ ?_; focus (first | omega | exact kG | kernel_rfl)))
        refine qX (nn := 14) hΓ (by first | assumption | simp [kB, kQ]) Tryz.func66 (by kernel_rfl) rfl (show Tryz.f66.results.toList = [.tmp 3] from rfl) rfl ?_
        have hk0 : (0 = q) = False := eq_false (by omega)
        simp only [aR,N0,N1,N2,N3,N4,N5,Z0,Z1,Z2,Z3,Z4,Z5,Z6,Z7,Z8,Z9,Z10,Zc,↓reduceIte,reduceCtorEq, aA, hk0]
        have go : (pre.any fun b => decide (b.k = 4 ∧ b.id = id)) = ((pre.drop (j + 1)).any fun b => decide (b.k = 4 ∧ b.id = id)) → ∃ y : { j : Nat // j ≤ i ∧ (pre.any fun b => decide (b.k = 4 ∧ b.id = id)) = (pre.drop j).any fun b => decide (b.k = 4 ∧ b.id = id) }, y.1 = j + 1 ∧ i - y.1 < i - j := fun hh => ⟨⟨j + 1, by omega, hh⟩, rfl, by simp only; omega⟩
        by_cases h5 : bk = 4
        · by_cases h6 : bid = id
          · have hT : kCP pre ⟨4, id, par, nm, dir, ops⟩ = true := by rw [hcl, hn]; simp [h5, h6]
            have h7 := hcb _ hT
            rw [if_pos rfl] at h7
            rw [← h7, if_pos (by omega)] at e0
            simp only [aR,N0,N1,N2,N3,N4,N5,Z0,Z1,Z2,Z3,Z4,Z5,Z6,Z7,Z8,Z9,Z10,Zc,↓reduceIte,reduceCtorEq, h5, h6, hk0, show ((j : Int) ≥ 0) = True from eq_true (by omega)]
            refine ⟨_, rfl, ?_⟩
            simp only [aR,N0,N1,N2,N3,N4,N5,Z0,Z1,Z2,Z3,Z4,Z5,Z6,Z7,Z8,Z9,Z10,Zc,↓reduceIte,reduceCtorEq, e0]
          · obtain ⟨y, hy, hy2⟩ := go (by rw [hn]; simp [h6])
            simp only [aR,N0,N1,N2,N3,N4,N5,Z0,Z1,Z2,Z3,Z4,Z5,Z6,Z7,Z8,Z9,Z10,Zc,↓reduceIte,reduceCtorEq, h5, h6, hk0, kA (n := (j : Int) + 1) (by omega) (by omega)]
            refine keep_end y hy2 ?_ ?_ (keep_new ?_ fun _ _ h => h) ⟨rfl, rfl, rfl⟩
            · omega
            · simp only [aR,N0,N1,N2,N3,N4,N5,Z0,Z1,Z2,Z3,Z4,Z5,Z6,Z7,Z8,Z9,Z10,Zc,↓reduceIte,reduceCtorEq, hy] <;> ((repeat' apply And.intro) <;> first | rfl | omega | trivial)
            · intro o x h
              simp only [upd] at h
              repeat' split at h
              all_goals first | omega | cases h
        · obtain ⟨y, hy, hy2⟩ := go (by rw [hn]; simp [h5])
          simp only [aR,N0,N1,N2,N3,N4,N5,Z0,Z1,Z2,Z3,Z4,Z5,Z6,Z7,Z8,Z9,Z10,Zc,↓reduceIte,reduceCtorEq, h5, hk0, kA (n := (j : Int) + 1) (by omega) (by omega)]
          refine keep_end y hy2 ?_ ?_ (keep_new ?_ fun _ _ h => h) ⟨rfl, rfl, rfl⟩
          · omega
          · simp only [aR,N0,N1,N2,N3,N4,N5,Z0,Z1,Z2,Z3,Z4,Z5,Z6,Z7,Z8,Z9,Z10,Zc,↓reduceIte,reduceCtorEq, hy] <;> ((repeat' apply And.intro) <;> first | rfl | omega | trivial)
          · intro o x h
            simp only [upd] at h
            repeat' split at h
            all_goals first | omega | cases h
      · have hF : kCP pre ⟨4, id, par, nm, dir, ops⟩ = false := by rw [hcl, hn, List.drop_of_length_le (by omega)]; rfl
        have h7 := hcb _ hF
        rw [if_neg (by simp)] at h7
        simp only [aR,N0,N1,N2,N3,N4,N5,Z0,Z1,Z2,Z3,Z4,Z5,Z6,Z7,Z8,Z9,Z10,Zc,↓reduceIte,reduceCtorEq, h2, kA (n := (i : Int) + 1) (by omega) (by omega)]
        refine kI ⟨i + 1, by omega, h7⟩ (by simp only; omega) ?_
        rw [hSt]; refine kH [] [] ?_
        simp only [aR,N0,N1,N2,N3,N4,N5,Z0,Z1,Z2,Z3,Z4,Z5,Z6,Z7,Z8,Z9,Z10,Zc,↓reduceIte,reduceCtorEq] <;> ((repeat' apply And.intro) <;> first | rfl | omega | trivial)
    · rw [if_neg (fun hh => h4 hh.1)] at hc
      simp only [aR,N0,N1,N2,N3,N4,N5,Z0,Z1,Z2,Z3,Z4,Z5,Z6,Z7,Z8,Z9,Z10,Zc,↓reduceIte,reduceCtorEq, h1, h4, kA (n := (i : Int) + 1) (by omega) (by omega)]
      refine kI ⟨i + 1, by omega, hc⟩ (by simp only; omega) ?_
      rw [hSt]; refine kH [] [] ?_
      simp only [aR,N0,N1,N2,N3,N4,N5,Z0,Z1,Z2,Z3,Z4,Z5,Z6,Z7,Z8,Z9,Z10,Zc,↓reduceIte,reduceCtorEq] <;> ((repeat' apply And.intro) <;> first | rfl | omega | trivial)
  · rw [List.drop_of_length_le (by omega), jK] at hc
    rw [← hc, if_neg (by simp)] at e0
    simp only [aR,N0,N1,N2,N3,N4,N5,Z0,Z1,Z2,Z3,Z4,Z5,Z6,Z7,Z8,Z9,Z10,Zc,↓reduceIte,reduceCtorEq, h]
    refine call_puts (by simp [kB]) rfl hl ho ?_
    by_cases hp : (putS l : Int) > 2000
    · rw [if_pos hp] at e0
      simp only [aR,N0,N1,N2,N3,N4,N5,Z0,Z1,Z2,Z3,Z4,Z5,Z6,Z7,Z8,Z9,Z10,Zc,↓reduceIte,reduceCtorEq, hp, e0]
    · rw [if_neg hp] at e0
      simp only [aR,N0,N1,N2,N3,N4,N5,Z0,Z1,Z2,Z3,Z4,Z5,Z6,Z7,Z8,Z9,Z10,Zc,↓reduceIte,reduceCtorEq, hp, e0]
end Go.Proofs
end
