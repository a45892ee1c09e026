/-
  Counts of an edit's parts; which parts may be. Which edits may be. Parts put behind others; the normal form. The document's normal form. Parts held against each other; edits that are alike. An edit of a place; what does nothing; the law's own readiness. OpOf answers true. Sums, held; how much an edit takes.
-/
import Derived.Test.YtmenbocckhbdjaaDoorXAUt1
import Derived.Test.YtmenbocckhbdjaaDoorRwF
set_option linter.unusedSimpArgs false
set_option linter.unusedVariables false
set_option linter.defProp false

-- AUo1
section
namespace Go.Proofs
open Go Go.Rw
open _root_.Nat renaming reduceAdd → N0, reduceSub → N1, reduceMul → N2, reduceLT → N3, reduceLeDiff → N4, reduceEqDiff → N5
open _root_.Int renaming reduceNeg → Z0, reduceAdd → Z1, reduceSub → Z2, reduceMul → Z3, reduceGT → Z4, reduceGE → Z5, reduceLT → Z6, reduceLE → Z7, reduceEq → Z8, reduceNe → Z9, reduceToNat → Z10, cast_ofNat_Int → Zc
set_option maxRecDepth 100000
set_option linter.unusedSimpArgs false
set_option linter.unusedVariables false

abbrev addCon : Con where
  ι := { p : Int × Int // 0 ≤ p.1 ∧ p.1 ≤ 1099511627776 ∧ 0 ≤ p.2 ∧ p.2 ≤ 9223372036854775807 }
  args := fun p => [.v (.int .i64 p.1.1), .v (.int .i64 p.1.2)]
  post := fun p r => r = .v (.int .i64 (addI p.1.1 p.1.2))
  plain := true
theorem add_good : Rw.Good Tryd.prog 52 addCon := by
  have hΓ : GoodEnv Tryd.prog [] := goodEnv_nil
  refine good_fn (nn := 12) hΓ Tryd.func52 (by kernel_rfl) rfl (show Tryd.f52.results.toList = [.tmp 4] from rfl) (fun _ => rfl) (fun _ => rfl) ?_
  rintro ⟨⟨n, m⟩, h1, h2, h3, h4⟩
  simp only at h1 h2 h3 h4 ⊢
  simp (disch := omega) only [goRules, coreRules, tiRules, unRules, AS_of_eq, ← decide_not, N0, N1, N2, N3, N4, N5, Z0, Z1, Z2, Z3, Z4, Z5, Z6, Z7, Z8, Z9, Z10, Zc, ↓reduceIte, reduceCtorEq, wrap_i64]
  (try ((with_reducible first | refine branchP_dec (fun q1 => ?_) (fun q1 => ?_) | refine guardB_dec (fun q1 => ?_) (fun q1 => ?_)) <;> simp (disch := omega) only [goRules, coreRules, tiRules, unRules, AS_of_eq, ← decide_not, N0, N1, N2, N3, N4, N5, Z0, Z1, Z2, Z3, Z4, Z5, Z6, Z7, Z8, Z9, Z10, Zc, ↓reduceIte, reduceCtorEq, wrap_i64, q1] <;> (with_reducible first | (refine And.intro ?_ ?_; focus (first | omega | exact mixed1 | kernel_rfl)); (repeat (with_reducible refine And.intro ?_ ?_; focus (first | omega | exact mixed1 | kernel_rfl))); (try simp (disch := omega) only [goRules, coreRules, tiRules, unRules, AS_of_eq, ← decide_not, N0, N1, N2, N3, N4, N5, Z0, Z1, Z2, Z3, Z4, Z5, Z6, Z7, Z8, Z9, Z10, Zc, ↓reduceIte, reduceCtorEq, wrap_i64, q1]) | skip) <;> skip))
  all_goals (unfold addI; omega)
theorem call_add {Γ : Env} (hf : Γ.get 52 = some addCon) {σ : AS} {dr : Bool} {n m : Int} {d : Option Nat} {K : AS → Prop} (h : 0 ≤ n ∧ n ≤ 1099511627776) (h2 : 0 ≤ m ∧ m ≤ 9223372036854775807)
    (hk : cont σ d (.v (.int .i64 (addI n m))) K) : vcCall Tryd.prog Γ dr σ 52 [.v (.int .i64 n), .v (.int .i64 m)] d K :=
  vcCall_plain (C := addCon) (i := ⟨(n, m), h.1, h.2, h2.1, h2.2⟩) hf rfl rfl rfl rfl (fun _ h => h) rfl hk

abbrev Ed := { l : List Cp // okL l }
theorem comps_er (l : List Cp) : AV.erL (comps l) = comps l := by
  induction l with
  | nil => rfl
  | cons c r ih => show AV.er (cA c) :: AV.erL (comps r) = _; rw [ih]; rfl

abbrev baseCon : Con where
  ι := Ed
  args := fun l => [.sl 0 3 (comps l.1)]
  post := fun l r => r = .v (.int .i64 (baseL l.1))
  plain := true
theorem base_good : Rw.Good Tryd.prog 18 baseCon := by
  have hΓ : GoodEnv Tryd.prog [(52, addCon)] := (goodEnv_cons add_good goodEnv_nil)
  refine good_fn (nn := 26) hΓ Tryd.func18 (by kernel_rfl) rfl (show Tryd.f18.results.toList = [.tmp 2] from rfl) (fun _ => rfl) (fun _ => rfl) ?_
  rintro ⟨l, hl, htot, hc⟩
  simp only [goRules, coreRules, tiRules, unRules, AS_of_eq, ← decide_not, N0, N1, N2, N3, N4, N5, Z0, Z1, Z2, Z3, Z4, Z5, Z6, Z7, Z8, Z9, Z10, Zc, ↓reduceIte, reduceCtorEq, comps_len]
  obtain ⟨St, hSt⟩ : ∃ St : { p : Int × Nat // p.2 ≤ l.length ∧ 0 ≤ p.1 ∧ p.1 ≤ 1099511627776 ∧ baseL l = baseF p.1 (l.drop p.2) } → AS, ∀ p, St p = AS.of 26 [(2, .v (.int .i64 p.1.1)), (5, .sl 0 3 (comps l)), (6, .v (.int .i64 l.length)), (7, .v (.int .i64 p.1.2))] [] [] := ⟨_, fun _ => rfl⟩
  refine vc_loop hΓ St (fun p => l.length - p.1.2) ⟨(0, 0), by omega, by omega, by omega, rfl⟩ (by rw [hSt]; refine weak_go [] [] ?_; simp only [goRules, coreRules, tiRules, unRules, AS_of_eq, ← decide_not, N0, N1, N2, N3, N4, N5, Z0, Z1, Z2, Z3, Z4, Z5, Z6, Z7, Z8, Z9, Z10, Zc, ↓reduceIte, reduceCtorEq] <;> ((repeat' apply And.intro) <;> first | rfl | omega | trivial)) ?_
  rintro ⟨⟨n, i⟩, hi, hn1, hn2, hb⟩
  simp only at hi hn1 hn2 hb
  rw [hSt]
  simp only
  simp only [goRules, coreRules, tiRules, unRules, AS_of_eq, ← decide_not, N0, N1, N2, N3, N4, N5, Z0, Z1, Z2, Z3, Z4, Z5, Z6, Z7, Z8, Z9, Z10, Zc, ↓reduceIte, reduceCtorEq]
  (with_reducible first | refine branchP_dec (fun h => ?_) (fun h => ?_) | refine guardB_dec (fun h => ?_) (fun h => ?_))
  · have hlt : i < l.length := by omega
    have hci := And.intro (hc l[i] (List.getElem_mem hlt)) (okL.text ⟨hl, htot, hc⟩ (List.getElem_mem hlt))
    have e1 := comps_getD l hlt
    rw [List.drop_eq_getElem_cons hlt] at hb
    simp only [baseF] at hb
    generalize l[i] = c at *
    obtain ⟨k, m, t⟩ := c
    simp only at hci hb e1
    have yes : (k = 1 ∨ k = 3) → baseL l = baseF (addI n (max m 0)) (l.drop (i + 1)) := fun h => by rw [hb, if_pos h]
    have no : ¬ (k = 1 ∨ k = 3) → baseL l = baseF n (l.drop (i + 1)) := fun h => by rw [hb, if_neg h]
    have hr := addI_range hn1 (show 0 ≤ max m 0 by omega)
    simp (disch := omega) only [goRules, coreRules, tiRules, unRules, AS_of_eq, ← decide_not, N0, N1, N2, N3, N4, N5, Z0, Z1, Z2, Z3, Z4, Z5, Z6, Z7, Z8, Z9, Z10, Zc, ↓reduceIte, reduceCtorEq, wrap_i64, h, e1, comps_len]
    (repeat (with_reducible refine And.intro ?_ ?_; focus (first | omega | exact mixed1 | kernel_rfl)))
    (try ((with_reducible first | refine branchP_dec (fun q1 => ?_) (fun q1 => ?_) | refine guardB_dec (fun q1 => ?_) (fun q1 => ?_)) <;> simp (disch := omega) only [goRules, coreRules, tiRules, unRules, AS_of_eq, ← decide_not, N0, N1, N2, N3, N4, N5, Z0, Z1, Z2, Z3, Z4, Z5, Z6, Z7, Z8, Z9, Z10, Zc, ↓reduceIte, reduceCtorEq, wrap_i64, q1, max2_int] <;> (with_reducible first | (refine And.intro ?_ ?_; focus (first | omega | exact mixed1 | kernel_rfl)); (repeat (with_reducible refine And.intro ?_ ?_; focus (first | omega | exact mixed1 | kernel_rfl))); (try simp (disch := omega) only [goRules, coreRules, tiRules, unRules, AS_of_eq, ← decide_not, N0, N1, N2, N3, N4, N5, Z0, Z1, Z2, Z3, Z4, Z5, Z6, Z7, Z8, Z9, Z10, Zc, ↓reduceIte, reduceCtorEq, wrap_i64, q1, max2_int]) | skip) <;> (try ((with_reducible first | refine branchP_dec (fun q2 => ?_) (fun q2 => ?_) | refine guardB_dec (fun q2 => ?_) (fun q2 => ?_)) <;> simp (disch := omega) only [goRules, coreRules, tiRules, unRules, AS_of_eq, ← decide_not, N0, N1, N2, N3, N4, N5, Z0, Z1, Z2, Z3, Z4, Z5, Z6, Z7, Z8, Z9, Z10, Zc, ↓reduceIte, reduceCtorEq, wrap_i64, q2, max2_int] <;> (with_reducible first | (refine And.intro ?_ ?_; focus (first | omega | exact mixed1 | kernel_rfl)); (repeat (with_reducible refine And.intro ?_ ?_; focus (first | omega | exact mixed1 | kernel_rfl))); (try simp (disch := omega) only [goRules, coreRules, tiRules, unRules, AS_of_eq, ← decide_not, N0, N1, N2, N3, N4, N5, Z0, Z1, Z2, Z3, Z4, Z5, Z6, Z7, Z8, Z9, Z10, Zc, ↓reduceIte, reduceCtorEq, wrap_i64, q2, max2_int]) | skip) <;> skip))))
    all_goals first
      | (refine call_add (by simp [get_cons]) ⟨hn1, hn2⟩ (by omega) ?_
         simp (disch := omega) only [goRules, coreRules, tiRules, unRules, AS_of_eq, ← decide_not, N0, N1, N2, N3, N4, N5, Z0, Z1, Z2, Z3, Z4, Z5, Z6, Z7, Z8, Z9, Z10, Zc, ↓reduceIte, reduceCtorEq, wrap_i64]
         refine weak_again ⟨(addI n (max m 0), i + 1), by omega, hr.1, hr.2, yes (by omega)⟩ (by simp only; omega) ?_
         rw [hSt]; refine weak_go [] [] ?_
         simp only [goRules, coreRules, tiRules, unRules, AS_of_eq, ← decide_not, N0, N1, N2, N3, N4, N5, Z0, Z1, Z2, Z3, Z4, Z5, Z6, Z7, Z8, Z9, Z10, Zc, ↓reduceIte, reduceCtorEq] <;> ((repeat' apply And.intro) <;> first | rfl | omega | trivial))
      | (refine weak_again ⟨(n, i + 1), by omega, hn1, hn2, no (by omega)⟩ (by simp only; omega) ?_
         rw [hSt]; refine weak_go [] [] ?_
         simp only [goRules, coreRules, tiRules, unRules, AS_of_eq, ← decide_not, N0, N1, N2, N3, N4, N5, Z0, Z1, Z2, Z3, Z4, Z5, Z6, Z7, Z8, Z9, Z10, Zc, ↓reduceIte, reduceCtorEq] <;> ((repeat' apply And.intro) <;> first | rfl | omega | trivial))
      | trace_state
  · simp only [goRules, coreRules, tiRules, unRules, AS_of_eq, ← decide_not, N0, N1, N2, N3, N4, N5, Z0, Z1, Z2, Z3, Z4, Z5, Z6, Z7, Z8, Z9, Z10, Zc, ↓reduceIte, reduceCtorEq, h]
    rw [List.drop_of_length_le (by omega)] at hb
    rw [hb]; rfl
theorem call_base {Γ : Env} (hf : Γ.get 18 = some baseCon) {σ : AS} {dr : Bool} {l : List Cp} {t : Nat} {ys : List AV} {d : Option Nat} {K : AS → Prop} (hy : ys = comps l) (h : okL l)
    (hk : cont σ d (.v (.int .i64 (baseL l))) K) : vcCall Tryd.prog Γ dr σ 18 [.sl t 3 ys] d K := by
  subst hy
  exact vcCall_plain (C := baseCon) (i := ⟨l, h⟩) hf rfl rfl rfl rfl (fun _ h => h) rfl hk

abbrev rcCon : Con where
  ι := Str
  args := fun s => [.v (sv s.1)]
  post := fun s r => r = .v (.int .i64 (lc s.1))
  plain := true
theorem dec2_lc {s : List UInt8} {p : Nat} : dec2 s p = (Lib.decodeL (s.drop p)).2 := by unfold dec2; rw [decodeL_dropL]
theorem rc_good : Rw.Good Tryd.prog 66 rcCon := by
  have hΓ : GoodEnv Tryd.prog [] := goodEnv_nil
  refine good_fn (nn := 10) hΓ Tryd.func66 (by kernel_rfl) rfl (show Tryd.f66.results.toList = [.tmp 2] from rfl) (fun _ => rfl) (fun _ => rfl) ?_
  rintro ⟨s, hs⟩
  simp only [goRules, coreRules, tiRules, unRules, AS_of_eq, ← decide_not, N0, N1, N2, N3, N4, N5, Z0, Z1, Z2, Z3, Z4, Z5, Z6, Z7, Z8, Z9, Z10, Zc, ↓reduceIte, reduceCtorEq]
  have hll := lc_len s
  obtain ⟨St, hSt⟩ : ∃ St : { p : Nat × Nat // p.1 + lc (s.drop p.2) = lc s } → AS, ∀ p, St p = AS.of 10 [(2, .v (.int .i64 p.1.1)), (4, .ptr 0 0)] [.iter ⟨s.toArray⟩ p.1.2] [] := ⟨_, fun _ => rfl⟩
  refine vc_loop hΓ St (fun p => s.length - p.1.2) ⟨(0, 0), by simp⟩ (by rw [hSt]; refine weak_go [0] [] ?_; simp only [goRules, coreRules, tiRules, unRules, AS_of_eq, ← decide_not, N0, N1, N2, N3, N4, N5, Z0, Z1, Z2, Z3, Z4, Z5, Z6, Z7, Z8, Z9, Z10, Zc, ↓reduceIte, reduceCtorEq] <;> ((repeat' apply And.intro) <;> first | rfl | omega | trivial)) ?_
  rintro ⟨⟨n, p⟩, hn⟩
  simp only at hn
  rw [hSt]
  simp only
  simp only [goRules, coreRules, tiRules, unRules, AS_of_eq, ← decide_not, N0, N1, N2, N3, N4, N5, Z0, Z1, Z2, Z3, Z4, Z5, Z6, Z7, Z8, Z9, Z10, Zc, ↓reduceIte, reduceCtorEq]
  by_cases hp : p < s.length
  · rw [nextO_in hp]
    have hw := Lib.decodeL_width (s.drop p)
    rw [lc_step (drop_ne hp), List.drop_drop] at hn
    simp (disch := omega) only [goRules, coreRules, tiRules, unRules, AS_of_eq, ← decide_not, N0, N1, N2, N3, N4, N5, Z0, Z1, Z2, Z3, Z4, Z5, Z6, Z7, Z8, Z9, Z10, Zc, ↓reduceIte, reduceCtorEq, wrap_i64, dec2_lc]
    refine weak_again ⟨(n + 1, p + (Lib.decodeL (s.drop p)).2), by simp only; omega⟩ (by simp only; omega) ?_
    rw [hSt]; refine weak_go [0] [] ?_
    simp only [goRules, coreRules, tiRules, unRules, AS_of_eq, ← decide_not, N0, N1, N2, N3, N4, N5, Z0, Z1, Z2, Z3, Z4, Z5, Z6, Z7, Z8, Z9, Z10, Zc, ↓reduceIte, reduceCtorEq] <;> ((repeat' apply And.intro) <;> first | rfl | omega | trivial)
  · rw [nextO_end hp]
    rw [List.drop_of_length_le (by omega), lc_nil] at hn
    simp only [goRules, coreRules, tiRules, unRules, AS_of_eq, ← decide_not, N0, N1, N2, N3, N4, N5, Z0, Z1, Z2, Z3, Z4, Z5, Z6, Z7, Z8, Z9, Z10, Zc, ↓reduceIte, reduceCtorEq]
    omega
theorem call_rc {Γ : Env} (hf : Γ.get 66 = some rcCon) {σ : AS} {dr : Bool} {l : List UInt8} {d : Option Nat} {K : AS → Prop} (h : l.length ≤ 1099511627776)
    (hk : cont σ d (.v (.int .i64 (lc l))) K) : vcCall Tryd.prog Γ dr σ 66 [.v (sv l)] d K :=
  vcCall_plain (C := rcCon) (i := ⟨l, h⟩) hf rfl rfl rfl rfl (fun _ h => h) rfl hk

abbrev outCon : Con where
  ι := Ed
  args := fun l => [.sl 0 3 (comps l.1)]
  post := fun l r => r = .v (.int .i64 (outL l.1))
  plain := true
theorem out_good : Rw.Good Tryd.prog 34 outCon := by
  have hΓ : GoodEnv Tryd.prog [(52, addCon), (66, rcCon)] := (goodEnv_cons add_good (goodEnv_cons rc_good goodEnv_nil))
  refine good_fn (nn := 29) hΓ Tryd.func34 (by kernel_rfl) rfl (show Tryd.f34.results.toList = [.tmp 2] from rfl) (fun _ => rfl) (fun _ => rfl) ?_
  rintro ⟨l, hl, htot, hc⟩
  simp only [goRules, coreRules, tiRules, unRules, AS_of_eq, ← decide_not, N0, N1, N2, N3, N4, N5, Z0, Z1, Z2, Z3, Z4, Z5, Z6, Z7, Z8, Z9, Z10, Zc, ↓reduceIte, reduceCtorEq, comps_len]
  obtain ⟨St, hSt⟩ : ∃ St : { p : Int × Nat // p.2 ≤ l.length ∧ 0 ≤ p.1 ∧ p.1 ≤ 1099511627776 ∧ outL l = outF p.1 (l.drop p.2) } → AS, ∀ p, St p = AS.of 29 [(2, .v (.int .i64 p.1.1)), (5, .sl 0 3 (comps l)), (6, .v (.int .i64 l.length)), (7, .v (.int .i64 p.1.2))] [] [] := ⟨_, fun _ => rfl⟩
  refine vc_loop hΓ St (fun p => l.length - p.1.2) ⟨(0, 0), by omega, by omega, by omega, rfl⟩ (by rw [hSt]; refine weak_go [] [] ?_; simp only [goRules, coreRules, tiRules, unRules, AS_of_eq, ← decide_not, N0, N1, N2, N3, N4, N5, Z0, Z1, Z2, Z3, Z4, Z5, Z6, Z7, Z8, Z9, Z10, Zc, ↓reduceIte, reduceCtorEq] <;> ((repeat' apply And.intro) <;> first | rfl | omega | trivial)) ?_
  rintro ⟨⟨n, i⟩, hi, hn1, hn2, hb⟩
  simp only at hi hn1 hn2 hb
  rw [hSt]
  simp only
  simp only [goRules, coreRules, tiRules, unRules, AS_of_eq, ← decide_not, N0, N1, N2, N3, N4, N5, Z0, Z1, Z2, Z3, Z4, Z5, Z6, Z7, Z8, Z9, Z10, Zc, ↓reduceIte, reduceCtorEq]
  (with_reducible first | refine branchP_dec (fun h => ?_) (fun h => ?_) | refine guardB_dec (fun h => ?_) (fun h => ?_))
  · have hlt : i < l.length := by omega
    have hci := And.intro (hc l[i] (List.getElem_mem hlt)) (okL.text ⟨hl, htot, hc⟩ (List.getElem_mem hlt))
    have e1 := comps_getD l hlt
    rw [List.drop_eq_getElem_cons hlt] at hb
    simp only [outF] at hb
    generalize l[i] = c at *
    obtain ⟨k, m, t⟩ := c
    simp only at hci hb e1
    have hl1 : k = 1 → outL l = outF (addI n (max m 0)) (l.drop (i + 1)) := fun h => by rw [hb, if_pos h]
    have hl2 : ¬ k = 1 → k = 2 → outL l = outF (addI n (lc t)) (l.drop (i + 1)) := fun h h2 => by rw [hb, if_neg h, if_pos h2]
    have hl3 : ¬ k = 1 → ¬ k = 2 → outL l = outF n (l.drop (i + 1)) := fun h h2 => by rw [hb, if_neg h, if_neg h2]
    have hr := addI_range hn1 (show 0 ≤ max m 0 by omega)
    have hr2 := addI_range hn1 (show 0 ≤ (lc t : Int) by omega)
    have hlt2 := lc_len t
    simp (disch := omega) only [goRules, coreRules, tiRules, unRules, AS_of_eq, ← decide_not, N0, N1, N2, N3, N4, N5, Z0, Z1, Z2, Z3, Z4, Z5, Z6, Z7, Z8, Z9, Z10, Zc, ↓reduceIte, reduceCtorEq, wrap_i64, h, e1, comps_len]
    (repeat (with_reducible refine And.intro ?_ ?_; focus (first | omega | exact mixed1 | kernel_rfl)))
    (try ((with_reducible first | refine branchP_dec (fun q1 => ?_) (fun q1 => ?_) | refine guardB_dec (fun q1 => ?_) (fun q1 => ?_)) <;> simp (disch := omega) only [goRules, coreRules, tiRules, unRules, AS_of_eq, ← decide_not, N0, N1, N2, N3, N4, N5, Z0, Z1, Z2, Z3, Z4, Z5, Z6, Z7, Z8, Z9, Z10, Zc, ↓reduceIte, reduceCtorEq, wrap_i64, q1, max2_int] <;> (with_reducible first | (refine And.intro ?_ ?_; focus (first | omega | exact mixed1 | kernel_rfl)); (repeat (with_reducible refine And.intro ?_ ?_; focus (first | omega | exact mixed1 | kernel_rfl))); (try simp (disch := omega) only [goRules, coreRules, tiRules, unRules, AS_of_eq, ← decide_not, N0, N1, N2, N3, N4, N5, Z0, Z1, Z2, Z3, Z4, Z5, Z6, Z7, Z8, Z9, Z10, Zc, ↓reduceIte, reduceCtorEq, wrap_i64, q1, max2_int]) | skip) <;> (try ((with_reducible first | refine branchP_dec (fun q2 => ?_) (fun q2 => ?_) | refine guardB_dec (fun q2 => ?_) (fun q2 => ?_)) <;> simp (disch := omega) only [goRules, coreRules, tiRules, unRules, AS_of_eq, ← decide_not, N0, N1, N2, N3, N4, N5, Z0, Z1, Z2, Z3, Z4, Z5, Z6, Z7, Z8, Z9, Z10, Zc, ↓reduceIte, reduceCtorEq, wrap_i64, q2, max2_int] <;> (with_reducible first | (refine And.intro ?_ ?_; focus (first | omega | exact mixed1 | kernel_rfl)); (repeat (with_reducible refine And.intro ?_ ?_; focus (first | omega | exact mixed1 | kernel_rfl))); (try simp (disch := omega) only [goRules, coreRules, tiRules, unRules, AS_of_eq, ← decide_not, N0, N1, N2, N3, N4, N5, Z0, Z1, Z2, Z3, Z4, Z5, Z6, Z7, Z8, Z9, Z10, Zc, ↓reduceIte, reduceCtorEq, wrap_i64, q2, max2_int]) | skip) <;> skip))))
    all_goals first
      | (refine call_add (by simp [get_cons]) ⟨hn1, hn2⟩ (by omega) ?_
         simp (disch := omega) only [goRules, coreRules, tiRules, unRules, AS_of_eq, ← decide_not, N0, N1, N2, N3, N4, N5, Z0, Z1, Z2, Z3, Z4, Z5, Z6, Z7, Z8, Z9, Z10, Zc, ↓reduceIte, reduceCtorEq, wrap_i64]
         refine weak_again ⟨(addI n (max m 0), i + 1), by omega, hr.1, hr.2, hl1 (by omega)⟩ (by simp only; omega) ?_
         rw [hSt]; refine weak_go [] [] ?_
         simp only [goRules, coreRules, tiRules, unRules, AS_of_eq, ← decide_not, N0, N1, N2, N3, N4, N5, Z0, Z1, Z2, Z3, Z4, Z5, Z6, Z7, Z8, Z9, Z10, Zc, ↓reduceIte, reduceCtorEq] <;> ((repeat' apply And.intro) <;> first | rfl | omega | trivial))
      | (refine call_rc (by simp [get_cons]) hci.2 ?_
         simp (disch := omega) only [goRules, coreRules, tiRules, unRules, AS_of_eq, ← decide_not, N0, N1, N2, N3, N4, N5, Z0, Z1, Z2, Z3, Z4, Z5, Z6, Z7, Z8, Z9, Z10, Zc, ↓reduceIte, reduceCtorEq, wrap_i64]
         refine call_add (by simp [get_cons]) ⟨hn1, hn2⟩ (by omega) ?_
         simp (disch := omega) only [goRules, coreRules, tiRules, unRules, AS_of_eq, ← decide_not, N0, N1, N2, N3, N4, N5, Z0, Z1, Z2, Z3, Z4, Z5, Z6, Z7, Z8, Z9, Z10, Zc, ↓reduceIte, reduceCtorEq, wrap_i64]
         refine weak_again ⟨(addI n (lc t), i + 1), by omega, hr2.1, hr2.2, hl2 (by omega) (by omega)⟩ (by simp only; omega) ?_
         rw [hSt]; refine weak_go [] [] ?_
         simp only [goRules, coreRules, tiRules, unRules, AS_of_eq, ← decide_not, N0, N1, N2, N3, N4, N5, Z0, Z1, Z2, Z3, Z4, Z5, Z6, Z7, Z8, Z9, Z10, Zc, ↓reduceIte, reduceCtorEq] <;> ((repeat' apply And.intro) <;> first | rfl | omega | trivial))
      | (refine weak_again ⟨(n, i + 1), by omega, hn1, hn2, hl3 (by omega) (by omega)⟩ (by simp only; omega) ?_
         rw [hSt]; refine weak_go [] [] ?_
         simp only [goRules, coreRules, tiRules, unRules, AS_of_eq, ← decide_not, N0, N1, N2, N3, N4, N5, Z0, Z1, Z2, Z3, Z4, Z5, Z6, Z7, Z8, Z9, Z10, Zc, ↓reduceIte, reduceCtorEq] <;> ((repeat' apply And.intro) <;> first | rfl | omega | trivial))
      | trace_state
  · simp only [goRules, coreRules, tiRules, unRules, AS_of_eq, ← decide_not, N0, N1, N2, N3, N4, N5, Z0, Z1, Z2, Z3, Z4, Z5, Z6, Z7, Z8, Z9, Z10, Zc, ↓reduceIte, reduceCtorEq, h]
    rw [List.drop_of_length_le (by omega)] at hb
    rw [hb]; rfl
theorem call_out {Γ : Env} (hf : Γ.get 34 = some outCon) {σ : AS} {dr : Bool} {l : List Cp} {t : Nat} {ys : List AV} {d : Option Nat} {K : AS → Prop} (hy : ys = comps l) (h : okL l)
    (hk : cont σ d (.v (.int .i64 (outL l))) K) : vcCall Tryd.prog Γ dr σ 34 [.sl t 3 ys] d K := by
  subst hy
  exact vcCall_plain (C := outCon) (i := ⟨l, h⟩) hf rfl rfl rfl rfl (fun _ h => h) rfl hk

abbrev partCon (F : Cp → Bool) : Con where
  ι := { c : Cp // c.t.length ≤ 1099511627776 }
  args := fun c => [cA c.1]
  post := fun c r => r = .v (.bool (F c.1))
  plain := true
theorem some_good : Rw.Good Tryd.prog 86 (partCon someC) := by
  have hΓ : GoodEnv Tryd.prog [] := goodEnv_nil
  refine good_fn (nn := 22) hΓ Tryd.func86 (by kernel_rfl) rfl (show Tryd.f86.results.toList = [.tmp 2] from rfl) (fun _ => rfl) (fun _ => rfl) ?_
  rintro ⟨⟨k, n, t⟩, ht⟩
  simp only at ht
  simp only [goRules, coreRules, tiRules, unRules, AS_of_eq, ← decide_not, N0, N1, N2, N3, N4, N5, Z0, Z1, Z2, Z3, Z4, Z5, Z6, Z7, Z8, Z9, Z10, Zc, ↓reduceIte, reduceCtorEq, cA, someC]
  (try ((with_reducible first | refine branchP_dec (fun q1 => ?_) (fun q1 => ?_) | refine guardB_dec (fun q1 => ?_) (fun q1 => ?_)) <;> simp (disch := omega) only [goRules, coreRules, tiRules, unRules, AS_of_eq, ← decide_not, N0, N1, N2, N3, N4, N5, Z0, Z1, Z2, Z3, Z4, Z5, Z6, Z7, Z8, Z9, Z10, Zc, ↓reduceIte, reduceCtorEq, wrap_i64, q1] <;> (with_reducible first | (refine And.intro ?_ ?_; focus (first | omega | exact mixed1 | kernel_rfl)); (repeat (with_reducible refine And.intro ?_ ?_; focus (first | omega | exact mixed1 | kernel_rfl))); (try simp (disch := omega) only [goRules, coreRules, tiRules, unRules, AS_of_eq, ← decide_not, N0, N1, N2, N3, N4, N5, Z0, Z1, Z2, Z3, Z4, Z5, Z6, Z7, Z8, Z9, Z10, Zc, ↓reduceIte, reduceCtorEq, wrap_i64, q1]) | skip) <;> (try ((with_reducible first | refine branchP_dec (fun q2 => ?_) (fun q2 => ?_) | refine guardB_dec (fun q2 => ?_) (fun q2 => ?_)) <;> simp (disch := omega) only [goRules, coreRules, tiRules, unRules, AS_of_eq, ← decide_not, N0, N1, N2, N3, N4, N5, Z0, Z1, Z2, Z3, Z4, Z5, Z6, Z7, Z8, Z9, Z10, Zc, ↓reduceIte, reduceCtorEq, wrap_i64, q2] <;> (with_reducible first | (refine And.intro ?_ ?_; focus (first | omega | exact mixed1 | kernel_rfl)); (repeat (with_reducible refine And.intro ?_ ?_; focus (first | omega | exact mixed1 | kernel_rfl))); (try simp (disch := omega) only [goRules, coreRules, tiRules, unRules, AS_of_eq, ← decide_not, N0, N1, N2, N3, N4, N5, Z0, Z1, Z2, Z3, Z4, Z5, Z6, Z7, Z8, Z9, Z10, Zc, ↓reduceIte, reduceCtorEq, wrap_i64, q2]) | skip) <;> (try ((with_reducible first | refine branchP_dec (fun q3 => ?_) (fun q3 => ?_) | refine guardB_dec (fun q3 => ?_) (fun q3 => ?_)) <;> simp (disch := omega) only [goRules, coreRules, tiRules, unRules, AS_of_eq, ← decide_not, N0, N1, N2, N3, N4, N5, Z0, Z1, Z2, Z3, Z4, Z5, Z6, Z7, Z8, Z9, Z10, Zc, ↓reduceIte, reduceCtorEq, wrap_i64, q3] <;> (with_reducible first | (refine And.intro ?_ ?_; focus (first | omega | exact mixed1 | kernel_rfl)); (repeat (with_reducible refine And.intro ?_ ?_; focus (first | omega | exact mixed1 | kernel_rfl))); (try simp (disch := omega) only [goRules, coreRules, tiRules, unRules, AS_of_eq, ← decide_not, N0, N1, N2, N3, N4, N5, Z0, Z1, Z2, Z3, Z4, Z5, Z6, Z7, Z8, Z9, Z10, Zc, ↓reduceIte, reduceCtorEq, wrap_i64, q3]) | skip) <;> (try ((with_reducible first | refine branchP_dec (fun q4 => ?_) (fun q4 => ?_) | refine guardB_dec (fun q4 => ?_) (fun q4 => ?_)) <;> simp (disch := omega) only [goRules, coreRules, tiRules, unRules, AS_of_eq, ← decide_not, N0, N1, N2, N3, N4, N5, Z0, Z1, Z2, Z3, Z4, Z5, Z6, Z7, Z8, Z9, Z10, Zc, ↓reduceIte, reduceCtorEq, wrap_i64, q4] <;> (with_reducible first | (refine And.intro ?_ ?_; focus (first | omega | exact mixed1 | kernel_rfl)); (repeat (with_reducible refine And.intro ?_ ?_; focus (first | omega | exact mixed1 | kernel_rfl))); (try simp (disch := omega) only [goRules, coreRules, tiRules, unRules, AS_of_eq, ← decide_not, N0, N1, N2, N3, N4, N5, Z0, Z1, Z2, Z3, Z4, Z5, Z6, Z7, Z8, Z9, Z10, Zc, ↓reduceIte, reduceCtorEq, wrap_i64, q4]) | skip) <;> skip))))))))
  all_goals first
    | done
    | (simp [*]; done)
    | trace_state
theorem call_some {Γ : Env} (hf : Γ.get 86 = some (partCon someC)) {σ : AS} {dr : Bool} {c : Cp} {d : Option Nat} {K : AS → Prop} (h : c.t.length ≤ 1099511627776)
    (hk : cont σ d (.v (.bool (someC c))) K) : vcCall Tryd.prog Γ dr σ 86 [.agg [.v (.int .i64 c.k), .v (.int .i64 c.n), .v (sv c.t)]] d K :=
  vcCall_plain (C := partCon someC) (i := ⟨c, h⟩) hf rfl rfl rfl rfl (fun _ h => h) rfl hk
theorem sound_good : Rw.Good Tryd.prog 78 (partCon sound) := by
  have hΓ : GoodEnv Tryd.prog [(55, validCon)] := (goodEnv_cons valid_good goodEnv_nil)
  refine good_fn (nn := 31) hΓ Tryd.func78 (by kernel_rfl) rfl (show Tryd.f78.results.toList = [.tmp 2] from rfl) (fun _ => rfl) (fun _ => rfl) ?_
  rintro ⟨⟨k, n, t⟩, ht⟩
  simp only at ht
  simp only [goRules, coreRules, tiRules, unRules, AS_of_eq, ← decide_not, N0, N1, N2, N3, N4, N5, Z0, Z1, Z2, Z3, Z4, Z5, Z6, Z7, Z8, Z9, Z10, Zc, ↓reduceIte, reduceCtorEq, cA, sound]
  (try ((with_reducible first | refine branchP_dec (fun q1 => ?_) (fun q1 => ?_) | refine guardB_dec (fun q1 => ?_) (fun q1 => ?_)) <;> simp (disch := omega) only [goRules, coreRules, tiRules, unRules, AS_of_eq, ← decide_not, N0, N1, N2, N3, N4, N5, Z0, Z1, Z2, Z3, Z4, Z5, Z6, Z7, Z8, Z9, Z10, Zc, ↓reduceIte, reduceCtorEq, wrap_i64, q1] <;> (with_reducible first | (refine And.intro ?_ ?_; focus (first | omega | exact mixed1 | kernel_rfl)); (repeat (with_reducible refine And.intro ?_ ?_; focus (first | omega | exact mixed1 | kernel_rfl))); (try simp (disch := omega) only [goRules, coreRules, tiRules, unRules, AS_of_eq, ← decide_not, N0, N1, N2, N3, N4, N5, Z0, Z1, Z2, Z3, Z4, Z5, Z6, Z7, Z8, Z9, Z10, Zc, ↓reduceIte, reduceCtorEq, wrap_i64, q1]) | skip) <;> (try ((with_reducible first | refine branchP_dec (fun q2 => ?_) (fun q2 => ?_) | refine guardB_dec (fun q2 => ?_) (fun q2 => ?_)) <;> simp (disch := omega) only [goRules, coreRules, tiRules, unRules, AS_of_eq, ← decide_not, N0, N1, N2, N3, N4, N5, Z0, Z1, Z2, Z3, Z4, Z5, Z6, Z7, Z8, Z9, Z10, Zc, ↓reduceIte, reduceCtorEq, wrap_i64, q2] <;> (with_reducible first | (refine And.intro ?_ ?_; focus (first | omega | exact mixed1 | kernel_rfl)); (repeat (with_reducible refine And.intro ?_ ?_; focus (first | omega | exact mixed1 | kernel_rfl))); (try simp (disch := omega) only [goRules, coreRules, tiRules, unRules, AS_of_eq, ← decide_not, N0, N1, N2, N3, N4, N5, Z0, Z1, Z2, Z3, Z4, Z5, Z6, Z7, Z8, Z9, Z10, Zc, ↓reduceIte, reduceCtorEq, wrap_i64, q2]) | skip) <;> (try ((with_reducible first | refine branchP_dec (fun q3 => ?_) (fun q3 => ?_) | refine guardB_dec (fun q3 => ?_) (fun q3 => ?_)) <;> simp (disch := omega) only [goRules, coreRules, tiRules, unRules, AS_of_eq, ← decide_not, N0, N1, N2, N3, N4, N5, Z0, Z1, Z2, Z3, Z4, Z5, Z6, Z7, Z8, Z9, Z10, Zc, ↓reduceIte, reduceCtorEq, wrap_i64, q3] <;> (with_reducible first | (refine And.intro ?_ ?_; focus (first | omega | exact mixed1 | kernel_rfl)); (repeat (with_reducible refine And.intro ?_ ?_; focus (first | omega | exact mixed1 | kernel_rfl))); (try simp (disch := omega) only [goRules, coreRules, tiRules, unRules, AS_of_eq, ← decide_not, N0, N1, N2, N3, N4, N5, Z0, Z1, Z2, Z3, Z4, Z5, Z6, Z7, Z8, Z9, Z10, Zc, ↓reduceIte, reduceCtorEq, wrap_i64, q3]) | skip) <;> (try ((with_reducible first | refine branchP_dec (fun q4 => ?_) (fun q4 => ?_) | refine guardB_dec (fun q4 => ?_) (fun q4 => ?_)) <;> simp (disch := omega) only [goRules, coreRules, tiRules, unRules, AS_of_eq, ← decide_not, N0, N1, N2, N3, N4, N5, Z0, Z1, Z2, Z3, Z4, Z5, Z6, Z7, Z8, Z9, Z10, Zc, ↓reduceIte, reduceCtorEq, wrap_i64, q4] <;> (with_reducible first | (refine And.intro ?_ ?_; focus (first | omega | exact mixed1 | kernel_rfl)); (repeat (with_reducible refine And.intro ?_ ?_; focus (first | omega | exact mixed1 | kernel_rfl))); (try simp (disch := omega) only [goRules, coreRules, tiRules, unRules, AS_of_eq, ← decide_not, N0, N1, N2, N3, N4, N5, Z0, Z1, Z2, Z3, Z4, Z5, Z6, Z7, Z8, Z9, Z10, Zc, ↓reduceIte, reduceCtorEq, wrap_i64, q4]) | skip) <;> skip))))))))
  all_goals first
    | done
    | (refine call_valid (by simp [get_cons]) ht ?_
       simp only [goRules, coreRules, tiRules, unRules, AS_of_eq, ← decide_not, N0, N1, N2, N3, N4, N5, Z0, Z1, Z2, Z3, Z4, Z5, Z6, Z7, Z8, Z9, Z10, Zc, ↓reduceIte, reduceCtorEq] <;> simp [*])
    | (simp [*]; done)
    | trace_state
theorem call_sound {Γ : Env} (hf : Γ.get 78 = some (partCon sound)) {σ : AS} {dr : Bool} {c : Cp} {d : Option Nat} {K : AS → Prop} (h : c.t.length ≤ 1099511627776)
    (hk : cont σ d (.v (.bool (sound c))) K) : vcCall Tryd.prog Γ dr σ 78 [.agg [.v (.int .i64 c.k), .v (.int .i64 c.n), .v (sv c.t)]] d K :=
  vcCall_plain (C := partCon sound) (i := ⟨c, h⟩) hf rfl rfl rfl rfl (fun _ h => h) rfl hk
end Go.Proofs
end

-- AUo2
section
namespace Go.Proofs
open Go Go.Rw
open _root_.Nat renaming reduceAdd → N0, reduceSub → N1, reduceMul → N2, reduceLT → N3, reduceLeDiff → N4, reduceEqDiff → N5
open _root_.Int renaming reduceNeg → Z0, reduceAdd → Z1, reduceSub → Z2, reduceMul → Z3, reduceGT → Z4, reduceGE → Z5, reduceLT → Z6, reduceLE → Z7, reduceEq → Z8, reduceNe → Z9, reduceToNat → Z10, cast_ofNat_Int → Zc
set_option maxRecDepth 100000
set_option linter.unusedSimpArgs false
set_option linter.unusedVariables false

abbrev soundCon : Con := partCon sound
abbrev someCon : Con := partCon someC
/-- The part ahead of a place. -/
def ahead (l : List Cp) (i : Nat) : Option Cp := if i = 0 then none else l[i - 1]?
abbrev normalCon : Con where
  ι := Ed
  args := fun l => [.sl 0 3 (comps l.1)]
  post := fun l r => r = .v (.bool (normalL l.1))
  plain := true
theorem normal_good : Rw.Good Tryd.prog 51 normalCon := by
  have hΓ : GoodEnv Tryd.prog [(78, soundCon)] := (goodEnv_cons sound_good goodEnv_nil)
  refine good_fn (nn := 45) hΓ Tryd.func51 (by kernel_rfl) rfl (show Tryd.f51.results.toList = [.tmp 2] from rfl) (fun _ => rfl) (fun _ => rfl) ?_
  rintro ⟨l, hl, htot, hc⟩
  simp only [goRules, coreRules, tiRules, unRules, AS_of_eq, ← decide_not, N0, N1, N2, N3, N4, N5, Z0, Z1, Z2, Z3, Z4, Z5, Z6, Z7, Z8, Z9, Z10, Zc, ↓reduceIte, reduceCtorEq, comps_len]
  obtain ⟨St, hSt⟩ : ∃ St : { i : Nat // i ≤ l.length ∧ normalL l = normalF (ahead l i) (l.drop i) } → AS, ∀ i, St i = AS.of 45 [(0, .sl 0 3 (comps l)), (5, .sl 0 3 (comps l)), (6, .v (.int .i64 l.length)), (7, .v (.int .i64 i.1))] [] [] := ⟨_, fun _ => rfl⟩
  refine vc_loop hΓ St (fun i => l.length - i.1) ⟨0, by omega, rfl⟩ (by rw [hSt]; refine weak_go [] [] ?_; simp only [goRules, coreRules, tiRules, unRules, AS_of_eq, ← decide_not, N0, N1, N2, N3, N4, N5, Z0, Z1, Z2, Z3, Z4, Z5, Z6, Z7, Z8, Z9, Z10, Zc, ↓reduceIte, reduceCtorEq] <;> ((repeat' apply And.intro) <;> first | rfl | omega | trivial)) ?_
  rintro ⟨i, hi, hb⟩
  rw [hSt]
  simp only
  simp only [goRules, coreRules, tiRules, unRules, AS_of_eq, ← decide_not, N0, N1, N2, N3, N4, N5, Z0, Z1, Z2, Z3, Z4, Z5, Z6, Z7, Z8, Z9, Z10, Zc, ↓reduceIte, reduceCtorEq]
  (with_reducible first | refine branchP_dec (fun h => ?_) (fun h => ?_) | refine guardB_dec (fun h => ?_) (fun h => ?_))
  · have hlt : i < l.length := by omega
    have hci := okL.text ⟨hl, htot, hc⟩ (List.getElem_mem hlt)
    have e1 := comps_getD l hlt
    rw [List.drop_eq_getElem_cons hlt] at hb
    simp only [normalF] at hb
    have hne : ahead l (i + 1) = some l[i] := by simp [ahead, hlt]
    rw [← hne] at hb
    simp (disch := omega) only [goRules, coreRules, tiRules, unRules, AS_of_eq, ← decide_not, N0, N1, N2, N3, N4, N5, Z0, Z1, Z2, Z3, Z4, Z5, Z6, Z7, Z8, Z9, Z10, Zc, ↓reduceIte, reduceCtorEq, wrap_i64, h, e1, comps_len]
    (repeat (with_reducible refine And.intro ?_ ?_; focus (first | omega | exact mixed1 | kernel_rfl)))
    refine call_sound (by simp [get_cons]) hci ?_
    have again : ∀ σ : AS, Weak σ (AS.of 45 [(0, .sl 0 3 (comps l)), (5, .sl 0 3 (comps l)), (6, .v (.int .i64 l.length)), (7, .v (.int .i64 (i + 1 : Nat)))] [] []) → normalL l = normalF (ahead l (i + 1)) (l.drop (i + 1)) → ∀ (x : { i : Nat // i ≤ l.length ∧ normalL l = normalF (ahead l i) (l.drop i) }), x.1 = i → Again St (fun i => l.length - i.1) x σ := fun σ hw hb2 x hx =>
      weak_again ⟨i + 1, by omega, hb2⟩ (by simp only; omega) (by rw [hSt]; exact hw)
    cases hs : sound l[i] with
    | false =>
      simp only [goRules, coreRules, tiRules, unRules, AS_of_eq, ← decide_not, N0, N1, N2, N3, N4, N5, Z0, Z1, Z2, Z3, Z4, Z5, Z6, Z7, Z8, Z9, Z10, Zc, ↓reduceIte, reduceCtorEq, hs]
      rw [hb, hs]; rfl
    | true =>
      rw [hs, Bool.true_and] at hb
      by_cases h0 : i = 0
      · subst h0
        simp only [goRules, coreRules, tiRules, unRules, AS_of_eq, ← decide_not, N0, N1, N2, N3, N4, N5, Z0, Z1, Z2, Z3, Z4, Z5, Z6, Z7, Z8, Z9, Z10, Zc, ↓reduceIte, reduceCtorEq, hs]
        have hb3 : normalL l = normalF (ahead l (0 + 1)) (l.drop (0 + 1)) := by
          rw [hb]; rfl
        refine again _ ?_ hb3 _ rfl
        refine weak_go [] [] ?_
        simp only [goRules, coreRules, tiRules, unRules, AS_of_eq, ← decide_not, N0, N1, N2, N3, N4, N5, Z0, Z1, Z2, Z3, Z4, Z5, Z6, Z7, Z8, Z9, Z10, Zc, ↓reduceIte, reduceCtorEq] <;> ((repeat' apply And.intro) <;> first | rfl | omega | trivial)
      · have hp : ahead l i = some l[i - 1] := by simp [ahead, h0]
        have e2 : (comps l).getD (i - 1) .any = .agg [.v (.int .i64 l[i - 1].k), .v (.int .i64 l[i - 1].n), .v (sv l[i - 1].t)] := comps_getD l (by omega)
        have e3 : ((i : Int) - 1).toNat = i - 1 := by omega
        rw [hp] at hb
        simp only at hb
        simp (disch := omega) only [goRules, coreRules, tiRules, unRules, AS_of_eq, ← decide_not, N0, N1, N2, N3, N4, N5, Z0, Z1, Z2, Z3, Z4, Z5, Z6, Z7, Z8, Z9, Z10, Zc, ↓reduceIte, reduceCtorEq, wrap_i64, hs, show (i : Int) > 0 by omega, comps_len, e3, e2]
        (repeat (with_reducible refine And.intro ?_ ?_; focus (first | omega | exact mixed1 | kernel_rfl)))
        have fol : follows l[i - 1] l[i] = true → normalL l = normalF (ahead l (i + 1)) (l.drop (i + 1)) := fun h => by rw [hb, h, Bool.true_and]
        have nof : follows l[i - 1] l[i] = false → normalL l = false := fun h => by rw [hb, h, Bool.false_and]
        (try ((with_reducible first | refine branchP_dec (fun q1 => ?_) (fun q1 => ?_) | refine guardB_dec (fun q1 => ?_) (fun q1 => ?_)) <;> simp (disch := omega) only [goRules, coreRules, tiRules, unRules, AS_of_eq, ← decide_not, N0, N1, N2, N3, N4, N5, Z0, Z1, Z2, Z3, Z4, Z5, Z6, Z7, Z8, Z9, Z10, Zc, ↓reduceIte, reduceCtorEq, wrap_i64, q1, comps_len, e3, e2] <;> (with_reducible first | (refine And.intro ?_ ?_; focus (first | omega | exact mixed1 | kernel_rfl)); (repeat (with_reducible refine And.intro ?_ ?_; focus (first | omega | exact mixed1 | kernel_rfl))); (try simp (disch := omega) only [goRules, coreRules, tiRules, unRules, AS_of_eq, ← decide_not, N0, N1, N2, N3, N4, N5, Z0, Z1, Z2, Z3, Z4, Z5, Z6, Z7, Z8, Z9, Z10, Zc, ↓reduceIte, reduceCtorEq, wrap_i64, q1, comps_len, e3, e2]) | skip) <;> (try ((with_reducible first | refine branchP_dec (fun q2 => ?_) (fun q2 => ?_) | refine guardB_dec (fun q2 => ?_) (fun q2 => ?_)) <;> simp (disch := omega) only [goRules, coreRules, tiRules, unRules, AS_of_eq, ← decide_not, N0, N1, N2, N3, N4, N5, Z0, Z1, Z2, Z3, Z4, Z5, Z6, Z7, Z8, Z9, Z10, Zc, ↓reduceIte, reduceCtorEq, wrap_i64, q2, comps_len, e3, e2] <;> (with_reducible first | (refine And.intro ?_ ?_; focus (first | omega | exact mixed1 | kernel_rfl)); (repeat (with_reducible refine And.intro ?_ ?_; focus (first | omega | exact mixed1 | kernel_rfl))); (try simp (disch := omega) only [goRules, coreRules, tiRules, unRules, AS_of_eq, ← decide_not, N0, N1, N2, N3, N4, N5, Z0, Z1, Z2, Z3, Z4, Z5, Z6, Z7, Z8, Z9, Z10, Zc, ↓reduceIte, reduceCtorEq, wrap_i64, q2, comps_len, e3, e2]) | skip) <;> (try ((with_reducible first | refine branchP_dec (fun q3 => ?_) (fun q3 => ?_) | refine guardB_dec (fun q3 => ?_) (fun q3 => ?_)) <;> simp (disch := omega) only [goRules, coreRules, tiRules, unRules, AS_of_eq, ← decide_not, N0, N1, N2, N3, N4, N5, Z0, Z1, Z2, Z3, Z4, Z5, Z6, Z7, Z8, Z9, Z10, Zc, ↓reduceIte, reduceCtorEq, wrap_i64, q3, comps_len, e3, e2] <;> (with_reducible first | (refine And.intro ?_ ?_; focus (first | omega | exact mixed1 | kernel_rfl)); (repeat (with_reducible refine And.intro ?_ ?_; focus (first | omega | exact mixed1 | kernel_rfl))); (try simp (disch := omega) only [goRules, coreRules, tiRules, unRules, AS_of_eq, ← decide_not, N0, N1, N2, N3, N4, N5, Z0, Z1, Z2, Z3, Z4, Z5, Z6, Z7, Z8, Z9, Z10, Zc, ↓reduceIte, reduceCtorEq, wrap_i64, q3, comps_len, e3, e2]) | skip) <;> (try ((with_reducible first | refine branchP_dec (fun q4 => ?_) (fun q4 => ?_) | refine guardB_dec (fun q4 => ?_) (fun q4 => ?_)) <;> simp (disch := omega) only [goRules, coreRules, tiRules, unRules, AS_of_eq, ← decide_not, N0, N1, N2, N3, N4, N5, Z0, Z1, Z2, Z3, Z4, Z5, Z6, Z7, Z8, Z9, Z10, Zc, ↓reduceIte, reduceCtorEq, wrap_i64, q4, comps_len, e3, e2] <;> (with_reducible first | (refine And.intro ?_ ?_; focus (first | omega | exact mixed1 | kernel_rfl)); (repeat (with_reducible refine And.intro ?_ ?_; focus (first | omega | exact mixed1 | kernel_rfl))); (try simp (disch := omega) only [goRules, coreRules, tiRules, unRules, AS_of_eq, ← decide_not, N0, N1, N2, N3, N4, N5, Z0, Z1, Z2, Z3, Z4, Z5, Z6, Z7, Z8, Z9, Z10, Zc, ↓reduceIte, reduceCtorEq, wrap_i64, q4, comps_len, e3, e2]) | skip) <;> skip))))))))
        all_goals first
          | (rw [nof (by simp [follows]; omega)])
          | (refine again _ ?_ (fol (by simp [follows]; omega)) _ rfl
             refine weak_go [] [] ?_
             simp only [goRules, coreRules, tiRules, unRules, AS_of_eq, ← decide_not, N0, N1, N2, N3, N4, N5, Z0, Z1, Z2, Z3, Z4, Z5, Z6, Z7, Z8, Z9, Z10, Zc, ↓reduceIte, reduceCtorEq] <;> ((repeat' apply And.intro) <;> first | rfl | omega | trivial))
          | trace_state
  · simp only [goRules, coreRules, tiRules, unRules, AS_of_eq, ← decide_not, N0, N1, N2, N3, N4, N5, Z0, Z1, Z2, Z3, Z4, Z5, Z6, Z7, Z8, Z9, Z10, Zc, ↓reduceIte, reduceCtorEq, h]
    rw [List.drop_of_length_le (by omega)] at hb
    rw [hb]; rfl
theorem call_normal {Γ : Env} (hf : Γ.get 51 = some normalCon) {σ : AS} {dr : Bool} {l : List Cp} {t : Nat} {ys : List AV} {d : Option Nat} {K : AS → Prop} (hy : ys = comps l) (h : okL l)
    (hk : cont σ d (.v (.bool (normalL l))) K) : vcCall Tryd.prog Γ dr σ 51 [.sl t 3 ys] d K := by
  subst hy
  exact vcCall_plain (C := normalCon) (i := ⟨l, h⟩) hf rfl rfl rfl rfl (fun _ h => h) rfl hk
abbrev checkCon : Con where
  ι := Ed
  args := fun l => [.sl 0 3 (comps l.1)]
  post := fun l r => r = .v (.int .i64 (checkI l.1))
  plain := true
theorem check_good : Rw.Good Tryd.prog 17 checkCon := by
  have hΓ : GoodEnv Tryd.prog [(51, normalCon), (18, baseCon), (34, outCon)] := (goodEnv_cons normal_good (goodEnv_cons base_good (goodEnv_cons out_good goodEnv_nil)))
  refine good_fn (nn := 20) hΓ Tryd.func17 (by kernel_rfl) rfl (show Tryd.f17.results.toList = [.tmp 2] from rfl) (fun _ => rfl) (fun _ => rfl) ?_
  rintro ⟨l, hl⟩
  simp only [goRules, coreRules, tiRules, unRules, AS_of_eq, ← decide_not, N0, N1, N2, N3, N4, N5, Z0, Z1, Z2, Z3, Z4, Z5, Z6, Z7, Z8, Z9, Z10, Zc, ↓reduceIte, reduceCtorEq, comps_len]
  have c1 : 100 < (l.length : Int) → checkI l = 3 := fun h => by rw [checkI, if_pos (by omega)]
  have c2 : ¬ 100 < (l.length : Int) → normalL l = false → checkI l = 1 := fun h h2 => by rw [checkI, if_neg (by omega), if_pos h2]
  have c3 : ¬ 100 < (l.length : Int) → normalL l = true → (baseL l > 2000 ∨ outL l > 2000) → checkI l = 3 := fun h h2 h3 => by rw [checkI, if_neg (by omega), if_neg (by rw [h2]; decide), if_pos h3]
  have c4 : ¬ 100 < (l.length : Int) → normalL l = true → ¬ (baseL l > 2000 ∨ outL l > 2000) → checkI l = 0 := fun h h2 h3 => by rw [checkI, if_neg (by omega), if_neg (by rw [h2]; decide), if_neg h3]
  (with_reducible first | refine branchP_dec (fun h => ?_) (fun h => ?_) | refine guardB_dec (fun h => ?_) (fun h => ?_))
  · simp only [goRules, coreRules, tiRules, unRules, AS_of_eq, ← decide_not, N0, N1, N2, N3, N4, N5, Z0, Z1, Z2, Z3, Z4, Z5, Z6, Z7, Z8, Z9, Z10, Zc, ↓reduceIte, reduceCtorEq, h, c1 (by omega)]
  · simp only [goRules, coreRules, tiRules, unRules, AS_of_eq, ← decide_not, N0, N1, N2, N3, N4, N5, Z0, Z1, Z2, Z3, Z4, Z5, Z6, Z7, Z8, Z9, Z10, Zc, ↓reduceIte, reduceCtorEq, h]
    refine call_normal (by simp [get_cons]) rfl hl ?_
    cases hn : normalL l with
    | false => simp only [goRules, coreRules, tiRules, unRules, AS_of_eq, ← decide_not, N0, N1, N2, N3, N4, N5, Z0, Z1, Z2, Z3, Z4, Z5, Z6, Z7, Z8, Z9, Z10, Zc, ↓reduceIte, reduceCtorEq, hn, c2 (by omega) hn]
    | true =>
      simp only [goRules, coreRules, tiRules, unRules, AS_of_eq, ← decide_not, N0, N1, N2, N3, N4, N5, Z0, Z1, Z2, Z3, Z4, Z5, Z6, Z7, Z8, Z9, Z10, Zc, ↓reduceIte, reduceCtorEq, hn]
      refine call_base (by simp [get_cons]) rfl hl ?_
      simp only [goRules, coreRules, tiRules, unRules, AS_of_eq, ← decide_not, N0, N1, N2, N3, N4, N5, Z0, Z1, Z2, Z3, Z4, Z5, Z6, Z7, Z8, Z9, Z10, Zc, ↓reduceIte, reduceCtorEq]
      (with_reducible first | refine branchP_dec (fun h1 => ?_) (fun h1 => ?_) | refine guardB_dec (fun h1 => ?_) (fun h1 => ?_))
      · simp only [goRules, coreRules, tiRules, unRules, AS_of_eq, ← decide_not, N0, N1, N2, N3, N4, N5, Z0, Z1, Z2, Z3, Z4, Z5, Z6, Z7, Z8, Z9, Z10, Zc, ↓reduceIte, reduceCtorEq, h1, c3 (by omega) hn (.inl (by omega))]
      · simp only [goRules, coreRules, tiRules, unRules, AS_of_eq, ← decide_not, N0, N1, N2, N3, N4, N5, Z0, Z1, Z2, Z3, Z4, Z5, Z6, Z7, Z8, Z9, Z10, Zc, ↓reduceIte, reduceCtorEq, h1]
        refine call_out (by simp [get_cons]) rfl hl ?_
        simp only [goRules, coreRules, tiRules, unRules, AS_of_eq, ← decide_not, N0, N1, N2, N3, N4, N5, Z0, Z1, Z2, Z3, Z4, Z5, Z6, Z7, Z8, Z9, Z10, Zc, ↓reduceIte, reduceCtorEq]
        (with_reducible first | refine branchP_dec (fun h2 => ?_) (fun h2 => ?_) | refine guardB_dec (fun h2 => ?_) (fun h2 => ?_))
        · simp only [goRules, coreRules, tiRules, unRules, AS_of_eq, ← decide_not, N0, N1, N2, N3, N4, N5, Z0, Z1, Z2, Z3, Z4, Z5, Z6, Z7, Z8, Z9, Z10, Zc, ↓reduceIte, reduceCtorEq, h2, c3 (by omega) hn (.inr (by omega))]
        · simp only [goRules, coreRules, tiRules, unRules, AS_of_eq, ← decide_not, N0, N1, N2, N3, N4, N5, Z0, Z1, Z2, Z3, Z4, Z5, Z6, Z7, Z8, Z9, Z10, Zc, ↓reduceIte, reduceCtorEq, h2, c4 (by omega) hn (by omega)]
theorem call_check {Γ : Env} (hf : Γ.get 17 = some checkCon) {σ : AS} {dr : Bool} {l : List Cp} {t : Nat} {ys : List AV} {d : Option Nat} {K : AS → Prop} (hy : ys = comps l) (h : okL l)
    (hk : cont σ d (.v (.int .i64 (checkI l))) K) : vcCall Tryd.prog Γ dr σ 17 [.sl t 3 ys] d K := by
  subst hy
  exact vcCall_plain (C := checkCon) (i := ⟨l, h⟩) hf rfl rfl rfl rfl (fun _ h => h) rfl hk
end Go.Proofs
end

-- AUo3
section
namespace Go.Proofs
open Go Go.Rw
open _root_.Nat renaming reduceAdd → N0, reduceSub → N1, reduceMul → N2, reduceLT → N3, reduceLeDiff → N4, reduceEqDiff → N5
open _root_.Int renaming reduceNeg → Z0, reduceAdd → Z1, reduceSub → Z2, reduceMul → Z3, reduceGT → Z4, reduceGE → Z5, reduceLT → Z6, reduceLE → Z7, reduceEq → Z8, reduceNe → Z9, reduceToNat → Z10, cast_ofNat_Int → Zc
set_option maxRecDepth 100000
set_option linter.unusedSimpArgs false
set_option linter.unusedVariables false

theorem ofV1_aggv {a : Array Value} : ofV1 (.agg a) = .v (.agg a) := rfl
/-- What is put behind others, up to a place. -/
def pN (c : Cp) : List Cp := if someC c then [c] else []
def putN (k : Int) (t : List UInt8) (g : Int) : Nat → List Cp
  | 0 => []
  | 1 => pN ⟨1, k, []⟩
  | 2 => pN ⟨1, k, []⟩ ++ pN ⟨2, 0, t⟩
  | _ => pN ⟨1, k, []⟩ ++ pN ⟨2, 0, t⟩ ++ pN ⟨3, g, []⟩
theorem putN_three (k : Int) (t : List UInt8) (g : Int) : putN k t g 3 = putL k t g := by
  unfold putN putL pN someC
  simp
theorem pN_len (c : Cp) : (pN c).length ≤ 1 := by
  unfold pN
  split <;> simp
theorem putN_len (k : Int) (t : List UInt8) (g : Int) (j : Nat) : (putN k t g j).length ≤ 3 := by
  have h1 := pN_len ⟨1, k, []⟩
  have h2 := pN_len ⟨2, 0, t⟩
  have h3 := pN_len ⟨3, g, []⟩
  match j with
  | 0 => simp [putN]
  | 1 => simp only [putN]; omega
  | 2 => simp only [putN, List.length_append]; omega
  | n + 3 => simp only [putN, List.length_append]; omega
abbrev Pt := { p : (List Cp × Int) × (List UInt8 × Int) // p.1.1.length ≤ 4000000000000 ∧ (0 ≤ p.1.2 ∧ p.1.2 ≤ 1099511627776) ∧ p.2.1.length ≤ 1099511627776 ∧ (0 ≤ p.2.2 ∧ p.2.2 ≤ 1099511627776) }
abbrev putCon : Con where
  ι := Pt
  args := fun p => [.sl 2 3 (comps p.1.1.1), .v (.int .i64 p.1.1.2), .v (sv p.1.2.1), .v (.int .i64 p.1.2.2)]
  post := fun p r => r = .sl 2 3 (comps (p.1.1.1 ++ putL p.1.1.2 p.1.2.1 p.1.2.2))
  own := some (0, 32)
  take := some (0, 32)
theorem put_good : Rw.Good Tryd.prog 87 putCon := by
  have hΓ : GoodEnv Tryd.prog [(86, someCon)] := (goodEnv_cons some_good goodEnv_nil)
  refine good_tk (nn := 31) hΓ Tryd.func87 (by kernel_rfl) rfl (show Tryd.f87.results.toList = [.tmp 8] from rfl) (fun _ => rfl) (fun _ => rfl) ?_
  rintro ⟨⟨⟨l, k⟩, ⟨t, g⟩⟩, hl, hk, ht, hg⟩
  simp only at hl hk ht hg
  have hmin : min k 1099511627776 = k := by omega
  have hmin2 : min g 1099511627776 = g := by omega
  simp only [goRules, coreRules, tiRules, unRules, AS_of_eq, ← decide_not, N0, N1, N2, N3, N4, N5, Z0, Z1, Z2, Z3, Z4, Z5, Z6, Z7, Z8, Z9, Z10, Zc, ↓reduceIte, reduceCtorEq, comps_len, min2_int, hmin, hmin2, List.map_cons, List.map_nil, ofV1_aggv]
  obtain ⟨St, hSt⟩ : ∃ St : { j : Nat // j ≤ 3 } → AS, ∀ j, St j = AS.of 31 [(0, .sl 2 3 (comps (l ++ putN k t g j.1))), (19, .agg [.v (.int .i64 1), .v (.int .i64 k), .v (sv []), .v (.int .i64 2), .v (.int .i64 0), .v (sv t), .v (.int .i64 3), .v (.int .i64 g), .v (sv [])]), (20, .v (.int .i64 j.1))] [] [((comps (l ++ putN k t g j.1)).length, 32)] false := ⟨_, fun _ => rfl⟩
  refine vc_loop hΓ St (fun j => 3 - j.1) ⟨0, by omega⟩ (by rw [hSt]; refine weak_go [] [.live 2] ?_; simp only [goRules, coreRules, tiRules, unRules, AS_of_eq, ← decide_not, N0, N1, N2, N3, N4, N5, Z0, Z1, Z2, Z3, Z4, Z5, Z6, Z7, Z8, Z9, Z10, Zc, ↓reduceIte, reduceCtorEq, putN, comps_len] <;> ((repeat' apply And.intro) <;> first | rfl | omega | trivial)) ?_
  rintro ⟨j, hj⟩
  rw [hSt]
  simp only
  have hpl := putN_len k t g j
  have again : ∀ σ : AS, (j < 3) → Weak σ (AS.of 31 [(0, .sl 2 3 (comps (l ++ putN k t g (j + 1)))), (19, .agg [.v (.int .i64 1), .v (.int .i64 k), .v (sv []), .v (.int .i64 2), .v (.int .i64 0), .v (sv t), .v (.int .i64 3), .v (.int .i64 g), .v (sv [])]), (20, .v (.int .i64 (j + 1 : Nat)))] [] [((comps (l ++ putN k t g (j + 1))).length, 32)] false) → ∀ (x : { j : Nat // j ≤ 3 }), x.1 = j → Again St (fun j => 3 - j.1) x σ := fun σ h3 hw x hx =>
    weak_again ⟨j + 1, by omega⟩ (by simp only; omega) (by rw [hSt]; exact hw)
  match j with
  | 0 =>
    simp only [goRules, coreRules, tiRules, unRules, AS_of_eq, ← decide_not, N0, N1, N2, N3, N4, N5, Z0, Z1, Z2, Z3, Z4, Z5, Z6, Z7, Z8, Z9, Z10, Zc, ↓reduceIte, reduceCtorEq, comps_len, putN]
    refine call_some (c := ⟨1, k, []⟩) (by simp [get_cons]) (by simp only [List.length_nil]; omega) ?_
    cases hs : someC ⟨1, k, []⟩ with
    | false =>
      simp (disch := omega) only [goRules, coreRules, tiRules, unRules, AS_of_eq, ← decide_not, N0, N1, N2, N3, N4, N5, Z0, Z1, Z2, Z3, Z4, Z5, Z6, Z7, Z8, Z9, Z10, Zc, ↓reduceIte, reduceCtorEq, wrap_i64, hs]
      refine again _ (by omega) ?_ _ rfl
      rw [show putN k t g (0 + 1) = putN k t g 0 from by simp [putN, pN, hs]]
      refine weak_go [] [.live 2] ?_
      simp only [goRules, coreRules, tiRules, unRules, AS_of_eq, ← decide_not, N0, N1, N2, N3, N4, N5, Z0, Z1, Z2, Z3, Z4, Z5, Z6, Z7, Z8, Z9, Z10, Zc, ↓reduceIte, reduceCtorEq, comps_len, putN] <;> ((repeat' apply And.intro) <;> first | rfl | omega | trivial)
    | true =>
      simp (disch := omega) only [goRules, coreRules, tiRules, unRules, AS_of_eq, ← decide_not, N0, N1, N2, N3, N4, N5, Z0, Z1, Z2, Z3, Z4, Z5, Z6, Z7, Z8, Z9, Z10, Zc, ↓reduceIte, reduceCtorEq, wrap_i64, hs, comps_len, comps_snoc, List.append_assoc, List.length_append]
      (repeat (with_reducible refine And.intro ?_ ?_; focus (first | omega | exact mixed1 | kernel_rfl)))
      refine again _ (by omega) ?_ _ rfl
      rw [show putN k t g (0 + 1) = putN k t g 0 ++ [⟨1, k, []⟩] from by simp [putN, pN, hs]]
      refine weak_go [] [.live 2] ?_
      simp only [goRules, coreRules, tiRules, unRules, AS_of_eq, ← decide_not, N0, N1, N2, N3, N4, N5, Z0, Z1, Z2, Z3, Z4, Z5, Z6, Z7, Z8, Z9, Z10, Zc, ↓reduceIte, reduceCtorEq, comps_len, List.append_assoc, List.length_append, putN] <;> ((repeat' apply And.intro) <;> first | rfl | omega | trivial)
  | 1 =>
    simp only [goRules, coreRules, tiRules, unRules, AS_of_eq, ← decide_not, N0, N1, N2, N3, N4, N5, Z0, Z1, Z2, Z3, Z4, Z5, Z6, Z7, Z8, Z9, Z10, Zc, ↓reduceIte, reduceCtorEq, comps_len, List.length_append]
    refine call_some (c := ⟨2, 0, t⟩) (by simp [get_cons]) (by simp only [List.length_nil]; omega) ?_
    cases hs : someC ⟨2, 0, t⟩ with
    | false =>
      simp (disch := omega) only [goRules, coreRules, tiRules, unRules, AS_of_eq, ← decide_not, N0, N1, N2, N3, N4, N5, Z0, Z1, Z2, Z3, Z4, Z5, Z6, Z7, Z8, Z9, Z10, Zc, ↓reduceIte, reduceCtorEq, wrap_i64, hs]
      refine again _ (by omega) ?_ _ rfl
      rw [show putN k t g (1 + 1) = putN k t g 1 from by simp [putN, pN, hs]]
      refine weak_go [] [.live 2] ?_
      simp only [goRules, coreRules, tiRules, unRules, AS_of_eq, ← decide_not, N0, N1, N2, N3, N4, N5, Z0, Z1, Z2, Z3, Z4, Z5, Z6, Z7, Z8, Z9, Z10, Zc, ↓reduceIte, reduceCtorEq, comps_len, List.length_append] <;> ((repeat' apply And.intro) <;> first | rfl | omega | trivial)
    | true =>
      simp (disch := omega) only [goRules, coreRules, tiRules, unRules, AS_of_eq, ← decide_not, N0, N1, N2, N3, N4, N5, Z0, Z1, Z2, Z3, Z4, Z5, Z6, Z7, Z8, Z9, Z10, Zc, ↓reduceIte, reduceCtorEq, wrap_i64, hs, comps_len, comps_snoc, List.append_assoc, List.length_append]
      (repeat (with_reducible refine And.intro ?_ ?_; focus (first | omega | exact mixed1 | kernel_rfl)))
      refine again _ (by omega) ?_ _ rfl
      rw [show putN k t g (1 + 1) = putN k t g 1 ++ [⟨2, 0, t⟩] from by simp [putN, pN, hs]]
      refine weak_go [] [.live 2] ?_
      simp only [goRules, coreRules, tiRules, unRules, AS_of_eq, ← decide_not, N0, N1, N2, N3, N4, N5, Z0, Z1, Z2, Z3, Z4, Z5, Z6, Z7, Z8, Z9, Z10, Zc, ↓reduceIte, reduceCtorEq, comps_len, List.append_assoc, List.length_append, List.length_append] <;> ((repeat' apply And.intro) <;> first | rfl | omega | trivial)
  | 2 =>
    simp only [goRules, coreRules, tiRules, unRules, AS_of_eq, ← decide_not, N0, N1, N2, N3, N4, N5, Z0, Z1, Z2, Z3, Z4, Z5, Z6, Z7, Z8, Z9, Z10, Zc, ↓reduceIte, reduceCtorEq, comps_len, List.length_append]
    refine call_some (c := ⟨3, g, []⟩) (by simp [get_cons]) (by simp only [List.length_nil]; omega) ?_
    cases hs : someC ⟨3, g, []⟩ with
    | false =>
      simp (disch := omega) only [goRules, coreRules, tiRules, unRules, AS_of_eq, ← decide_not, N0, N1, N2, N3, N4, N5, Z0, Z1, Z2, Z3, Z4, Z5, Z6, Z7, Z8, Z9, Z10, Zc, ↓reduceIte, reduceCtorEq, wrap_i64, hs]
      refine again _ (by omega) ?_ _ rfl
      rw [show putN k t g (2 + 1) = putN k t g 2 from by simp [putN, pN, hs]]
      refine weak_go [] [.live 2] ?_
      simp only [goRules, coreRules, tiRules, unRules, AS_of_eq, ← decide_not, N0, N1, N2, N3, N4, N5, Z0, Z1, Z2, Z3, Z4, Z5, Z6, Z7, Z8, Z9, Z10, Zc, ↓reduceIte, reduceCtorEq, comps_len, List.length_append] <;> ((repeat' apply And.intro) <;> first | rfl | omega | trivial)
    | true =>
      simp (disch := omega) only [goRules, coreRules, tiRules, unRules, AS_of_eq, ← decide_not, N0, N1, N2, N3, N4, N5, Z0, Z1, Z2, Z3, Z4, Z5, Z6, Z7, Z8, Z9, Z10, Zc, ↓reduceIte, reduceCtorEq, wrap_i64, hs, comps_len, comps_snoc, List.append_assoc, List.length_append]
      (repeat (with_reducible refine And.intro ?_ ?_; focus (first | omega | exact mixed1 | kernel_rfl)))
      refine again _ (by omega) ?_ _ rfl
      rw [show putN k t g (2 + 1) = putN k t g 2 ++ [⟨3, g, []⟩] from by simp [putN, pN, hs]]
      refine weak_go [] [.live 2] ?_
      simp only [goRules, coreRules, tiRules, unRules, AS_of_eq, ← decide_not, N0, N1, N2, N3, N4, N5, Z0, Z1, Z2, Z3, Z4, Z5, Z6, Z7, Z8, Z9, Z10, Zc, ↓reduceIte, reduceCtorEq, comps_len, List.append_assoc, List.length_append, List.length_append] <;> ((repeat' apply And.intro) <;> first | rfl | omega | trivial)
  | 3 =>
    simp only [goRules, coreRules, tiRules, unRules, AS_of_eq, ← decide_not, N0, N1, N2, N3, N4, N5, Z0, Z1, Z2, Z3, Z4, Z5, Z6, Z7, Z8, Z9, Z10, Zc, ↓reduceIte, reduceCtorEq]
    rw [putN_three]
  | n + 4 => omega
theorem call_put {Γ : Env} (hf : Γ.get 87 = some putCon) {n : Nat} {t : Nat → AV} {hd : Nat → Nat → AV} {nh nl : Nat} {h : Nat → Option AO} {fm : Nat → Nat} {lv : Nat → Option (Nat × Nat)} {mu : Bool} {tag : Nat} {l : List Cp} {k : Int} {tx : List UInt8} {g : Int} {ys : List AV} {d : Option Nat} {K : AS → Prop}
    (hy : ys = comps l) (h2 : 2 ≤ tag) (hlv : lv tag = some (ys.length, 32)) (hone : ∀ l2, lv l2 ≠ none → fm l2 = fm tag → l2 = tag)
    (hl : l.length ≤ 4000000000000) (hkk : 0 ≤ k ∧ k ≤ 1099511627776) (ht : tx.length ≤ 1099511627776) (hg : 0 ≤ g ∧ g ≤ 1099511627776)
    (hk : cont ⟨n, t, hd, ⟨nh, h, nl + 1, upd fm nl (fm tag), upd (upd lv tag none) nl (some ((comps (l ++ putL k tx g)).length, 32)), mu⟩⟩ d (.sl nl 3 (comps (l ++ putL k tx g))) K) :
    vcCall Tryd.prog Γ false ⟨n, t, hd, ⟨nh, h, nl, fm, lv, mu⟩⟩ 87 [.sl tag 3 ys, .v (.int .i64 k), .v (sv tx), .v (.int .i64 g)] d K := by
  subst hy
  refine vcCall_take (C := putCon) (i := ⟨((l, k), (tx, g)), hl, hkk, ht, hg⟩) hf rfl rfl rfl (l := tag) (sz := 3) (xs := comps l) rfl h2 hlv rfl ?_ rfl hone ?_
  · have : (tag == 0) = false := by simp; omega
    simp [AV.tagsL, AV.tags]; omega
  · rintro r rfl
    exact hk
theorem nf_no {k : Int} {t : List UInt8} {g : Int} {c : Cp} {r : List Cp} (h : someC c = false) : nfF k t g (c :: r) = nfF k t g r := by rw [nfF, if_pos h]
theorem nf_text {k : Int} {t : List UInt8} {g : Int} {c : Cp} {r : List Cp} (h : someC c = true) (h2 : c.k = 2) : nfF k t g (c :: r) = nfF k (t ++ c.t) g r := by rw [nfF, if_neg (by rw [h]; decide), if_pos h2]
theorem nf_gone {k : Int} {t : List UInt8} {g : Int} {c : Cp} {r : List Cp} (h : someC c = true) (h2 : c.k = 3) : nfF k t g (c :: r) = nfF k t (addI g c.n) r := by rw [nfF, if_neg (by rw [h]; decide), if_neg (by omega), if_pos h2]
theorem nf_put {k : Int} {t : List UInt8} {g : Int} {c : Cp} {r : List Cp} (h : someC c = true) (h2 : ¬ c.k = 2) (h3 : ¬ c.k = 3) (h4 : t ≠ [] ∨ g > 0) : nfF k t g (c :: r) = putL k t g ++ nfF (addI 0 c.n) [] 0 r := by rw [nfF, if_neg (by rw [h]; decide), if_neg h2, if_neg h3, if_pos h4]
theorem nf_keep {k : Int} {t : List UInt8} {g : Int} {c : Cp} {r : List Cp} (h : someC c = true) (h2 : ¬ c.k = 2) (h3 : ¬ c.k = 3) (h4 : ¬ (t ≠ [] ∨ g > 0)) : nfF k t g (c :: r) = nfF (addI k c.n) t g r := by rw [nfF, if_neg (by rw [h]; decide), if_neg h2, if_neg h3, if_neg h4]
theorem some_pos {c : Cp} (h : someC c = true) (h2 : ¬ c.k = 2) : 0 < c.n := by
  simp only [someC, if_neg h2] at h
  simp at h; omega
abbrev normCon : Con where
  ι := Ed
  args := fun l => [.sl 0 3 (comps l.1)]
  post := fun l r => r = .sl 0 3 (comps (nf l.1))
abbrev NSt (l : List Cp) := { p : (List Cp × Nat) × ((Int × List UInt8) × Int) // p.1.2 ≤ l.length ∧ (0 ≤ p.2.1.1 ∧ p.2.1.1 ≤ 1099511627776) ∧ (0 ≤ p.2.2 ∧ p.2.2 ≤ 1099511627776) ∧ p.2.1.2.length + tot (l.drop p.1.2) ≤ 1099511627776 ∧ p.1.1 ++ nfF p.2.1.1 p.2.1.2 p.2.2 (l.drop p.1.2) = nf l }
theorem norm_good : Rw.Good Tryd.prog 62 normCon := by
  have hΓ : GoodEnv Tryd.prog [(86, someCon), (52, addCon), (87, putCon)] := (goodEnv_cons some_good (goodEnv_cons add_good (goodEnv_cons put_good goodEnv_nil)))
  refine good_fn (nn := 55) hΓ Tryd.func62 (by kernel_rfl) rfl (show Tryd.f62.results.toList = [.tmp 2] from rfl) (fun _ => rfl) (fun _ => rfl) ?_
  rintro ⟨l, hl, htot, hc⟩
  have hlen := (nfF_ok l 0 [] 0 (by omega) (by omega)).1
  simp only [goRules, coreRules, tiRules, unRules, AS_of_eq, ← decide_not, N0, N1, N2, N3, N4, N5, Z0, Z1, Z2, Z3, Z4, Z5, Z6, Z7, Z8, Z9, Z10, Zc, ↓reduceIte, reduceCtorEq, comps_len]
  obtain ⟨St, hSt⟩ : ∃ St : NSt l → AS, ∀ p, St p = AS.of 55 [(0, .sl 0 3 (comps l)), (2, .sl 2 3 (comps p.1.1.1)), (3, .ptr 0 0), (4, .v (sv p.1.2.1.2)), (5, .v (.int .i64 p.1.2.2)), (6, .v (.int .i64 p.1.2.1.1)), (7, .v (.int .i64 p.1.1.2))] [.cells [.any, .any, .any]] [(p.1.1.1.length, 32)] := ⟨_, fun _ => rfl⟩
  refine vc_lab hΓ 1 St (fun p => l.length - p.1.1.2) 1 rfl rfl ?_ ?_
  · rintro ⟨⟨⟨out, i⟩, ⟨⟨k, t⟩, g⟩⟩, hi, hk, hg, ht, hn⟩
    simp only at hi hk hg ht hn
    have hout : out.length ≤ 4000000000000 := by
      have := congrArg List.length hn
      rw [List.length_append] at this
      unfold nf at this
      omega
    rw [hSt]
    simp only
    simp only [goRules, coreRules, tiRules, unRules, AS_of_eq, ← decide_not, N0, N1, N2, N3, N4, N5, Z0, Z1, Z2, Z3, Z4, Z5, Z6, Z7, Z8, Z9, Z10, Zc, ↓reduceIte, reduceCtorEq, comps_len]
    (with_reducible first | refine branchP_dec (fun h => ?_) (fun h => ?_) | refine guardB_dec (fun h => ?_) (fun h => ?_))
    · simp only [goRules, coreRules, tiRules, unRules, AS_of_eq, ← decide_not, N0, N1, N2, N3, N4, N5, Z0, Z1, Z2, Z3, Z4, Z5, Z6, Z7, Z8, Z9, Z10, Zc, ↓reduceIte, reduceCtorEq]
      refine ⟨_, rfl, ?_⟩
      simp only [goRules, coreRules, tiRules, unRules, AS_of_eq, ← decide_not, N0, N1, N2, N3, N4, N5, Z0, Z1, Z2, Z3, Z4, Z5, Z6, Z7, Z8, Z9, Z10, Zc, ↓reduceIte, reduceCtorEq]
      refine call_put (by simp [get_cons]) rfl (by omega) (by simp [comps_len]) (by simp) hout hk (by omega) hg ?_
      simp only [goRules, coreRules, tiRules, unRules, AS_of_eq, ← decide_not, N0, N1, N2, N3, N4, N5, Z0, Z1, Z2, Z3, Z4, Z5, Z6, Z7, Z8, Z9, Z10, Zc, ↓reduceIte, reduceCtorEq]
      rw [← hn, List.drop_of_length_le (by omega)]
      rfl
    · have hlt : i < l.length := by omega
      have e1 := comps_getD l hlt
      have hci := okL.text ⟨hl, htot, hc⟩ (List.getElem_mem hlt)
      have hcn := hc l[i] (List.getElem_mem hlt)
      have hpos : someC l[i] = true → ¬ l[i].k = 2 → 0 < l[i].n := some_pos
      have hd2 := ht
      rw [List.drop_eq_getElem_cons hlt] at hn hd2
      simp only [tot] at hd2
      have again : ∀ (σ : AS) (out2 : List Cp) (k2 : Int) (t2 : List UInt8) (g2 : Int), Weak σ (AS.of 55 [(0, .sl 0 3 (comps l)), (2, .sl 2 3 (comps out2)), (3, .ptr 0 0), (4, .v (sv t2)), (5, .v (.int .i64 g2)), (6, .v (.int .i64 k2)), (7, .v (.int .i64 (i + 1 : Nat)))] [.cells [.any, .any, .any]] [(out2.length, 32)]) →
          (0 ≤ k2 ∧ k2 ≤ 1099511627776) → (0 ≤ g2 ∧ g2 ≤ 1099511627776) → t2.length + tot (l.drop (i + 1)) ≤ 1099511627776 → out2 ++ nfF k2 t2 g2 (l.drop (i + 1)) = nf l →
          ∃ y : NSt l, l.length - y.1.1.2 < l.length - i ∧ Weak σ (St y) := fun σ out2 k2 t2 g2 hw h1 h2 h3 h4 =>
        ⟨⟨((out2, i + 1), ((k2, t2), g2)), by simp only; omega, h1, h2, h3, h4⟩, by simp only; omega, by rw [hSt]; exact hw⟩
      generalize l[i] = c at *
      obtain ⟨ck, cn, ct⟩ := c
      simp only at hci hcn hpos hd2 e1
      simp (disch := omega) only [goRules, coreRules, tiRules, unRules, AS_of_eq, ← decide_not, N0, N1, N2, N3, N4, N5, Z0, Z1, Z2, Z3, Z4, Z5, Z6, Z7, Z8, Z9, Z10, Zc, ↓reduceIte, reduceCtorEq, wrap_i64, h, e1, comps_len]
      (repeat (with_reducible refine And.intro ?_ ?_; focus (first | omega | exact mixed1 | kernel_rfl)))
      refine call_some (c := ⟨ck, cn, ct⟩) (by simp [get_cons]) hci ?_
      cases hs : someC ⟨ck, cn, ct⟩ with
      | false =>
        simp only [goRules, coreRules, tiRules, unRules, AS_of_eq, ← decide_not, N0, N1, N2, N3, N4, N5, Z0, Z1, Z2, Z3, Z4, Z5, Z6, Z7, Z8, Z9, Z10, Zc, ↓reduceIte, reduceCtorEq, hs]
        refine again _ out k t g ?_ hk hg (by omega) (by rw [← hn, nf_no hs])
        refine weak_go [0] [.live 2] ?_
        simp only [goRules, coreRules, tiRules, unRules, AS_of_eq, ← decide_not, N0, N1, N2, N3, N4, N5, Z0, Z1, Z2, Z3, Z4, Z5, Z6, Z7, Z8, Z9, Z10, Zc, ↓reduceIte, reduceCtorEq, comps_len] <;> ((repeat' apply And.intro) <;> first | rfl | omega | trivial)
      | true =>
        simp only [goRules, coreRules, tiRules, unRules, AS_of_eq, ← decide_not, N0, N1, N2, N3, N4, N5, Z0, Z1, Z2, Z3, Z4, Z5, Z6, Z7, Z8, Z9, Z10, Zc, ↓reduceIte, reduceCtorEq, hs]
        (with_reducible first | refine branchP_dec (fun h2 => ?_) (fun h2 => ?_) | refine guardB_dec (fun h2 => ?_) (fun h2 => ?_))
        · simp (disch := omega) only [goRules, coreRules, tiRules, unRules, AS_of_eq, ← decide_not, N0, N1, N2, N3, N4, N5, Z0, Z1, Z2, Z3, Z4, Z5, Z6, Z7, Z8, Z9, Z10, Zc, ↓reduceIte, reduceCtorEq, wrap_i64, h2]
          (repeat (with_reducible refine And.intro ?_ ?_; focus (first | omega | exact mixed1 | kernel_rfl)))
          refine again _ out k (t ++ ct) g ?_ hk hg (by rw [List.length_append]; omega) (by rw [← hn, nf_text hs h2])
          refine weak_go [0] [.live 2] ?_
          simp only [goRules, coreRules, tiRules, unRules, AS_of_eq, ← decide_not, N0, N1, N2, N3, N4, N5, Z0, Z1, Z2, Z3, Z4, Z5, Z6, Z7, Z8, Z9, Z10, Zc, ↓reduceIte, reduceCtorEq, comps_len] <;> ((repeat' apply And.intro) <;> first | rfl | omega | trivial)
        · simp (disch := omega) only [goRules, coreRules, tiRules, unRules, AS_of_eq, ← decide_not, N0, N1, N2, N3, N4, N5, Z0, Z1, Z2, Z3, Z4, Z5, Z6, Z7, Z8, Z9, Z10, Zc, ↓reduceIte, reduceCtorEq, wrap_i64, h2]
          have hp := hpos hs h2
          (with_reducible first | refine branchP_dec (fun h3 => ?_) (fun h3 => ?_) | refine guardB_dec (fun h3 => ?_) (fun h3 => ?_))
          · simp (disch := omega) only [goRules, coreRules, tiRules, unRules, AS_of_eq, ← decide_not, N0, N1, N2, N3, N4, N5, Z0, Z1, Z2, Z3, Z4, Z5, Z6, Z7, Z8, Z9, Z10, Zc, ↓reduceIte, reduceCtorEq, wrap_i64, h3]
            refine call_add (by simp [get_cons]) hg (by omega) ?_
            simp only [goRules, coreRules, tiRules, unRules, AS_of_eq, ← decide_not, N0, N1, N2, N3, N4, N5, Z0, Z1, Z2, Z3, Z4, Z5, Z6, Z7, Z8, Z9, Z10, Zc, ↓reduceIte, reduceCtorEq]
            refine again _ out k t (addI g cn) ?_ hk (addI_range hg.1 (by omega)) (by omega) (by rw [← hn, nf_gone hs h3])
            refine weak_go [0] [.live 2] ?_
            simp only [goRules, coreRules, tiRules, unRules, AS_of_eq, ← decide_not, N0, N1, N2, N3, N4, N5, Z0, Z1, Z2, Z3, Z4, Z5, Z6, Z7, Z8, Z9, Z10, Zc, ↓reduceIte, reduceCtorEq, comps_len] <;> ((repeat' apply And.intro) <;> first | rfl | omega | trivial)
          · simp (disch := omega) only [goRules, coreRules, tiRules, unRules, AS_of_eq, ← decide_not, N0, N1, N2, N3, N4, N5, Z0, Z1, Z2, Z3, Z4, Z5, Z6, Z7, Z8, Z9, Z10, Zc, ↓reduceIte, reduceCtorEq, wrap_i64, h3]
            by_cases h4 : t ≠ [] ∨ g > 0
            · have fin : ∀ (σ : AS), Weak σ (AS.of 55 [(0, .sl 0 3 (comps l)), (2, .sl 2 3 (comps (out ++ putL k t g))), (3, .ptr 0 0), (4, .v (sv [])), (5, .v (.int .i64 0)), (6, .v (.int .i64 (addI 0 cn))), (7, .v (.int .i64 (i + 1 : Nat)))] [.cells [.any, .any, .any]] [((out ++ putL k t g).length, 32)]) → ∃ y : NSt l, l.length - y.1.1.2 < l.length - i ∧ Weak σ (St y) := fun σ hw =>
                again σ (out ++ putL k t g) (addI 0 cn) [] 0 hw (addI_range (by omega) (by omega)) (by omega) (by rw [List.length_nil]; omega) (by rw [← hn, nf_put hs h2 h3 h4, List.append_assoc])
              by_cases h5 : t = []
              · have h6 : g > 0 := by
                  rcases h4 with h | h
                  · exact absurd h5 h
                  · exact h
                subst h5
                simp (disch := omega) only [goRules, coreRules, tiRules, unRules, AS_of_eq, ← decide_not, N0, N1, N2, N3, N4, N5, Z0, Z1, Z2, Z3, Z4, Z5, Z6, Z7, Z8, Z9, Z10, Zc, ↓reduceIte, reduceCtorEq, wrap_i64, h6]
                refine call_put (by simp [get_cons]) rfl (by omega) (by simp [comps_len]) (by simp) hout hk (by simp only [List.length_nil]; omega) hg ?_
                simp only [goRules, coreRules, tiRules, unRules, AS_of_eq, ← decide_not, N0, N1, N2, N3, N4, N5, Z0, Z1, Z2, Z3, Z4, Z5, Z6, Z7, Z8, Z9, Z10, Zc, ↓reduceIte, reduceCtorEq]
                refine call_add (by simp [get_cons]) ⟨by omega, by omega⟩ (by omega) ?_
                simp only [goRules, coreRules, tiRules, unRules, AS_of_eq, ← decide_not, N0, N1, N2, N3, N4, N5, Z0, Z1, Z2, Z3, Z4, Z5, Z6, Z7, Z8, Z9, Z10, Zc, ↓reduceIte, reduceCtorEq]
                refine fin _ ?_
                refine weak_go [0] [.live 3] ?_
                simp only [goRules, coreRules, tiRules, unRules, AS_of_eq, ← decide_not, N0, N1, N2, N3, N4, N5, Z0, Z1, Z2, Z3, Z4, Z5, Z6, Z7, Z8, Z9, Z10, Zc, ↓reduceIte, reduceCtorEq, comps_len] <;> ((repeat' apply And.intro) <;> first | rfl | omega | trivial)
              · simp (disch := omega) only [goRules, coreRules, tiRules, unRules, AS_of_eq, ← decide_not, N0, N1, N2, N3, N4, N5, Z0, Z1, Z2, Z3, Z4, Z5, Z6, Z7, Z8, Z9, Z10, Zc, ↓reduceIte, reduceCtorEq, wrap_i64, h5]
                refine call_put (by simp [get_cons]) rfl (by omega) (by simp [comps_len]) (by simp) hout hk (by omega) hg ?_
                simp only [goRules, coreRules, tiRules, unRules, AS_of_eq, ← decide_not, N0, N1, N2, N3, N4, N5, Z0, Z1, Z2, Z3, Z4, Z5, Z6, Z7, Z8, Z9, Z10, Zc, ↓reduceIte, reduceCtorEq]
                refine call_add (by simp [get_cons]) ⟨by omega, by omega⟩ (by omega) ?_
                simp only [goRules, coreRules, tiRules, unRules, AS_of_eq, ← decide_not, N0, N1, N2, N3, N4, N5, Z0, Z1, Z2, Z3, Z4, Z5, Z6, Z7, Z8, Z9, Z10, Zc, ↓reduceIte, reduceCtorEq]
                refine fin _ ?_
                refine weak_go [0] [.live 3] ?_
                simp only [goRules, coreRules, tiRules, unRules, AS_of_eq, ← decide_not, N0, N1, N2, N3, N4, N5, Z0, Z1, Z2, Z3, Z4, Z5, Z6, Z7, Z8, Z9, Z10, Zc, ↓reduceIte, reduceCtorEq, comps_len] <;> ((repeat' apply And.intro) <;> first | rfl | omega | trivial)
            · have h5 : t = [] := Classical.byContradiction fun h => h4 (.inl h)
              have h6 : ¬ g > 0 := fun h => h4 (.inr h)
              simp (disch := omega) only [goRules, coreRules, tiRules, unRules, AS_of_eq, ← decide_not, N0, N1, N2, N3, N4, N5, Z0, Z1, Z2, Z3, Z4, Z5, Z6, Z7, Z8, Z9, Z10, Zc, ↓reduceIte, reduceCtorEq, wrap_i64, h5, h6]
              refine call_add (by simp [get_cons]) hk (by omega) ?_
              simp only [goRules, coreRules, tiRules, unRules, AS_of_eq, ← decide_not, N0, N1, N2, N3, N4, N5, Z0, Z1, Z2, Z3, Z4, Z5, Z6, Z7, Z8, Z9, Z10, Zc, ↓reduceIte, reduceCtorEq]
              refine again _ out (addI k cn) t g ?_ (addI_range hk.1 (by omega)) hg (by omega) (by rw [← hn, nf_keep hs h2 h3 h4])
              refine weak_go [0] [.live 2] ?_
              simp only [goRules, coreRules, tiRules, unRules, AS_of_eq, ← decide_not, N0, N1, N2, N3, N4, N5, Z0, Z1, Z2, Z3, Z4, Z5, Z6, Z7, Z8, Z9, Z10, Zc, ↓reduceIte, reduceCtorEq, comps_len, h5] <;> ((repeat' apply And.intro) <;> first | rfl | omega | trivial)
  · simp only [goRules, coreRules, tiRules, unRules, AS_of_eq, ← decide_not, N0, N1, N2, N3, N4, N5, Z0, Z1, Z2, Z3, Z4, Z5, Z6, Z7, Z8, Z9, Z10, Zc, ↓reduceIte, reduceCtorEq]
    refine ⟨⟨(([], 0), ((0, []), 0)), by simp, by simp, by simp, by simpa using htot, rfl⟩, ?_⟩
    rw [hSt]
    refine weak_go [0] [.nil 3] ?_
    simp only [goRules, coreRules, tiRules, unRules, AS_of_eq, ← decide_not, N0, N1, N2, N3, N4, N5, Z0, Z1, Z2, Z3, Z4, Z5, Z6, Z7, Z8, Z9, Z10, Zc, ↓reduceIte, reduceCtorEq, comps_nil] <;> ((repeat' apply And.intro) <;> first | rfl | omega | trivial)
theorem call_norm {Γ : Env} {f : Nat} (hf : Γ.get f = some normCon) {n : Nat} {t : Nat → AV} {hd : Nat → Nat → AV} {nh nl : Nat} {h : Nat → Option AO} {fm : Nat → Nat} {lv : Nat → Option (Nat × Nat)} {mu : Bool} {l : List Cp} {tg : Nat} {ys : List AV} {d : Option Nat} {K : AS → Prop} (htg : 2 ≤ tg) (hy : ys = comps l) (hl : okL l)
    (hk : cont ⟨n, t, hd, ⟨nh, h, nl, fm, kill fm [tg] lv, mu⟩⟩ d (.sl 0 3 (comps (nf l))) K) : vcCall Tryd.prog Γ false ⟨n, t, hd, ⟨nh, h, nl, fm, lv, mu⟩⟩ f [.sl tg 3 ys] d K := by
  subst hy
  refine vcCall_none (C := normCon) (i := ⟨l, hl⟩) hf rfl rfl rfl rfl (ts := [tg]) ?_ ?_
  · simp [AV.tagsL, AV.tags]; omega
  · rintro r rfl
    exact hk
end Go.Proofs
end

-- AUo4
section
namespace Go.Proofs
open Go Go.Rw
open _root_.Nat renaming reduceAdd → N0, reduceSub → N1, reduceMul → N2, reduceLT → N3, reduceLeDiff → N4, reduceEqDiff → N5
open _root_.Int renaming reduceNeg → Z0, reduceAdd → Z1, reduceSub → Z2, reduceMul → Z3, reduceGT → Z4, reduceGE → Z5, reduceLT → Z6, reduceLE → Z7, reduceEq → Z8, reduceNe → Z9, reduceToNat → Z10, cast_ofNat_Int → Zc
set_option maxRecDepth 100000
set_option linter.unusedSimpArgs false
set_option linter.unusedVariables false

end Go.Proofs
end

-- AUo5
section
namespace Go.Proofs
open Go Go.Rw
open _root_.Nat renaming reduceAdd → N0, reduceSub → N1, reduceMul → N2, reduceLT → N3, reduceLeDiff → N4, reduceEqDiff → N5
open _root_.Int renaming reduceNeg → Z0, reduceAdd → Z1, reduceSub → Z2, reduceMul → Z3, reduceGT → Z4, reduceGE → Z5, reduceLT → Z6, reduceLE → Z7, reduceEq → Z8, reduceNe → Z9, reduceToNat → Z10, cast_ofNat_Int → Zc
set_option maxRecDepth 100000
set_option linter.unusedSimpArgs false
set_option linter.unusedVariables false

section
variable {P : Program}
/-- A struct of two numbers and a text. -/
def is3 (P : Program) (t ti ts : TypeId) : Bool := match P.underlying t with
  | some (.struct fs) => match fs.toList with
    | [f1, f2, f3] => (f1.type == ti && (f1.offset == 0 && f1.name != "_")) && ((f2.type == ti && (f2.offset == 1 && f2.name != "_")) && (f3.type == ts && (f3.offset == 2 && f3.name != "_")))
    | _ => false
  | _ => false
end
end Go.Proofs
end

-- AUo6
section
namespace Go.Proofs
open Go Go.Rw
open _root_.Nat renaming reduceAdd → N0, reduceSub → N1, reduceMul → N2, reduceLT → N3, reduceLeDiff → N4, reduceEqDiff → N5
open _root_.Int renaming reduceNeg → Z0, reduceAdd → Z1, reduceSub → Z2, reduceMul → Z3, reduceGT → Z4, reduceGE → Z5, reduceLT → Z6, reduceLE → Z7, reduceEq → Z8, reduceNe → Z9, reduceToNat → Z10, cast_ofNat_Int → Zc
set_option maxRecDepth 100000
set_option linter.unusedSimpArgs false
set_option linter.unusedVariables false

def ofBad (n a b : Int) (t : List UInt8) : Prop := a < 0 ∨ b < a ∨ n < b ∨ pts t = none
instance (n a b : Int) (t : List UInt8) : Decidable (ofBad n a b t) := by unfold ofBad; exact inferInstance
def keepL (n : Int) : List Cp := if n < 1 then [] else [⟨1, n, []⟩]
abbrev keepCon : Con where
  ι := I64
  args := fun n => [.v (.int .i64 n.1)]
  post := fun n r => r = .sl 0 3 (comps (keepL n.1))
theorem keep_good : Rw.Good Tryd.prog 40 keepCon := by
  have hΓ : GoodEnv Tryd.prog [] := goodEnv_nil
  refine good_fn (nn := 8) hΓ Tryd.func40 (by kernel_rfl) rfl (show Tryd.f40.results.toList = [.tmp 2] from rfl) (fun _ => rfl) (fun _ => rfl) ?_
  rintro ⟨n, hn⟩
  simp only [goRules, coreRules, tiRules, unRules, AS_of_eq, ← decide_not, N0, N1, N2, N3, N4, N5, Z0, Z1, Z2, Z3, Z4, Z5, Z6, Z7, Z8, Z9, Z10, Zc, ↓reduceIte, reduceCtorEq]
  by_cases h : n < 1
  · simp only [goRules, coreRules, tiRules, unRules, AS_of_eq, ← decide_not, N0, N1, N2, N3, N4, N5, Z0, Z1, Z2, Z3, Z4, Z5, Z6, Z7, Z8, Z9, Z10, Zc, ↓reduceIte, reduceCtorEq, h, keepL]
    rfl
  · simp only [goRules, coreRules, tiRules, unRules, AS_of_eq, ← decide_not, N0, N1, N2, N3, N4, N5, Z0, Z1, Z2, Z3, Z4, Z5, Z6, Z7, Z8, Z9, Z10, Zc, ↓reduceIte, reduceCtorEq, h, keepL, List.map_cons, List.map_nil]
    rfl
theorem call_keep {Γ : Env} (hf : Γ.get 40 = some keepCon) {σ : AS} {dr : Bool} {n : Int} {d : Option Nat} {K : AS → Prop} (hn : -9223372036854775808 ≤ n ∧ n ≤ 9223372036854775807)
    (hk : cont σ d (.sl 0 3 (comps (keepL n))) K) : vcCall Tryd.prog Γ dr σ 40 [.v (.int .i64 n)] d K :=
  vcCall_fn (C := keepCon) (i := ⟨n, hn⟩) (r := .sl 0 3 (comps (keepL n))) hf rfl rfl rfl rfl (fun _ h => h) hk

end Go.Proofs
end

-- AUo7
section
namespace Go.Proofs
open Go Go.Rw
set_option maxRecDepth 100000
set_option linter.unusedSimpArgs false
set_option linter.unusedVariables false

theorem addI_eq {n m : Int} (h1 : n + m ≤ 1099511627776) : addI n m = n + m := by unfold addI; omega
theorem baseF_app : ∀ (x y : List Cp) (n : Int), baseF n (x ++ y) = baseF (baseF n x) y
  | [], _, _ => rfl
  | c :: x, y, n => by simp only [List.cons_append, baseF]; exact baseF_app x y _
theorem outF_app : ∀ (x y : List Cp) (n : Int), outF n (x ++ y) = outF (outF n x) y
  | [], _, _ => rfl
  | c :: x, y, n => by simp only [List.cons_append, outF]; exact outF_app x y _
theorem baseF_putL {m k g : Int} {t : List UInt8} (hk : 0 ≤ k) (hg : 0 ≤ g) (h : m + k + g ≤ 1099511627776) : baseF m (putL k t g) = m + k + g := by
  have e1 : baseF m (if k > 0 then [⟨1, k, []⟩] else []) = m + k := by
    split
    · simp only [baseF, true_or, if_true, addI]; omega
    · simp only [baseF]; omega
  have e2 : baseF (m + k) (if t ≠ [] then [⟨2, 0, t⟩] else []) = m + k := by
    split
    · simp [baseF]
    · rfl
  have e3 : baseF (m + k) (if g > 0 then [⟨3, g, []⟩] else []) = m + k + g := by
    split
    · simp only [baseF, or_true, if_true, addI]; omega
    · simp only [baseF]; omega
  rw [putL, baseF_app, e1, baseF_app, e2, e3]
theorem outF_putL {m k g : Int} {t : List UInt8} (hk : 0 ≤ k) (h : m + k + lc t ≤ 1099511627776) : outF m (putL k t g) = m + k + lc t := by
  have e1 : outF m (if k > 0 then [⟨1, k, []⟩] else []) = m + k := by
    split
    · simp only [outF, if_true, addI]; omega
    · simp only [outF]; omega
  have e2 : outF (m + k) (if t ≠ [] then [⟨2, 0, t⟩] else []) = m + k + lc t := by
    split
    · simp [outF, addI]; omega
    · rename_i h
      have : t = [] := Classical.byContradiction fun h2 => h h2
      subst this
      simp [outF, lc_nil]
  have e3 : outF (m + k + lc t) (if g > 0 then [⟨3, g, []⟩] else []) = m + k + lc t := by
    split
    · simp [outF]
    · rfl
  rw [putL, outF_app, e1, outF_app, e2, e3]
end Go.Proofs
end

-- AUo8
section
namespace Go.Proofs
open Go Go.Rw
open _root_.Nat renaming reduceAdd → N0, reduceSub → N1, reduceMul → N2, reduceLT → N3, reduceLeDiff → N4, reduceEqDiff → N5
open _root_.Int renaming reduceNeg → Z0, reduceAdd → Z1, reduceSub → Z2, reduceMul → Z3, reduceGT → Z4, reduceGE → Z5, reduceLT → Z6, reduceLE → Z7, reduceEq → Z8, reduceNe → Z9, reduceToNat → Z10, cast_ofNat_Int → Zc
set_option maxRecDepth 100000
set_option linter.unusedSimpArgs false
set_option linter.unusedVariables false

/-- A sum, held at the most. -/
def sumF (x : Int) (ys : List Int) : Int := ys.foldl addI x
theorem sumF_top : ∀ (ys : List Int), (∀ y ∈ ys, 0 ≤ y) → sumF 1099511627776 ys = 1099511627776
  | [], _ => rfl
  | y :: ys, h => by
    show sumF (addI 1099511627776 y) ys = _
    have := h y (by simp)
    rw [show addI 1099511627776 y = 1099511627776 by unfold addI; omega, sumF_top ys fun z hz => h z (by simp [hz])]
abbrev Sm := { p : Int × List Int // (0 ≤ p.1 ∧ p.1 ≤ 1099511627776) ∧ (∀ y ∈ p.2, 0 ≤ y ∧ y ≤ 9223372036854775807) ∧ p.2.length ≤ 9223372036854775807 }
abbrev sumCon : Con where
  ι := Sm
  args := fun p => [.v (.int .i64 p.1.1), .sl 0 1 (ints .i64 p.1.2)]
  post := fun p r => r = .v (.int .i64 (sumF p.1.1 p.1.2))
  plain := true
theorem sum_good : Rw.Good Tryd.prog 24 sumCon := by
  have hΓ : GoodEnv Tryd.prog [] := goodEnv_nil
  refine good_fn (nn := 30) hΓ Tryd.func24 (by kernel_rfl) rfl (show Tryd.f24.results.toList = [.tmp 4] from rfl) (fun _ => rfl) (fun _ => rfl) ?_
  rintro ⟨⟨x, ys⟩, hx, hy, hl⟩
  simp only at hx hy hl
  simp only [goRules, coreRules, tiRules, unRules, AS_of_eq, ← decide_not, N0, N1, N2, N3, N4, N5, Z0, Z1, Z2, Z3, Z4, Z5, Z6, Z7, Z8, Z9, Z10, Zc, ↓reduceIte, reduceCtorEq, ints_length]
  obtain ⟨St, hSt⟩ : ∃ St : { p : Int × Nat // p.2 ≤ ys.length ∧ (0 ≤ p.1 ∧ p.1 ≤ 1099511627776) ∧ sumF x ys = sumF p.1 (ys.drop p.2) } → AS, ∀ p, St p = AS.of 30 [(0, .v (.int .i64 p.1.1)), (1, .sl 0 1 (ints .i64 ys)), (5, .v (.int .i64 p.1.2))] [] [] := ⟨_, fun _ => rfl⟩
  refine vc_loop hΓ St (fun p => ys.length - p.1.2) ⟨(x, 0), by omega, hx, rfl⟩ (by rw [hSt]; refine weak_go [] [] ?_; simp only [goRules, coreRules, tiRules, unRules, AS_of_eq, ← decide_not, N0, N1, N2, N3, N4, N5, Z0, Z1, Z2, Z3, Z4, Z5, Z6, Z7, Z8, Z9, Z10, Zc, ↓reduceIte, reduceCtorEq] <;> ((repeat' apply And.intro) <;> first | rfl | omega | trivial)) ?_
  rintro ⟨⟨s, i⟩, hi, hs, hb⟩
  simp only at hi hs hb
  rw [hSt]
  simp only
  simp only [goRules, coreRules, tiRules, unRules, AS_of_eq, ← decide_not, N0, N1, N2, N3, N4, N5, Z0, Z1, Z2, Z3, Z4, Z5, Z6, Z7, Z8, Z9, Z10, Zc, ↓reduceIte, reduceCtorEq, ints_length]
  (with_reducible first | refine branchP_dec (fun h => ?_) (fun h => ?_) | refine guardB_dec (fun h => ?_) (fun h => ?_))
  · have hlt : i < ys.length := by omega
    have hyi := hy ys[i] (List.getElem_mem hlt)
    have hge : ∀ y ∈ ys.drop i, 0 ≤ y := fun y hm => (hy y (List.mem_of_mem_drop hm)).1
    rw [List.drop_eq_getElem_cons hlt] at hb hge
    have e1 : (ints .i64 ys).getD i .any = .v (.int .i64 ys[i]) := by simp [ints, List.getD_eq_getElem?_getD, hlt]
    have hs2 : ¬ s > 1099511627776 := by omega
    have early : ys[i] > 1099511627776 - s → sumF x ys = 1099511627776 := fun h => by
      rw [hb]
      show sumF (addI s ys[i]) _ = _
      rw [show addI s ys[i] = 1099511627776 by unfold addI; omega, sumF_top _ fun z hz => hge z (List.mem_cons_of_mem _ hz)]
    generalize ys[i] = y at *
    simp (disch := omega) only [goRules, coreRules, tiRules, unRules, AS_of_eq, ← decide_not, N0, N1, N2, N3, N4, N5, Z0, Z1, Z2, Z3, Z4, Z5, Z6, Z7, Z8, Z9, Z10, Zc, ↓reduceIte, reduceCtorEq, wrap_i64, h, hs2, e1, ints_length]
    (repeat (with_reducible refine And.intro ?_ ?_; focus (first | omega | exact mixed1 | kernel_rfl)))
    (with_reducible first | refine branchP_dec (fun h2 => ?_) (fun h2 => ?_) | refine guardB_dec (fun h2 => ?_) (fun h2 => ?_))
    · simp (disch := omega) only [goRules, coreRules, tiRules, unRules, AS_of_eq, ← decide_not, N0, N1, N2, N3, N4, N5, Z0, Z1, Z2, Z3, Z4, Z5, Z6, Z7, Z8, Z9, Z10, Zc, ↓reduceIte, reduceCtorEq, wrap_i64, h2, e1, ints_length]
      rw [early h2]
    · simp (disch := omega) only [goRules, coreRules, tiRules, unRules, AS_of_eq, ← decide_not, N0, N1, N2, N3, N4, N5, Z0, Z1, Z2, Z3, Z4, Z5, Z6, Z7, Z8, Z9, Z10, Zc, ↓reduceIte, reduceCtorEq, wrap_i64, h2, e1, ints_length]
      (repeat (with_reducible refine And.intro ?_ ?_; focus (first | omega | exact mixed1 | kernel_rfl)))
      have hr : addI s y = s + y := addI_eq (by omega)
      refine weak_again ⟨(s + y, i + 1), by simp only; omega, by simp only; omega, by rw [hb, ← hr]; rfl⟩ (by simp only; omega) ?_
      rw [hSt]; refine weak_go [] [] ?_
      simp only [goRules, coreRules, tiRules, unRules, AS_of_eq, ← decide_not, N0, N1, N2, N3, N4, N5, Z0, Z1, Z2, Z3, Z4, Z5, Z6, Z7, Z8, Z9, Z10, Zc, ↓reduceIte, reduceCtorEq] <;> ((repeat' apply And.intro) <;> first | rfl | omega | trivial)
  · simp only [goRules, coreRules, tiRules, unRules, AS_of_eq, ← decide_not, N0, N1, N2, N3, N4, N5, Z0, Z1, Z2, Z3, Z4, Z5, Z6, Z7, Z8, Z9, Z10, Zc, ↓reduceIte, reduceCtorEq, h]
    rw [List.drop_of_length_le (by omega)] at hb
    rw [hb]; rfl
theorem call_sum {Γ : Env} (hf : Γ.get 24 = some sumCon) {σ : AS} {dr : Bool} {x : Int} {y : List Int} {t : Nat} {ys : List AV} {d : Option Nat} {K : AS → Prop} (hy : ys = ints .i64 y) (h1 : 0 ≤ x ∧ x ≤ 1099511627776) (h2 : ∀ z ∈ y, 0 ≤ z ∧ z ≤ 9223372036854775807) (h3 : y.length ≤ 9223372036854775807)
    (hk : cont σ d (.v (.int .i64 (sumF x y))) K) : vcCall Tryd.prog Γ dr σ 24 [.v (.int .i64 x), .sl t 1 ys] d K := by
  subst hy
  exact vcCall_plain (C := sumCon) (i := ⟨(x, y), h1, h2, h3⟩) hf rfl rfl rfl rfl (fun _ h => h) rfl hk
theorem sumF_range : ∀ (ys : List Int) {x : Int}, (0 ≤ x ∧ x ≤ 1099511627776) → (∀ y ∈ ys, 0 ≤ y) → x ≤ sumF x ys ∧ sumF x ys ≤ 1099511627776
  | [], x, h, _ => by simp [sumF]; omega
  | y :: ys, x, h, hy => by
    have h1 := hy y (by simp)
    have h2 := addI_range h.1 h1
    have h3 : x ≤ addI x y := by unfold addI; omega
    have h4 := sumF_range ys h2 fun z hz => hy z (by simp [hz])
    show x ≤ sumF (addI x y) ys ∧ sumF (addI x y) ys ≤ _
    omega

/-- How much an edit takes, up to a bound. -/
def compsF (m : Int) : Int → List Cp → Int
  | s, [] => s
  | s, c :: r => if s ≤ m then compsF m (sumF s [c.t.length, 2]) r else s
theorem compsF_le {m : Int} (hm : m < 1099511627776) : ∀ (l : List Cp) {s : Int}, 0 ≤ s → compsF m s l ≤ m → s + tot l + 2 * l.length ≤ m
  | [], s, _, h => by simp only [compsF] at h; simp [tot]; exact h
  | c :: r, s, hs, h => by
    simp only [compsF] at h
    split at h
    · rename_i h1
      have e : sumF s [(c.t.length : Int), 2] = addI (addI s c.t.length) 2 := rfl
      have h2 : 0 ≤ addI (addI s c.t.length) 2 := by unfold addI; omega
      rw [e] at h
      have h3 := compsF_le hm r h2 h
      simp only [tot, List.length_cons]
      have h4 : addI (addI s c.t.length) 2 ≤ m := by omega
      have h5 : addI (addI s c.t.length) 2 = s + c.t.length + 2 := by unfold addI at h4 ⊢; omega
      omega
    · omega
abbrev Wide := { l : List Cp // l.length ≤ 9223372036854775807 ∧ ∀ c ∈ l, c.t.length ≤ 9223372036854775807 }
end Go.Proofs
end
