/-
  Which edits may be, as the document says.
-/
import Derived.Test.YtknbfkmgoijncaaDoorXBAp1
set_option linter.unusedSimpArgs false
set_option linter.unusedVariables false
set_option linter.defProp false

-- BAp2
section
namespace Go.Proofs
open Go Go.Rw
open _root_.Nat renaming reduceAdd → N0, reduceSub → N1, reduceMul → N2, reduceLT → N3, reduceLeDiff → N4, reduceEqDiff → N5
open _root_.Int renaming reduceNeg → Z0, reduceAdd → Z1, reduceSub → Z2, reduceMul → Z3, reduceGT → Z4, reduceGE → Z5, reduceLT → Z6, reduceLE → Z7, reduceEq → Z8, reduceNe → Z9, reduceToNat → Z10, cast_ofNat_Int → Zc
set_option maxRecDepth 100000
set_option linter.unusedSimpArgs false
set_option linter.unusedVariables false

theorem pnt_width {l : List UInt8} (h : l ≠ []) : max ((pnt l).2 : Int) 1 = (Lib.decodeL l).2 ∧ 1 ≤ (Lib.decodeL l).2 := by
  have hw := Lib.decodeL_width l
  refine ⟨?_, hw⟩
  unfold pnt
  split
  · rename_i hc
    rcases hc with ⟨_, h2⟩ | h2
    · simp only; omega
    · by_cases hv : (Lib.decodeL l).1 = 65533 ∧ (Lib.decodeL l).2 = 1
      · simp only; omega
      · obtain ⟨_, h3, _⟩ := decode_some h hv
        rw [h2] at h3
        simp only
        rw [h3]; rfl
  · omega
theorem head_zero {l : List UInt8} (h : l ≠ []) (h0 : l.getD 0 0 = 0) : (Lib.decodeL l).2 = 1 := by
  cases l with
  | nil => exact absurd rfl h
  | cons x r =>
    simp only [List.getD_cons_zero] at h0
    subst h0
    have := decode_enc (c := 0) (.inr rfl) r
    have e : enc 0 ++ r = 0 :: r := rfl
    rw [e] at this
    rw [this]; rfl
theorem loose_good : Rw.Good Tryd.prog 57 rcCon := by
  have hΓ : GoodEnv Tryd.prog [(53, pntCon)] := (goodEnv_cons point_good goodEnv_nil)
  refine good_fn (nn := 27) hΓ Tryd.func57 (by kernel_rfl) rfl (show Tryd.f57.results.toList = [.tmp 2] from rfl) (fun _ => rfl) (fun _ => rfl) ?_
  rintro ⟨s, hs⟩
  simp only [goRules, coreRules, tiRules, unRules, AS_of_eq, ← decide_not, N0, N1, N2, N3, N4, N5, Z0, Z1, Z2, Z3, Z4, Z5, Z6, Z7, Z8, Z9, Z10, Zc, ↓reduceIte, reduceCtorEq]
  obtain ⟨St, hSt⟩ : ∃ St : { p : Nat × Nat // p.1 + lc (s.drop p.2) = lc s } → AS, ∀ p, St p = AS.of 27 [(0, .v (sv s)), (3, .v (.int .i64 p.1.1)), (4, .v (.int .i64 p.1.2))] [] [] := ⟨_, fun _ => rfl⟩
  refine vc_loop hΓ St (fun p => s.length - p.1.2) ⟨(0, 0), by simp⟩ (by rw [hSt]; refine weak_go [] [] ?_; simp only [goRules, coreRules, tiRules, unRules, AS_of_eq, ← decide_not, N0, N1, N2, N3, N4, N5, Z0, Z1, Z2, Z3, Z4, Z5, Z6, Z7, Z8, Z9, Z10, Zc, ↓reduceIte, reduceCtorEq] <;> ((repeat' apply And.intro) <;> first | rfl | omega | trivial)) ?_
  rintro ⟨⟨k, i⟩, hk⟩
  simp only at hk
  have hlk := lc_len s
  rw [hSt]
  simp only
  simp only [goRules, coreRules, tiRules, unRules, AS_of_eq, ← decide_not, N0, N1, N2, N3, N4, N5, Z0, Z1, Z2, Z3, Z4, Z5, Z6, Z7, Z8, Z9, Z10, Zc, ↓reduceIte, reduceCtorEq]
  (with_reducible first | refine branchP_dec (fun h => ?_) (fun h => ?_) | refine guardB_dec (fun h => ?_) (fun h => ?_))
  · have hlt : i < s.length := by omega
    have hne := drop_ne hlt
    have hw := pnt_width hne
    have hsm := pnt_small (s.drop i)
    have hle : (Lib.decodeL (s.drop i)).2 ≤ 4 := by omega
    rw [lc_step hne, List.drop_drop] at hk
    have again : ∀ σ : AS, Weak σ (AS.of 27 [(0, .v (sv s)), (3, .v (.int .i64 (k + 1 : Nat))), (4, .v (.int .i64 (i + (Lib.decodeL (s.drop i)).2 : Nat)))] [] []) → ∃ y : { p : Nat × Nat // p.1 + lc (s.drop p.2) = lc s }, s.length - y.1.2 < s.length - i ∧ Weak σ (St y) := fun σ hw2 =>
      ⟨⟨(k + 1, i + (Lib.decodeL (s.drop i)).2), by simp only; omega⟩, by simp only; omega, by rw [hSt]; exact hw2⟩
    simp (disch := omega) only [goRules, coreRules, tiRules, unRules, AS_of_eq, ← decide_not, N0, N1, N2, N3, N4, N5, Z0, Z1, Z2, Z3, Z4, Z5, Z6, Z7, Z8, Z9, Z10, Zc, ↓reduceIte, reduceCtorEq, wrap_i64, h]
    (repeat (with_reducible refine And.intro ?_ ?_; focus (first | omega | exact mixed1 | kernel_rfl)))
    (with_reducible first | refine branchP_dec (fun h2 => ?_) (fun h2 => ?_) | refine guardB_dec (fun h2 => ?_) (fun h2 => ?_))
    · simp (disch := omega) only [goRules, coreRules, tiRules, unRules, AS_of_eq, ← decide_not, N0, N1, N2, N3, N4, N5, Z0, Z1, Z2, Z3, Z4, Z5, Z6, Z7, Z8, Z9, Z10, Zc, ↓reduceIte, reduceCtorEq, wrap_i64, h2]
      refine call_point (by simp [get_cons]) hs hlt ?_
      unfold pntR
      simp (disch := omega) only [goRules, coreRules, tiRules, unRules, AS_of_eq, ← decide_not, N0, N1, N2, N3, N4, N5, Z0, Z1, Z2, Z3, Z4, Z5, Z6, Z7, Z8, Z9, Z10, Zc, ↓reduceIte, reduceCtorEq, wrap_i64, max2_int, hw.1]
      refine again _ ?_
      refine weak_go [] [] ?_
      simp only [goRules, coreRules, tiRules, unRules, AS_of_eq, ← decide_not, N0, N1, N2, N3, N4, N5, Z0, Z1, Z2, Z3, Z4, Z5, Z6, Z7, Z8, Z9, Z10, Zc, ↓reduceIte, reduceCtorEq] <;> ((repeat' apply And.intro) <;> first | rfl | omega | trivial)
    · have h3 : (s.drop i).getD 0 0 = 0 := by
        have h4 : ((s.getD i 0).toNat : Int) = 0 := by omega
        have h5 : s.getD i 0 = 0 := by
          have : (s.getD i 0).toNat = 0 := by omega
          exact UInt8.toNat_inj.1 (by simpa using this)
        simp only [List.getD_eq_getElem?_getD, List.getElem?_drop, Nat.add_zero] at h5 ⊢
        exact h5
      have h6 := head_zero hne h3
      simp (disch := omega) only [goRules, coreRules, tiRules, unRules, AS_of_eq, ← decide_not, N0, N1, N2, N3, N4, N5, Z0, Z1, Z2, Z3, Z4, Z5, Z6, Z7, Z8, Z9, Z10, Zc, ↓reduceIte, reduceCtorEq, wrap_i64, h2, max2_int, show max (1 : Int) 1 = 1 from rfl]
      refine again _ ?_
      rw [h6]
      refine weak_go [] [] ?_
      simp only [goRules, coreRules, tiRules, unRules, AS_of_eq, ← decide_not, N0, N1, N2, N3, N4, N5, Z0, Z1, Z2, Z3, Z4, Z5, Z6, Z7, Z8, Z9, Z10, Zc, ↓reduceIte, reduceCtorEq] <;> ((repeat' apply And.intro) <;> first | rfl | omega | trivial)
  · simp only [goRules, coreRules, tiRules, unRules, AS_of_eq, ← decide_not, N0, N1, N2, N3, N4, N5, Z0, Z1, Z2, Z3, Z4, Z5, Z6, Z7, Z8, Z9, Z10, Zc, ↓reduceIte, reduceCtorEq, h]
    rw [List.drop_of_length_le (by omega), lc_nil] at hk
    omega
theorem call_loose {Γ : Env} (hf : Γ.get 57 = some rcCon) {σ : AS} {dr : Bool} {l : List UInt8} {d : Option Nat} {K : AS → Prop} (h : l.length ≤ 1099511627776)
    (hk : cont σ d (.v (.int .i64 (lc l))) K) : vcCall Tryd.prog Γ dr σ 57 [.v (sv l)] d K :=
  vcCall_plain (C := rcCon) (i := ⟨l, h⟩) hf rfl rfl rfl rfl (fun _ h => h) rfl hk

theorem rbase_good : Rw.Good Tryd.prog 28 baseCon := by
  have hΓ : GoodEnv Tryd.prog [(47, heldCon)] := (goodEnv_cons held_good goodEnv_nil)
  refine good_fn (nn := 33) hΓ Tryd.func28 (by kernel_rfl) rfl (show Tryd.f28.results.toList = [.tmp 2] from rfl) (fun _ => rfl) (fun _ => rfl) ?_
  rintro ⟨l, hl, htot, hc⟩
  simp only [goRules, coreRules, tiRules, unRules, AS_of_eq, ← decide_not, N0, N1, N2, N3, N4, N5, Z0, Z1, Z2, Z3, Z4, Z5, Z6, Z7, Z8, Z9, Z10, Zc, ↓reduceIte, reduceCtorEq, comps_len]
  obtain ⟨St, hSt⟩ : ∃ St : { p : Int × Nat // p.2 ≤ l.length ∧ 0 ≤ p.1 ∧ p.1 ≤ 1099511627776 ∧ baseL l = baseF p.1 (l.drop p.2) } → AS, ∀ p, St p = AS.of 33 [(0, .sl 0 3 (comps l)), (3, .v (.int .i64 p.1.1)), (4, .v (.int .i64 p.1.2))] [] [] := ⟨_, fun _ => rfl⟩
  refine vc_loop hΓ St (fun p => l.length - p.1.2) ⟨(0, 0), by omega, by omega, by omega, rfl⟩ (by rw [hSt]; refine weak_go [] [] ?_; simp only [goRules, coreRules, tiRules, unRules, AS_of_eq, ← decide_not, N0, N1, N2, N3, N4, N5, Z0, Z1, Z2, Z3, Z4, Z5, Z6, Z7, Z8, Z9, Z10, Zc, ↓reduceIte, reduceCtorEq] <;> ((repeat' apply And.intro) <;> first | rfl | omega | trivial)) ?_
  rintro ⟨⟨n, i⟩, hi, hn1, hn2, hb⟩
  simp only at hi hn1 hn2 hb
  rw [hSt]
  simp only
  simp only [goRules, coreRules, tiRules, unRules, AS_of_eq, ← decide_not, N0, N1, N2, N3, N4, N5, Z0, Z1, Z2, Z3, Z4, Z5, Z6, Z7, Z8, Z9, Z10, Zc, ↓reduceIte, reduceCtorEq, comps_len]
  (with_reducible first | refine branchP_dec (fun h => ?_) (fun h => ?_) | refine guardB_dec (fun h => ?_) (fun h => ?_))
  · have hlt : i < l.length := by omega
    have hcn := hc l[i] (List.getElem_mem hlt)
    have e1 := comps_getD l hlt
    rw [List.drop_eq_getElem_cons hlt] at hb
    simp only [baseF] at hb
    generalize l[i] = c at *
    obtain ⟨k, m, t⟩ := c
    simp only at hcn hb e1
    have yes : (k = 1 ∨ k = 3) → baseL l = baseF (addI n (max m 0)) (l.drop (i + 1)) := fun h => by rw [hb, if_pos h]
    have no : ¬ (k = 1 ∨ k = 3) → baseL l = baseF n (l.drop (i + 1)) := fun h => by rw [hb, if_neg h]
    have hr := addI_range hn1 (show 0 ≤ max m 0 by omega)
    simp (disch := omega) only [goRules, coreRules, tiRules, unRules, AS_of_eq, ← decide_not, N0, N1, N2, N3, N4, N5, Z0, Z1, Z2, Z3, Z4, Z5, Z6, Z7, Z8, Z9, Z10, Zc, ↓reduceIte, reduceCtorEq, wrap_i64, h, e1, comps_len]
    (repeat (with_reducible refine And.intro ?_ ?_; focus (first | omega | exact mixed1 | kernel_rfl)))
    (try ((with_reducible first | refine branchP_dec (fun q1 => ?_) (fun q1 => ?_) | refine guardB_dec (fun q1 => ?_) (fun q1 => ?_)) <;> simp (disch := omega) only [goRules, coreRules, tiRules, unRules, AS_of_eq, ← decide_not, N0, N1, N2, N3, N4, N5, Z0, Z1, Z2, Z3, Z4, Z5, Z6, Z7, Z8, Z9, Z10, Zc, ↓reduceIte, reduceCtorEq, wrap_i64, q1, e1, comps_len] <;> (with_reducible first | (refine And.intro ?_ ?_; focus (first | omega | exact mixed1 | kernel_rfl)); (repeat (with_reducible refine And.intro ?_ ?_; focus (first | omega | exact mixed1 | kernel_rfl))); (try simp (disch := omega) only [goRules, coreRules, tiRules, unRules, AS_of_eq, ← decide_not, N0, N1, N2, N3, N4, N5, Z0, Z1, Z2, Z3, Z4, Z5, Z6, Z7, Z8, Z9, Z10, Zc, ↓reduceIte, reduceCtorEq, wrap_i64, q1, e1, comps_len]) | skip) <;> (try ((with_reducible first | refine branchP_dec (fun q2 => ?_) (fun q2 => ?_) | refine guardB_dec (fun q2 => ?_) (fun q2 => ?_)) <;> simp (disch := omega) only [goRules, coreRules, tiRules, unRules, AS_of_eq, ← decide_not, N0, N1, N2, N3, N4, N5, Z0, Z1, Z2, Z3, Z4, Z5, Z6, Z7, Z8, Z9, Z10, Zc, ↓reduceIte, reduceCtorEq, wrap_i64, q2, e1, comps_len] <;> (with_reducible first | (refine And.intro ?_ ?_; focus (first | omega | exact mixed1 | kernel_rfl)); (repeat (with_reducible refine And.intro ?_ ?_; focus (first | omega | exact mixed1 | kernel_rfl))); (try simp (disch := omega) only [goRules, coreRules, tiRules, unRules, AS_of_eq, ← decide_not, N0, N1, N2, N3, N4, N5, Z0, Z1, Z2, Z3, Z4, Z5, Z6, Z7, Z8, Z9, Z10, Zc, ↓reduceIte, reduceCtorEq, wrap_i64, q2, e1, comps_len]) | skip) <;> skip))))
    all_goals first
      | (refine call_held (by simp [get_cons]) ⟨hn1, hn2⟩ hcn ?_
         simp (disch := omega) only [goRules, coreRules, tiRules, unRules, AS_of_eq, ← decide_not, N0, N1, N2, N3, N4, N5, Z0, Z1, Z2, Z3, Z4, Z5, Z6, Z7, Z8, Z9, Z10, Zc, ↓reduceIte, reduceCtorEq, wrap_i64]
         refine weak_again ⟨(addI n (max m 0), i + 1), by omega, hr.1, hr.2, yes (by omega)⟩ (by simp only; omega) ?_
         rw [hSt]; refine weak_go [] [] ?_
         simp only [goRules, coreRules, tiRules, unRules, AS_of_eq, ← decide_not, N0, N1, N2, N3, N4, N5, Z0, Z1, Z2, Z3, Z4, Z5, Z6, Z7, Z8, Z9, Z10, Zc, ↓reduceIte, reduceCtorEq] <;> ((repeat' apply And.intro) <;> first | rfl | omega | trivial))
      | (refine weak_again ⟨(n, i + 1), by omega, hn1, hn2, no (by omega)⟩ (by simp only; omega) ?_
         rw [hSt]; refine weak_go [] [] ?_
         simp only [goRules, coreRules, tiRules, unRules, AS_of_eq, ← decide_not, N0, N1, N2, N3, N4, N5, Z0, Z1, Z2, Z3, Z4, Z5, Z6, Z7, Z8, Z9, Z10, Zc, ↓reduceIte, reduceCtorEq] <;> ((repeat' apply And.intro) <;> first | rfl | omega | trivial))
      | trace_state
  · simp only [goRules, coreRules, tiRules, unRules, AS_of_eq, ← decide_not, N0, N1, N2, N3, N4, N5, Z0, Z1, Z2, Z3, Z4, Z5, Z6, Z7, Z8, Z9, Z10, Zc, ↓reduceIte, reduceCtorEq, h]
    rw [List.drop_of_length_le (by omega)] at hb
    rw [hb]; rfl
theorem call_rbase {Γ : Env} (hf : Γ.get 28 = some baseCon) {σ : AS} {dr : Bool} {l : List Cp} {t : Nat} {ys : List AV} {d : Option Nat} {K : AS → Prop} (hy : ys = comps l) (h : okL l)
    (hk : cont σ d (.v (.int .i64 (baseL l))) K) : vcCall Tryd.prog Γ dr σ 28 [.sl t 3 ys] d K := by
  subst hy
  exact vcCall_plain (C := baseCon) (i := ⟨l, h⟩) hf rfl rfl rfl rfl (fun _ h => h) rfl hk
theorem rout_good : Rw.Good Tryd.prog 46 outCon := by
  have hΓ : GoodEnv Tryd.prog [(47, heldCon), (57, rcCon)] := (goodEnv_cons held_good (goodEnv_cons loose_good goodEnv_nil))
  refine good_fn (nn := 36) hΓ Tryd.func46 (by kernel_rfl) rfl (show Tryd.f46.results.toList = [.tmp 2] from rfl) (fun _ => rfl) (fun _ => rfl) ?_
  rintro ⟨l, hl, htot, hc⟩
  simp only [goRules, coreRules, tiRules, unRules, AS_of_eq, ← decide_not, N0, N1, N2, N3, N4, N5, Z0, Z1, Z2, Z3, Z4, Z5, Z6, Z7, Z8, Z9, Z10, Zc, ↓reduceIte, reduceCtorEq, comps_len]
  obtain ⟨St, hSt⟩ : ∃ St : { p : Int × Nat // p.2 ≤ l.length ∧ 0 ≤ p.1 ∧ p.1 ≤ 1099511627776 ∧ outL l = outF p.1 (l.drop p.2) } → AS, ∀ p, St p = AS.of 36 [(0, .sl 0 3 (comps l)), (3, .v (.int .i64 p.1.1)), (4, .v (.int .i64 p.1.2))] [] [] := ⟨_, fun _ => rfl⟩
  refine vc_loop hΓ St (fun p => l.length - p.1.2) ⟨(0, 0), by omega, by omega, by omega, rfl⟩ (by rw [hSt]; refine weak_go [] [] ?_; simp only [goRules, coreRules, tiRules, unRules, AS_of_eq, ← decide_not, N0, N1, N2, N3, N4, N5, Z0, Z1, Z2, Z3, Z4, Z5, Z6, Z7, Z8, Z9, Z10, Zc, ↓reduceIte, reduceCtorEq] <;> ((repeat' apply And.intro) <;> first | rfl | omega | trivial)) ?_
  rintro ⟨⟨n, i⟩, hi, hn1, hn2, hb⟩
  simp only at hi hn1 hn2 hb
  rw [hSt]
  simp only
  simp only [goRules, coreRules, tiRules, unRules, AS_of_eq, ← decide_not, N0, N1, N2, N3, N4, N5, Z0, Z1, Z2, Z3, Z4, Z5, Z6, Z7, Z8, Z9, Z10, Zc, ↓reduceIte, reduceCtorEq, comps_len]
  (with_reducible first | refine branchP_dec (fun h => ?_) (fun h => ?_) | refine guardB_dec (fun h => ?_) (fun h => ?_))
  · have hlt : i < l.length := by omega
    have hcn := hc l[i] (List.getElem_mem hlt)
    have hct := okL.text ⟨hl, htot, hc⟩ (List.getElem_mem hlt)
    have e1 := comps_getD l hlt
    rw [List.drop_eq_getElem_cons hlt] at hb
    simp only [outF] at hb
    generalize l[i] = c at *
    obtain ⟨k, m, t⟩ := c
    simp only at hcn hct hb e1
    have hl1 : k = 1 → outL l = outF (addI n (max m 0)) (l.drop (i + 1)) := fun h => by rw [hb, if_pos h]
    have hl2 : ¬ k = 1 → k = 2 → outL l = outF (addI n (lc t)) (l.drop (i + 1)) := fun h h2 => by rw [hb, if_neg h, if_pos h2]
    have hl3 : ¬ k = 1 → ¬ k = 2 → outL l = outF n (l.drop (i + 1)) := fun h h2 => by rw [hb, if_neg h, if_neg h2]
    have hr := addI_range hn1 (show 0 ≤ max m 0 by omega)
    have hr2 := addI_range hn1 (show 0 ≤ (lc t : Int) by omega)
    have hlt2 := lc_len t
    simp (disch := omega) only [goRules, coreRules, tiRules, unRules, AS_of_eq, ← decide_not, N0, N1, N2, N3, N4, N5, Z0, Z1, Z2, Z3, Z4, Z5, Z6, Z7, Z8, Z9, Z10, Zc, ↓reduceIte, reduceCtorEq, wrap_i64, h, e1, comps_len]
    (repeat (with_reducible refine And.intro ?_ ?_; focus (first | omega | exact mixed1 | kernel_rfl)))
    (try ((with_reducible first | refine branchP_dec (fun q1 => ?_) (fun q1 => ?_) | refine guardB_dec (fun q1 => ?_) (fun q1 => ?_)) <;> simp (disch := omega) only [goRules, coreRules, tiRules, unRules, AS_of_eq, ← decide_not, N0, N1, N2, N3, N4, N5, Z0, Z1, Z2, Z3, Z4, Z5, Z6, Z7, Z8, Z9, Z10, Zc, ↓reduceIte, reduceCtorEq, wrap_i64, q1, e1, comps_len] <;> (with_reducible first | (refine And.intro ?_ ?_; focus (first | omega | exact mixed1 | kernel_rfl)); (repeat (with_reducible refine And.intro ?_ ?_; focus (first | omega | exact mixed1 | kernel_rfl))); (try simp (disch := omega) only [goRules, coreRules, tiRules, unRules, AS_of_eq, ← decide_not, N0, N1, N2, N3, N4, N5, Z0, Z1, Z2, Z3, Z4, Z5, Z6, Z7, Z8, Z9, Z10, Zc, ↓reduceIte, reduceCtorEq, wrap_i64, q1, e1, comps_len]) | skip) <;> (try ((with_reducible first | refine branchP_dec (fun q2 => ?_) (fun q2 => ?_) | refine guardB_dec (fun q2 => ?_) (fun q2 => ?_)) <;> simp (disch := omega) only [goRules, coreRules, tiRules, unRules, AS_of_eq, ← decide_not, N0, N1, N2, N3, N4, N5, Z0, Z1, Z2, Z3, Z4, Z5, Z6, Z7, Z8, Z9, Z10, Zc, ↓reduceIte, reduceCtorEq, wrap_i64, q2, e1, comps_len] <;> (with_reducible first | (refine And.intro ?_ ?_; focus (first | omega | exact mixed1 | kernel_rfl)); (repeat (with_reducible refine And.intro ?_ ?_; focus (first | omega | exact mixed1 | kernel_rfl))); (try simp (disch := omega) only [goRules, coreRules, tiRules, unRules, AS_of_eq, ← decide_not, N0, N1, N2, N3, N4, N5, Z0, Z1, Z2, Z3, Z4, Z5, Z6, Z7, Z8, Z9, Z10, Zc, ↓reduceIte, reduceCtorEq, wrap_i64, q2, e1, comps_len]) | skip) <;> skip))))
    all_goals first
      | (refine call_held (by simp [get_cons]) ⟨hn1, hn2⟩ hcn ?_
         simp (disch := omega) only [goRules, coreRules, tiRules, unRules, AS_of_eq, ← decide_not, N0, N1, N2, N3, N4, N5, Z0, Z1, Z2, Z3, Z4, Z5, Z6, Z7, Z8, Z9, Z10, Zc, ↓reduceIte, reduceCtorEq, wrap_i64]
         refine weak_again ⟨(addI n (max m 0), i + 1), by omega, hr.1, hr.2, hl1 (by omega)⟩ (by simp only; omega) ?_
         rw [hSt]; refine weak_go [] [] ?_
         simp only [goRules, coreRules, tiRules, unRules, AS_of_eq, ← decide_not, N0, N1, N2, N3, N4, N5, Z0, Z1, Z2, Z3, Z4, Z5, Z6, Z7, Z8, Z9, Z10, Zc, ↓reduceIte, reduceCtorEq] <;> ((repeat' apply And.intro) <;> first | rfl | omega | trivial))
      | (refine call_loose (by simp [get_cons]) hct ?_
         simp (disch := omega) only [goRules, coreRules, tiRules, unRules, AS_of_eq, ← decide_not, N0, N1, N2, N3, N4, N5, Z0, Z1, Z2, Z3, Z4, Z5, Z6, Z7, Z8, Z9, Z10, Zc, ↓reduceIte, reduceCtorEq, wrap_i64]
         refine call_held (by simp [get_cons]) ⟨hn1, hn2⟩ (by omega) ?_
         simp (disch := omega) only [goRules, coreRules, tiRules, unRules, AS_of_eq, ← decide_not, N0, N1, N2, N3, N4, N5, Z0, Z1, Z2, Z3, Z4, Z5, Z6, Z7, Z8, Z9, Z10, Zc, ↓reduceIte, reduceCtorEq, wrap_i64]
         refine weak_again ⟨(addI n (lc t), i + 1), by omega, hr2.1, hr2.2, hl2 (by omega) (by omega)⟩ (by simp only; omega) ?_
         rw [hSt]; refine weak_go [] [] ?_
         simp only [goRules, coreRules, tiRules, unRules, AS_of_eq, ← decide_not, N0, N1, N2, N3, N4, N5, Z0, Z1, Z2, Z3, Z4, Z5, Z6, Z7, Z8, Z9, Z10, Zc, ↓reduceIte, reduceCtorEq, show max (lc t : Int) 0 = lc t by omega] <;> ((repeat' apply And.intro) <;> first | rfl | omega | trivial))
      | (refine weak_again ⟨(n, i + 1), by omega, hn1, hn2, hl3 (by omega) (by omega)⟩ (by simp only; omega) ?_
         rw [hSt]; refine weak_go [] [] ?_
         simp only [goRules, coreRules, tiRules, unRules, AS_of_eq, ← decide_not, N0, N1, N2, N3, N4, N5, Z0, Z1, Z2, Z3, Z4, Z5, Z6, Z7, Z8, Z9, Z10, Zc, ↓reduceIte, reduceCtorEq] <;> ((repeat' apply And.intro) <;> first | rfl | omega | trivial))
      | trace_state
  · simp only [goRules, coreRules, tiRules, unRules, AS_of_eq, ← decide_not, N0, N1, N2, N3, N4, N5, Z0, Z1, Z2, Z3, Z4, Z5, Z6, Z7, Z8, Z9, Z10, Zc, ↓reduceIte, reduceCtorEq, h]
    rw [List.drop_of_length_le (by omega)] at hb
    rw [hb]; rfl
theorem call_rout {Γ : Env} (hf : Γ.get 46 = some outCon) {σ : AS} {dr : Bool} {l : List Cp} {t : Nat} {ys : List AV} {d : Option Nat} {K : AS → Prop} (hy : ys = comps l) (h : okL l)
    (hk : cont σ d (.v (.int .i64 (outL l))) K) : vcCall Tryd.prog Γ dr σ 46 [.sl t 3 ys] d K := by
  subst hy
  exact vcCall_plain (C := outCon) (i := ⟨l, h⟩) hf rfl rfl rfl rfl (fun _ h => h) rfl hk
end Go.Proofs
end
