/-
  Edits done, undone, by the program.
-/
import Derived.Test.YtknbfkmgoijncaaDoorXBAp2
set_option linter.unusedSimpArgs false
set_option linter.unusedVariables false
set_option linter.defProp false

-- BAp3
section
namespace Go.Proofs
open Go Go.Rw
open _root_.Nat renaming reduceAdd → N0, reduceSub → N1, reduceMul → N2, reduceLT → N3, reduceLeDiff → N4, reduceEqDiff → N5
open _root_.Int renaming reduceNeg → Z0, reduceAdd → Z1, reduceSub → Z2, reduceMul → Z3, reduceGT → Z4, reduceGE → Z5, reduceLT → Z6, reduceLE → Z7, reduceEq → Z8, reduceNe → Z9, reduceToNat → Z10, cast_ofNat_Int → Zc
set_option maxRecDepth 100000
set_option linter.unusedSimpArgs false
set_option linter.unusedVariables false

theorem rnormal_good : Rw.Good Tryd.prog 45 normalCon := by
  have hΓ : GoodEnv Tryd.prog [(11, validCon)] := (goodEnv_cons rvalid_good goodEnv_nil)
  refine good_fn (nn := 70) hΓ Tryd.func45 (by kernel_rfl) rfl (show Tryd.f45.results.toList = [.tmp 2] from rfl) (fun _ => rfl) (fun _ => rfl) ?_
  rintro ⟨l, hl, htot, hc⟩
  simp only [goRules, coreRules, tiRules, unRules, AS_of_eq, ← decide_not, N0, N1, N2, N3, N4, N5, Z0, Z1, Z2, Z3, Z4, Z5, Z6, Z7, Z8, Z9, Z10, Zc, ↓reduceIte, reduceCtorEq, comps_len]
  obtain ⟨St, hSt⟩ : ∃ St : { i : Nat // i ≤ l.length ∧ normalL l = normalF (ahead l i) (l.drop i) } → AS, ∀ i, St i = AS.of 70 [(0, .sl 0 3 (comps l)), (3, .v (.int .i64 i.1))] [] [] := ⟨_, fun _ => rfl⟩
  refine vc_loop hΓ St (fun i => l.length - i.1) ⟨0, by omega, rfl⟩ (by rw [hSt]; refine weak_go [] [] ?_; simp only [goRules, coreRules, tiRules, unRules, AS_of_eq, ← decide_not, N0, N1, N2, N3, N4, N5, Z0, Z1, Z2, Z3, Z4, Z5, Z6, Z7, Z8, Z9, Z10, Zc, ↓reduceIte, reduceCtorEq] <;> ((repeat' apply And.intro) <;> first | rfl | omega | trivial)) ?_
  rintro ⟨i, hi, hb⟩
  rw [hSt]
  simp only
  simp only [goRules, coreRules, tiRules, unRules, AS_of_eq, ← decide_not, N0, N1, N2, N3, N4, N5, Z0, Z1, Z2, Z3, Z4, Z5, Z6, Z7, Z8, Z9, Z10, Zc, ↓reduceIte, reduceCtorEq, comps_len]
  (with_reducible first | refine branchP_dec (fun h => ?_) (fun h => ?_) | refine guardB_dec (fun h => ?_) (fun h => ?_))
  · have hlt : i < l.length := by omega
    have hci := okL.text ⟨hl, htot, hc⟩ (List.getElem_mem hlt)
    have e1 := comps_getD l hlt
    rw [List.drop_eq_getElem_cons hlt] at hb
    simp only [normalF] at hb
    have hne : ahead l (i + 1) = some l[i] := by simp [ahead, hlt]
    rw [← hne] at hb
    have again : ∀ σ : AS, Weak σ (AS.of 70 [(0, .sl 0 3 (comps l)), (3, .v (.int .i64 (i + 1 : Nat)))] [] []) → normalL l = normalF (ahead l (i + 1)) (l.drop (i + 1)) → ∃ y : { i : Nat // i ≤ l.length ∧ normalL l = normalF (ahead l i) (l.drop i) }, l.length - y.1 < l.length - i ∧ Weak σ (St y) := fun σ hw hb2 =>
      ⟨⟨i + 1, by omega, hb2⟩, by simp only; omega, by rw [hSt]; exact hw⟩
    by_cases h0 : i = 0
    · have hp : ahead l i = none := by simp [ahead, h0]
      rw [hp] at hb
      simp only [Bool.and_true] at hb
      have no : sound l[i] = false ∨ False → normalL l = false := fun h => by
        rcases h with h | h
        · rw [hb, h]; rfl
        · exact h.elim
      have yes : sound l[i] = true → normalL l = normalF (ahead l (i + 1)) (l.drop (i + 1)) := fun h => by rw [hb, h]; rfl
      generalize l[i] = c at *
      obtain ⟨k, n, t⟩ := c
      simp only at *
      have hz : ¬ (i : Int) > 0 := by omega
      have hi3 : 0 ≤ (i : Int) := by omega
      by_cases k13 : k = 1 ∨ k = 3
      · rcases k13 with rfl | rfl
        all_goals
          by_cases n1 : n < 1
          · have n2 : ¬ n > 0 := by omega
            simp (disch := omega) only [goRules, coreRules, tiRules, unRules, AS_of_eq, ← decide_not, N0, N1, N2, N3, N4, N5, Z0, Z1, Z2, Z3, Z4, Z5, Z6, Z7, Z8, Z9, Z10, Zc, ↓reduceIte, reduceCtorEq, wrap_i64, h, e1, comps_len, hz, hi3, n1, no (.inl (by simp [sound, n2]))]
          · have n2 : n > 0 := by omega
            by_cases t0 : t = []
            · subst t0
              simp (disch := omega) only [goRules, coreRules, tiRules, unRules, AS_of_eq, ← decide_not, N0, N1, N2, N3, N4, N5, Z0, Z1, Z2, Z3, Z4, Z5, Z6, Z7, Z8, Z9, Z10, Zc, ↓reduceIte, reduceCtorEq, wrap_i64, h, e1, comps_len, hz, hi3, n1]
              (repeat (with_reducible refine And.intro ?_ ?_; focus (first | omega | exact mixed1 | kernel_rfl)))
              refine again _ ?_ (yes (by simp [sound, n2]))
              refine weak_go [] [] ?_
              simp only [goRules, coreRules, tiRules, unRules, AS_of_eq, ← decide_not, N0, N1, N2, N3, N4, N5, Z0, Z1, Z2, Z3, Z4, Z5, Z6, Z7, Z8, Z9, Z10, Zc, ↓reduceIte, reduceCtorEq] <;> ((repeat' apply And.intro) <;> first | rfl | omega | trivial)
            · simp (disch := omega) only [goRules, coreRules, tiRules, unRules, AS_of_eq, ← decide_not, N0, N1, N2, N3, N4, N5, Z0, Z1, Z2, Z3, Z4, Z5, Z6, Z7, Z8, Z9, Z10, Zc, ↓reduceIte, reduceCtorEq, wrap_i64, h, e1, comps_len, hz, hi3, n1, t0, no (.inl (by simp [sound, t0]))]
      · have k1 : ¬ k = 1 := by omega
        have k3 : ¬ k = 3 := by omega
        by_cases k2 : k = 2
        · subst k2
          by_cases n0 : n = 0
          · subst n0
            by_cases t0 : t = []
            · subst t0
              simp (disch := omega) only [goRules, coreRules, tiRules, unRules, AS_of_eq, ← decide_not, N0, N1, N2, N3, N4, N5, Z0, Z1, Z2, Z3, Z4, Z5, Z6, Z7, Z8, Z9, Z10, Zc, ↓reduceIte, reduceCtorEq, wrap_i64, h, e1, comps_len, hz, hi3, no (.inl (by simp [sound]))]
            · simp (disch := omega) only [goRules, coreRules, tiRules, unRules, AS_of_eq, ← decide_not, N0, N1, N2, N3, N4, N5, Z0, Z1, Z2, Z3, Z4, Z5, Z6, Z7, Z8, Z9, Z10, Zc, ↓reduceIte, reduceCtorEq, wrap_i64, h, e1, comps_len, hz, hi3, t0]
              refine call_rvalid (by simp [get_cons]) hci ?_
              cases hv : (pts t).isSome with
              | false => simp (disch := omega) only [goRules, coreRules, tiRules, unRules, AS_of_eq, ← decide_not, N0, N1, N2, N3, N4, N5, Z0, Z1, Z2, Z3, Z4, Z5, Z6, Z7, Z8, Z9, Z10, Zc, ↓reduceIte, reduceCtorEq, wrap_i64, h, e1, comps_len, hz, hi3, hv, no (.inl (by simp [sound, hv]))]
              | true =>
                simp (disch := omega) only [goRules, coreRules, tiRules, unRules, AS_of_eq, ← decide_not, N0, N1, N2, N3, N4, N5, Z0, Z1, Z2, Z3, Z4, Z5, Z6, Z7, Z8, Z9, Z10, Zc, ↓reduceIte, reduceCtorEq, wrap_i64, h, e1, comps_len, hz, hi3, hv]
                (repeat (with_reducible refine And.intro ?_ ?_; focus (first | omega | exact mixed1 | kernel_rfl)))
                refine again _ ?_ (yes (by simp [sound, hv, t0]))
                refine weak_go [] [] ?_
                simp only [goRules, coreRules, tiRules, unRules, AS_of_eq, ← decide_not, N0, N1, N2, N3, N4, N5, Z0, Z1, Z2, Z3, Z4, Z5, Z6, Z7, Z8, Z9, Z10, Zc, ↓reduceIte, reduceCtorEq] <;> ((repeat' apply And.intro) <;> first | rfl | omega | trivial)
          · simp (disch := omega) only [goRules, coreRules, tiRules, unRules, AS_of_eq, ← decide_not, N0, N1, N2, N3, N4, N5, Z0, Z1, Z2, Z3, Z4, Z5, Z6, Z7, Z8, Z9, Z10, Zc, ↓reduceIte, reduceCtorEq, wrap_i64, h, e1, comps_len, hz, hi3, n0, no (.inl (by simp [sound, n0]))]
        · simp (disch := omega) only [goRules, coreRules, tiRules, unRules, AS_of_eq, ← decide_not, N0, N1, N2, N3, N4, N5, Z0, Z1, Z2, Z3, Z4, Z5, Z6, Z7, Z8, Z9, Z10, Zc, ↓reduceIte, reduceCtorEq, wrap_i64, h, e1, comps_len, hz, hi3, k1, k2, k3, no (.inl (by simp [sound, k1, k2, k3]))]
    · have hp : ahead l i = some l[i - 1] := by simp [ahead, h0]
      have e2 : (comps l).getD (i - 1) .any = .agg [.v (.int .i64 l[i - 1].k), .v (.int .i64 l[i - 1].n), .v (sv l[i - 1].t)] := comps_getD l (by omega)
      have e3 : ((i : Int) - 1).toNat = i - 1 := by omega
      rw [hp] at hb
      simp only at hb
      have no : sound l[i] = false ∨ follows l[i - 1] l[i] = false → normalL l = false := fun h => by
        rcases h with h | h
        · rw [hb, h]; rfl
        · rw [hb, h]; simp
      have yes : sound l[i] = true → follows l[i - 1] l[i] = true → normalL l = normalF (ahead l (i + 1)) (l.drop (i + 1)) := fun h h2 => by rw [hb, h, h2]; rfl
      generalize l[i - 1] = pc at *
      generalize l[i] = c at *
      obtain ⟨k, n, t⟩ := c
      obtain ⟨pk0, pn, pt⟩ := pc
      simp only at *
      have hz : (i : Int) > 0 := by omega
      have hi3 : 0 ≤ (i : Int) := by omega
      have hi4 : 0 ≤ (i : Int) - 1 ∧ (i : Int) - 1 < l.length := by omega
      by_cases k13 : k = 1 ∨ k = 3
      · rcases k13 with rfl | rfl
        all_goals
          by_cases n1 : n < 1
          · have n2 : ¬ n > 0 := by omega
            simp (disch := omega) only [goRules, coreRules, tiRules, unRules, AS_of_eq, ← decide_not, N0, N1, N2, N3, N4, N5, Z0, Z1, Z2, Z3, Z4, Z5, Z6, Z7, Z8, Z9, Z10, Zc, ↓reduceIte, reduceCtorEq, wrap_i64, h, e1, e2, e3, comps_len, hz, hi3, hi4, n1, no (.inl (by simp [sound, n2]))]
          · have n2 : n > 0 := by omega
            by_cases t0 : t = []
            · subst t0
              first
                | (by_cases pk : pk0 = 1
                   · simp (disch := omega) only [goRules, coreRules, tiRules, unRules, AS_of_eq, ← decide_not, N0, N1, N2, N3, N4, N5, Z0, Z1, Z2, Z3, Z4, Z5, Z6, Z7, Z8, Z9, Z10, Zc, ↓reduceIte, reduceCtorEq, wrap_i64, h, e1, e2, e3, comps_len, hz, hi3, hi4, n1, pk, no (.inr (by simp [follows, pk]; done))]
                     all_goals exact ⟨mixed1, by kernel_rfl⟩
                   · simp (disch := omega) only [goRules, coreRules, tiRules, unRules, AS_of_eq, ← decide_not, N0, N1, N2, N3, N4, N5, Z0, Z1, Z2, Z3, Z4, Z5, Z6, Z7, Z8, Z9, Z10, Zc, ↓reduceIte, reduceCtorEq, wrap_i64, h, e1, e2, e3, comps_len, hz, hi3, hi4, n1, pk]
                     (repeat (with_reducible refine And.intro ?_ ?_; focus (first | omega | exact mixed1 | kernel_rfl)))
                     refine again _ ?_ (yes (by simp [sound, n2]) (by simp [follows, pk]; done))
                     refine weak_go [] [] ?_
                     simp only [goRules, coreRules, tiRules, unRules, AS_of_eq, ← decide_not, N0, N1, N2, N3, N4, N5, Z0, Z1, Z2, Z3, Z4, Z5, Z6, Z7, Z8, Z9, Z10, Zc, ↓reduceIte, reduceCtorEq] <;> ((repeat' apply And.intro) <;> first | rfl | omega | trivial))
                | (by_cases pk : pk0 = 3
                   · simp (disch := omega) only [goRules, coreRules, tiRules, unRules, AS_of_eq, ← decide_not, N0, N1, N2, N3, N4, N5, Z0, Z1, Z2, Z3, Z4, Z5, Z6, Z7, Z8, Z9, Z10, Zc, ↓reduceIte, reduceCtorEq, wrap_i64, h, e1, e2, e3, comps_len, hz, hi3, hi4, n1, pk, no (.inr (by simp [follows, pk]; done))]
                     all_goals exact ⟨mixed1, by kernel_rfl⟩
                   · simp (disch := omega) only [goRules, coreRules, tiRules, unRules, AS_of_eq, ← decide_not, N0, N1, N2, N3, N4, N5, Z0, Z1, Z2, Z3, Z4, Z5, Z6, Z7, Z8, Z9, Z10, Zc, ↓reduceIte, reduceCtorEq, wrap_i64, h, e1, e2, e3, comps_len, hz, hi3, hi4, n1, pk]
                     (repeat (with_reducible refine And.intro ?_ ?_; focus (first | omega | exact mixed1 | kernel_rfl)))
                     refine again _ ?_ (yes (by simp [sound, n2]) (by simp [follows, pk]; done))
                     refine weak_go [] [] ?_
                     simp only [goRules, coreRules, tiRules, unRules, AS_of_eq, ← decide_not, N0, N1, N2, N3, N4, N5, Z0, Z1, Z2, Z3, Z4, Z5, Z6, Z7, Z8, Z9, Z10, Zc, ↓reduceIte, reduceCtorEq] <;> ((repeat' apply And.intro) <;> first | rfl | omega | trivial))
            · simp (disch := omega) only [goRules, coreRules, tiRules, unRules, AS_of_eq, ← decide_not, N0, N1, N2, N3, N4, N5, Z0, Z1, Z2, Z3, Z4, Z5, Z6, Z7, Z8, Z9, Z10, Zc, ↓reduceIte, reduceCtorEq, wrap_i64, h, e1, e2, e3, comps_len, hz, hi3, hi4, n1, t0, no (.inl (by simp [sound, t0]))]
      · have k1 : ¬ k = 1 := by omega
        have k3 : ¬ k = 3 := by omega
        by_cases k2 : k = 2
        · subst k2
          by_cases n0 : n = 0
          · subst n0
            by_cases t0 : t = []
            · subst t0
              simp (disch := omega) only [goRules, coreRules, tiRules, unRules, AS_of_eq, ← decide_not, N0, N1, N2, N3, N4, N5, Z0, Z1, Z2, Z3, Z4, Z5, Z6, Z7, Z8, Z9, Z10, Zc, ↓reduceIte, reduceCtorEq, wrap_i64, h, e1, e2, e3, comps_len, hz, hi3, hi4, no (.inl (by simp [sound]))]
            · simp (disch := omega) only [goRules, coreRules, tiRules, unRules, AS_of_eq, ← decide_not, N0, N1, N2, N3, N4, N5, Z0, Z1, Z2, Z3, Z4, Z5, Z6, Z7, Z8, Z9, Z10, Zc, ↓reduceIte, reduceCtorEq, wrap_i64, h, e1, e2, e3, comps_len, hz, hi3, hi4, t0]
              refine call_rvalid (by simp [get_cons]) hci ?_
              cases hv : (pts t).isSome with
              | false => simp (disch := omega) only [goRules, coreRules, tiRules, unRules, AS_of_eq, ← decide_not, N0, N1, N2, N3, N4, N5, Z0, Z1, Z2, Z3, Z4, Z5, Z6, Z7, Z8, Z9, Z10, Zc, ↓reduceIte, reduceCtorEq, wrap_i64, h, e1, e2, e3, comps_len, hz, hi3, hi4, hv, no (.inl (by simp [sound, hv]))]
              | true =>
                by_cases pk : pk0 = 3
                · simp (disch := omega) only [goRules, coreRules, tiRules, unRules, AS_of_eq, ← decide_not, N0, N1, N2, N3, N4, N5, Z0, Z1, Z2, Z3, Z4, Z5, Z6, Z7, Z8, Z9, Z10, Zc, ↓reduceIte, reduceCtorEq, wrap_i64, h, e1, e2, e3, comps_len, hz, hi3, hi4, hv, pk, no (.inr (by simp [follows, pk]))]
                  all_goals exact ⟨mixed1, by kernel_rfl⟩
                · by_cases pl : pk0 = 2
                  · simp (disch := omega) only [goRules, coreRules, tiRules, unRules, AS_of_eq, ← decide_not, N0, N1, N2, N3, N4, N5, Z0, Z1, Z2, Z3, Z4, Z5, Z6, Z7, Z8, Z9, Z10, Zc, ↓reduceIte, reduceCtorEq, wrap_i64, h, e1, e2, e3, comps_len, hz, hi3, hi4, hv, pl, no (.inr (by simp [follows, pl]))]
                    all_goals exact ⟨mixed1, by kernel_rfl⟩
                  · simp (disch := omega) only [goRules, coreRules, tiRules, unRules, AS_of_eq, ← decide_not, N0, N1, N2, N3, N4, N5, Z0, Z1, Z2, Z3, Z4, Z5, Z6, Z7, Z8, Z9, Z10, Zc, ↓reduceIte, reduceCtorEq, wrap_i64, h, e1, e2, e3, comps_len, hz, hi3, hi4, hv, pk, pl]
                    (repeat (with_reducible refine And.intro ?_ ?_; focus (first | omega | exact mixed1 | kernel_rfl)))
                    refine again _ ?_ (yes (by simp [sound, hv, t0]) (by simp [follows, pk, pl]))
                    refine weak_go [] [] ?_
                    simp only [goRules, coreRules, tiRules, unRules, AS_of_eq, ← decide_not, N0, N1, N2, N3, N4, N5, Z0, Z1, Z2, Z3, Z4, Z5, Z6, Z7, Z8, Z9, Z10, Zc, ↓reduceIte, reduceCtorEq] <;> ((repeat' apply And.intro) <;> first | rfl | omega | trivial)
          · simp (disch := omega) only [goRules, coreRules, tiRules, unRules, AS_of_eq, ← decide_not, N0, N1, N2, N3, N4, N5, Z0, Z1, Z2, Z3, Z4, Z5, Z6, Z7, Z8, Z9, Z10, Zc, ↓reduceIte, reduceCtorEq, wrap_i64, h, e1, e2, e3, comps_len, hz, hi3, hi4, n0, no (.inl (by simp [sound, n0]))]
        · simp (disch := omega) only [goRules, coreRules, tiRules, unRules, AS_of_eq, ← decide_not, N0, N1, N2, N3, N4, N5, Z0, Z1, Z2, Z3, Z4, Z5, Z6, Z7, Z8, Z9, Z10, Zc, ↓reduceIte, reduceCtorEq, wrap_i64, h, e1, e2, e3, comps_len, hz, hi3, hi4, k1, k2, k3, no (.inl (by simp [sound, k1, k2, k3]))]
  · simp only [goRules, coreRules, tiRules, unRules, AS_of_eq, ← decide_not, N0, N1, N2, N3, N4, N5, Z0, Z1, Z2, Z3, Z4, Z5, Z6, Z7, Z8, Z9, Z10, Zc, ↓reduceIte, reduceCtorEq, h]
    rw [List.drop_of_length_le (by omega)] at hb
    rw [hb]; rfl
end Go.Proofs
end
