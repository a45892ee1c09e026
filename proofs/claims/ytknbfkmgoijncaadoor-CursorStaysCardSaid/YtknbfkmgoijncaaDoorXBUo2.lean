/-
  Which edits may be.
-/
import Derived.Test.YtknbfkmgoijncaaDoorXBUo1
set_option linter.unusedSimpArgs false
set_option linter.unusedVariables false
set_option linter.defProp false

-- BUo2
section
namespace Go.Proofs
open Go Go.Rw
open _root_.Nat renaming reduceAdd → N0, reduceSub → N1, reduceMul → N2, reduceLT → N3, reduceLeDiff → N4, reduceEqDiff → N5
open _root_.Int renaming reduceNeg → Z0, reduceAdd → Z1, reduceSub → Z2, reduceMul → Z3, reduceGT → Z4, reduceGE → Z5, reduceLT → Z6, reduceLE → Z7, reduceEq → Z8, reduceNe → Z9, reduceToNat → Z10, cast_ofNat_Int → Zc
set_option maxRecDepth 100000
set_option linter.unusedSimpArgs false
set_option linter.unusedVariables false

abbrev soundCon : Con := partCon sound
abbrev someCon : Con := partCon someC
/-- The part ahead of a place. -/
def ahead (l : List Cp) (i : Nat) : Option Cp := if i = 0 then none else l[i - 1]?
abbrev normalCon : Con where
  ι := Ed
  args := fun l => [.sl 0 3 (comps l.1)]
  post := fun l r => r = .v (.bool (normalL l.1))
  plain := true
theorem normal_good : Rw.Good Tryd.prog 56 normalCon := by
  have hΓ : GoodEnv Tryd.prog [(64, soundCon)] := (goodEnv_cons sound_good goodEnv_nil)
  refine good_fn (nn := 45) hΓ Tryd.func56 (by kernel_rfl) rfl (show Tryd.f56.results.toList = [.tmp 2] from rfl) (fun _ => rfl) (fun _ => rfl) ?_
  rintro ⟨l, hl, htot, hc⟩
  simp only [goRules, coreRules, tiRules, unRules, AS_of_eq, ← decide_not, N0, N1, N2, N3, N4, N5, Z0, Z1, Z2, Z3, Z4, Z5, Z6, Z7, Z8, Z9, Z10, Zc, ↓reduceIte, reduceCtorEq, comps_len]
  obtain ⟨St, hSt⟩ : ∃ St : { i : Nat // i ≤ l.length ∧ normalL l = normalF (ahead l i) (l.drop i) } → AS, ∀ i, St i = AS.of 45 [(0, .sl 0 3 (comps l)), (5, .sl 0 3 (comps l)), (6, .v (.int .i64 l.length)), (7, .v (.int .i64 i.1))] [] [] := ⟨_, fun _ => rfl⟩
  refine vc_loop hΓ St (fun i => l.length - i.1) ⟨0, by omega, rfl⟩ (by rw [hSt]; refine weak_go [] [] ?_; simp only [goRules, coreRules, tiRules, unRules, AS_of_eq, ← decide_not, N0, N1, N2, N3, N4, N5, Z0, Z1, Z2, Z3, Z4, Z5, Z6, Z7, Z8, Z9, Z10, Zc, ↓reduceIte, reduceCtorEq] <;> ((repeat' apply And.intro) <;> first | rfl | omega | trivial)) ?_
  rintro ⟨i, hi, hb⟩
  rw [hSt]
  simp only
  simp only [goRules, coreRules, tiRules, unRules, AS_of_eq, ← decide_not, N0, N1, N2, N3, N4, N5, Z0, Z1, Z2, Z3, Z4, Z5, Z6, Z7, Z8, Z9, Z10, Zc, ↓reduceIte, reduceCtorEq]
  (with_reducible first | refine branchP_dec (fun h => ?_) (fun h => ?_) | refine guardB_dec (fun h => ?_) (fun h => ?_))
  · have hlt : i < l.length := by omega
    have hci := okL.text ⟨hl, htot, hc⟩ (List.getElem_mem hlt)
    have e1 := comps_getD l hlt
    rw [List.drop_eq_getElem_cons hlt] at hb
    simp only [normalF] at hb
    have hne : ahead l (i + 1) = some l[i] := by simp [ahead, hlt]
    rw [← hne] at hb
    simp (disch := omega) only [goRules, coreRules, tiRules, unRules, AS_of_eq, ← decide_not, N0, N1, N2, N3, N4, N5, Z0, Z1, Z2, Z3, Z4, Z5, Z6, Z7, Z8, Z9, Z10, Zc, ↓reduceIte, reduceCtorEq, wrap_i64, h, e1, comps_len]
    (repeat (with_reducible refine And.intro ?_ ?_; focus (first | omega | exact mixed1 | kernel_rfl)))
    refine call_sound (by simp [get_cons]) hci ?_
    have again : ∀ σ : AS, Weak σ (AS.of 45 [(0, .sl 0 3 (comps l)), (5, .sl 0 3 (comps l)), (6, .v (.int .i64 l.length)), (7, .v (.int .i64 (i + 1 : Nat)))] [] []) → normalL l = normalF (ahead l (i + 1)) (l.drop (i + 1)) → ∀ (x : { i : Nat // i ≤ l.length ∧ normalL l = normalF (ahead l i) (l.drop i) }), x.1 = i → Again St (fun i => l.length - i.1) x σ := fun σ hw hb2 x hx =>
      weak_again ⟨i + 1, by omega, hb2⟩ (by simp only; omega) (by rw [hSt]; exact hw)
    cases hs : sound l[i] with
    | false =>
      simp only [goRules, coreRules, tiRules, unRules, AS_of_eq, ← decide_not, N0, N1, N2, N3, N4, N5, Z0, Z1, Z2, Z3, Z4, Z5, Z6, Z7, Z8, Z9, Z10, Zc, ↓reduceIte, reduceCtorEq, hs]
      rw [hb, hs]; rfl
    | true =>
      rw [hs, Bool.true_and] at hb
      by_cases h0 : i = 0
      · subst h0
        simp only [goRules, coreRules, tiRules, unRules, AS_of_eq, ← decide_not, N0, N1, N2, N3, N4, N5, Z0, Z1, Z2, Z3, Z4, Z5, Z6, Z7, Z8, Z9, Z10, Zc, ↓reduceIte, reduceCtorEq, hs]
        have hb3 : normalL l = normalF (ahead l (0 + 1)) (l.drop (0 + 1)) := by
          rw [hb]; rfl
        refine again _ ?_ hb3 _ rfl
        refine weak_go [] [] ?_
        simp only [goRules, coreRules, tiRules, unRules, AS_of_eq, ← decide_not, N0, N1, N2, N3, N4, N5, Z0, Z1, Z2, Z3, Z4, Z5, Z6, Z7, Z8, Z9, Z10, Zc, ↓reduceIte, reduceCtorEq] <;> ((repeat' apply And.intro) <;> first | rfl | omega | trivial)
      · have hp : ahead l i = some l[i - 1] := by simp [ahead, h0]
        have e2 : (comps l).getD (i - 1) .any = .agg [.v (.int .i64 l[i - 1].k), .v (.int .i64 l[i - 1].n), .v (sv l[i - 1].t)] := comps_getD l (by omega)
        have e3 : ((i : Int) - 1).toNat = i - 1 := by omega
        rw [hp] at hb
        simp only at hb
        simp (disch := omega) only [goRules, coreRules, tiRules, unRules, AS_of_eq, ← decide_not, N0, N1, N2, N3, N4, N5, Z0, Z1, Z2, Z3, Z4, Z5, Z6, Z7, Z8, Z9, Z10, Zc, ↓reduceIte, reduceCtorEq, wrap_i64, hs, show (i : Int) > 0 by omega, comps_len, e3, e2]
        (repeat (with_reducible refine And.intro ?_ ?_; focus (first | omega | exact mixed1 | kernel_rfl)))
        have fol : follows l[i - 1] l[i] = true → normalL l = normalF (ahead l (i + 1)) (l.drop (i + 1)) := fun h => by rw [hb, h, Bool.true_and]
        have nof : follows l[i - 1] l[i] = false → normalL l = false := fun h => by rw [hb, h, Bool.false_and]
        (try ((with_reducible first | refine branchP_dec (fun q1 => ?_) (fun q1 => ?_) | refine guardB_dec (fun q1 => ?_) (fun q1 => ?_)) <;> simp (disch := omega) only [goRules, coreRules, tiRules, unRules, AS_of_eq, ← decide_not, N0, N1, N2, N3, N4, N5, Z0, Z1, Z2, Z3, Z4, Z5, Z6, Z7, Z8, Z9, Z10, Zc, ↓reduceIte, reduceCtorEq, wrap_i64, q1, comps_len, e3, e2] <;> (with_reducible first | (refine And.intro ?_ ?_; focus (first | omega | exact mixed1 | kernel_rfl)); (repeat (with_reducible refine And.intro ?_ ?_; focus (first | omega | exact mixed1 | kernel_rfl))); (try simp (disch := omega) only [goRules, coreRules, tiRules, unRules, AS_of_eq, ← decide_not, N0, N1, N2, N3, N4, N5, Z0, Z1, Z2, Z3, Z4, Z5, Z6, Z7, Z8, Z9, Z10, Zc, ↓reduceIte, reduceCtorEq, wrap_i64, q1, comps_len, e3, e2]) | skip) <;> (try ((with_reducible first | refine branchP_dec (fun q2 => ?_) (fun q2 => ?_) | refine guardB_dec (fun q2 => ?_) (fun q2 => ?_)) <;> simp (disch := omega) only [goRules, coreRules, tiRules, unRules, AS_of_eq, ← decide_not, N0, N1, N2, N3, N4, N5, Z0, Z1, Z2, Z3, Z4, Z5, Z6, Z7, Z8, Z9, Z10, Zc, ↓reduceIte, reduceCtorEq, wrap_i64, q2, comps_len, e3, e2] <;> (with_reducible first | (refine And.intro ?_ ?_; focus (first | omega | exact mixed1 | kernel_rfl)); (repeat (with_reducible refine And.intro ?_ ?_; focus (first | omega | exact mixed1 | kernel_rfl))); (try simp (disch := omega) only [goRules, coreRules, tiRules, unRules, AS_of_eq, ← decide_not, N0, N1, N2, N3, N4, N5, Z0, Z1, Z2, Z3, Z4, Z5, Z6, Z7, Z8, Z9, Z10, Zc, ↓reduceIte, reduceCtorEq, wrap_i64, q2, comps_len, e3, e2]) | skip) <;> (try ((with_reducible first | refine branchP_dec (fun q3 => ?_) (fun q3 => ?_) | refine guardB_dec (fun q3 => ?_) (fun q3 => ?_)) <;> simp (disch := omega) only [goRules, coreRules, tiRules, unRules, AS_of_eq, ← decide_not, N0, N1, N2, N3, N4, N5, Z0, Z1, Z2, Z3, Z4, Z5, Z6, Z7, Z8, Z9, Z10, Zc, ↓reduceIte, reduceCtorEq, wrap_i64, q3, comps_len, e3, e2] <;> (with_reducible first | (refine And.intro ?_ ?_; focus (first | omega | exact mixed1 | kernel_rfl)); (repeat (with_reducible refine And.intro ?_ ?_; focus (first | omega | exact mixed1 | kernel_rfl))); (try simp (disch := omega) only [goRules, coreRules, tiRules, unRules, AS_of_eq, ← decide_not, N0, N1, N2, N3, N4, N5, Z0, Z1, Z2, Z3, Z4, Z5, Z6, Z7, Z8, Z9, Z10, Zc, ↓reduceIte, reduceCtorEq, wrap_i64, q3, comps_len, e3, e2]) | skip) <;> (try ((with_reducible first | refine branchP_dec (fun q4 => ?_) (fun q4 => ?_) | refine guardB_dec (fun q4 => ?_) (fun q4 => ?_)) <;> simp (disch := omega) only [goRules, coreRules, tiRules, unRules, AS_of_eq, ← decide_not, N0, N1, N2, N3, N4, N5, Z0, Z1, Z2, Z3, Z4, Z5, Z6, Z7, Z8, Z9, Z10, Zc, ↓reduceIte, reduceCtorEq, wrap_i64, q4, comps_len, e3, e2] <;> (with_reducible first | (refine And.intro ?_ ?_; focus (first | omega | exact mixed1 | kernel_rfl)); (repeat (with_reducible refine And.intro ?_ ?_; focus (first | omega | exact mixed1 | kernel_rfl))); (try simp (disch := omega) only [goRules, coreRules, tiRules, unRules, AS_of_eq, ← decide_not, N0, N1, N2, N3, N4, N5, Z0, Z1, Z2, Z3, Z4, Z5, Z6, Z7, Z8, Z9, Z10, Zc, ↓reduceIte, reduceCtorEq, wrap_i64, q4, comps_len, e3, e2]) | skip) <;> skip))))))))
        all_goals first
          | (rw [nof (by simp [follows]; omega)])
          | (refine again _ ?_ (fol (by simp [follows]; omega)) _ rfl
             refine weak_go [] [] ?_
             simp only [goRules, coreRules, tiRules, unRules, AS_of_eq, ← decide_not, N0, N1, N2, N3, N4, N5, Z0, Z1, Z2, Z3, Z4, Z5, Z6, Z7, Z8, Z9, Z10, Zc, ↓reduceIte, reduceCtorEq] <;> ((repeat' apply And.intro) <;> first | rfl | omega | trivial))
          | trace_state
  · simp only [goRules, coreRules, tiRules, unRules, AS_of_eq, ← decide_not, N0, N1, N2, N3, N4, N5, Z0, Z1, Z2, Z3, Z4, Z5, Z6, Z7, Z8, Z9, Z10, Zc, ↓reduceIte, reduceCtorEq, h]
    rw [List.drop_of_length_le (by omega)] at hb
    rw [hb]; rfl
theorem call_normal {Γ : Env} (hf : Γ.get 56 = some normalCon) {σ : AS} {dr : Bool} {l : List Cp} {t : Nat} {ys : List AV} {d : Option Nat} {K : AS → Prop} (hy : ys = comps l) (h : okL l)
    (hk : cont σ d (.v (.bool (normalL l))) K) : vcCall Tryd.prog Γ dr σ 56 [.sl t 3 ys] d K := by
  subst hy
  exact vcCall_plain (C := normalCon) (i := ⟨l, h⟩) hf rfl rfl rfl rfl (fun _ h => h) rfl hk
abbrev checkCon : Con where
  ι := Ed
  args := fun l => [.sl 0 3 (comps l.1)]
  post := fun l r => r = .v (.int .i64 (checkI l.1))
  plain := true
theorem check_good : Rw.Good Tryd.prog 43 checkCon := by
  have hΓ : GoodEnv Tryd.prog [(56, normalCon), (37, baseCon), (32, outCon)] := (goodEnv_cons normal_good (goodEnv_cons base_good (goodEnv_cons out_good goodEnv_nil)))
  refine good_fn (nn := 20) hΓ Tryd.func43 (by kernel_rfl) rfl (show Tryd.f43.results.toList = [.tmp 2] from rfl) (fun _ => rfl) (fun _ => rfl) ?_
  rintro ⟨l, hl⟩
  simp only [goRules, coreRules, tiRules, unRules, AS_of_eq, ← decide_not, N0, N1, N2, N3, N4, N5, Z0, Z1, Z2, Z3, Z4, Z5, Z6, Z7, Z8, Z9, Z10, Zc, ↓reduceIte, reduceCtorEq, comps_len]
  have c1 : 100 < (l.length : Int) → checkI l = 3 := fun h => by rw [checkI, if_pos (by omega)]
  have c2 : ¬ 100 < (l.length : Int) → normalL l = false → checkI l = 1 := fun h h2 => by rw [checkI, if_neg (by omega), if_pos h2]
  have c3 : ¬ 100 < (l.length : Int) → normalL l = true → (baseL l > 2000 ∨ outL l > 2000) → checkI l = 3 := fun h h2 h3 => by rw [checkI, if_neg (by omega), if_neg (by rw [h2]; decide), if_pos h3]
  have c4 : ¬ 100 < (l.length : Int) → normalL l = true → ¬ (baseL l > 2000 ∨ outL l > 2000) → checkI l = 0 := fun h h2 h3 => by rw [checkI, if_neg (by omega), if_neg (by rw [h2]; decide), if_neg h3]
  (with_reducible first | refine branchP_dec (fun h => ?_) (fun h => ?_) | refine guardB_dec (fun h => ?_) (fun h => ?_))
  · simp only [goRules, coreRules, tiRules, unRules, AS_of_eq, ← decide_not, N0, N1, N2, N3, N4, N5, Z0, Z1, Z2, Z3, Z4, Z5, Z6, Z7, Z8, Z9, Z10, Zc, ↓reduceIte, reduceCtorEq, h, c1 (by omega)]
  · simp only [goRules, coreRules, tiRules, unRules, AS_of_eq, ← decide_not, N0, N1, N2, N3, N4, N5, Z0, Z1, Z2, Z3, Z4, Z5, Z6, Z7, Z8, Z9, Z10, Zc, ↓reduceIte, reduceCtorEq, h]
    refine call_normal (by simp [get_cons]) rfl hl ?_
    cases hn : normalL l with
    | false => simp only [goRules, coreRules, tiRules, unRules, AS_of_eq, ← decide_not, N0, N1, N2, N3, N4, N5, Z0, Z1, Z2, Z3, Z4, Z5, Z6, Z7, Z8, Z9, Z10, Zc, ↓reduceIte, reduceCtorEq, hn, c2 (by omega) hn]
    | true =>
      simp only [goRules, coreRules, tiRules, unRules, AS_of_eq, ← decide_not, N0, N1, N2, N3, N4, N5, Z0, Z1, Z2, Z3, Z4, Z5, Z6, Z7, Z8, Z9, Z10, Zc, ↓reduceIte, reduceCtorEq, hn]
      refine call_base (by simp [get_cons]) rfl hl ?_
      simp only [goRules, coreRules, tiRules, unRules, AS_of_eq, ← decide_not, N0, N1, N2, N3, N4, N5, Z0, Z1, Z2, Z3, Z4, Z5, Z6, Z7, Z8, Z9, Z10, Zc, ↓reduceIte, reduceCtorEq]
      (with_reducible first | refine branchP_dec (fun h1 => ?_) (fun h1 => ?_) | refine guardB_dec (fun h1 => ?_) (fun h1 => ?_))
      · simp only [goRules, coreRules, tiRules, unRules, AS_of_eq, ← decide_not, N0, N1, N2, N3, N4, N5, Z0, Z1, Z2, Z3, Z4, Z5, Z6, Z7, Z8, Z9, Z10, Zc, ↓reduceIte, reduceCtorEq, h1, c3 (by omega) hn (.inl (by omega))]
      · simp only [goRules, coreRules, tiRules, unRules, AS_of_eq, ← decide_not, N0, N1, N2, N3, N4, N5, Z0, Z1, Z2, Z3, Z4, Z5, Z6, Z7, Z8, Z9, Z10, Zc, ↓reduceIte, reduceCtorEq, h1]
        refine call_out (by simp [get_cons]) rfl hl ?_
        simp only [goRules, coreRules, tiRules, unRules, AS_of_eq, ← decide_not, N0, N1, N2, N3, N4, N5, Z0, Z1, Z2, Z3, Z4, Z5, Z6, Z7, Z8, Z9, Z10, Zc, ↓reduceIte, reduceCtorEq]
        (with_reducible first | refine branchP_dec (fun h2 => ?_) (fun h2 => ?_) | refine guardB_dec (fun h2 => ?_) (fun h2 => ?_))
        · simp only [goRules, coreRules, tiRules, unRules, AS_of_eq, ← decide_not, N0, N1, N2, N3, N4, N5, Z0, Z1, Z2, Z3, Z4, Z5, Z6, Z7, Z8, Z9, Z10, Zc, ↓reduceIte, reduceCtorEq, h2, c3 (by omega) hn (.inr (by omega))]
        · simp only [goRules, coreRules, tiRules, unRules, AS_of_eq, ← decide_not, N0, N1, N2, N3, N4, N5, Z0, Z1, Z2, Z3, Z4, Z5, Z6, Z7, Z8, Z9, Z10, Zc, ↓reduceIte, reduceCtorEq, h2, c4 (by omega) hn (by omega)]
theorem call_check {Γ : Env} (hf : Γ.get 43 = some checkCon) {σ : AS} {dr : Bool} {l : List Cp} {t : Nat} {ys : List AV} {d : Option Nat} {K : AS → Prop} (hy : ys = comps l) (h : okL l)
    (hk : cont σ d (.v (.int .i64 (checkI l))) K) : vcCall Tryd.prog Γ dr σ 43 [.sl t 3 ys] d K := by
  subst hy
  exact vcCall_plain (C := checkCon) (i := ⟨l, h⟩) hf rfl rfl rfl rfl (fun _ h => h) rfl hk
end Go.Proofs
end
