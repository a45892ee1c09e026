/-
  Which edits may be. Parts put behind others; the normal form. The document's normal form. Parts held against each other; edits that are alike. An edit of a place; what does nothing; the law's own readiness. OpOf answers true. Sums, held; how much an edit takes. Laws of the normal form. What the normal form keeps.
-/
import Derived.Test.YtmhpninemdmbkaaDoorXCUo1
set_option linter.unusedSimpArgs false
set_option linter.unusedVariables false
set_option linter.defProp false

-- CUo2
section
namespace Go.Proofs
open Go Go.Rw
open _root_.Nat renaming reduceAdd → N0, reduceSub → N1, reduceMul → N2, reduceLT → N3, reduceLeDiff → N4, reduceEqDiff → N5
open _root_.Int renaming reduceNeg → Z0, reduceAdd → Z1, reduceSub → Z2, reduceMul → Z3, reduceGT → Z4, reduceGE → Z5, reduceLT → Z6, reduceLE → Z7, reduceEq → Z8, reduceNe → Z9, reduceToNat → Z10, cast_ofNat_Int → Zc
set_option maxRecDepth 100000
set_option linter.unusedSimpArgs false
set_option linter.unusedVariables false

abbrev soundCon : Con := partCon sound
abbrev someCon : Con := partCon someC
/-- The part ahead of a place. -/
def ahead (l : List Cp) (i : Nat) : Option Cp := if i = 0 then none else l[i - 1]?
abbrev normalCon : Con where
  ι := Ed
  args := fun l => [.sl 0 3 (comps l.1)]
  post := fun l r => r = .v (.bool (normalL l.1))
  plain := true
theorem normal_good : Rw.Good Tryd.prog 104 normalCon := by
  have hΓ : GoodEnv Tryd.prog [(108, soundCon)] := (goodEnv_cons sound_good goodEnv_nil)
  refine good_fn (nn := 45) hΓ Tryd.func104 (by kernel_rfl) rfl (show Tryd.f104.results.toList = [.tmp 2] from rfl) (fun _ => rfl) (fun _ => rfl) ?_
  rintro ⟨l, hl, htot, hc⟩
  simp only [goRules, coreRules, tiRules, unRules, AS_of_eq, ← decide_not, N0, N1, N2, N3, N4, N5, Z0, Z1, Z2, Z3, Z4, Z5, Z6, Z7, Z8, Z9, Z10, Zc, ↓reduceIte, reduceCtorEq, comps_len]
  obtain ⟨St, hSt⟩ : ∃ St : { i : Nat // i ≤ l.length ∧ normalL l = normalF (ahead l i) (l.drop i) } → AS, ∀ i, St i = AS.of 45 [(0, .sl 0 3 (comps l)), (5, .sl 0 3 (comps l)), (6, .v (.int .i64 l.length)), (7, .v (.int .i64 i.1))] [] [] := ⟨_, fun _ => rfl⟩
  refine vc_loop hΓ St (fun i => l.length - i.1) ⟨0, by omega, rfl⟩ (by rw [hSt]; refine weak_go [] [] ?_; simp only [goRules, coreRules, tiRules, unRules, AS_of_eq, ← decide_not, N0, N1, N2, N3, N4, N5, Z0, Z1, Z2, Z3, Z4, Z5, Z6, Z7, Z8, Z9, Z10, Zc, ↓reduceIte, reduceCtorEq] <;> ((repeat' apply And.intro) <;> first | rfl | omega | trivial)) ?_
  rintro ⟨i, hi, hb⟩
  rw [hSt]
  simp only
  simp only [goRules, coreRules, tiRules, unRules, AS_of_eq, ← decide_not, N0, N1, N2, N3, N4, N5, Z0, Z1, Z2, Z3, Z4, Z5, Z6, Z7, Z8, Z9, Z10, Zc, ↓reduceIte, reduceCtorEq]
  (with_reducible first | refine branchP_dec (fun h => ?_) (fun h => ?_) | refine guardB_dec (fun h => ?_) (fun h => ?_))
  · have hlt : i < l.length := by omega
    have hci := okL.text ⟨hl, htot, hc⟩ (List.getElem_mem hlt)
    have e1 := comps_getD l hlt
    rw [List.drop_eq_getElem_cons hlt] at hb
    simp only [normalF] at hb
    have hne : ahead l (i + 1) = some l[i] := by simp [ahead, hlt]
    rw [← hne] at hb
    simp (disch := omega) only [goRules, coreRules, tiRules, unRules, AS_of_eq, ← decide_not, N0, N1, N2, N3, N4, N5, Z0, Z1, Z2, Z3, Z4, Z5, Z6, Z7, Z8, Z9, Z10, Zc, ↓reduceIte, reduceCtorEq, wrap_i64, h, e1, comps_len]
    (repeat (with_reducible refine And.intro ?_ ?_; focus (first | omega | exact mixed1 | kernel_rfl)))
    refine call_sound (by simp [get_cons]) hci ?_
    have again : ∀ σ : AS, Weak σ (AS.of 45 [(0, .sl 0 3 (comps l)), (5, .sl 0 3 (comps l)), (6, .v (.int .i64 l.length)), (7, .v (.int .i64 (i + 1 : Nat)))] [] []) → normalL l = normalF (ahead l (i + 1)) (l.drop (i + 1)) → ∀ (x : { i : Nat // i ≤ l.length ∧ normalL l = normalF (ahead l i) (l.drop i) }), x.1 = i → Again St (fun i => l.length - i.1) x σ := fun σ hw hb2 x hx =>
      weak_again ⟨i + 1, by omega, hb2⟩ (by simp only; omega) (by rw [hSt]; exact hw)
    cases hs : sound l[i] with
    | false =>
      simp only [goRules, coreRules, tiRules, unRules, AS_of_eq, ← decide_not, N0, N1, N2, N3, N4, N5, Z0, Z1, Z2, Z3, Z4, Z5, Z6, Z7, Z8, Z9, Z10, Zc, ↓reduceIte, reduceCtorEq, hs]
      rw [hb, hs]; rfl
    | true =>
      rw [hs, Bool.true_and] at hb
      by_cases h0 : i = 0
      · subst h0
        simp only [goRules, coreRules, tiRules, unRules, AS_of_eq, ← decide_not, N0, N1, N2, N3, N4, N5, Z0, Z1, Z2, Z3, Z4, Z5, Z6, Z7, Z8, Z9, Z10, Zc, ↓reduceIte, reduceCtorEq, hs]
        have hb3 : normalL l = normalF (ahead l (0 + 1)) (l.drop (0 + 1)) := by
          rw [hb]; rfl
        refine again _ ?_ hb3 _ rfl
        refine weak_go [] [] ?_
        simp only [goRules, coreRules, tiRules, unRules, AS_of_eq, ← decide_not, N0, N1, N2, N3, N4, N5, Z0, Z1, Z2, Z3, Z4, Z5, Z6, Z7, Z8, Z9, Z10, Zc, ↓reduceIte, reduceCtorEq] <;> ((repeat' apply And.intro) <;> first | rfl | omega | trivial)
      · have hp : ahead l i = some l[i - 1] := by simp [ahead, h0]
        have e2 : (comps l).getD (i - 1) .any = .agg [.v (.int .i64 l[i - 1].k), .v (.int .i64 l[i - 1].n), .v (sv l[i - 1].t)] := comps_getD l (by omega)
        have e3 : ((i : Int) - 1).toNat = i - 1 := by omega
        rw [hp] at hb
        simp only at hb
        simp (disch := omega) only [goRules, coreRules, tiRules, unRules, AS_of_eq, ← decide_not, N0, N1, N2, N3, N4, N5, Z0, Z1, Z2, Z3, Z4, Z5, Z6, Z7, Z8, Z9, Z10, Zc, ↓reduceIte, reduceCtorEq, wrap_i64, hs, show (i : Int) > 0 by omega, comps_len, e3, e2]
        (repeat (with_reducible refine And.intro ?_ ?_; focus (first | omega | exact mixed1 | kernel_rfl)))
        have fol : follows l[i - 1] l[i] = true → normalL l = normalF (ahead l (i + 1)) (l.drop (i + 1)) := fun h => by rw [hb, h, Bool.true_and]
        have nof : follows l[i - 1] l[i] = false → normalL l = false := fun h => by rw [hb, h, Bool.false_and]
        (try ((with_reducible first | refine branchP_dec (fun q1 => ?_) (fun q1 => ?_) | refine guardB_dec (fun q1 => ?_) (fun q1 => ?_)) <;> simp (disch := omega) only [goRules, coreRules, tiRules, unRules, AS_of_eq, ← decide_not, N0, N1, N2, N3, N4, N5, Z0, Z1, Z2, Z3, Z4, Z5, Z6, Z7, Z8, Z9, Z10, Zc, ↓reduceIte, reduceCtorEq, wrap_i64, q1, comps_len, e3, e2] <;> (with_reducible first | (refine And.intro ?_ ?_; focus (first | omega | exact mixed1 | kernel_rfl)); (repeat (with_reducible refine And.intro ?_ ?_; focus (first | omega | exact mixed1 | kernel_rfl))); (try simp (disch := omega) only [goRules, coreRules, tiRules, unRules, AS_of_eq, ← decide_not, N0, N1, N2, N3, N4, N5, Z0, Z1, Z2, Z3, Z4, Z5, Z6, Z7, Z8, Z9, Z10, Zc, ↓reduceIte, reduceCtorEq, wrap_i64, q1, comps_len, e3, e2]) | skip) <;> (try ((with_reducible first | refine branchP_dec (fun q2 => ?_) (fun q2 => ?_) | refine guardB_dec (fun q2 => ?_) (fun q2 => ?_)) <;> simp (disch := omega) only [goRules, coreRules, tiRules, unRules, AS_of_eq, ← decide_not, N0, N1, N2, N3, N4, N5, Z0, Z1, Z2, Z3, Z4, Z5, Z6, Z7, Z8, Z9, Z10, Zc, ↓reduceIte, reduceCtorEq, wrap_i64, q2, comps_len, e3, e2] <;> (with_reducible first | (refine And.intro ?_ ?_; focus (first | omega | exact mixed1 | kernel_rfl)); (repeat (with_reducible refine And.intro ?_ ?_; focus (first | omega | exact mixed1 | kernel_rfl))); (try simp (disch := omega) only [goRules, coreRules, tiRules, unRules, AS_of_eq, ← decide_not, N0, N1, N2, N3, N4, N5, Z0, Z1, Z2, Z3, Z4, Z5, Z6, Z7, Z8, Z9, Z10, Zc, ↓reduceIte, reduceCtorEq, wrap_i64, q2, comps_len, e3, e2]) | skip) <;> (try ((with_reducible first | refine branchP_dec (fun q3 => ?_) (fun q3 => ?_) | refine guardB_dec (fun q3 => ?_) (fun q3 => ?_)) <;> simp (disch := omega) only [goRules, coreRules, tiRules, unRules, AS_of_eq, ← decide_not, N0, N1, N2, N3, N4, N5, Z0, Z1, Z2, Z3, Z4, Z5, Z6, Z7, Z8, Z9, Z10, Zc, ↓reduceIte, reduceCtorEq, wrap_i64, q3, comps_len, e3, e2] <;> (with_reducible first | (refine And.intro ?_ ?_; focus (first | omega | exact mixed1 | kernel_rfl)); (repeat (with_reducible refine And.intro ?_ ?_; focus (first | omega | exact mixed1 | kernel_rfl))); (try simp (disch := omega) only [goRules, coreRules, tiRules, unRules, AS_of_eq, ← decide_not, N0, N1, N2, N3, N4, N5, Z0, Z1, Z2, Z3, Z4, Z5, Z6, Z7, Z8, Z9, Z10, Zc, ↓reduceIte, reduceCtorEq, wrap_i64, q3, comps_len, e3, e2]) | skip) <;> (try ((with_reducible first | refine branchP_dec (fun q4 => ?_) (fun q4 => ?_) | refine guardB_dec (fun q4 => ?_) (fun q4 => ?_)) <;> simp (disch := omega) only [goRules, coreRules, tiRules, unRules, AS_of_eq, ← decide_not, N0, N1, N2, N3, N4, N5, Z0, Z1, Z2, Z3, Z4, Z5, Z6, Z7, Z8, Z9, Z10, Zc, ↓reduceIte, reduceCtorEq, wrap_i64, q4, comps_len, e3, e2] <;> (with_reducible first | (refine And.intro ?_ ?_; focus (first | omega | exact mixed1 | kernel_rfl)); (repeat (with_reducible refine And.intro ?_ ?_; focus (first | omega | exact mixed1 | kernel_rfl))); (try simp (disch := omega) only [goRules, coreRules, tiRules, unRules, AS_of_eq, ← decide_not, N0, N1, N2, N3, N4, N5, Z0, Z1, Z2, Z3, Z4, Z5, Z6, Z7, Z8, Z9, Z10, Zc, ↓reduceIte, reduceCtorEq, wrap_i64, q4, comps_len, e3, e2]) | skip) <;> skip))))))))
        all_goals first
          | (rw [nof (by simp [follows]; omega)])
          | (refine again _ ?_ (fol (by simp [follows]; omega)) _ rfl
             refine weak_go [] [] ?_
             simp only [goRules, coreRules, tiRules, unRules, AS_of_eq, ← decide_not, N0, N1, N2, N3, N4, N5, Z0, Z1, Z2, Z3, Z4, Z5, Z6, Z7, Z8, Z9, Z10, Zc, ↓reduceIte, reduceCtorEq] <;> ((repeat' apply And.intro) <;> first | rfl | omega | trivial))
          | trace_state
  · simp only [goRules, coreRules, tiRules, unRules, AS_of_eq, ← decide_not, N0, N1, N2, N3, N4, N5, Z0, Z1, Z2, Z3, Z4, Z5, Z6, Z7, Z8, Z9, Z10, Zc, ↓reduceIte, reduceCtorEq, h]
    rw [List.drop_of_length_le (by omega)] at hb
    rw [hb]; rfl
theorem call_normal {Γ : Env} (hf : Γ.get 104 = some normalCon) {σ : AS} {dr : Bool} {l : List Cp} {t : Nat} {ys : List AV} {d : Option Nat} {K : AS → Prop} (hy : ys = comps l) (h : okL l)
    (hk : cont σ d (.v (.bool (normalL l))) K) : vcCall Tryd.prog Γ dr σ 104 [.sl t 3 ys] d K := by
  subst hy
  exact vcCall_plain (C := normalCon) (i := ⟨l, h⟩) hf rfl rfl rfl rfl (fun _ h => h) rfl hk
abbrev checkCon : Con where
  ι := Ed
  args := fun l => [.sl 0 3 (comps l.1)]
  post := fun l r => r = .v (.int .i64 (checkI l.1))
  plain := true
theorem check_good : Rw.Good Tryd.prog 90 checkCon := by
  have hΓ : GoodEnv Tryd.prog [(104, normalCon), (93, baseCon), (105, outCon)] := (goodEnv_cons normal_good (goodEnv_cons base_good (goodEnv_cons out_good goodEnv_nil)))
  refine good_fn (nn := 20) hΓ Tryd.func90 (by kernel_rfl) rfl (show Tryd.f90.results.toList = [.tmp 2] from rfl) (fun _ => rfl) (fun _ => rfl) ?_
  rintro ⟨l, hl⟩
  simp only [goRules, coreRules, tiRules, unRules, AS_of_eq, ← decide_not, N0, N1, N2, N3, N4, N5, Z0, Z1, Z2, Z3, Z4, Z5, Z6, Z7, Z8, Z9, Z10, Zc, ↓reduceIte, reduceCtorEq, comps_len]
  have c1 : 100 < (l.length : Int) → checkI l = 3 := fun h => by rw [checkI, if_pos (by omega)]
  have c2 : ¬ 100 < (l.length : Int) → normalL l = false → checkI l = 1 := fun h h2 => by rw [checkI, if_neg (by omega), if_pos h2]
  have c3 : ¬ 100 < (l.length : Int) → normalL l = true → (baseL l > 2000 ∨ outL l > 2000) → checkI l = 3 := fun h h2 h3 => by rw [checkI, if_neg (by omega), if_neg (by rw [h2]; decide), if_pos h3]
  have c4 : ¬ 100 < (l.length : Int) → normalL l = true → ¬ (baseL l > 2000 ∨ outL l > 2000) → checkI l = 0 := fun h h2 h3 => by rw [checkI, if_neg (by omega), if_neg (by rw [h2]; decide), if_neg h3]
  (with_reducible first | refine branchP_dec (fun h => ?_) (fun h => ?_) | refine guardB_dec (fun h => ?_) (fun h => ?_))
  · simp only [goRules, coreRules, tiRules, unRules, AS_of_eq, ← decide_not, N0, N1, N2, N3, N4, N5, Z0, Z1, Z2, Z3, Z4, Z5, Z6, Z7, Z8, Z9, Z10, Zc, ↓reduceIte, reduceCtorEq, h, c1 (by omega)]
  · simp only [goRules, coreRules, tiRules, unRules, AS_of_eq, ← decide_not, N0, N1, N2, N3, N4, N5, Z0, Z1, Z2, Z3, Z4, Z5, Z6, Z7, Z8, Z9, Z10, Zc, ↓reduceIte, reduceCtorEq, h]
    refine call_normal (by simp [get_cons]) rfl hl ?_
    cases hn : normalL l with
    | false => simp only [goRules, coreRules, tiRules, unRules, AS_of_eq, ← decide_not, N0, N1, N2, N3, N4, N5, Z0, Z1, Z2, Z3, Z4, Z5, Z6, Z7, Z8, Z9, Z10, Zc, ↓reduceIte, reduceCtorEq, hn, c2 (by omega) hn]
    | true =>
      simp only [goRules, coreRules, tiRules, unRules, AS_of_eq, ← decide_not, N0, N1, N2, N3, N4, N5, Z0, Z1, Z2, Z3, Z4, Z5, Z6, Z7, Z8, Z9, Z10, Zc, ↓reduceIte, reduceCtorEq, hn]
      refine call_base (by simp [get_cons]) rfl hl ?_
      simp only [goRules, coreRules, tiRules, unRules, AS_of_eq, ← decide_not, N0, N1, N2, N3, N4, N5, Z0, Z1, Z2, Z3, Z4, Z5, Z6, Z7, Z8, Z9, Z10, Zc, ↓reduceIte, reduceCtorEq]
      (with_reducible first | refine branchP_dec (fun h1 => ?_) (fun h1 => ?_) | refine guardB_dec (fun h1 => ?_) (fun h1 => ?_))
      · simp only [goRules, coreRules, tiRules, unRules, AS_of_eq, ← decide_not, N0, N1, N2, N3, N4, N5, Z0, Z1, Z2, Z3, Z4, Z5, Z6, Z7, Z8, Z9, Z10, Zc, ↓reduceIte, reduceCtorEq, h1, c3 (by omega) hn (.inl (by omega))]
      · simp only [goRules, coreRules, tiRules, unRules, AS_of_eq, ← decide_not, N0, N1, N2, N3, N4, N5, Z0, Z1, Z2, Z3, Z4, Z5, Z6, Z7, Z8, Z9, Z10, Zc, ↓reduceIte, reduceCtorEq, h1]
        refine call_out (by simp [get_cons]) rfl hl ?_
        simp only [goRules, coreRules, tiRules, unRules, AS_of_eq, ← decide_not, N0, N1, N2, N3, N4, N5, Z0, Z1, Z2, Z3, Z4, Z5, Z6, Z7, Z8, Z9, Z10, Zc, ↓reduceIte, reduceCtorEq]
        (with_reducible first | refine branchP_dec (fun h2 => ?_) (fun h2 => ?_) | refine guardB_dec (fun h2 => ?_) (fun h2 => ?_))
        · simp only [goRules, coreRules, tiRules, unRules, AS_of_eq, ← decide_not, N0, N1, N2, N3, N4, N5, Z0, Z1, Z2, Z3, Z4, Z5, Z6, Z7, Z8, Z9, Z10, Zc, ↓reduceIte, reduceCtorEq, h2, c3 (by omega) hn (.inr (by omega))]
        · simp only [goRules, coreRules, tiRules, unRules, AS_of_eq, ← decide_not, N0, N1, N2, N3, N4, N5, Z0, Z1, Z2, Z3, Z4, Z5, Z6, Z7, Z8, Z9, Z10, Zc, ↓reduceIte, reduceCtorEq, h2, c4 (by omega) hn (by omega)]
theorem call_check {Γ : Env} (hf : Γ.get 90 = some checkCon) {σ : AS} {dr : Bool} {l : List Cp} {t : Nat} {ys : List AV} {d : Option Nat} {K : AS → Prop} (hy : ys = comps l) (h : okL l)
    (hk : cont σ d (.v (.int .i64 (checkI l))) K) : vcCall Tryd.prog Γ dr σ 90 [.sl t 3 ys] d K := by
  subst hy
  exact vcCall_plain (C := checkCon) (i := ⟨l, h⟩) hf rfl rfl rfl rfl (fun _ h => h) rfl hk
end Go.Proofs
end

-- CUo3
section
namespace Go.Proofs
open Go Go.Rw
open _root_.Nat renaming reduceAdd → N0, reduceSub → N1, reduceMul → N2, reduceLT → N3, reduceLeDiff → N4, reduceEqDiff → N5
open _root_.Int renaming reduceNeg → Z0, reduceAdd → Z1, reduceSub → Z2, reduceMul → Z3, reduceGT → Z4, reduceGE → Z5, reduceLT → Z6, reduceLE → Z7, reduceEq → Z8, reduceNe → Z9, reduceToNat → Z10, cast_ofNat_Int → Zc
set_option maxRecDepth 100000
set_option linter.unusedSimpArgs false
set_option linter.unusedVariables false

theorem ofV1_aggv {a : Array Value} : ofV1 (.agg a) = .v (.agg a) := rfl
/-- What is put behind others, up to a place. -/
def pN (c : Cp) : List Cp := if someC c then [c] else []
def putN (k : Int) (t : List UInt8) (g : Int) : Nat → List Cp
  | 0 => []
  | 1 => pN ⟨1, k, []⟩
  | 2 => pN ⟨1, k, []⟩ ++ pN ⟨2, 0, t⟩
  | _ => pN ⟨1, k, []⟩ ++ pN ⟨2, 0, t⟩ ++ pN ⟨3, g, []⟩
theorem putN_three (k : Int) (t : List UInt8) (g : Int) : putN k t g 3 = putL k t g := by
  unfold putN putL pN someC
  simp
theorem pN_len (c : Cp) : (pN c).length ≤ 1 := by
  unfold pN
  split <;> simp
theorem putN_len (k : Int) (t : List UInt8) (g : Int) (j : Nat) : (putN k t g j).length ≤ 3 := by
  have h1 := pN_len ⟨1, k, []⟩
  have h2 := pN_len ⟨2, 0, t⟩
  have h3 := pN_len ⟨3, g, []⟩
  match j with
  | 0 => simp [putN]
  | 1 => simp only [putN]; omega
  | 2 => simp only [putN, List.length_append]; omega
  | n + 3 => simp only [putN, List.length_append]; omega
abbrev Pt := { p : (List Cp × Int) × (List UInt8 × Int) // p.1.1.length ≤ 4000000000000 ∧ (0 ≤ p.1.2 ∧ p.1.2 ≤ 1099511627776) ∧ p.2.1.length ≤ 1099511627776 ∧ (0 ≤ p.2.2 ∧ p.2.2 ≤ 1099511627776) }
abbrev putCon : Con where
  ι := Pt
  args := fun p => [.sl 2 3 (comps p.1.1.1), .v (.int .i64 p.1.1.2), .v (sv p.1.2.1), .v (.int .i64 p.1.2.2)]
  post := fun p r => r = .sl 2 3 (comps (p.1.1.1 ++ putL p.1.1.2 p.1.2.1 p.1.2.2))
  own := some (0, 53)
  take := some (0, 53)
theorem put_good : Rw.Good Tryd.prog 97 putCon := by
  have hΓ : GoodEnv Tryd.prog [(95, someCon)] := (goodEnv_cons some_good goodEnv_nil)
  refine good_tk (nn := 31) hΓ Tryd.func97 (by kernel_rfl) rfl (show Tryd.f97.results.toList = [.tmp 8] from rfl) (fun _ => rfl) (fun _ => rfl) ?_
  rintro ⟨⟨⟨l, k⟩, ⟨t, g⟩⟩, hl, hk, ht, hg⟩
  simp only at hl hk ht hg
  have hmin : min k 1099511627776 = k := by omega
  have hmin2 : min g 1099511627776 = g := by omega
  simp only [goRules, coreRules, tiRules, unRules, AS_of_eq, ← decide_not, N0, N1, N2, N3, N4, N5, Z0, Z1, Z2, Z3, Z4, Z5, Z6, Z7, Z8, Z9, Z10, Zc, ↓reduceIte, reduceCtorEq, comps_len, min2_int, hmin, hmin2, List.map_cons, List.map_nil, ofV1_aggv]
  obtain ⟨St, hSt⟩ : ∃ St : { j : Nat // j ≤ 3 } → AS, ∀ j, St j = AS.of 31 [(0, .sl 2 3 (comps (l ++ putN k t g j.1))), (19, .agg [.v (.int .i64 1), .v (.int .i64 k), .v (sv []), .v (.int .i64 2), .v (.int .i64 0), .v (sv t), .v (.int .i64 3), .v (.int .i64 g), .v (sv [])]), (20, .v (.int .i64 j.1))] [] [((comps (l ++ putN k t g j.1)).length, 53)] false := ⟨_, fun _ => rfl⟩
  refine vc_loop hΓ St (fun j => 3 - j.1) ⟨0, by omega⟩ (by rw [hSt]; refine weak_go [] [.live 2] ?_; simp only [goRules, coreRules, tiRules, unRules, AS_of_eq, ← decide_not, N0, N1, N2, N3, N4, N5, Z0, Z1, Z2, Z3, Z4, Z5, Z6, Z7, Z8, Z9, Z10, Zc, ↓reduceIte, reduceCtorEq, putN, comps_len] <;> ((repeat' apply And.intro) <;> first | rfl | omega | trivial)) ?_
  rintro ⟨j, hj⟩
  rw [hSt]
  simp only
  have hpl := putN_len k t g j
  have again : ∀ σ : AS, (j < 3) → Weak σ (AS.of 31 [(0, .sl 2 3 (comps (l ++ putN k t g (j + 1)))), (19, .agg [.v (.int .i64 1), .v (.int .i64 k), .v (sv []), .v (.int .i64 2), .v (.int .i64 0), .v (sv t), .v (.int .i64 3), .v (.int .i64 g), .v (sv [])]), (20, .v (.int .i64 (j + 1 : Nat)))] [] [((comps (l ++ putN k t g (j + 1))).length, 53)] false) → ∀ (x : { j : Nat // j ≤ 3 }), x.1 = j → Again St (fun j => 3 - j.1) x σ := fun σ h3 hw x hx =>
    weak_again ⟨j + 1, by omega⟩ (by simp only; omega) (by rw [hSt]; exact hw)
  match j with
  | 0 =>
    simp only [goRules, coreRules, tiRules, unRules, AS_of_eq, ← decide_not, N0, N1, N2, N3, N4, N5, Z0, Z1, Z2, Z3, Z4, Z5, Z6, Z7, Z8, Z9, Z10, Zc, ↓reduceIte, reduceCtorEq, comps_len, putN]
    refine call_some (c := ⟨1, k, []⟩) (by simp [get_cons]) (by simp only [List.length_nil]; omega) ?_
    cases hs : someC ⟨1, k, []⟩ with
    | false =>
      simp (disch := omega) only [goRules, coreRules, tiRules, unRules, AS_of_eq, ← decide_not, N0, N1, N2, N3, N4, N5, Z0, Z1, Z2, Z3, Z4, Z5, Z6, Z7, Z8, Z9, Z10, Zc, ↓reduceIte, reduceCtorEq, wrap_i64, hs]
      refine again _ (by omega) ?_ _ rfl
      rw [show putN k t g (0 + 1) = putN k t g 0 from by simp [putN, pN, hs]]
      refine weak_go [] [.live 2] ?_
      simp only [goRules, coreRules, tiRules, unRules, AS_of_eq, ← decide_not, N0, N1, N2, N3, N4, N5, Z0, Z1, Z2, Z3, Z4, Z5, Z6, Z7, Z8, Z9, Z10, Zc, ↓reduceIte, reduceCtorEq, comps_len, putN] <;> ((repeat' apply And.intro) <;> first | rfl | omega | trivial)
    | true =>
      simp (disch := omega) only [goRules, coreRules, tiRules, unRules, AS_of_eq, ← decide_not, N0, N1, N2, N3, N4, N5, Z0, Z1, Z2, Z3, Z4, Z5, Z6, Z7, Z8, Z9, Z10, Zc, ↓reduceIte, reduceCtorEq, wrap_i64, hs, comps_len, comps_snoc, List.append_assoc, List.length_append]
      (repeat (with_reducible refine And.intro ?_ ?_; focus (first | omega | exact mixed1 | kernel_rfl)))
      refine again _ (by omega) ?_ _ rfl
      rw [show putN k t g (0 + 1) = putN k t g 0 ++ [⟨1, k, []⟩] from by simp [putN, pN, hs]]
      refine weak_go [] [.live 2] ?_
      simp only [goRules, coreRules, tiRules, unRules, AS_of_eq, ← decide_not, N0, N1, N2, N3, N4, N5, Z0, Z1, Z2, Z3, Z4, Z5, Z6, Z7, Z8, Z9, Z10, Zc, ↓reduceIte, reduceCtorEq, comps_len, List.append_assoc, List.length_append, putN] <;> ((repeat' apply And.intro) <;> first | rfl | omega | trivial)
  | 1 =>
    simp only [goRules, coreRules, tiRules, unRules, AS_of_eq, ← decide_not, N0, N1, N2, N3, N4, N5, Z0, Z1, Z2, Z3, Z4, Z5, Z6, Z7, Z8, Z9, Z10, Zc, ↓reduceIte, reduceCtorEq, comps_len, List.length_append]
    refine call_some (c := ⟨2, 0, t⟩) (by simp [get_cons]) (by simp only [List.length_nil]; omega) ?_
    cases hs : someC ⟨2, 0, t⟩ with
    | false =>
      simp (disch := omega) only [goRules, coreRules, tiRules, unRules, AS_of_eq, ← decide_not, N0, N1, N2, N3, N4, N5, Z0, Z1, Z2, Z3, Z4, Z5, Z6, Z7, Z8, Z9, Z10, Zc, ↓reduceIte, reduceCtorEq, wrap_i64, hs]
      refine again _ (by omega) ?_ _ rfl
      rw [show putN k t g (1 + 1) = putN k t g 1 from by simp [putN, pN, hs]]
      refine weak_go [] [.live 2] ?_
      simp only [goRules, coreRules, tiRules, unRules, AS_of_eq, ← decide_not, N0, N1, N2, N3, N4, N5, Z0, Z1, Z2, Z3, Z4, Z5, Z6, Z7, Z8, Z9, Z10, Zc, ↓reduceIte, reduceCtorEq, comps_len, List.length_append] <;> ((repeat' apply And.intro) <;> first | rfl | omega | trivial)
    | true =>
      simp (disch := omega) only [goRules, coreRules, tiRules, unRules, AS_of_eq, ← decide_not, N0, N1, N2, N3, N4, N5, Z0, Z1, Z2, Z3, Z4, Z5, Z6, Z7, Z8, Z9, Z10, Zc, ↓reduceIte, reduceCtorEq, wrap_i64, hs, comps_len, comps_snoc, List.append_assoc, List.length_append]
      (repeat (with_reducible refine And.intro ?_ ?_; focus (first | omega | exact mixed1 | kernel_rfl)))
      refine again _ (by omega) ?_ _ rfl
      rw [show putN k t g (1 + 1) = putN k t g 1 ++ [⟨2, 0, t⟩] from by simp [putN, pN, hs]]
      refine weak_go [] [.live 2] ?_
      simp only [goRules, coreRules, tiRules, unRules, AS_of_eq, ← decide_not, N0, N1, N2, N3, N4, N5, Z0, Z1, Z2, Z3, Z4, Z5, Z6, Z7, Z8, Z9, Z10, Zc, ↓reduceIte, reduceCtorEq, comps_len, List.append_assoc, List.length_append, List.length_append] <;> ((repeat' apply And.intro) <;> first | rfl | omega | trivial)
  | 2 =>
    simp only [goRules, coreRules, tiRules, unRules, AS_of_eq, ← decide_not, N0, N1, N2, N3, N4, N5, Z0, Z1, Z2, Z3, Z4, Z5, Z6, Z7, Z8, Z9, Z10, Zc, ↓reduceIte, reduceCtorEq, comps_len, List.length_append]
    refine call_some (c := ⟨3, g, []⟩) (by simp [get_cons]) (by simp only [List.length_nil]; omega) ?_
    cases hs : someC ⟨3, g, []⟩ with
    | false =>
      simp (disch := omega) only [goRules, coreRules, tiRules, unRules, AS_of_eq, ← decide_not, N0, N1, N2, N3, N4, N5, Z0, Z1, Z2, Z3, Z4, Z5, Z6, Z7, Z8, Z9, Z10, Zc, ↓reduceIte, reduceCtorEq, wrap_i64, hs]
      refine again _ (by omega) ?_ _ rfl
      rw [show putN k t g (2 + 1) = putN k t g 2 from by simp [putN, pN, hs]]
      refine weak_go [] [.live 2] ?_
      simp only [goRules, coreRules, tiRules, unRules, AS_of_eq, ← decide_not, N0, N1, N2, N3, N4, N5, Z0, Z1, Z2, Z3, Z4, Z5, Z6, Z7, Z8, Z9, Z10, Zc, ↓reduceIte, reduceCtorEq, comps_len, List.length_append] <;> ((repeat' apply And.intro) <;> first | rfl | omega | trivial)
    | true =>
      simp (disch := omega) only [goRules, coreRules, tiRules, unRules, AS_of_eq, ← decide_not, N0, N1, N2, N3, N4, N5, Z0, Z1, Z2, Z3, Z4, Z5, Z6, Z7, Z8, Z9, Z10, Zc, ↓reduceIte, reduceCtorEq, wrap_i64, hs, comps_len, comps_snoc, List.append_assoc, List.length_append]
      (repeat (with_reducible refine And.intro ?_ ?_; focus (first | omega | exact mixed1 | kernel_rfl)))
      refine again _ (by omega) ?_ _ rfl
      rw [show putN k t g (2 + 1) = putN k t g 2 ++ [⟨3, g, []⟩] from by simp [putN, pN, hs]]
      refine weak_go [] [.live 2] ?_
      simp only [goRules, coreRules, tiRules, unRules, AS_of_eq, ← decide_not, N0, N1, N2, N3, N4, N5, Z0, Z1, Z2, Z3, Z4, Z5, Z6, Z7, Z8, Z9, Z10, Zc, ↓reduceIte, reduceCtorEq, comps_len, List.append_assoc, List.length_append, List.length_append] <;> ((repeat' apply And.intro) <;> first | rfl | omega | trivial)
  | 3 =>
    simp only [goRules, coreRules, tiRules, unRules, AS_of_eq, ← decide_not, N0, N1, N2, N3, N4, N5, Z0, Z1, Z2, Z3, Z4, Z5, Z6, Z7, Z8, Z9, Z10, Zc, ↓reduceIte, reduceCtorEq]
    rw [putN_three]
  | n + 4 => omega
theorem call_put {Γ : Env} (hf : Γ.get 97 = some putCon) {n : Nat} {t : Nat → AV} {hd : Nat → Nat → AV} {nh nl : Nat} {h : Nat → Option AO} {fm : Nat → Nat} {lv : Nat → Option (Nat × Nat)} {mu : Bool} {tag : Nat} {l : List Cp} {k : Int} {tx : List UInt8} {g : Int} {ys : List AV} {d : Option Nat} {K : AS → Prop}
    (hy : ys = comps l) (h2 : 2 ≤ tag) (hlv : lv tag = some (ys.length, 53)) (hone : ∀ l2, lv l2 ≠ none → fm l2 = fm tag → l2 = tag)
    (hl : l.length ≤ 4000000000000) (hkk : 0 ≤ k ∧ k ≤ 1099511627776) (ht : tx.length ≤ 1099511627776) (hg : 0 ≤ g ∧ g ≤ 1099511627776)
    (hk : cont ⟨n, t, hd, ⟨nh, h, nl + 1, upd fm nl (fm tag), upd (upd lv tag none) nl (some ((comps (l ++ putL k tx g)).length, 53)), mu⟩⟩ d (.sl nl 3 (comps (l ++ putL k tx g))) K) :
    vcCall Tryd.prog Γ false ⟨n, t, hd, ⟨nh, h, nl, fm, lv, mu⟩⟩ 97 [.sl tag 3 ys, .v (.int .i64 k), .v (sv tx), .v (.int .i64 g)] d K := by
  subst hy
  refine vcCall_take (C := putCon) (i := ⟨((l, k), (tx, g)), hl, hkk, ht, hg⟩) hf rfl rfl rfl (l := tag) (sz := 3) (xs := comps l) rfl h2 hlv rfl ?_ rfl hone ?_
  · have : (tag == 0) = false := by simp; omega
    simp [AV.tagsL, AV.tags]; omega
  · rintro r rfl
    exact hk
theorem nf_no {k : Int} {t : List UInt8} {g : Int} {c : Cp} {r : List Cp} (h : someC c = false) : nfF k t g (c :: r) = nfF k t g r := by rw [nfF, if_pos h]
theorem nf_text {k : Int} {t : List UInt8} {g : Int} {c : Cp} {r : List Cp} (h : someC c = true) (h2 : c.k = 2) : nfF k t g (c :: r) = nfF k (t ++ c.t) g r := by rw [nfF, if_neg (by rw [h]; decide), if_pos h2]
theorem nf_gone {k : Int} {t : List UInt8} {g : Int} {c : Cp} {r : List Cp} (h : someC c = true) (h2 : c.k = 3) : nfF k t g (c :: r) = nfF k t (addI g c.n) r := by rw [nfF, if_neg (by rw [h]; decide), if_neg (by omega), if_pos h2]
theorem nf_put {k : Int} {t : List UInt8} {g : Int} {c : Cp} {r : List Cp} (h : someC c = true) (h2 : ¬ c.k = 2) (h3 : ¬ c.k = 3) (h4 : t ≠ [] ∨ g > 0) : nfF k t g (c :: r) = putL k t g ++ nfF (addI 0 c.n) [] 0 r := by rw [nfF, if_neg (by rw [h]; decide), if_neg h2, if_neg h3, if_pos h4]
theorem nf_keep {k : Int} {t : List UInt8} {g : Int} {c : Cp} {r : List Cp} (h : someC c = true) (h2 : ¬ c.k = 2) (h3 : ¬ c.k = 3) (h4 : ¬ (t ≠ [] ∨ g > 0)) : nfF k t g (c :: r) = nfF (addI k c.n) t g r := by rw [nfF, if_neg (by rw [h]; decide), if_neg h2, if_neg h3, if_neg h4]
theorem some_pos {c : Cp} (h : someC c = true) (h2 : ¬ c.k = 2) : 0 < c.n := by
  simp only [someC, if_neg h2] at h
  simp at h; omega
abbrev normCon : Con where
  ι := Ed
  args := fun l => [.sl 0 3 (comps l.1)]
  post := fun l r => r = .sl 0 3 (comps (nf l.1))
abbrev NSt (l : List Cp) := { p : (List Cp × Nat) × ((Int × List UInt8) × Int) // p.1.2 ≤ l.length ∧ (0 ≤ p.2.1.1 ∧ p.2.1.1 ≤ 1099511627776) ∧ (0 ≤ p.2.2 ∧ p.2.2 ≤ 1099511627776) ∧ p.2.1.2.length + tot (l.drop p.1.2) ≤ 1099511627776 ∧ p.1.1 ++ nfF p.2.1.1 p.2.1.2 p.2.2 (l.drop p.1.2) = nf l }
theorem norm_good : Rw.Good Tryd.prog 74 normCon := by
  have hΓ : GoodEnv Tryd.prog [(95, someCon), (96, addCon), (97, putCon)] := (goodEnv_cons some_good (goodEnv_cons add_good (goodEnv_cons put_good goodEnv_nil)))
  refine good_fn (nn := 55) hΓ Tryd.func74 (by kernel_rfl) rfl (show Tryd.f74.results.toList = [.tmp 2] from rfl) (fun _ => rfl) (fun _ => rfl) ?_
  rintro ⟨l, hl, htot, hc⟩
  have hlen := (nfF_ok l 0 [] 0 (by omega) (by omega)).1
  simp only [goRules, coreRules, tiRules, unRules, AS_of_eq, ← decide_not, N0, N1, N2, N3, N4, N5, Z0, Z1, Z2, Z3, Z4, Z5, Z6, Z7, Z8, Z9, Z10, Zc, ↓reduceIte, reduceCtorEq, comps_len]
  obtain ⟨St, hSt⟩ : ∃ St : NSt l → AS, ∀ p, St p = AS.of 55 [(0, .sl 0 3 (comps l)), (2, .sl 2 3 (comps p.1.1.1)), (3, .ptr 0 0), (4, .v (sv p.1.2.1.2)), (5, .v (.int .i64 p.1.2.2)), (6, .v (.int .i64 p.1.2.1.1)), (7, .v (.int .i64 p.1.1.2))] [.cells [.any, .any, .any]] [(p.1.1.1.length, 53)] := ⟨_, fun _ => rfl⟩
  refine vc_lab hΓ 1 St (fun p => l.length - p.1.1.2) 1 rfl rfl ?_ ?_
  · rintro ⟨⟨⟨out, i⟩, ⟨⟨k, t⟩, g⟩⟩, hi, hk, hg, ht, hn⟩
    simp only at hi hk hg ht hn
    have hout : out.length ≤ 4000000000000 := by
      have := congrArg List.length hn
      rw [List.length_append] at this
      unfold nf at this
      omega
    rw [hSt]
    simp only
    simp only [goRules, coreRules, tiRules, unRules, AS_of_eq, ← decide_not, N0, N1, N2, N3, N4, N5, Z0, Z1, Z2, Z3, Z4, Z5, Z6, Z7, Z8, Z9, Z10, Zc, ↓reduceIte, reduceCtorEq, comps_len]
    (with_reducible first | refine branchP_dec (fun h => ?_) (fun h => ?_) | refine guardB_dec (fun h => ?_) (fun h => ?_))
    · simp only [goRules, coreRules, tiRules, unRules, AS_of_eq, ← decide_not, N0, N1, N2, N3, N4, N5, Z0, Z1, Z2, Z3, Z4, Z5, Z6, Z7, Z8, Z9, Z10, Zc, ↓reduceIte, reduceCtorEq]
      refine ⟨_, rfl, ?_⟩
      simp only [goRules, coreRules, tiRules, unRules, AS_of_eq, ← decide_not, N0, N1, N2, N3, N4, N5, Z0, Z1, Z2, Z3, Z4, Z5, Z6, Z7, Z8, Z9, Z10, Zc, ↓reduceIte, reduceCtorEq]
      refine call_put (by simp [get_cons]) rfl (by omega) (by simp [comps_len]) (by simp) hout hk (by omega) hg ?_
      simp only [goRules, coreRules, tiRules, unRules, AS_of_eq, ← decide_not, N0, N1, N2, N3, N4, N5, Z0, Z1, Z2, Z3, Z4, Z5, Z6, Z7, Z8, Z9, Z10, Zc, ↓reduceIte, reduceCtorEq]
      rw [← hn, List.drop_of_length_le (by omega)]
      rfl
    · have hlt : i < l.length := by omega
      have e1 := comps_getD l hlt
      have hci := okL.text ⟨hl, htot, hc⟩ (List.getElem_mem hlt)
      have hcn := hc l[i] (List.getElem_mem hlt)
      have hpos : someC l[i] = true → ¬ l[i].k = 2 → 0 < l[i].n := some_pos
      have hd2 := ht
      rw [List.drop_eq_getElem_cons hlt] at hn hd2
      simp only [tot] at hd2
      have again : ∀ (σ : AS) (out2 : List Cp) (k2 : Int) (t2 : List UInt8) (g2 : Int), Weak σ (AS.of 55 [(0, .sl 0 3 (comps l)), (2, .sl 2 3 (comps out2)), (3, .ptr 0 0), (4, .v (sv t2)), (5, .v (.int .i64 g2)), (6, .v (.int .i64 k2)), (7, .v (.int .i64 (i + 1 : Nat)))] [.cells [.any, .any, .any]] [(out2.length, 53)]) →
          (0 ≤ k2 ∧ k2 ≤ 1099511627776) → (0 ≤ g2 ∧ g2 ≤ 1099511627776) → t2.length + tot (l.drop (i + 1)) ≤ 1099511627776 → out2 ++ nfF k2 t2 g2 (l.drop (i + 1)) = nf l →
          ∃ y : NSt l, l.length - y.1.1.2 < l.length - i ∧ Weak σ (St y) := fun σ out2 k2 t2 g2 hw h1 h2 h3 h4 =>
        ⟨⟨((out2, i + 1), ((k2, t2), g2)), by simp only; omega, h1, h2, h3, h4⟩, by simp only; omega, by rw [hSt]; exact hw⟩
      generalize l[i] = c at *
      obtain ⟨ck, cn, ct⟩ := c
      simp only at hci hcn hpos hd2 e1
      simp (disch := omega) only [goRules, coreRules, tiRules, unRules, AS_of_eq, ← decide_not, N0, N1, N2, N3, N4, N5, Z0, Z1, Z2, Z3, Z4, Z5, Z6, Z7, Z8, Z9, Z10, Zc, ↓reduceIte, reduceCtorEq, wrap_i64, h, e1, comps_len]
      (repeat (with_reducible refine And.intro ?_ ?_; focus (first | omega | exact mixed1 | kernel_rfl)))
      refine call_some (c := ⟨ck, cn, ct⟩) (by simp [get_cons]) hci ?_
      cases hs : someC ⟨ck, cn, ct⟩ with
      | false =>
        simp only [goRules, coreRules, tiRules, unRules, AS_of_eq, ← decide_not, N0, N1, N2, N3, N4, N5, Z0, Z1, Z2, Z3, Z4, Z5, Z6, Z7, Z8, Z9, Z10, Zc, ↓reduceIte, reduceCtorEq, hs]
        refine again _ out k t g ?_ hk hg (by omega) (by rw [← hn, nf_no hs])
        refine weak_go [0] [.live 2] ?_
        simp only [goRules, coreRules, tiRules, unRules, AS_of_eq, ← decide_not, N0, N1, N2, N3, N4, N5, Z0, Z1, Z2, Z3, Z4, Z5, Z6, Z7, Z8, Z9, Z10, Zc, ↓reduceIte, reduceCtorEq, comps_len] <;> ((repeat' apply And.intro) <;> first | rfl | omega | trivial)
      | true =>
        simp only [goRules, coreRules, tiRules, unRules, AS_of_eq, ← decide_not, N0, N1, N2, N3, N4, N5, Z0, Z1, Z2, Z3, Z4, Z5, Z6, Z7, Z8, Z9, Z10, Zc, ↓reduceIte, reduceCtorEq, hs]
        (with_reducible first | refine branchP_dec (fun h2 => ?_) (fun h2 => ?_) | refine guardB_dec (fun h2 => ?_) (fun h2 => ?_))
        · simp (disch := omega) only [goRules, coreRules, tiRules, unRules, AS_of_eq, ← decide_not, N0, N1, N2, N3, N4, N5, Z0, Z1, Z2, Z3, Z4, Z5, Z6, Z7, Z8, Z9, Z10, Zc, ↓reduceIte, reduceCtorEq, wrap_i64, h2]
          (repeat (with_reducible refine And.intro ?_ ?_; focus (first | omega | exact mixed1 | kernel_rfl)))
          refine again _ out k (t ++ ct) g ?_ hk hg (by rw [List.length_append]; omega) (by rw [← hn, nf_text hs h2])
          refine weak_go [0] [.live 2] ?_
          simp only [goRules, coreRules, tiRules, unRules, AS_of_eq, ← decide_not, N0, N1, N2, N3, N4, N5, Z0, Z1, Z2, Z3, Z4, Z5, Z6, Z7, Z8, Z9, Z10, Zc, ↓reduceIte, reduceCtorEq, comps_len] <;> ((repeat' apply And.intro) <;> first | rfl | omega | trivial)
        · simp (disch := omega) only [goRules, coreRules, tiRules, unRules, AS_of_eq, ← decide_not, N0, N1, N2, N3, N4, N5, Z0, Z1, Z2, Z3, Z4, Z5, Z6, Z7, Z8, Z9, Z10, Zc, ↓reduceIte, reduceCtorEq, wrap_i64, h2]
          have hp := hpos hs h2
          (with_reducible first | refine branchP_dec (fun h3 => ?_) (fun h3 => ?_) | refine guardB_dec (fun h3 => ?_) (fun h3 => ?_))
          · simp (disch := omega) only [goRules, coreRules, tiRules, unRules, AS_of_eq, ← decide_not, N0, N1, N2, N3, N4, N5, Z0, Z1, Z2, Z3, Z4, Z5, Z6, Z7, Z8, Z9, Z10, Zc, ↓reduceIte, reduceCtorEq, wrap_i64, h3]
            refine call_add (by simp [get_cons]) hg (by omega) ?_
            simp only [goRules, coreRules, tiRules, unRules, AS_of_eq, ← decide_not, N0, N1, N2, N3, N4, N5, Z0, Z1, Z2, Z3, Z4, Z5, Z6, Z7, Z8, Z9, Z10, Zc, ↓reduceIte, reduceCtorEq]
            refine again _ out k t (addI g cn) ?_ hk (addI_range hg.1 (by omega)) (by omega) (by rw [← hn, nf_gone hs h3])
            refine weak_go [0] [.live 2] ?_
            simp only [goRules, coreRules, tiRules, unRules, AS_of_eq, ← decide_not, N0, N1, N2, N3, N4, N5, Z0, Z1, Z2, Z3, Z4, Z5, Z6, Z7, Z8, Z9, Z10, Zc, ↓reduceIte, reduceCtorEq, comps_len] <;> ((repeat' apply And.intro) <;> first | rfl | omega | trivial)
          · simp (disch := omega) only [goRules, coreRules, tiRules, unRules, AS_of_eq, ← decide_not, N0, N1, N2, N3, N4, N5, Z0, Z1, Z2, Z3, Z4, Z5, Z6, Z7, Z8, Z9, Z10, Zc, ↓reduceIte, reduceCtorEq, wrap_i64, h3]
            by_cases h4 : t ≠ [] ∨ g > 0
            · have fin : ∀ (σ : AS), Weak σ (AS.of 55 [(0, .sl 0 3 (comps l)), (2, .sl 2 3 (comps (out ++ putL k t g))), (3, .ptr 0 0), (4, .v (sv [])), (5, .v (.int .i64 0)), (6, .v (.int .i64 (addI 0 cn))), (7, .v (.int .i64 (i + 1 : Nat)))] [.cells [.any, .any, .any]] [((out ++ putL k t g).length, 53)]) → ∃ y : NSt l, l.length - y.1.1.2 < l.length - i ∧ Weak σ (St y) := fun σ hw =>
                again σ (out ++ putL k t g) (addI 0 cn) [] 0 hw (addI_range (by omega) (by omega)) (by omega) (by rw [List.length_nil]; omega) (by rw [← hn, nf_put hs h2 h3 h4, List.append_assoc])
              by_cases h5 : t = []
              · have h6 : g > 0 := by
                  rcases h4 with h | h
                  · exact absurd h5 h
                  · exact h
                subst h5
                simp (disch := omega) only [goRules, coreRules, tiRules, unRules, AS_of_eq, ← decide_not, N0, N1, N2, N3, N4, N5, Z0, Z1, Z2, Z3, Z4, Z5, Z6, Z7, Z8, Z9, Z10, Zc, ↓reduceIte, reduceCtorEq, wrap_i64, h6]
                refine call_put (by simp [get_cons]) rfl (by omega) (by simp [comps_len]) (by simp) hout hk (by simp only [List.length_nil]; omega) hg ?_
                simp only [goRules, coreRules, tiRules, unRules, AS_of_eq, ← decide_not, N0, N1, N2, N3, N4, N5, Z0, Z1, Z2, Z3, Z4, Z5, Z6, Z7, Z8, Z9, Z10, Zc, ↓reduceIte, reduceCtorEq]
                refine call_add (by simp [get_cons]) ⟨by omega, by omega⟩ (by omega) ?_
                simp only [goRules, coreRules, tiRules, unRules, AS_of_eq, ← decide_not, N0, N1, N2, N3, N4, N5, Z0, Z1, Z2, Z3, Z4, Z5, Z6, Z7, Z8, Z9, Z10, Zc, ↓reduceIte, reduceCtorEq]
                refine fin _ ?_
                refine weak_go [0] [.live 3] ?_
                simp only [goRules, coreRules, tiRules, unRules, AS_of_eq, ← decide_not, N0, N1, N2, N3, N4, N5, Z0, Z1, Z2, Z3, Z4, Z5, Z6, Z7, Z8, Z9, Z10, Zc, ↓reduceIte, reduceCtorEq, comps_len] <;> ((repeat' apply And.intro) <;> first | rfl | omega | trivial)
              · simp (disch := omega) only [goRules, coreRules, tiRules, unRules, AS_of_eq, ← decide_not, N0, N1, N2, N3, N4, N5, Z0, Z1, Z2, Z3, Z4, Z5, Z6, Z7, Z8, Z9, Z10, Zc, ↓reduceIte, reduceCtorEq, wrap_i64, h5]
                refine call_put (by simp [get_cons]) rfl (by omega) (by simp [comps_len]) (by simp) hout hk (by omega) hg ?_
                simp only [goRules, coreRules, tiRules, unRules, AS_of_eq, ← decide_not, N0, N1, N2, N3, N4, N5, Z0, Z1, Z2, Z3, Z4, Z5, Z6, Z7, Z8, Z9, Z10, Zc, ↓reduceIte, reduceCtorEq]
                refine call_add (by simp [get_cons]) ⟨by omega, by omega⟩ (by omega) ?_
                simp only [goRules, coreRules, tiRules, unRules, AS_of_eq, ← decide_not, N0, N1, N2, N3, N4, N5, Z0, Z1, Z2, Z3, Z4, Z5, Z6, Z7, Z8, Z9, Z10, Zc, ↓reduceIte, reduceCtorEq]
                refine fin _ ?_
                refine weak_go [0] [.live 3] ?_
                simp only [goRules, coreRules, tiRules, unRules, AS_of_eq, ← decide_not, N0, N1, N2, N3, N4, N5, Z0, Z1, Z2, Z3, Z4, Z5, Z6, Z7, Z8, Z9, Z10, Zc, ↓reduceIte, reduceCtorEq, comps_len] <;> ((repeat' apply And.intro) <;> first | rfl | omega | trivial)
            · have h5 : t = [] := Classical.byContradiction fun h => h4 (.inl h)
              have h6 : ¬ g > 0 := fun h => h4 (.inr h)
              simp (disch := omega) only [goRules, coreRules, tiRules, unRules, AS_of_eq, ← decide_not, N0, N1, N2, N3, N4, N5, Z0, Z1, Z2, Z3, Z4, Z5, Z6, Z7, Z8, Z9, Z10, Zc, ↓reduceIte, reduceCtorEq, wrap_i64, h5, h6]
              refine call_add (by simp [get_cons]) hk (by omega) ?_
              simp only [goRules, coreRules, tiRules, unRules, AS_of_eq, ← decide_not, N0, N1, N2, N3, N4, N5, Z0, Z1, Z2, Z3, Z4, Z5, Z6, Z7, Z8, Z9, Z10, Zc, ↓reduceIte, reduceCtorEq]
              refine again _ out (addI k cn) t g ?_ (addI_range hk.1 (by omega)) hg (by omega) (by rw [← hn, nf_keep hs h2 h3 h4])
              refine weak_go [0] [.live 2] ?_
              simp only [goRules, coreRules, tiRules, unRules, AS_of_eq, ← decide_not, N0, N1, N2, N3, N4, N5, Z0, Z1, Z2, Z3, Z4, Z5, Z6, Z7, Z8, Z9, Z10, Zc, ↓reduceIte, reduceCtorEq, comps_len, h5] <;> ((repeat' apply And.intro) <;> first | rfl | omega | trivial)
  · simp only [goRules, coreRules, tiRules, unRules, AS_of_eq, ← decide_not, N0, N1, N2, N3, N4, N5, Z0, Z1, Z2, Z3, Z4, Z5, Z6, Z7, Z8, Z9, Z10, Zc, ↓reduceIte, reduceCtorEq]
    refine ⟨⟨(([], 0), ((0, []), 0)), by simp, by simp, by simp, by simpa using htot, rfl⟩, ?_⟩
    rw [hSt]
    refine weak_go [0] [.nil 3] ?_
    simp only [goRules, coreRules, tiRules, unRules, AS_of_eq, ← decide_not, N0, N1, N2, N3, N4, N5, Z0, Z1, Z2, Z3, Z4, Z5, Z6, Z7, Z8, Z9, Z10, Zc, ↓reduceIte, reduceCtorEq, comps_nil] <;> ((repeat' apply And.intro) <;> first | rfl | omega | trivial)
theorem call_norm {Γ : Env} {f : Nat} (hf : Γ.get f = some normCon) {n : Nat} {t : Nat → AV} {hd : Nat → Nat → AV} {nh nl : Nat} {h : Nat → Option AO} {fm : Nat → Nat} {lv : Nat → Option (Nat × Nat)} {mu : Bool} {l : List Cp} {tg : Nat} {ys : List AV} {d : Option Nat} {K : AS → Prop} (htg : 2 ≤ tg) (hy : ys = comps l) (hl : okL l)
    (hk : cont ⟨n, t, hd, ⟨nh, h, nl, fm, kill fm [tg] lv, mu⟩⟩ d (.sl 0 3 (comps (nf l))) K) : vcCall Tryd.prog Γ false ⟨n, t, hd, ⟨nh, h, nl, fm, lv, mu⟩⟩ f [.sl tg 3 ys] d K := by
  subst hy
  refine vcCall_none (C := normCon) (i := ⟨l, hl⟩) hf rfl rfl rfl rfl (ts := [tg]) ?_ ?_
  · simp [AV.tagsL, AV.tags]; omega
  · rintro r rfl
    exact hk
end Go.Proofs
end

-- CUo4
section
namespace Go.Proofs
open Go Go.Rw
open _root_.Nat renaming reduceAdd → N0, reduceSub → N1, reduceMul → N2, reduceLT → N3, reduceLeDiff → N4, reduceEqDiff → N5
open _root_.Int renaming reduceNeg → Z0, reduceAdd → Z1, reduceSub → Z2, reduceMul → Z3, reduceGT → Z4, reduceGE → Z5, reduceLT → Z6, reduceLE → Z7, reduceEq → Z8, reduceNe → Z9, reduceToNat → Z10, cast_ofNat_Int → Zc
set_option maxRecDepth 100000
set_option linter.unusedSimpArgs false
set_option linter.unusedVariables false

end Go.Proofs
end

-- CUo5
section
namespace Go.Proofs
open Go Go.Rw
open _root_.Nat renaming reduceAdd → N0, reduceSub → N1, reduceMul → N2, reduceLT → N3, reduceLeDiff → N4, reduceEqDiff → N5
open _root_.Int renaming reduceNeg → Z0, reduceAdd → Z1, reduceSub → Z2, reduceMul → Z3, reduceGT → Z4, reduceGE → Z5, reduceLT → Z6, reduceLE → Z7, reduceEq → Z8, reduceNe → Z9, reduceToNat → Z10, cast_ofNat_Int → Zc
set_option maxRecDepth 100000
set_option linter.unusedSimpArgs false
set_option linter.unusedVariables false

section
variable {P : Program}
/-- A struct of two numbers and a text. -/
def is3 (P : Program) (t ti ts : TypeId) : Bool := match P.underlying t with
  | some (.struct fs) => match fs.toList with
    | [f1, f2, f3] => (f1.type == ti && (f1.offset == 0 && f1.name != "_")) && ((f2.type == ti && (f2.offset == 1 && f2.name != "_")) && (f3.type == ts && (f3.offset == 2 && f3.name != "_")))
    | _ => false
  | _ => false
end
abbrev Cps := { p : List Cp × List Cp // p.1.length ≤ 4000000000000 ∧ p.2.length ≤ 4000000000000 }
abbrev sameCon : Con where
  ι := Cps
  args := fun p => [.sl 0 3 (comps p.1.1), .sl 0 3 (comps p.1.2)]
  post := fun p r => r = .v (.bool (decide (p.1.1 = p.1.2)))
  plain := true
theorem call_same {Γ : Env} {f : Nat} (hf : Γ.get f = some sameCon) {σ : AS} {dr : Bool} {x y : List Cp} {s t : Nat} {xs ys : List AV} {d : Option Nat} {K : AS → Prop} (hx : xs = comps x) (hy : ys = comps y) (h1 : x.length ≤ 4000000000000) (h2 : y.length ≤ 4000000000000)
    (hk : cont σ d (.v (.bool (decide (x = y)))) K) : vcCall Tryd.prog Γ dr σ f [.sl s 3 xs, .sl t 3 ys] d K := by
  subst hx; subst hy
  exact vcCall_plain (C := sameCon) (i := ⟨(x, y), h1, h2⟩) hf rfl rfl rfl rfl (fun _ h => h) rfl hk
theorem drop_eq2 {x y : List Cp} {i : Nat} (h1 : i < x.length) (h2 : i < y.length) : (x.drop i = y.drop i) ↔ ((x[i].k = y[i].k ∧ x[i].n = y[i].n ∧ x[i].t = y[i].t) ∧ x.drop (i + 1) = y.drop (i + 1)) := by
  rw [List.drop_eq_getElem_cons h1, List.drop_eq_getElem_cons h2, List.cons.injEq]
  constructor
  · rintro ⟨h, h3⟩; exact ⟨by rw [h]; exact ⟨rfl, rfl, rfl⟩, h3⟩
  · rintro ⟨⟨a, b, c⟩, h3⟩
    refine ⟨?_, h3⟩
    generalize x[i] = u at *
    generalize y[i] = v at *
    cases u; cases v
    simp only at a b c
    subst a; subst b; subst c; rfl
theorem rsame_good : Rw.Good Tryd.prog 45 sameCon := by
  have hΓ : GoodEnv Tryd.prog [] := goodEnv_nil
  refine good_fn (nn := 54) hΓ Tryd.func45 (by kernel_rfl) rfl (show Tryd.f45.results.toList = [.tmp 4] from rfl) (fun _ => rfl) (fun _ => rfl) ?_
  rintro ⟨⟨x, y⟩, hx, hy⟩
  simp only at hx hy
  simp only [goRules, coreRules, tiRules, unRules, AS_of_eq, ← decide_not, N0, N1, N2, N3, N4, N5, Z0, Z1, Z2, Z3, Z4, Z5, Z6, Z7, Z8, Z9, Z10, Zc, ↓reduceIte, reduceCtorEq, comps_len]
  (with_reducible first | refine branchP_dec (fun h => ?_) (fun h => ?_) | refine guardB_dec (fun h => ?_) (fun h => ?_))
  · simp only [goRules, coreRules, tiRules, unRules, AS_of_eq, ← decide_not, N0, N1, N2, N3, N4, N5, Z0, Z1, Z2, Z3, Z4, Z5, Z6, Z7, Z8, Z9, Z10, Zc, ↓reduceIte, reduceCtorEq, h]
    have : ¬ x = y := fun e => h (by rw [e])
    simp [this]
  · simp only [goRules, coreRules, tiRules, unRules, AS_of_eq, ← decide_not, N0, N1, N2, N3, N4, N5, Z0, Z1, Z2, Z3, Z4, Z5, Z6, Z7, Z8, Z9, Z10, Zc, ↓reduceIte, reduceCtorEq, h]
    have hxy : x.length = y.length := by omega
    obtain ⟨St, hSt⟩ : ∃ St : { i : Nat // i ≤ x.length ∧ (x = y ↔ x.drop i = y.drop i) } → AS, ∀ i, St i = AS.of 54 [(0, .sl 0 3 (comps x)), (1, .sl 0 3 (comps y)), (5, .v (.int .i64 i.1))] [] [] := ⟨_, fun _ => rfl⟩
    refine vc_loop hΓ St (fun i => x.length - i.1) ⟨0, by omega, Iff.rfl⟩ (by rw [hSt]; refine weak_go [] [] ?_; simp only [goRules, coreRules, tiRules, unRules, AS_of_eq, ← decide_not, N0, N1, N2, N3, N4, N5, Z0, Z1, Z2, Z3, Z4, Z5, Z6, Z7, Z8, Z9, Z10, Zc, ↓reduceIte, reduceCtorEq] <;> ((repeat' apply And.intro) <;> first | rfl | omega | trivial)) ?_
    rintro ⟨i, hi, hb⟩
    rw [hSt]
    simp only
    simp only [goRules, coreRules, tiRules, unRules, AS_of_eq, ← decide_not, N0, N1, N2, N3, N4, N5, Z0, Z1, Z2, Z3, Z4, Z5, Z6, Z7, Z8, Z9, Z10, Zc, ↓reduceIte, reduceCtorEq, comps_len]
    (with_reducible first | refine branchP_dec (fun h2 => ?_) (fun h2 => ?_) | refine guardB_dec (fun h2 => ?_) (fun h2 => ?_))
    · have h3 : i < x.length := by omega
      have h4 : i < y.length := by omega
      have e1 := comps_getD x h3
      have e2 := comps_getD y h4
      rw [drop_eq2 h3 h4] at hb
      have again : ∀ σ : AS, Weak σ (AS.of 54 [(0, .sl 0 3 (comps x)), (1, .sl 0 3 (comps y)), (5, .v (.int .i64 (i + 1 : Nat)))] [] []) → (x[i].k = y[i].k ∧ x[i].n = y[i].n ∧ x[i].t = y[i].t) → ∀ (z : { i : Nat // i ≤ x.length ∧ (x = y ↔ x.drop i = y.drop i) }), z.1 = i → Again St (fun i => x.length - i.1) z σ := fun σ hw h z hz =>
        weak_again ⟨i + 1, by omega, by rw [hb]; exact ⟨fun a => a.2, fun a => ⟨h, a⟩⟩⟩ (by simp only; omega) (by rw [hSt]; exact hw)
      have no : ¬ (x[i].k = y[i].k ∧ x[i].n = y[i].n ∧ x[i].t = y[i].t) → decide (x = y) = false := fun h => by rw [decide_eq_false_iff_not, hb]; exact fun a => h a.1
      generalize x[i] = u at *
      generalize y[i] = v at *
      obtain ⟨k, n, t⟩ := u
      obtain ⟨k', n', t'⟩ := v
      simp only at no again e1 e2
      simp (disch := omega) only [goRules, coreRules, tiRules, unRules, AS_of_eq, ← decide_not, N0, N1, N2, N3, N4, N5, Z0, Z1, Z2, Z3, Z4, Z5, Z6, Z7, Z8, Z9, Z10, Zc, ↓reduceIte, reduceCtorEq, wrap_i64, h2, comps_len, e1, e2]
      (repeat (with_reducible refine And.intro ?_ ?_; focus (first | omega | exact mixed1 | kernel_rfl)))
      (try ((with_reducible first | refine branchP_dec (fun q1 => ?_) (fun q1 => ?_) | refine guardB_dec (fun q1 => ?_) (fun q1 => ?_)) <;> simp (disch := omega) only [goRules, coreRules, tiRules, unRules, AS_of_eq, ← decide_not, N0, N1, N2, N3, N4, N5, Z0, Z1, Z2, Z3, Z4, Z5, Z6, Z7, Z8, Z9, Z10, Zc, ↓reduceIte, reduceCtorEq, wrap_i64, q1, comps_len, e1, e2] <;> (with_reducible first | (refine And.intro ?_ ?_; focus (first | omega | exact mixed1 | kernel_rfl)); (repeat (with_reducible refine And.intro ?_ ?_; focus (first | omega | exact mixed1 | kernel_rfl))); (try simp (disch := omega) only [goRules, coreRules, tiRules, unRules, AS_of_eq, ← decide_not, N0, N1, N2, N3, N4, N5, Z0, Z1, Z2, Z3, Z4, Z5, Z6, Z7, Z8, Z9, Z10, Zc, ↓reduceIte, reduceCtorEq, wrap_i64, q1, comps_len, e1, e2]) | skip) <;> (try ((with_reducible first | refine branchP_dec (fun q2 => ?_) (fun q2 => ?_) | refine guardB_dec (fun q2 => ?_) (fun q2 => ?_)) <;> simp (disch := omega) only [goRules, coreRules, tiRules, unRules, AS_of_eq, ← decide_not, N0, N1, N2, N3, N4, N5, Z0, Z1, Z2, Z3, Z4, Z5, Z6, Z7, Z8, Z9, Z10, Zc, ↓reduceIte, reduceCtorEq, wrap_i64, q2, comps_len, e1, e2] <;> (with_reducible first | (refine And.intro ?_ ?_; focus (first | omega | exact mixed1 | kernel_rfl)); (repeat (with_reducible refine And.intro ?_ ?_; focus (first | omega | exact mixed1 | kernel_rfl))); (try simp (disch := omega) only [goRules, coreRules, tiRules, unRules, AS_of_eq, ← decide_not, N0, N1, N2, N3, N4, N5, Z0, Z1, Z2, Z3, Z4, Z5, Z6, Z7, Z8, Z9, Z10, Zc, ↓reduceIte, reduceCtorEq, wrap_i64, q2, comps_len, e1, e2]) | skip) <;> (try ((with_reducible first | refine branchP_dec (fun q3 => ?_) (fun q3 => ?_) | refine guardB_dec (fun q3 => ?_) (fun q3 => ?_)) <;> simp (disch := omega) only [goRules, coreRules, tiRules, unRules, AS_of_eq, ← decide_not, N0, N1, N2, N3, N4, N5, Z0, Z1, Z2, Z3, Z4, Z5, Z6, Z7, Z8, Z9, Z10, Zc, ↓reduceIte, reduceCtorEq, wrap_i64, q3, comps_len, e1, e2] <;> (with_reducible first | (refine And.intro ?_ ?_; focus (first | omega | exact mixed1 | kernel_rfl)); (repeat (with_reducible refine And.intro ?_ ?_; focus (first | omega | exact mixed1 | kernel_rfl))); (try simp (disch := omega) only [goRules, coreRules, tiRules, unRules, AS_of_eq, ← decide_not, N0, N1, N2, N3, N4, N5, Z0, Z1, Z2, Z3, Z4, Z5, Z6, Z7, Z8, Z9, Z10, Zc, ↓reduceIte, reduceCtorEq, wrap_i64, q3, comps_len, e1, e2]) | skip) <;> skip))))))
      all_goals first
        | (rw [no (by intro a; first | exact q1 a.1 | exact q2 a.2.1 | exact q3 a.2.2)]; done)
        | (refine again _ ?_ ⟨Decidable.not_not.1 q1, Decidable.not_not.1 q2, Decidable.not_not.1 q3⟩ _ rfl
           refine weak_go [] [] ?_
           simp only [goRules, coreRules, tiRules, unRules, AS_of_eq, ← decide_not, N0, N1, N2, N3, N4, N5, Z0, Z1, Z2, Z3, Z4, Z5, Z6, Z7, Z8, Z9, Z10, Zc, ↓reduceIte, reduceCtorEq] <;> ((repeat' apply And.intro) <;> first | rfl | omega | trivial))
        | trace_state
    · simp only [goRules, coreRules, tiRules, unRules, AS_of_eq, ← decide_not, N0, N1, N2, N3, N4, N5, Z0, Z1, Z2, Z3, Z4, Z5, Z6, Z7, Z8, Z9, Z10, Zc, ↓reduceIte, reduceCtorEq, h2]
      rw [List.drop_of_length_le (by omega), List.drop_of_length_le (by omega)] at hb
      rw [decide_eq_true (hb.2 rfl)]
end Go.Proofs
end

-- CUo6
section
namespace Go.Proofs
open Go Go.Rw
open _root_.Nat renaming reduceAdd → N0, reduceSub → N1, reduceMul → N2, reduceLT → N3, reduceLeDiff → N4, reduceEqDiff → N5
open _root_.Int renaming reduceNeg → Z0, reduceAdd → Z1, reduceSub → Z2, reduceMul → Z3, reduceGT → Z4, reduceGE → Z5, reduceLT → Z6, reduceLE → Z7, reduceEq → Z8, reduceNe → Z9, reduceToNat → Z10, cast_ofNat_Int → Zc
set_option maxRecDepth 100000
set_option linter.unusedSimpArgs false
set_option linter.unusedVariables false

def ofBad (n a b : Int) (t : List UInt8) : Prop := a < 0 ∨ b < a ∨ n < b ∨ pts t = none
instance (n a b : Int) (t : List UInt8) : Decidable (ofBad n a b t) := by unfold ofBad; exact inferInstance
def keepL (n : Int) : List Cp := if n < 1 then [] else [⟨1, n, []⟩]
abbrev keepCon : Con where
  ι := I64
  args := fun n => [.v (.int .i64 n.1)]
  post := fun n r => r = .sl 0 3 (comps (keepL n.1))
theorem keep_good : Rw.Good Tryd.prog 73 keepCon := by
  have hΓ : GoodEnv Tryd.prog [] := goodEnv_nil
  refine good_fn (nn := 8) hΓ Tryd.func73 (by kernel_rfl) rfl (show Tryd.f73.results.toList = [.tmp 2] from rfl) (fun _ => rfl) (fun _ => rfl) ?_
  rintro ⟨n, hn⟩
  simp only [goRules, coreRules, tiRules, unRules, AS_of_eq, ← decide_not, N0, N1, N2, N3, N4, N5, Z0, Z1, Z2, Z3, Z4, Z5, Z6, Z7, Z8, Z9, Z10, Zc, ↓reduceIte, reduceCtorEq]
  by_cases h : n < 1
  · simp only [goRules, coreRules, tiRules, unRules, AS_of_eq, ← decide_not, N0, N1, N2, N3, N4, N5, Z0, Z1, Z2, Z3, Z4, Z5, Z6, Z7, Z8, Z9, Z10, Zc, ↓reduceIte, reduceCtorEq, h, keepL]
    rfl
  · simp only [goRules, coreRules, tiRules, unRules, AS_of_eq, ← decide_not, N0, N1, N2, N3, N4, N5, Z0, Z1, Z2, Z3, Z4, Z5, Z6, Z7, Z8, Z9, Z10, Zc, ↓reduceIte, reduceCtorEq, h, keepL, List.map_cons, List.map_nil]
    rfl
theorem call_keep {Γ : Env} (hf : Γ.get 73 = some keepCon) {σ : AS} {dr : Bool} {n : Int} {d : Option Nat} {K : AS → Prop} (hn : -9223372036854775808 ≤ n ∧ n ≤ 9223372036854775807)
    (hk : cont σ d (.sl 0 3 (comps (keepL n))) K) : vcCall Tryd.prog Γ dr σ 73 [.v (.int .i64 n)] d K :=
  vcCall_fn (C := keepCon) (i := ⟨n, hn⟩) (r := .sl 0 3 (comps (keepL n))) hf rfl rfl rfl rfl (fun _ h => h) hk

end Go.Proofs
end

-- CUo7
section
namespace Go.Proofs
open Go Go.Rw
set_option maxRecDepth 100000
set_option linter.unusedSimpArgs false
set_option linter.unusedVariables false

theorem addI_eq {n m : Int} (h1 : n + m ≤ 1099511627776) : addI n m = n + m := by unfold addI; omega
theorem baseF_app : ∀ (x y : List Cp) (n : Int), baseF n (x ++ y) = baseF (baseF n x) y
  | [], _, _ => rfl
  | c :: x, y, n => by simp only [List.cons_append, baseF]; exact baseF_app x y _
theorem outF_app : ∀ (x y : List Cp) (n : Int), outF n (x ++ y) = outF (outF n x) y
  | [], _, _ => rfl
  | c :: x, y, n => by simp only [List.cons_append, outF]; exact outF_app x y _
theorem baseF_putL {m k g : Int} {t : List UInt8} (hk : 0 ≤ k) (hg : 0 ≤ g) (h : m + k + g ≤ 1099511627776) : baseF m (putL k t g) = m + k + g := by
  have e1 : baseF m (if k > 0 then [⟨1, k, []⟩] else []) = m + k := by
    split
    · simp only [baseF, true_or, if_true, addI]; omega
    · simp only [baseF]; omega
  have e2 : baseF (m + k) (if t ≠ [] then [⟨2, 0, t⟩] else []) = m + k := by
    split
    · simp [baseF]
    · rfl
  have e3 : baseF (m + k) (if g > 0 then [⟨3, g, []⟩] else []) = m + k + g := by
    split
    · simp only [baseF, or_true, if_true, addI]; omega
    · simp only [baseF]; omega
  rw [putL, baseF_app, e1, baseF_app, e2, e3]
theorem outF_putL {m k g : Int} {t : List UInt8} (hk : 0 ≤ k) (h : m + k + lc t ≤ 1099511627776) : outF m (putL k t g) = m + k + lc t := by
  have e1 : outF m (if k > 0 then [⟨1, k, []⟩] else []) = m + k := by
    split
    · simp only [outF, if_true, addI]; omega
    · simp only [outF]; omega
  have e2 : outF (m + k) (if t ≠ [] then [⟨2, 0, t⟩] else []) = m + k + lc t := by
    split
    · simp [outF, addI]; omega
    · rename_i h
      have : t = [] := Classical.byContradiction fun h2 => h h2
      subst this
      simp [outF, lc_nil]
  have e3 : outF (m + k + lc t) (if g > 0 then [⟨3, g, []⟩] else []) = m + k + lc t := by
    split
    · simp [outF]
    · rfl
  rw [putL, outF_app, e1, outF_app, e2, e3]
end Go.Proofs
end

-- CUo8
section
namespace Go.Proofs
open Go Go.Rw
open _root_.Nat renaming reduceAdd → N0, reduceSub → N1, reduceMul → N2, reduceLT → N3, reduceLeDiff → N4, reduceEqDiff → N5
open _root_.Int renaming reduceNeg → Z0, reduceAdd → Z1, reduceSub → Z2, reduceMul → Z3, reduceGT → Z4, reduceGE → Z5, reduceLT → Z6, reduceLE → Z7, reduceEq → Z8, reduceNe → Z9, reduceToNat → Z10, cast_ofNat_Int → Zc
set_option maxRecDepth 100000
set_option linter.unusedSimpArgs false
set_option linter.unusedVariables false

/-- A sum, held at the most. -/
def sumF (x : Int) (ys : List Int) : Int := ys.foldl addI x
theorem sumF_top : ∀ (ys : List Int), (∀ y ∈ ys, 0 ≤ y) → sumF 1099511627776 ys = 1099511627776
  | [], _ => rfl
  | y :: ys, h => by
    show sumF (addI 1099511627776 y) ys = _
    have := h y (by simp)
    rw [show addI 1099511627776 y = 1099511627776 by unfold addI; omega, sumF_top ys fun z hz => h z (by simp [hz])]
abbrev Sm := { p : Int × List Int // (0 ≤ p.1 ∧ p.1 ≤ 1099511627776) ∧ (∀ y ∈ p.2, 0 ≤ y ∧ y ≤ 9223372036854775807) ∧ p.2.length ≤ 9223372036854775807 }
abbrev sumCon : Con where
  ι := Sm
  args := fun p => [.v (.int .i64 p.1.1), .sl 0 1 (ints .i64 p.1.2)]
  post := fun p r => r = .v (.int .i64 (sumF p.1.1 p.1.2))
  plain := true
theorem sum_good : Rw.Good Tryd.prog 27 sumCon := by
  have hΓ : GoodEnv Tryd.prog [] := goodEnv_nil
  refine good_fn (nn := 30) hΓ Tryd.func27 (by kernel_rfl) rfl (show Tryd.f27.results.toList = [.tmp 4] from rfl) (fun _ => rfl) (fun _ => rfl) ?_
  rintro ⟨⟨x, ys⟩, hx, hy, hl⟩
  simp only at hx hy hl
  simp only [goRules, coreRules, tiRules, unRules, AS_of_eq, ← decide_not, N0, N1, N2, N3, N4, N5, Z0, Z1, Z2, Z3, Z4, Z5, Z6, Z7, Z8, Z9, Z10, Zc, ↓reduceIte, reduceCtorEq, ints_length]
  obtain ⟨St, hSt⟩ : ∃ St : { p : Int × Nat // p.2 ≤ ys.length ∧ (0 ≤ p.1 ∧ p.1 ≤ 1099511627776) ∧ sumF x ys = sumF p.1 (ys.drop p.2) } → AS, ∀ p, St p = AS.of 30 [(0, .v (.int .i64 p.1.1)), (1, .sl 0 1 (ints .i64 ys)), (5, .v (.int .i64 p.1.2))] [] [] := ⟨_, fun _ => rfl⟩
  refine vc_loop hΓ St (fun p => ys.length - p.1.2) ⟨(x, 0), by omega, hx, rfl⟩ (by rw [hSt]; refine weak_go [] [] ?_; simp only [goRules, coreRules, tiRules, unRules, AS_of_eq, ← decide_not, N0, N1, N2, N3, N4, N5, Z0, Z1, Z2, Z3, Z4, Z5, Z6, Z7, Z8, Z9, Z10, Zc, ↓reduceIte, reduceCtorEq] <;> ((repeat' apply And.intro) <;> first | rfl | omega | trivial)) ?_
  rintro ⟨⟨s, i⟩, hi, hs, hb⟩
  simp only at hi hs hb
  rw [hSt]
  simp only
  simp only [goRules, coreRules, tiRules, unRules, AS_of_eq, ← decide_not, N0, N1, N2, N3, N4, N5, Z0, Z1, Z2, Z3, Z4, Z5, Z6, Z7, Z8, Z9, Z10, Zc, ↓reduceIte, reduceCtorEq, ints_length]
  (with_reducible first | refine branchP_dec (fun h => ?_) (fun h => ?_) | refine guardB_dec (fun h => ?_) (fun h => ?_))
  · have hlt : i < ys.length := by omega
    have hyi := hy ys[i] (List.getElem_mem hlt)
    have hge : ∀ y ∈ ys.drop i, 0 ≤ y := fun y hm => (hy y (List.mem_of_mem_drop hm)).1
    rw [List.drop_eq_getElem_cons hlt] at hb hge
    have e1 : (ints .i64 ys).getD i .any = .v (.int .i64 ys[i]) := by simp [ints, List.getD_eq_getElem?_getD, hlt]
    have hs2 : ¬ s > 1099511627776 := by omega
    have early : ys[i] > 1099511627776 - s → sumF x ys = 1099511627776 := fun h => by
      rw [hb]
      show sumF (addI s ys[i]) _ = _
      rw [show addI s ys[i] = 1099511627776 by unfold addI; omega, sumF_top _ fun z hz => hge z (List.mem_cons_of_mem _ hz)]
    generalize ys[i] = y at *
    simp (disch := omega) only [goRules, coreRules, tiRules, unRules, AS_of_eq, ← decide_not, N0, N1, N2, N3, N4, N5, Z0, Z1, Z2, Z3, Z4, Z5, Z6, Z7, Z8, Z9, Z10, Zc, ↓reduceIte, reduceCtorEq, wrap_i64, h, hs2, e1, ints_length]
    (repeat (with_reducible refine And.intro ?_ ?_; focus (first | omega | exact mixed1 | kernel_rfl)))
    (with_reducible first | refine branchP_dec (fun h2 => ?_) (fun h2 => ?_) | refine guardB_dec (fun h2 => ?_) (fun h2 => ?_))
    · simp (disch := omega) only [goRules, coreRules, tiRules, unRules, AS_of_eq, ← decide_not, N0, N1, N2, N3, N4, N5, Z0, Z1, Z2, Z3, Z4, Z5, Z6, Z7, Z8, Z9, Z10, Zc, ↓reduceIte, reduceCtorEq, wrap_i64, h2, e1, ints_length]
      rw [early h2]
    · simp (disch := omega) only [goRules, coreRules, tiRules, unRules, AS_of_eq, ← decide_not, N0, N1, N2, N3, N4, N5, Z0, Z1, Z2, Z3, Z4, Z5, Z6, Z7, Z8, Z9, Z10, Zc, ↓reduceIte, reduceCtorEq, wrap_i64, h2, e1, ints_length]
      (repeat (with_reducible refine And.intro ?_ ?_; focus (first | omega | exact mixed1 | kernel_rfl)))
      have hr : addI s y = s + y := addI_eq (by omega)
      refine weak_again ⟨(s + y, i + 1), by simp only; omega, by simp only; omega, by rw [hb, ← hr]; rfl⟩ (by simp only; omega) ?_
      rw [hSt]; refine weak_go [] [] ?_
      simp only [goRules, coreRules, tiRules, unRules, AS_of_eq, ← decide_not, N0, N1, N2, N3, N4, N5, Z0, Z1, Z2, Z3, Z4, Z5, Z6, Z7, Z8, Z9, Z10, Zc, ↓reduceIte, reduceCtorEq] <;> ((repeat' apply And.intro) <;> first | rfl | omega | trivial)
  · simp only [goRules, coreRules, tiRules, unRules, AS_of_eq, ← decide_not, N0, N1, N2, N3, N4, N5, Z0, Z1, Z2, Z3, Z4, Z5, Z6, Z7, Z8, Z9, Z10, Zc, ↓reduceIte, reduceCtorEq, h]
    rw [List.drop_of_length_le (by omega)] at hb
    rw [hb]; rfl
theorem call_sum {Γ : Env} (hf : Γ.get 27 = some sumCon) {σ : AS} {dr : Bool} {x : Int} {y : List Int} {t : Nat} {ys : List AV} {d : Option Nat} {K : AS → Prop} (hy : ys = ints .i64 y) (h1 : 0 ≤ x ∧ x ≤ 1099511627776) (h2 : ∀ z ∈ y, 0 ≤ z ∧ z ≤ 9223372036854775807) (h3 : y.length ≤ 9223372036854775807)
    (hk : cont σ d (.v (.int .i64 (sumF x y))) K) : vcCall Tryd.prog Γ dr σ 27 [.v (.int .i64 x), .sl t 1 ys] d K := by
  subst hy
  exact vcCall_plain (C := sumCon) (i := ⟨(x, y), h1, h2, h3⟩) hf rfl rfl rfl rfl (fun _ h => h) rfl hk
theorem sumF_range : ∀ (ys : List Int) {x : Int}, (0 ≤ x ∧ x ≤ 1099511627776) → (∀ y ∈ ys, 0 ≤ y) → x ≤ sumF x ys ∧ sumF x ys ≤ 1099511627776
  | [], x, h, _ => by simp [sumF]; omega
  | y :: ys, x, h, hy => by
    have h1 := hy y (by simp)
    have h2 := addI_range h.1 h1
    have h3 : x ≤ addI x y := by unfold addI; omega
    have h4 := sumF_range ys h2 fun z hz => hy z (by simp [hz])
    show x ≤ sumF (addI x y) ys ∧ sumF (addI x y) ys ≤ _
    omega

/-- How much an edit takes, up to a bound. -/
def compsF (m : Int) : Int → List Cp → Int
  | s, [] => s
  | s, c :: r => if s ≤ m then compsF m (sumF s [c.t.length, 2]) r else s
theorem compsF_le {m : Int} (hm : m < 1099511627776) : ∀ (l : List Cp) {s : Int}, 0 ≤ s → compsF m s l ≤ m → s + tot l + 2 * l.length ≤ m
  | [], s, _, h => by simp only [compsF] at h; simp [tot]; exact h
  | c :: r, s, hs, h => by
    simp only [compsF] at h
    split at h
    · rename_i h1
      have e : sumF s [(c.t.length : Int), 2] = addI (addI s c.t.length) 2 := rfl
      have h2 : 0 ≤ addI (addI s c.t.length) 2 := by unfold addI; omega
      rw [e] at h
      have h3 := compsF_le hm r h2 h
      simp only [tot, List.length_cons]
      have h4 : addI (addI s c.t.length) 2 ≤ m := by omega
      have h5 : addI (addI s c.t.length) 2 = s + c.t.length + 2 := by unfold addI at h4 ⊢; omega
      omega
    · omega
abbrev Wide := { l : List Cp // l.length ≤ 9223372036854775807 ∧ ∀ c ∈ l, c.t.length ≤ 9223372036854775807 }
end Go.Proofs
end

-- CUo9
section
namespace Go.Proofs
open Go Go.Rw
set_option maxRecDepth 100000
set_option linter.unusedSimpArgs false
set_option linter.unusedVariables false

/-- Whether a part of the kind k may stand behind one of the kind q; 0: none. -/
def fol (q k : Int) : Bool := !(decide (q = k) || (decide (q = 3) && decide (k = 2)))
/-- A part as a normal form has it. -/
def neat (c : Cp) : Bool := if c.k = 2 then decide (c.n = 0) && decide (c.t ≠ []) else (decide (c.k = 1) || decide (c.k = 3)) && decide (0 < c.n) && decide (c.n ≤ 1099511627776) && decide (c.t = [])
def shape : Int → List Cp → Bool
  | _, [] => true
  | q, c :: r => neat c && fol q c.k && shape c.k r
theorem putL_g {k : Int} {t : List UInt8} {g : Int} (hg : g > 0) : putL k t g = putL k t 0 ++ [⟨3, g, []⟩] := by
  unfold putL
  rw [if_pos hg, if_neg (by omega : ¬ (0 : Int) > 0), List.append_nil, List.append_assoc]
theorem putL_t {k : Int} {t : List UInt8} (ht : t ≠ []) : putL k t 0 = putL k [] 0 ++ [⟨2, 0, t⟩] := by
  unfold putL
  simp [ht]
theorem shape_app : ∀ (a b : List Cp) (q q2 : Int), shape q a = true → (∀ c ∈ a.getLast?, c.k = q2) → (a = [] → q = q2) → shape q2 b = true → shape q (a ++ b) = true
  | [], b, q, q2, _, _, h, hb => by rw [h rfl]; exact hb
  | [c], b, q, q2, ha, hl, _, hb => by
    simp only [shape, Bool.and_true, List.cons_append, List.nil_append] at ha ⊢
    have := hl c (by simp)
    rw [this, hb, ← this, ha]; rfl
  | c :: d :: a, b, q, q2, ha, hl, _, hb => by
    simp only [shape, List.cons_append] at ha ⊢
    rw [Bool.and_eq_true] at ha ⊢
    have := shape_app (d :: a) b c.k q2 (by simpa only [shape] using ha.2) (fun x hx => hl x (by simpa using hx)) (fun h => by cases h) hb
    exact ⟨ha.1, by simpa only [List.cons_append, shape] using this⟩
theorem shape_putL {q k g : Int} {t : List UInt8} (hk : k ≤ 1099511627776) (hg : g ≤ 1099511627776) (hq : q = 0 ∨ ((q = 2 ∨ q = 3) ∧ k > 0)) : shape q (putL k t g) = true := by
  unfold putL
  by_cases h1 : k > 0 <;> by_cases h2 : t = [] <;> by_cases h3 : g > 0
  all_goals
    simp only [h1, h2, h3, if_true, if_false, ne_eq, not_true_eq_false, not_false_eq_true, List.nil_append, List.append_nil, List.cons_append, shape, neat, fol, Bool.and_true]
    try (rcases hq with rfl | ⟨rfl | rfl, h4⟩ <;> simp [h2] <;> omega)
theorem last_putL {k g : Int} {t : List UInt8} (h : t ≠ [] ∨ g > 0) : (∀ c ∈ (putL k t g).getLast?, c.k = (if g > 0 then 3 else 2)) ∧ putL k t g ≠ [] := by
  by_cases h3 : g > 0
  · rw [putL_g h3, if_pos h3]
    simp
  · have h2 : t ≠ [] := by
      rcases h with h | h
      · exact h
      · exact absurd h h3
    have e : putL k t g = putL k t 0 := by unfold putL; rw [if_neg h3, if_neg (by omega : ¬ (0 : Int) > 0)]
    rw [e, putL_t h2, if_neg h3]
    simp
theorem shape_nf : ∀ (l : List Cp) (q k : Int) (t : List UInt8) (g : Int), (0 ≤ k ∧ k ≤ 1099511627776) → (0 ≤ g ∧ g ≤ 1099511627776) → (q = 0 ∨ ((q = 2 ∨ q = 3) ∧ k > 0)) → shape q (nfF k t g l) = true
  | [], q, k, t, g, hk, hg, hq => by rw [nfF]; exact shape_putL hk.2 hg.2 hq
  | c :: r, q, k, t, g, hk, hg, hq => by
    by_cases hs : someC c = false
    · rw [nf_no hs]; exact shape_nf r q k t g hk hg hq
    · have hs : someC c = true := by simpa using hs
      by_cases h2 : c.k = 2
      · rw [nf_text hs h2]; exact shape_nf r q k _ g hk hg hq
      · have hp := some_pos hs h2
        by_cases h3 : c.k = 3
        · rw [nf_gone hs h3]; exact shape_nf r q k t _ hk (addI_range hg.1 (by omega)) hq
        · by_cases h4 : t ≠ [] ∨ g > 0
          · rw [nf_put hs h2 h3 h4]
            obtain ⟨h5, h6⟩ := last_putL (k := k) h4
            refine shape_app _ _ q _ (shape_putL hk.2 hg.2 hq) h5 (fun h => absurd h h6) (shape_nf r _ _ [] 0 (addI_range (by omega) (by omega)) (by omega) (.inr ⟨by split <;> simp, by unfold addI; omega⟩))
          · rw [nf_keep hs h2 h3 h4]
            refine shape_nf r q _ t g (addI_range hk.1 (by omega)) hg ?_
            rcases hq with h | ⟨h, h7⟩
            · exact .inl h
            · exact .inr ⟨h, by unfold addI; omega⟩
end Go.Proofs
end

-- CUo10
section
namespace Go.Proofs
open Go Go.Rw
set_option maxRecDepth 100000
set_option linter.unusedSimpArgs false
set_option linter.unusedVariables false

/-- The numbers of all parts together. -/
def tn : List Cp → Int
  | [] => 0
  | c :: r => max c.n 0 + tn r
def sumN : Int → List Cp → Int
  | s, [] => s
  | s, c :: r => sumN (addI s (max c.n 0)) r
theorem tn_pos : ∀ l : List Cp, 0 ≤ tn l
  | [] => by simp [tn]
  | c :: r => by simp only [tn]; have := tn_pos r; omega
theorem sumN_eq : ∀ (l : List Cp) {s : Int}, (0 ≤ s ∧ s ≤ 1099511627776) → sumN s l = min (s + tn l) 1099511627776
  | [], s, h => by simp only [sumN, tn]; omega
  | c :: r, s, h => by
    have h2 := addI_range h.1 (show 0 ≤ max c.n 0 by omega)
    have := tn_pos r
    simp only [sumN, tn]
    rw [sumN_eq r h2]
    unfold addI
    omega
/-- Whether all texts are. -/
def allV (l : List Cp) : Bool := l.all fun c => (pts c.t).isSome
theorem addI_z {x : Int} (h : x ≤ 1099511627776) : addI x 0 = x := by unfold addI; omega
theorem base_nf : ∀ (l : List Cp) (m k : Int) (t : List UInt8) (g : Int), 0 ≤ m → 0 ≤ k → 0 ≤ g → m + k + g + tn l ≤ 1099511627776 → baseF m (nfF k t g l) = baseF (m + k + g) l
  | [], m, k, t, g, hm, hk, hg, h => by
    simp only [tn] at h
    rw [nfF, baseF_putL hk hg (by omega)]; rfl
  | c :: r, m, k, t, g, hm, hk, hg, h => by
    have htn := tn_pos r
    simp only [tn] at h
    by_cases hs : someC c = false
    · rw [nf_no hs, base_nf r m k t g hm hk hg (by omega)]
      simp only [baseF]
      split
      · rename_i h13
        have : c.n ≤ 0 := by
          unfold someC at hs
          rw [if_neg (by omega)] at hs
          simp at hs
          exact hs (by omega)
        rw [show max c.n 0 = 0 by omega, addI_z (by omega)]
      · rfl
    · have hs : someC c = true := by simpa using hs
      by_cases h2 : c.k = 2
      · rw [nf_text hs h2, base_nf r m k _ g hm hk hg (by omega)]
        simp only [baseF]
        rw [if_neg (by omega)]
      · have hp := some_pos hs h2
        have h13 : c.k = 1 ∨ c.k = 3 := by
          unfold someC at hs
          rw [if_neg h2] at hs
          simp at hs
          exact hs.1
        have e : baseF (m + k + g) (c :: r) = baseF (m + k + g + c.n) r := by
          simp only [baseF]
          rw [if_pos h13, show max c.n 0 = c.n by omega, addI_eq (by omega)]
        rw [e]
        by_cases h3 : c.k = 3
        · rw [nf_gone hs h3, addI_eq (by omega), base_nf r m k t _ hm hk (by omega) (by omega), show m + k + (g + c.n) = m + k + g + c.n by omega]
        · by_cases h4 : t ≠ [] ∨ g > 0
          · rw [nf_put hs h2 h3 h4, addI_eq (by omega), baseF_app, baseF_putL hk hg (by omega), base_nf r (m + k + g) (0 + c.n) [] 0 (by omega) (by omega) (by omega) (by omega), show m + k + g + (0 + c.n) + 0 = m + k + g + c.n by omega]
          · rw [nf_keep hs h2 h3 h4, addI_eq (by omega), base_nf r m (k + c.n) t g hm (by omega) hg (by omega), show m + (k + c.n) + g = m + k + g + c.n by omega]
theorem pts_app {s t : List UInt8} (h1 : (pts s).isSome = true) (h2 : (pts t).isSome = true) : lc (s ++ t) = lc s + lc t ∧ (pts (s ++ t)).isSome = true := by
  obtain ⟨a, ha⟩ := Option.isSome_iff_exists.1 h1
  obtain ⟨b, hb⟩ := Option.isSome_iff_exists.1 h2
  obtain ⟨oa, rfl⟩ := pts_some ha
  obtain ⟨ob, rfl⟩ := pts_some hb
  have oab : ∀ c ∈ a ++ b, okc c := fun c hc => by
    rcases List.mem_append.1 hc with h | h
    · exact oa c h
    · exact ob c h
  rw [← encs_app, lc_encs _ oab, lc_encs _ oa, lc_encs _ ob, pts_enc oab, List.length_append]
  exact ⟨rfl, rfl⟩
theorem out_nf : ∀ (l : List Cp) (m k : Int) (t : List UInt8) (g : Int), 0 ≤ m → 0 ≤ k → (pts t).isSome = true → allV l = true → m + k + t.length + tn l + tot l ≤ 1099511627776 → outF m (nfF k t g l) = outF (m + k + lc t) l
  | [], m, k, t, g, hm, hk, ht, hv, h => by
    have := lc_len t
    simp only [tn, tot] at h
    rw [nfF, outF_putL hk (by omega)]; rfl
  | c :: r, m, k, t, g, hm, hk, ht, hv, h => by
    have htn := tn_pos r
    have hlt := lc_len t
    have hlc := lc_len c.t
    simp only [tn, tot] at h
    simp only [allV, List.all_cons, Bool.and_eq_true] at hv
    obtain ⟨hvc, hvr⟩ := hv
    by_cases hs : someC c = false
    · rw [nf_no hs, out_nf r m k t g hm hk ht hvr (by omega)]
      simp only [outF]
      split
      · rename_i h1
        have : c.n ≤ 0 := by
          unfold someC at hs
          rw [if_neg (by omega)] at hs
          simp at hs
          exact hs (by omega)
        rw [show max c.n 0 = 0 by omega, addI_z (by omega)]
      · split
        · rename_i h2
          have : c.t = [] := by
            unfold someC at hs
            rw [if_pos h2] at hs
            simpa using hs
          rw [this, lc_nil, show ((0 : Nat) : Int) = 0 from rfl, addI_z (by omega)]
        · rfl
    · have hs : someC c = true := by simpa using hs
      by_cases h2 : c.k = 2
      · obtain ⟨e1, e2⟩ := pts_app ht hvc
        rw [nf_text hs h2, out_nf r m k _ g hm hk e2 hvr (by rw [List.length_append]; omega), e1]
        simp only [outF]
        rw [if_neg (by omega), if_pos h2, addI_eq (by omega), show m + k + ((lc t + lc c.t : Nat) : Int) = m + k + lc t + lc c.t by omega]
      · have hp := some_pos hs h2
        by_cases h3 : c.k = 3
        · rw [nf_gone hs h3, out_nf r m k t _ hm hk ht hvr (by omega)]
          simp only [outF]
          rw [if_neg (by omega), if_neg h2]
        · have h1 : c.k = 1 := by
            unfold someC at hs
            rw [if_neg h2] at hs
            simp at hs
            omega
          have e : outF (m + k + lc t) (c :: r) = outF (m + k + lc t + c.n) r := by
            simp only [outF]
            rw [if_pos h1, show max c.n 0 = c.n by omega, addI_eq (by omega)]
          rw [e]
          by_cases h4 : t ≠ [] ∨ g > 0
          · rw [nf_put hs h2 h3 h4, addI_eq (by omega), outF_app, outF_putL hk (by omega), out_nf r (m + k + lc t) (0 + c.n) [] 0 (by omega) (by omega) (by rw [pts_nil]; rfl) hvr (by simp only [List.length_nil]; omega), lc_nil, show m + k + (lc t : Int) + (0 + c.n) + ((0 : Nat) : Int) = m + k + lc t + c.n by omega]
          · rw [nf_keep hs h2 h3 h4, addI_eq (by omega), out_nf r m (k + c.n) t g hm (by omega) ht hvr (by omega), show m + (k + c.n) + (lc t : Int) = m + k + lc t + c.n by omega]
theorem putL_texts {k g : Int} {t : List UInt8} (ht : (pts t).isSome = true) : allV (putL k t g) = true := by
  have h0 : (pts []).isSome = true := by rw [pts_nil]; rfl
  unfold putL allV
  repeat' split
  all_goals simp [h0, ht]
theorem nf_texts : ∀ (l : List Cp) (k : Int) (t : List UInt8) (g : Int), (pts t).isSome = true → allV l = true → allV (nfF k t g l) = true
  | [], k, t, g, ht, _ => by rw [nfF]; exact putL_texts ht
  | c :: r, k, t, g, ht, hv => by
    simp only [allV, List.all_cons, Bool.and_eq_true] at hv
    obtain ⟨hvc, hvr⟩ := hv
    have h0 : (pts []).isSome = true := by rw [pts_nil]; rfl
    rw [nfF]
    repeat' split
    · exact nf_texts r k t g ht hvr
    · exact nf_texts r k _ g (pts_app ht hvc).2 hvr
    · exact nf_texts r k t _ ht hvr
    · unfold allV
      rw [List.all_append, Bool.and_eq_true]
      exact ⟨putL_texts ht, nf_texts r _ [] 0 h0 hvr⟩
    · exact nf_texts r _ t g ht hvr
theorem normal_shape : ∀ (l : List Cp) (p : Option Cp), shape (match p with | none => 0 | some c => c.k) l = true → allV l = true → normalF p l = true
  | [], _, _, _ => rfl
  | c :: r, p, h, hv => by
    simp only [shape, Bool.and_eq_true] at h
    simp only [allV, List.all_cons, Bool.and_eq_true] at hv
    simp only [normalF, Bool.and_eq_true]
    refine ⟨⟨?_, ?_⟩, normal_shape r (some c) h.2 hv.2⟩
    · have hn := h.1.1
      unfold neat at hn
      unfold sound
      split
      · rename_i h2
        rw [if_pos h2] at hn
        simp at hn
        simp [hn, hv.1]
      · rename_i h2
        rw [if_neg h2] at hn
        simp at hn
        rw [if_pos hn.1.1.1]
        simp [hn.2]; omega
    · cases p with
      | none => rfl
      | some q => exact h.1.2
theorem nf_normal {l : List Cp} (h : allV l = true) : normalL (nf l) = true :=
  normal_shape _ none (shape_nf l 0 0 [] 0 (by omega) (by omega) (.inl rfl)) (nf_texts l 0 [] 0 (by rw [pts_nil]; rfl) h)
end Go.Proofs
end
