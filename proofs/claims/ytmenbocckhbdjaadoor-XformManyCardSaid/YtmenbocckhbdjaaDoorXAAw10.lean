/-
  ComposeDoes answers true.
-/
import Derived.Test.YtmenbocckhbdjaaDoorXAAw8
import Derived.Test.YtmenbocckhbdjaaDoorXAAw9
set_option linter.unusedSimpArgs false
set_option linter.unusedVariables false
set_option linter.defProp false

-- AAw10
section
namespace Go.Proofs
open Go Go.Rw
open _root_.Nat renaming reduceAdd → N0, reduceSub → N1, reduceMul → N2, reduceLT → N3, reduceLeDiff → N4, reduceEqDiff → N5
open _root_.Int renaming reduceNeg → Z0, reduceAdd → Z1, reduceSub → Z2, reduceMul → Z3, reduceGT → Z4, reduceGE → Z5, reduceLT → Z6, reduceLE → Z7, reduceEq → Z8, reduceNe → Z9, reduceToNat → Z10, cast_ofNat_Int → Zc
set_option maxRecDepth 100000
set_option linter.unusedSimpArgs false
set_option linter.unusedVariables false

abbrev does9Con : Con where
  ι := StrM × Given × Given × Given
  args := fun p => [.v (sv p.1.1), .sl 0 3 (comps p.2.1.1), .sl 0 3 (comps p.2.2.1.1), .sl 0 3 (comps p.2.2.2.1)]
  post := fun _ r => r = .v (.bool true)
  plain := true
theorem two_zero {a b : List Cp} (he : twoE a b = 0) : twoR a b = res2 (.sl 0 3 (comps (twoN a b))) 0 := by unfold twoR; rw [if_pos he]
theorem two_err {a b : List Cp} (he : ¬ twoE a b = 0) : twoR a b = res2 (.sl 0 3 []) (twoE a b) := by unfold twoR; rw [if_neg he]
/-- Whether a whole edit does what one after the other does. -/
theorem do_two {s : List UInt8} {a b : List Cp} (h1 : errI s a = 0) (h2 : errI (doneB s a) b = 0) (oa : okL a) (ob : okL b) (hc : checkI (twoN a b) = 0) :
    errI s (twoN a b) = 0 ∧ doneB s (twoN a b) = doneB (doneB s a) b := by
  obtain ⟨a1, a2, a3, a4⟩ := err_zero h1
  obtain ⟨b1, b2, b3, b4⟩ := err_zero h2
  obtain ⟨d1, d2, d3⟩ := done_law h1
  have hcp := cpts_some d1
  rw [hcp] at b3
  have he : twoE a b = 0 := by unfold twoE; rw [if_pos a1, if_pos b1, if_pos (by omega)]
  obtain ⟨f1, f2, f3, f4⟩ := two_facts he oa ob
  have hr := err_of hc a2 (by rw [f2]; exact a3)
  refine ⟨hr, ?_⟩
  have e1 : doneB s (twoN a b) = encs (doL (cpts s) (twoN a b)) := by unfold doneB; rw [if_pos hr]
  have e2 : doneB (doneB s a) b = encs (doL (cpts (doneB s a)) b) := by rw [show doneB (doneB s a) b = if errI (doneB s a) b = 0 then encs (doL (cpts (doneB s a)) b) else [] from rfl, if_pos h2]
  rw [e1, e2, hcp, f1 _ a3]
theorem two_of_do {s : List UInt8} {a b : List Cp} (h1 : errI s a = 0) (h2 : errI (doneB s a) b = 0) : twoE a b = 0 := by
  obtain ⟨a1, a2, a3, a4⟩ := err_zero h1
  obtain ⟨b1, b2, b3, b4⟩ := err_zero h2
  obtain ⟨d1, d2, d3⟩ := done_law h1
  rw [cpts_some d1] at b3
  unfold twoE; rw [if_pos a1, if_pos b1, if_pos (by omega)]
theorem does9_good : Rw.Good Tryd.prog 8 does9Con := by
  have hΓ : GoodEnv Tryd.prog [(35, trueCon), (16, weighCon), (22, doCon), (36, twoCon), (17, checkCon), (18, baseCon), (34, outCon), (40, keepCon), (33, sameCon)] := (goodEnv_cons awake9_good (goodEnv_cons weigh_good (goodEnv_cons do_good (goodEnv_cons two_good (goodEnv_cons check_good (goodEnv_cons base_good (goodEnv_cons out_good (goodEnv_cons keep_good (goodEnv_cons same_good goodEnv_nil)))))))))
  refine good_fn (nn := 206) hΓ Tryd.func8 (by kernel_rfl) rfl (show Tryd.f8.results.toList = [.tmp 8] from rfl) (fun _ => rfl) (fun _ => rfl) ?_
  rintro ⟨⟨s, hs⟩, ⟨a, ha, hca⟩, ⟨b, hb, hcb⟩, ⟨c, hc, hcc⟩⟩
  simp only [goRules, coreRules, tiRules, unRules, AS_of_eq, ← decide_not, N0, N1, N2, N3, N4, N5, Z0, Z1, Z2, Z3, Z4, Z5, Z6, Z7, Z8, Z9, Z10, Zc, ↓reduceIte, reduceCtorEq]
  by_cases h1 : (s.length : Int) > 500
  · simp only [goRules, coreRules, tiRules, unRules, AS_of_eq, ← decide_not, N0, N1, N2, N3, N4, N5, Z0, Z1, Z2, Z3, Z4, Z5, Z6, Z7, Z8, Z9, Z10, Zc, ↓reduceIte, reduceCtorEq, h1]
    refine call_awake9 (by simp [get_cons]) ?_
    simp only [goRules, coreRules, tiRules, unRules, AS_of_eq, ← decide_not, N0, N1, N2, N3, N4, N5, Z0, Z1, Z2, Z3, Z4, Z5, Z6, Z7, Z8, Z9, Z10, Zc, ↓reduceIte, reduceCtorEq]
  simp only [goRules, coreRules, tiRules, unRules, AS_of_eq, ← decide_not, N0, N1, N2, N3, N4, N5, Z0, Z1, Z2, Z3, Z4, Z5, Z6, Z7, Z8, Z9, Z10, Zc, ↓reduceIte, reduceCtorEq, h1]
  refine call_weigh (by simp [get_cons]) rfl ha (fun c h => (hca c h).2) (by omega) ?_
  by_cases h2 : compsF 1000 0 a > 1000
  · simp only [goRules, coreRules, tiRules, unRules, AS_of_eq, ← decide_not, N0, N1, N2, N3, N4, N5, Z0, Z1, Z2, Z3, Z4, Z5, Z6, Z7, Z8, Z9, Z10, Zc, ↓reduceIte, reduceCtorEq, h2]
    refine call_awake9 (by simp [get_cons]) ?_
    simp only [goRules, coreRules, tiRules, unRules, AS_of_eq, ← decide_not, N0, N1, N2, N3, N4, N5, Z0, Z1, Z2, Z3, Z4, Z5, Z6, Z7, Z8, Z9, Z10, Zc, ↓reduceIte, reduceCtorEq]
  simp only [goRules, coreRules, tiRules, unRules, AS_of_eq, ← decide_not, N0, N1, N2, N3, N4, N5, Z0, Z1, Z2, Z3, Z4, Z5, Z6, Z7, Z8, Z9, Z10, Zc, ↓reduceIte, reduceCtorEq, h2]
  refine call_weigh (by simp [get_cons]) rfl hb (fun c h => (hcb c h).2) (by omega) ?_
  by_cases h3 : compsF 1000 0 b > 1000
  · simp only [goRules, coreRules, tiRules, unRules, AS_of_eq, ← decide_not, N0, N1, N2, N3, N4, N5, Z0, Z1, Z2, Z3, Z4, Z5, Z6, Z7, Z8, Z9, Z10, Zc, ↓reduceIte, reduceCtorEq, h3]
    refine call_awake9 (by simp [get_cons]) ?_
    simp only [goRules, coreRules, tiRules, unRules, AS_of_eq, ← decide_not, N0, N1, N2, N3, N4, N5, Z0, Z1, Z2, Z3, Z4, Z5, Z6, Z7, Z8, Z9, Z10, Zc, ↓reduceIte, reduceCtorEq]
  simp only [goRules, coreRules, tiRules, unRules, AS_of_eq, ← decide_not, N0, N1, N2, N3, N4, N5, Z0, Z1, Z2, Z3, Z4, Z5, Z6, Z7, Z8, Z9, Z10, Zc, ↓reduceIte, reduceCtorEq, h3]
  refine call_weigh (by simp [get_cons]) rfl hc (fun c h => (hcc c h).2) (by omega) ?_
  by_cases h4 : compsF 1000 0 c > 1000
  · simp only [goRules, coreRules, tiRules, unRules, AS_of_eq, ← decide_not, N0, N1, N2, N3, N4, N5, Z0, Z1, Z2, Z3, Z4, Z5, Z6, Z7, Z8, Z9, Z10, Zc, ↓reduceIte, reduceCtorEq, h4]
    refine call_awake9 (by simp [get_cons]) ?_
    simp only [goRules, coreRules, tiRules, unRules, AS_of_eq, ← decide_not, N0, N1, N2, N3, N4, N5, Z0, Z1, Z2, Z3, Z4, Z5, Z6, Z7, Z8, Z9, Z10, Zc, ↓reduceIte, reduceCtorEq]
  obtain ⟨oa, hwa⟩ := weigh_ok (by omega) hca (show compsF 1000 0 a ≤ 1000 by omega)
  obtain ⟨ob, hwb⟩ := weigh_ok (by omega) hcb (show compsF 1000 0 b ≤ 1000 by omega)
  obtain ⟨oc, hwc⟩ := weigh_ok (by omega) hcc (show compsF 1000 0 c ≤ 1000 by omega)
  simp only [goRules, coreRules, tiRules, unRules, AS_of_eq, ← decide_not, N0, N1, N2, N3, N4, N5, Z0, Z1, Z2, Z3, Z4, Z5, Z6, Z7, Z8, Z9, Z10, Zc, ↓reduceIte, reduceCtorEq, h4]
  refine call_do (by simp [get_cons]) rfl (by omega) oa ?_
  have dx := done_small s a
  simp only [goRules, coreRules, tiRules, unRules, AS_of_eq, ← decide_not, N0, N1, N2, N3, N4, N5, Z0, Z1, Z2, Z3, Z4, Z5, Z6, Z7, Z8, Z9, Z10, Zc, ↓reduceIte, reduceCtorEq, doR, res2]
  refine call_do (by simp [get_cons]) rfl (by omega) ob ?_
  by_cases e1 : errI s a = 0
  case neg =>
    simp only [goRules, coreRules, tiRules, unRules, AS_of_eq, ← decide_not, N0, N1, N2, N3, N4, N5, Z0, Z1, Z2, Z3, Z4, Z5, Z6, Z7, Z8, Z9, Z10, Zc, ↓reduceIte, reduceCtorEq, doR, res2, e1]
    refine call_awake9 (by simp [get_cons]) ?_
    simp only [goRules, coreRules, tiRules, unRules, AS_of_eq, ← decide_not, N0, N1, N2, N3, N4, N5, Z0, Z1, Z2, Z3, Z4, Z5, Z6, Z7, Z8, Z9, Z10, Zc, ↓reduceIte, reduceCtorEq]
  by_cases e2 : errI (doneB s a) b = 0
  case neg =>
    simp only [goRules, coreRules, tiRules, unRules, AS_of_eq, ← decide_not, N0, N1, N2, N3, N4, N5, Z0, Z1, Z2, Z3, Z4, Z5, Z6, Z7, Z8, Z9, Z10, Zc, ↓reduceIte, reduceCtorEq, doR, res2, e1, e2]
    refine call_awake9 (by simp [get_cons]) ?_
    simp only [goRules, coreRules, tiRules, unRules, AS_of_eq, ← decide_not, N0, N1, N2, N3, N4, N5, Z0, Z1, Z2, Z3, Z4, Z5, Z6, Z7, Z8, Z9, Z10, Zc, ↓reduceIte, reduceCtorEq]
  have tab := two_of_do e1 e2
  obtain ⟨a1, a2, a3, a4⟩ := err_zero e1
  obtain ⟨b1, b2, b3, b4⟩ := err_zero e2
  obtain ⟨f1, f2, f3, f4⟩ := two_facts tab oa ob
  have oab := okL_two tab oa ob
  have cca := check_cases a1
  simp only [goRules, coreRules, tiRules, unRules, AS_of_eq, ← decide_not, N0, N1, N2, N3, N4, N5, Z0, Z1, Z2, Z3, Z4, Z5, Z6, Z7, Z8, Z9, Z10, Zc, ↓reduceIte, reduceCtorEq, doR, res2, e1, e2]
  refine call_two (by simp [get_cons]) rfl rfl oa ob ?_
  simp only [goRules, coreRules, tiRules, unRules, AS_of_eq, ← decide_not, N0, N1, N2, N3, N4, N5, Z0, Z1, Z2, Z3, Z4, Z5, Z6, Z7, Z8, Z9, Z10, Zc, ↓reduceIte, reduceCtorEq, two_zero tab, res2]
  refine call_check (by simp [get_cons]) rfl oab ?_
  obtain ⟨kl1, kl2⟩ := two_keepl a1 oa
  obtain ⟨kr1, kr2⟩ := two_keepr a1 oa
  have hbr := tn_pos a
  have hor : 0 ≤ outL a := by rw [(out_units a1).1]; omega
  have okb := okL_keep (n := baseL a) (by omega)
  have oko := okL_keep (n := outL a) (by omega)
  have rest : ∀ (σ : AS) (K : AS → Prop), True := fun _ _ => trivial
  by_cases c1 : checkI (twoN a b) = 0
  case neg =>
    simp only [goRules, coreRules, tiRules, unRules, AS_of_eq, ← decide_not, N0, N1, N2, N3, N4, N5, Z0, Z1, Z2, Z3, Z4, Z5, Z6, Z7, Z8, Z9, Z10, Zc, ↓reduceIte, reduceCtorEq, c1]
    refine call_base (by simp [get_cons]) rfl oa ?_
    simp only [goRules, coreRules, tiRules, unRules, AS_of_eq, ← decide_not, N0, N1, N2, N3, N4, N5, Z0, Z1, Z2, Z3, Z4, Z5, Z6, Z7, Z8, Z9, Z10, Zc, ↓reduceIte, reduceCtorEq]
    refine call_keep (by simp [get_cons]) (by omega) ?_
    simp only [goRules, coreRules, tiRules, unRules, AS_of_eq, ← decide_not, N0, N1, N2, N3, N4, N5, Z0, Z1, Z2, Z3, Z4, Z5, Z6, Z7, Z8, Z9, Z10, Zc, ↓reduceIte, reduceCtorEq]
    refine call_two (by simp [get_cons]) rfl rfl okb oa ?_
    simp only [goRules, coreRules, tiRules, unRules, AS_of_eq, ← decide_not, N0, N1, N2, N3, N4, N5, Z0, Z1, Z2, Z3, Z4, Z5, Z6, Z7, Z8, Z9, Z10, Zc, ↓reduceIte, reduceCtorEq, two_zero kl1, kl2, res2]
    refine call_out (by simp [get_cons]) rfl oa ?_
    simp only [goRules, coreRules, tiRules, unRules, AS_of_eq, ← decide_not, N0, N1, N2, N3, N4, N5, Z0, Z1, Z2, Z3, Z4, Z5, Z6, Z7, Z8, Z9, Z10, Zc, ↓reduceIte, reduceCtorEq]
    refine call_keep (by simp [get_cons]) (by omega) ?_
    simp only [goRules, coreRules, tiRules, unRules, AS_of_eq, ← decide_not, N0, N1, N2, N3, N4, N5, Z0, Z1, Z2, Z3, Z4, Z5, Z6, Z7, Z8, Z9, Z10, Zc, ↓reduceIte, reduceCtorEq]
    refine call_two (by simp [get_cons]) rfl rfl oa oko ?_
    simp only [goRules, coreRules, tiRules, unRules, AS_of_eq, ← decide_not, N0, N1, N2, N3, N4, N5, Z0, Z1, Z2, Z3, Z4, Z5, Z6, Z7, Z8, Z9, Z10, Zc, ↓reduceIte, reduceCtorEq, two_zero kr1, kr2, res2]
    refine call_same (by simp [get_cons]) rfl rfl (by omega) (by omega) ?_
    simp only [goRules, coreRules, tiRules, unRules, AS_of_eq, ← decide_not, N0, N1, N2, N3, N4, N5, Z0, Z1, Z2, Z3, Z4, Z5, Z6, Z7, Z8, Z9, Z10, Zc, ↓reduceIte, reduceCtorEq]
    refine call_same (by simp [get_cons]) rfl rfl (by omega) (by omega) ?_
    simp only [goRules, coreRules, tiRules, unRules, AS_of_eq, ← decide_not, N0, N1, N2, N3, N4, N5, Z0, Z1, Z2, Z3, Z4, Z5, Z6, Z7, Z8, Z9, Z10, Zc, ↓reduceIte, reduceCtorEq]
    refine call_two (by simp [get_cons]) rfl rfl ob oc ?_
    by_cases tbc : twoE b c = 0
    · simp only [goRules, coreRules, tiRules, unRules, AS_of_eq, ← decide_not, N0, N1, N2, N3, N4, N5, Z0, Z1, Z2, Z3, Z4, Z5, Z6, Z7, Z8, Z9, Z10, Zc, ↓reduceIte, reduceCtorEq, two_zero tbc, res2]
      refine call_check (by simp [get_cons]) rfl oab ?_
      simp only [goRules, coreRules, tiRules, unRules, AS_of_eq, ← decide_not, N0, N1, N2, N3, N4, N5, Z0, Z1, Z2, Z3, Z4, Z5, Z6, Z7, Z8, Z9, Z10, Zc, ↓reduceIte, reduceCtorEq, c1]
      refine call_awake9 (by simp [get_cons]) ?_
      simp only [goRules, coreRules, tiRules, unRules, AS_of_eq, ← decide_not, N0, N1, N2, N3, N4, N5, Z0, Z1, Z2, Z3, Z4, Z5, Z6, Z7, Z8, Z9, Z10, Zc, ↓reduceIte, reduceCtorEq]
    · simp only [goRules, coreRules, tiRules, unRules, AS_of_eq, ← decide_not, N0, N1, N2, N3, N4, N5, Z0, Z1, Z2, Z3, Z4, Z5, Z6, Z7, Z8, Z9, Z10, Zc, ↓reduceIte, reduceCtorEq, two_err tbc, res2, tbc]
      refine call_awake9 (by simp [get_cons]) ?_
      simp only [goRules, coreRules, tiRules, unRules, AS_of_eq, ← decide_not, N0, N1, N2, N3, N4, N5, Z0, Z1, Z2, Z3, Z4, Z5, Z6, Z7, Z8, Z9, Z10, Zc, ↓reduceIte, reduceCtorEq]
  obtain ⟨g1, g2⟩ := do_two e1 e2 oa ob c1
  simp only [goRules, coreRules, tiRules, unRules, AS_of_eq, ← decide_not, N0, N1, N2, N3, N4, N5, Z0, Z1, Z2, Z3, Z4, Z5, Z6, Z7, Z8, Z9, Z10, Zc, ↓reduceIte, reduceCtorEq, c1]
  refine call_do (by simp [get_cons]) rfl (by omega) oab ?_
  simp only [goRules, coreRules, tiRules, unRules, AS_of_eq, ← decide_not, N0, N1, N2, N3, N4, N5, Z0, Z1, Z2, Z3, Z4, Z5, Z6, Z7, Z8, Z9, Z10, Zc, ↓reduceIte, reduceCtorEq, doR, res2, g1, g2]
  refine call_base (by simp [get_cons]) rfl oa ?_
  simp only [goRules, coreRules, tiRules, unRules, AS_of_eq, ← decide_not, N0, N1, N2, N3, N4, N5, Z0, Z1, Z2, Z3, Z4, Z5, Z6, Z7, Z8, Z9, Z10, Zc, ↓reduceIte, reduceCtorEq]
  refine call_keep (by simp [get_cons]) (by omega) ?_
  simp only [goRules, coreRules, tiRules, unRules, AS_of_eq, ← decide_not, N0, N1, N2, N3, N4, N5, Z0, Z1, Z2, Z3, Z4, Z5, Z6, Z7, Z8, Z9, Z10, Zc, ↓reduceIte, reduceCtorEq]
  refine call_two (by simp [get_cons]) rfl rfl okb oa ?_
  simp only [goRules, coreRules, tiRules, unRules, AS_of_eq, ← decide_not, N0, N1, N2, N3, N4, N5, Z0, Z1, Z2, Z3, Z4, Z5, Z6, Z7, Z8, Z9, Z10, Zc, ↓reduceIte, reduceCtorEq, two_zero kl1, kl2, res2]
  refine call_out (by simp [get_cons]) rfl oa ?_
  simp only [goRules, coreRules, tiRules, unRules, AS_of_eq, ← decide_not, N0, N1, N2, N3, N4, N5, Z0, Z1, Z2, Z3, Z4, Z5, Z6, Z7, Z8, Z9, Z10, Zc, ↓reduceIte, reduceCtorEq]
  refine call_keep (by simp [get_cons]) (by omega) ?_
  simp only [goRules, coreRules, tiRules, unRules, AS_of_eq, ← decide_not, N0, N1, N2, N3, N4, N5, Z0, Z1, Z2, Z3, Z4, Z5, Z6, Z7, Z8, Z9, Z10, Zc, ↓reduceIte, reduceCtorEq]
  refine call_two (by simp [get_cons]) rfl rfl oa oko ?_
  simp only [goRules, coreRules, tiRules, unRules, AS_of_eq, ← decide_not, N0, N1, N2, N3, N4, N5, Z0, Z1, Z2, Z3, Z4, Z5, Z6, Z7, Z8, Z9, Z10, Zc, ↓reduceIte, reduceCtorEq, two_zero kr1, kr2, res2]
  refine call_same (by simp [get_cons]) rfl rfl (by omega) (by omega) ?_
  simp only [goRules, coreRules, tiRules, unRules, AS_of_eq, ← decide_not, N0, N1, N2, N3, N4, N5, Z0, Z1, Z2, Z3, Z4, Z5, Z6, Z7, Z8, Z9, Z10, Zc, ↓reduceIte, reduceCtorEq]
  refine call_same (by simp [get_cons]) rfl rfl (by omega) (by omega) ?_
  simp only [goRules, coreRules, tiRules, unRules, AS_of_eq, ← decide_not, N0, N1, N2, N3, N4, N5, Z0, Z1, Z2, Z3, Z4, Z5, Z6, Z7, Z8, Z9, Z10, Zc, ↓reduceIte, reduceCtorEq]
  refine call_two (by simp [get_cons]) rfl rfl ob oc ?_
  by_cases tbc : twoE b c = 0
  case neg =>
    simp only [goRules, coreRules, tiRules, unRules, AS_of_eq, ← decide_not, N0, N1, N2, N3, N4, N5, Z0, Z1, Z2, Z3, Z4, Z5, Z6, Z7, Z8, Z9, Z10, Zc, ↓reduceIte, reduceCtorEq, two_err tbc, res2, tbc]
    refine call_awake9 (by simp [get_cons]) ?_
    simp only [goRules, coreRules, tiRules, unRules, AS_of_eq, ← decide_not, N0, N1, N2, N3, N4, N5, Z0, Z1, Z2, Z3, Z4, Z5, Z6, Z7, Z8, Z9, Z10, Zc, ↓reduceIte, reduceCtorEq]
  obtain ⟨u1, u2, u3⟩ := twoE_zero tbc
  obtain ⟨k1, k2, k3, k4⟩ := two_facts tbc ob oc
  have obc := okL_two tbc ob oc
  simp only [goRules, coreRules, tiRules, unRules, AS_of_eq, ← decide_not, N0, N1, N2, N3, N4, N5, Z0, Z1, Z2, Z3, Z4, Z5, Z6, Z7, Z8, Z9, Z10, Zc, ↓reduceIte, reduceCtorEq, two_zero tbc, res2]
  refine call_check (by simp [get_cons]) rfl oab ?_
  simp only [goRules, coreRules, tiRules, unRules, AS_of_eq, ← decide_not, N0, N1, N2, N3, N4, N5, Z0, Z1, Z2, Z3, Z4, Z5, Z6, Z7, Z8, Z9, Z10, Zc, ↓reduceIte, reduceCtorEq, c1]
  refine call_check (by simp [get_cons]) rfl obc ?_
  by_cases c2 : checkI (twoN b c) = 0
  case neg =>
    simp only [goRules, coreRules, tiRules, unRules, AS_of_eq, ← decide_not, N0, N1, N2, N3, N4, N5, Z0, Z1, Z2, Z3, Z4, Z5, Z6, Z7, Z8, Z9, Z10, Zc, ↓reduceIte, reduceCtorEq, c2]
    refine call_awake9 (by simp [get_cons]) ?_
    simp only [goRules, coreRules, tiRules, unRules, AS_of_eq, ← decide_not, N0, N1, N2, N3, N4, N5, Z0, Z1, Z2, Z3, Z4, Z5, Z6, Z7, Z8, Z9, Z10, Zc, ↓reduceIte, reduceCtorEq]
  have t1 : twoE (twoN a b) c = 0 := by unfold twoE; rw [if_pos c1, if_pos u2, if_pos (by omega)]
  have t2 : twoE a (twoN b c) = 0 := by unfold twoE; rw [if_pos a1, if_pos c2, if_pos (by have := (twoE_zero tab).2.2; omega)]
  have o1 := okL_two t1 oab oc
  have o2 := okL_two t2 oa obc
  simp only [goRules, coreRules, tiRules, unRules, AS_of_eq, ← decide_not, N0, N1, N2, N3, N4, N5, Z0, Z1, Z2, Z3, Z4, Z5, Z6, Z7, Z8, Z9, Z10, Zc, ↓reduceIte, reduceCtorEq, c2]
  refine call_two (by simp [get_cons]) rfl rfl oab oc ?_
  simp only [goRules, coreRules, tiRules, unRules, AS_of_eq, ← decide_not, N0, N1, N2, N3, N4, N5, Z0, Z1, Z2, Z3, Z4, Z5, Z6, Z7, Z8, Z9, Z10, Zc, ↓reduceIte, reduceCtorEq, two_zero t1, res2]
  refine call_two (by simp [get_cons]) rfl rfl oa obc ?_
  simp only [goRules, coreRules, tiRules, unRules, AS_of_eq, ← decide_not, N0, N1, N2, N3, N4, N5, Z0, Z1, Z2, Z3, Z4, Z5, Z6, Z7, Z8, Z9, Z10, Zc, ↓reduceIte, reduceCtorEq, two_zero t2, res2]
  refine call_check (by simp [get_cons]) rfl o1 ?_
  by_cases c3 : checkI (twoN (twoN a b) c) = 0
  case neg =>
    simp only [goRules, coreRules, tiRules, unRules, AS_of_eq, ← decide_not, N0, N1, N2, N3, N4, N5, Z0, Z1, Z2, Z3, Z4, Z5, Z6, Z7, Z8, Z9, Z10, Zc, ↓reduceIte, reduceCtorEq, c3]
    refine call_awake9 (by simp [get_cons]) ?_
    simp only [goRules, coreRules, tiRules, unRules, AS_of_eq, ← decide_not, N0, N1, N2, N3, N4, N5, Z0, Z1, Z2, Z3, Z4, Z5, Z6, Z7, Z8, Z9, Z10, Zc, ↓reduceIte, reduceCtorEq]
  simp only [goRules, coreRules, tiRules, unRules, AS_of_eq, ← decide_not, N0, N1, N2, N3, N4, N5, Z0, Z1, Z2, Z3, Z4, Z5, Z6, Z7, Z8, Z9, Z10, Zc, ↓reduceIte, reduceCtorEq, c3]
  refine call_check (by simp [get_cons]) rfl o2 ?_
  by_cases c4 : checkI (twoN a (twoN b c)) = 0
  case neg =>
    simp only [goRules, coreRules, tiRules, unRules, AS_of_eq, ← decide_not, N0, N1, N2, N3, N4, N5, Z0, Z1, Z2, Z3, Z4, Z5, Z6, Z7, Z8, Z9, Z10, Zc, ↓reduceIte, reduceCtorEq, c4]
    refine call_awake9 (by simp [get_cons]) ?_
    simp only [goRules, coreRules, tiRules, unRules, AS_of_eq, ← decide_not, N0, N1, N2, N3, N4, N5, Z0, Z1, Z2, Z3, Z4, Z5, Z6, Z7, Z8, Z9, Z10, Zc, ↓reduceIte, reduceCtorEq]
  -- what the two do
  have dxl := done_law e1
  have dyl := done_law e2
  have e3 : errI (doneB (doneB s a) b) c = 0 := err_of u2 dyl.1 (by omega)
  have e4 : errI (doneB s (twoN a b)) c = 0 := by rw [g2]; exact e3
  obtain ⟨v1, v2⟩ := do_two g1 e4 oab oc c3
  have e5 : errI (doneB s a) (twoN b c) = 0 := err_of c2 dxl.1 (by have := (twoE_zero tab).2.2; omega)
  obtain ⟨w1, w2⟩ := do_two e1 e5 oa obc c4
  obtain ⟨x1, x2⟩ := do_two e2 e3 ob oc c2
  rw [g2] at v2
  rw [x2] at w2
  simp only [goRules, coreRules, tiRules, unRules, AS_of_eq, ← decide_not, N0, N1, N2, N3, N4, N5, Z0, Z1, Z2, Z3, Z4, Z5, Z6, Z7, Z8, Z9, Z10, Zc, ↓reduceIte, reduceCtorEq, c4]
  refine call_do (by simp [get_cons]) rfl (by omega) o1 ?_
  simp only [goRules, coreRules, tiRules, unRules, AS_of_eq, ← decide_not, N0, N1, N2, N3, N4, N5, Z0, Z1, Z2, Z3, Z4, Z5, Z6, Z7, Z8, Z9, Z10, Zc, ↓reduceIte, reduceCtorEq, doR, res2, v1, v2]
  refine call_do (by simp [get_cons]) rfl (by omega) o2 ?_
  simp only [goRules, coreRules, tiRules, unRules, AS_of_eq, ← decide_not, N0, N1, N2, N3, N4, N5, Z0, Z1, Z2, Z3, Z4, Z5, Z6, Z7, Z8, Z9, Z10, Zc, ↓reduceIte, reduceCtorEq, doR, res2, w1, w2]
  refine call_awake9 (by simp [get_cons]) ?_
  simp only [goRules, coreRules, tiRules, unRules, AS_of_eq, ← decide_not, N0, N1, N2, N3, N4, N5, Z0, Z1, Z2, Z3, Z4, Z5, Z6, Z7, Z8, Z9, Z10, Zc, ↓reduceIte, reduceCtorEq]
end Go.Proofs
end
