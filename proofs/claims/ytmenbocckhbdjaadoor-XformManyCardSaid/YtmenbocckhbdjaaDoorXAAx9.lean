/-
  XformMany answers true.
-/
import Derived.Test.YtmenbocckhbdjaaDoorXAAx7
set_option linter.unusedSimpArgs false
set_option linter.unusedVariables false
set_option linter.defProp false

-- AAx9
section
namespace Go.Proofs
open Go Go.Rw
open _root_.Nat renaming reduceAdd → N0, reduceSub → N1, reduceMul → N2, reduceLT → N3, reduceLeDiff → N4, reduceEqDiff → N5
open _root_.Int renaming reduceNeg → Z0, reduceAdd → Z1, reduceSub → Z2, reduceMul → Z3, reduceGT → Z4, reduceGE → Z5, reduceLT → Z6, reduceLE → Z7, reduceEq → Z8, reduceNe → Z9, reduceToNat → Z10, cast_ofNat_Int → Zc
set_option maxRecDepth 100000
set_option linter.unusedSimpArgs false
set_option linter.unusedVariables false

theorem call_many_t {Γ : Env} {f : Nat} (hf : Γ.get f = some manyCon) {n : Nat} {t : Nat → AV} {hd : Nat → Nat → AV} {nh nl : Nat} {h : Nat → Option AO} {fm : Nat → Nat} {lv : Nat → Option (Nat × Nat)} {mu : Bool} {a : List Cp} {l : List (List Cp)} {fi : Bool} {t2 : Nat} {ys zs : List AV} {d : Option Nat} {K : AS → Prop} (h2 : 2 ≤ t2) (hy : ys = comps a) (hz : zs = edits l) (oa : okL a) (hl : l.length ≤ 1099511627776) (ho : ∀ x ∈ l, okL x)
    (hk : cont ⟨n, t, hd, ⟨nh, h, nl, fm, kill fm [t2] lv, mu⟩⟩ d (res2 (.sl 0 3 (comps (manyS fi a l).1)) (manyS fi a l).2) K) : vcCall Tryd.prog Γ false ⟨n, t, hd, ⟨nh, h, nl, fm, lv, mu⟩⟩ f [.sl 0 3 ys, .sl t2 1 zs, .v (.bool fi)] d K := by
  subst hy hz
  refine vcCall_none (C := manyCon) (i := (⟨a, oa⟩, ⟨l, hl, ho⟩, fi)) hf rfl rfl rfl rfl (ts := [t2]) ?_ ?_
  · simp [AV.tagsL, AV.tags, h2]
  · rintro r rfl
    exact hk
abbrev many10Con : Con where
  ι := StrM × Given × Given × Given × Bool
  args := fun p => [.v (sv p.1.1), .sl 0 3 (comps p.2.1.1), .sl 0 3 (comps p.2.2.1.1), .sl 0 3 (comps p.2.2.2.1.1), .v (.bool p.2.2.2.2)]
  post := fun _ r => r = .v (.bool true)
  plain := true
theorem many10_good : Rw.Good Tryd.prog 14 many10Con := by
  have hΓ : GoodEnv Tryd.prog [(42, trueCon), (16, weighCon), (22, doCon), (43, overCon), (46, manyCon), (17, checkCon), (18, baseCon), (21, rcountCon), (26, validCon)] := (goodEnv_cons awake10_good (goodEnv_cons weigh_good (goodEnv_cons do_good (goodEnv_cons over_good (goodEnv_cons many_good (goodEnv_cons check_good (goodEnv_cons base_good (goodEnv_cons rcount_good (goodEnv_cons rvalid_good goodEnv_nil)))))))))
  refine good_fn (nn := 134) hΓ Tryd.func14 (by kernel_rfl) rfl (show Tryd.f14.results.toList = [.tmp 10] from rfl) (fun _ => rfl) (fun _ => rfl) ?_
  rintro ⟨⟨s, hs⟩, ⟨a, ha, hca⟩, ⟨b, hb, hcb⟩, ⟨c, hc, hcc⟩, f⟩
  simp only [goRules, coreRules, tiRules, unRules, AS_of_eq, ← decide_not, N0, N1, N2, N3, N4, N5, Z0, Z1, Z2, Z3, Z4, Z5, Z6, Z7, Z8, Z9, Z10, Zc, ↓reduceIte, reduceCtorEq]
  by_cases h1 : (s.length : Int) > 400
  · simp only [goRules, coreRules, tiRules, unRules, AS_of_eq, ← decide_not, N0, N1, N2, N3, N4, N5, Z0, Z1, Z2, Z3, Z4, Z5, Z6, Z7, Z8, Z9, Z10, Zc, ↓reduceIte, reduceCtorEq, h1]
    refine call_awake10 (by simp [get_cons]) ?_
    simp only [goRules, coreRules, tiRules, unRules, AS_of_eq, ← decide_not, N0, N1, N2, N3, N4, N5, Z0, Z1, Z2, Z3, Z4, Z5, Z6, Z7, Z8, Z9, Z10, Zc, ↓reduceIte, reduceCtorEq]
  simp only [goRules, coreRules, tiRules, unRules, AS_of_eq, ← decide_not, N0, N1, N2, N3, N4, N5, Z0, Z1, Z2, Z3, Z4, Z5, Z6, Z7, Z8, Z9, Z10, Zc, ↓reduceIte, reduceCtorEq, h1]
  refine call_weigh (by simp [get_cons]) rfl ha (fun c h => (hca c h).2) (by omega) ?_
  by_cases h2 : compsF 600 0 a > 600
  · simp only [goRules, coreRules, tiRules, unRules, AS_of_eq, ← decide_not, N0, N1, N2, N3, N4, N5, Z0, Z1, Z2, Z3, Z4, Z5, Z6, Z7, Z8, Z9, Z10, Zc, ↓reduceIte, reduceCtorEq, h2]
    refine call_awake10 (by simp [get_cons]) ?_
    simp only [goRules, coreRules, tiRules, unRules, AS_of_eq, ← decide_not, N0, N1, N2, N3, N4, N5, Z0, Z1, Z2, Z3, Z4, Z5, Z6, Z7, Z8, Z9, Z10, Zc, ↓reduceIte, reduceCtorEq]
  simp only [goRules, coreRules, tiRules, unRules, AS_of_eq, ← decide_not, N0, N1, N2, N3, N4, N5, Z0, Z1, Z2, Z3, Z4, Z5, Z6, Z7, Z8, Z9, Z10, Zc, ↓reduceIte, reduceCtorEq, h2]
  refine call_weigh (by simp [get_cons]) rfl hb (fun c h => (hcb c h).2) (by omega) ?_
  by_cases h3 : compsF 600 0 b > 600
  · simp only [goRules, coreRules, tiRules, unRules, AS_of_eq, ← decide_not, N0, N1, N2, N3, N4, N5, Z0, Z1, Z2, Z3, Z4, Z5, Z6, Z7, Z8, Z9, Z10, Zc, ↓reduceIte, reduceCtorEq, h3]
    refine call_awake10 (by simp [get_cons]) ?_
    simp only [goRules, coreRules, tiRules, unRules, AS_of_eq, ← decide_not, N0, N1, N2, N3, N4, N5, Z0, Z1, Z2, Z3, Z4, Z5, Z6, Z7, Z8, Z9, Z10, Zc, ↓reduceIte, reduceCtorEq]
  simp only [goRules, coreRules, tiRules, unRules, AS_of_eq, ← decide_not, N0, N1, N2, N3, N4, N5, Z0, Z1, Z2, Z3, Z4, Z5, Z6, Z7, Z8, Z9, Z10, Zc, ↓reduceIte, reduceCtorEq, h3]
  refine call_weigh (by simp [get_cons]) rfl hc (fun c h => (hcc c h).2) (by omega) ?_
  by_cases h4 : compsF 600 0 c > 600
  · simp only [goRules, coreRules, tiRules, unRules, AS_of_eq, ← decide_not, N0, N1, N2, N3, N4, N5, Z0, Z1, Z2, Z3, Z4, Z5, Z6, Z7, Z8, Z9, Z10, Zc, ↓reduceIte, reduceCtorEq, h4]
    refine call_awake10 (by simp [get_cons]) ?_
    simp only [goRules, coreRules, tiRules, unRules, AS_of_eq, ← decide_not, N0, N1, N2, N3, N4, N5, Z0, Z1, Z2, Z3, Z4, Z5, Z6, Z7, Z8, Z9, Z10, Zc, ↓reduceIte, reduceCtorEq]
  obtain ⟨oa, hwa⟩ := weigh_ok (by omega) hca (show compsF 600 0 a ≤ 600 by omega)
  obtain ⟨ob, hwb⟩ := weigh_ok (by omega) hcb (show compsF 600 0 b ≤ 600 by omega)
  obtain ⟨oc, hwc⟩ := weigh_ok (by omega) hcc (show compsF 600 0 c ≤ 600 by omega)
  have da := done_small s a
  have db := done_small s b
  simp only [goRules, coreRules, tiRules, unRules, AS_of_eq, ← decide_not, N0, N1, N2, N3, N4, N5, Z0, Z1, Z2, Z3, Z4, Z5, Z6, Z7, Z8, Z9, Z10, Zc, ↓reduceIte, reduceCtorEq, h4]
  refine call_do (by simp [get_cons]) rfl (by omega) oa ?_
  simp only [goRules, coreRules, tiRules, unRules, AS_of_eq, ← decide_not, N0, N1, N2, N3, N4, N5, Z0, Z1, Z2, Z3, Z4, Z5, Z6, Z7, Z8, Z9, Z10, Zc, ↓reduceIte, reduceCtorEq, doR, res2]
  refine call_do (by simp [get_cons]) rfl (by omega) ob ?_
  simp only [goRules, coreRules, tiRules, unRules, AS_of_eq, ← decide_not, N0, N1, N2, N3, N4, N5, Z0, Z1, Z2, Z3, Z4, Z5, Z6, Z7, Z8, Z9, Z10, Zc, ↓reduceIte, reduceCtorEq, doR, res2]
  refine call_do (by simp [get_cons]) rfl (by omega) oc ?_
  simp only [goRules, coreRules, tiRules, unRules, AS_of_eq, ← decide_not, N0, N1, N2, N3, N4, N5, Z0, Z1, Z2, Z3, Z4, Z5, Z6, Z7, Z8, Z9, Z10, Zc, ↓reduceIte, reduceCtorEq, doR, res2]
  by_cases e1 : errI s a = 0
  case neg =>
    simp only [goRules, coreRules, tiRules, unRules, AS_of_eq, ← decide_not, N0, N1, N2, N3, N4, N5, Z0, Z1, Z2, Z3, Z4, Z5, Z6, Z7, Z8, Z9, Z10, Zc, ↓reduceIte, reduceCtorEq, e1]
    refine call_awake10 (by simp [get_cons]) ?_
    simp only [goRules, coreRules, tiRules, unRules, AS_of_eq, ← decide_not, N0, N1, N2, N3, N4, N5, Z0, Z1, Z2, Z3, Z4, Z5, Z6, Z7, Z8, Z9, Z10, Zc, ↓reduceIte, reduceCtorEq]
  by_cases e2 : errI s b = 0
  case neg =>
    simp only [goRules, coreRules, tiRules, unRules, AS_of_eq, ← decide_not, N0, N1, N2, N3, N4, N5, Z0, Z1, Z2, Z3, Z4, Z5, Z6, Z7, Z8, Z9, Z10, Zc, ↓reduceIte, reduceCtorEq, e1, e2]
    refine call_awake10 (by simp [get_cons]) ?_
    simp only [goRules, coreRules, tiRules, unRules, AS_of_eq, ← decide_not, N0, N1, N2, N3, N4, N5, Z0, Z1, Z2, Z3, Z4, Z5, Z6, Z7, Z8, Z9, Z10, Zc, ↓reduceIte, reduceCtorEq]
  by_cases e3 : errI (doneB s b) c = 0
  case neg =>
    simp only [goRules, coreRules, tiRules, unRules, AS_of_eq, ← decide_not, N0, N1, N2, N3, N4, N5, Z0, Z1, Z2, Z3, Z4, Z5, Z6, Z7, Z8, Z9, Z10, Zc, ↓reduceIte, reduceCtorEq, e1, e2, e3]
    refine call_awake10 (by simp [get_cons]) ?_
    simp only [goRules, coreRules, tiRules, unRules, AS_of_eq, ← decide_not, N0, N1, N2, N3, N4, N5, Z0, Z1, Z2, Z3, Z4, Z5, Z6, Z7, Z8, Z9, Z10, Zc, ↓reduceIte, reduceCtorEq]
  obtain ⟨a1, a2, a3, a4⟩ := err_zero e1
  obtain ⟨b1, b2, b3, b4⟩ := err_zero e2
  obtain ⟨c1, c2, c3, c4⟩ := err_zero e3
  obtain ⟨p1, p2, p3⟩ := done_law e2
  obtain ⟨q1, q2, q3⟩ := done_law e3
  have dc := done_small (doneB s b) c
  have he := ovE_of a1 b1 (by omega)
  obtain ⟨f1, f2, f3, f4⟩ := ov_facts f he oa ob
  rw [cpts_some p1] at c3
  simp only [goRules, coreRules, tiRules, unRules, AS_of_eq, ← decide_not, N0, N1, N2, N3, N4, N5, Z0, Z1, Z2, Z3, Z4, Z5, Z6, Z7, Z8, Z9, Z10, Zc, ↓reduceIte, reduceCtorEq, e1, e2, e3, List.map_cons, List.map_nil]
  refine call_many_t (l := [b, c]) (by simp [get_cons]) (by omega) rfl rfl oa (by simp) (by simp [ob, oc]) ?_
  have hM : manyS f a [b, c] = if ovE (ovN f a b) c = 0 then (ovN f (ovN f a b) c, 0) else ([], ovE (ovN f a b) c) := by
    simp only [manyS]; rw [if_pos he]
  by_cases g1 : ovE (ovN f a b) c = 0
  case neg =>
    rw [if_neg g1] at hM
    have g2 : ¬ checkI (ovN f a b) = 0 := fun h => g1 (ovE_of h c1 (by omega))
    simp only [goRules, coreRules, tiRules, unRules, AS_of_eq, ← decide_not, N0, N1, N2, N3, N4, N5, Z0, Z1, Z2, Z3, Z4, Z5, Z6, Z7, Z8, Z9, Z10, Zc, ↓reduceIte, reduceCtorEq, hM, res2, g1]
    refine call_over (by simp [get_cons]) rfl rfl oa ob ?_
    simp only [goRules, coreRules, tiRules, unRules, AS_of_eq, ← decide_not, N0, N1, N2, N3, N4, N5, Z0, Z1, Z2, Z3, Z4, Z5, Z6, Z7, Z8, Z9, Z10, Zc, ↓reduceIte, reduceCtorEq, ovR_zero he, res2, g1]
    refine call_check (by simp [get_cons]) rfl f4 ?_
    simp only [goRules, coreRules, tiRules, unRules, AS_of_eq, ← decide_not, N0, N1, N2, N3, N4, N5, Z0, Z1, Z2, Z3, Z4, Z5, Z6, Z7, Z8, Z9, Z10, Zc, ↓reduceIte, reduceCtorEq, g2, g1]
    refine call_awake10 (by simp [get_cons]) ?_
    simp only [goRules, coreRules, tiRules, unRules, AS_of_eq, ← decide_not, N0, N1, N2, N3, N4, N5, Z0, Z1, Z2, Z3, Z4, Z5, Z6, Z7, Z8, Z9, Z10, Zc, ↓reduceIte, reduceCtorEq]
  rw [if_pos g1] at hM
  obtain ⟨k1, k2, k3, k4⟩ := ov_facts f g1 f4 oc
  simp only [goRules, coreRules, tiRules, unRules, AS_of_eq, ← decide_not, N0, N1, N2, N3, N4, N5, Z0, Z1, Z2, Z3, Z4, Z5, Z6, Z7, Z8, Z9, Z10, Zc, ↓reduceIte, reduceCtorEq, hM, res2]
  refine call_over (by simp [get_cons]) rfl rfl oa ob ?_
  simp only [goRules, coreRules, tiRules, unRules, AS_of_eq, ← decide_not, N0, N1, N2, N3, N4, N5, Z0, Z1, Z2, Z3, Z4, Z5, Z6, Z7, Z8, Z9, Z10, Zc, ↓reduceIte, reduceCtorEq, ovR_zero he, res2]
  refine call_check (by simp [get_cons]) rfl k4 ?_
  by_cases g2 : checkI (ovN f (ovN f a b) c) = 0
  case neg =>
    simp only [goRules, coreRules, tiRules, unRules, AS_of_eq, ← decide_not, N0, N1, N2, N3, N4, N5, Z0, Z1, Z2, Z3, Z4, Z5, Z6, Z7, Z8, Z9, Z10, Zc, ↓reduceIte, reduceCtorEq, g2]
    refine call_awake10 (by simp [get_cons]) ?_
    simp only [goRules, coreRules, tiRules, unRules, AS_of_eq, ← decide_not, N0, N1, N2, N3, N4, N5, Z0, Z1, Z2, Z3, Z4, Z5, Z6, Z7, Z8, Z9, Z10, Zc, ↓reduceIte, reduceCtorEq]
  have hr := err_of g2 q1 (by rw [k2]; omega)
  obtain ⟨r1, r2, r3⟩ := done_law hr
  have dd := done_small (doneB (doneB s b) c) (ovN f (ovN f a b) c)
  simp only [goRules, coreRules, tiRules, unRules, AS_of_eq, ← decide_not, N0, N1, N2, N3, N4, N5, Z0, Z1, Z2, Z3, Z4, Z5, Z6, Z7, Z8, Z9, Z10, Zc, ↓reduceIte, reduceCtorEq, g2]
  refine call_do (by simp [get_cons]) rfl (by omega) k4 ?_
  simp only [goRules, coreRules, tiRules, unRules, AS_of_eq, ← decide_not, N0, N1, N2, N3, N4, N5, Z0, Z1, Z2, Z3, Z4, Z5, Z6, Z7, Z8, Z9, Z10, Zc, ↓reduceIte, reduceCtorEq, doR, res2, hr]
  refine call_rvalid (by simp [get_cons]) (by omega) ?_
  simp only [goRules, coreRules, tiRules, unRules, AS_of_eq, ← decide_not, N0, N1, N2, N3, N4, N5, Z0, Z1, Z2, Z3, Z4, Z5, Z6, Z7, Z8, Z9, Z10, Zc, ↓reduceIte, reduceCtorEq, rvalidR, r1, Option.isSome_some]
  refine call_base (by simp [get_cons]) rfl k4 ?_
  simp only [goRules, coreRules, tiRules, unRules, AS_of_eq, ← decide_not, N0, N1, N2, N3, N4, N5, Z0, Z1, Z2, Z3, Z4, Z5, Z6, Z7, Z8, Z9, Z10, Zc, ↓reduceIte, reduceCtorEq]
  refine call_rcount (by simp [get_cons]) (by omega) ?_
  have hcnt := cnt_pts q1
  simp only [goRules, coreRules, tiRules, unRules, AS_of_eq, ← decide_not, N0, N1, N2, N3, N4, N5, Z0, Z1, Z2, Z3, Z4, Z5, Z6, Z7, Z8, Z9, Z10, Zc, ↓reduceIte, reduceCtorEq, k2, show outL c = (cnt (doneB (doneB s b) c) : Int) by omega]
  refine call_awake10 (by simp [get_cons]) ?_
  simp only [goRules, coreRules, tiRules, unRules, AS_of_eq, ← decide_not, N0, N1, N2, N3, N4, N5, Z0, Z1, Z2, Z3, Z4, Z5, Z6, Z7, Z8, Z9, Z10, Zc, ↓reduceIte, reduceCtorEq]
end Go.Proofs
end
