/-
  XformMeets answers true.
-/
import Derived.Test.YtmenbocckhbdjaaDoorXAAx4
import Derived.Test.YtmenbocckhbdjaaDoorXAAw10
set_option linter.unusedSimpArgs false
set_option linter.unusedVariables false
set_option linter.defProp false

-- AAx5
section
namespace Go.Proofs
open Go Go.Rw
open _root_.Nat renaming reduceAdd → N0, reduceSub → N1, reduceMul → N2, reduceLT → N3, reduceLeDiff → N4, reduceEqDiff → N5
open _root_.Int renaming reduceNeg → Z0, reduceAdd → Z1, reduceSub → Z2, reduceMul → Z3, reduceGT → Z4, reduceGE → Z5, reduceLT → Z6, reduceLE → Z7, reduceEq → Z8, reduceNe → Z9, reduceToNat → Z10, cast_ofNat_Int → Zc
set_option maxRecDepth 100000
set_option linter.unusedSimpArgs false
set_option linter.unusedVariables false

theorem comp_get (a b c : AV) (d : Nat) (h : d = 0) : [a, b, c].getD d .any = a := by subst h; rfl
theorem ov_a : ovE [⟨2, 0, [120]⟩] [⟨2, 0, [121]⟩] = 0 ∧ ovN true [⟨2, 0, [120]⟩] [⟨2, 0, [121]⟩] = [⟨2, 0, [120]⟩, ⟨1, 1, []⟩] ∧ ovN false [⟨2, 0, [120]⟩] [⟨2, 0, [121]⟩] = [⟨1, 1, []⟩, ⟨2, 0, [120]⟩] ∧ ovE [⟨2, 0, [120]⟩] [⟨1, 3, []⟩] = 11 := by decide +kernel
theorem call_over_t {Γ : Env} {f : Nat} (hf : Γ.get f = some overCon) {n : Nat} {t : Nat → AV} {hd : Nat → Nat → AV} {nh nl : Nat} {h : Nat → Option AO} {fm : Nat → Nat} {lv : Nat → Option (Nat × Nat)} {mu : Bool} {a b : List Cp} {fi : Bool} {t1 t2 : Nat} {ys zs : List AV} {d : Option Nat} {K : AS → Prop} (h1 : 2 ≤ t1) (h2 : 2 ≤ t2) (hy : ys = comps a) (hz : zs = comps b) (oa : okL a) (ob : okL b)
    (hk : cont ⟨n, t, hd, ⟨nh, h, nl, fm, kill fm [t1, t2] lv, mu⟩⟩ d (ovR fi a b) K) : vcCall Tryd.prog Γ false ⟨n, t, hd, ⟨nh, h, nl, fm, lv, mu⟩⟩ f [.sl t1 3 ys, .sl t2 3 zs, .v (.bool fi)] d K := by
  subst hy hz
  refine vcCall_none (C := overCon) (i := (⟨a, oa⟩, ⟨b, ob⟩, fi)) hf rfl rfl rfl rfl (ts := [t1, t2]) ?_ ?_
  · simp [AV.tagsL, AV.tags, h1, h2]
  · rintro r rfl
    rw [ovR_er]
    exact hk
theorem call_over_t1 {Γ : Env} {f : Nat} (hf : Γ.get f = some overCon) {n : Nat} {t : Nat → AV} {hd : Nat → Nat → AV} {nh nl : Nat} {h : Nat → Option AO} {fm : Nat → Nat} {lv : Nat → Option (Nat × Nat)} {mu : Bool} {a b : List Cp} {fi : Bool} {t1 : Nat} {ys zs : List AV} {d : Option Nat} {K : AS → Prop} (h1 : 2 ≤ t1) (hy : ys = comps a) (hz : zs = comps b) (oa : okL a) (ob : okL b)
    (hk : cont ⟨n, t, hd, ⟨nh, h, nl, fm, kill fm [t1] lv, mu⟩⟩ d (ovR fi a b) K) : vcCall Tryd.prog Γ false ⟨n, t, hd, ⟨nh, h, nl, fm, lv, mu⟩⟩ f [.sl t1 3 ys, .sl 0 3 zs, .v (.bool fi)] d K := by
  subst hy hz
  refine vcCall_none (C := overCon) (i := (⟨a, oa⟩, ⟨b, ob⟩, fi)) hf rfl rfl rfl rfl (ts := [t1]) ?_ ?_
  · simp [AV.tagsL, AV.tags, h1]
  · rintro r rfl
    rw [ovR_er]
    exact hk
theorem awake10_good : Rw.Good Tryd.prog 42 trueCon := by
  have hΓ : GoodEnv Tryd.prog [(43, overCon), (40, keepCon)] := (goodEnv_cons over_good (goodEnv_cons keep_good goodEnv_nil))
  refine good_fn (nn := 65) hΓ Tryd.func42 (by kernel_rfl) rfl (show Tryd.f42.results.toList = [.tmp 0] from rfl) (fun _ => rfl) (fun _ => rfl) ?_
  intro _
  simp only [goRules, coreRules, tiRules, unRules, AS_of_eq, ← decide_not, N0, N1, N2, N3, N4, N5, Z0, Z1, Z2, Z3, Z4, Z5, Z6, Z7, Z8, Z9, Z10, Zc, ↓reduceIte, reduceCtorEq, List.map_cons, List.map_nil]
  refine call_over_t (by simp [get_cons]) (by omega) (by omega) (a := [⟨2, 0, [120]⟩]) (b := [⟨2, 0, [121]⟩]) rfl rfl ⟨by decide, by decide, by simp⟩ ⟨by decide, by decide, by simp⟩ ?_
  have hc1 : comps [⟨2, 0, [120]⟩, ⟨1, 1, []⟩] = [.agg [.v (.int .i64 2), .v (.int .i64 0), .v (sv [120])], .agg [.v (.int .i64 1), .v (.int .i64 1), .v (sv [])]] := rfl
  have hc2 : comps [⟨1, 1, []⟩, ⟨2, 0, [120]⟩] = [.agg [.v (.int .i64 1), .v (.int .i64 1), .v (sv [])], .agg [.v (.int .i64 2), .v (.int .i64 0), .v (sv [120])]] := rfl
  simp only [goRules, coreRules, tiRules, unRules, AS_of_eq, ← decide_not, N0, N1, N2, N3, N4, N5, Z0, Z1, Z2, Z3, Z4, Z5, Z6, Z7, Z8, Z9, Z10, Zc, ↓reduceIte, reduceCtorEq, ovR_zero ov_a.1, ov_a.2.1, res2, hc1]
  refine call_over_t (by simp [get_cons]) (by omega) (by omega) (a := [⟨2, 0, [120]⟩]) (b := [⟨2, 0, [121]⟩]) rfl rfl ⟨by decide, by decide, by simp⟩ ⟨by decide, by decide, by simp⟩ ?_
  simp only [goRules, coreRules, tiRules, unRules, AS_of_eq, ← decide_not, N0, N1, N2, N3, N4, N5, Z0, Z1, Z2, Z3, Z4, Z5, Z6, Z7, Z8, Z9, Z10, Zc, ↓reduceIte, reduceCtorEq, ovR_zero ov_a.1, ov_a.2.2.1, res2, hc2]
  refine call_keep (by simp [get_cons]) (by omega) ?_
  simp only [goRules, coreRules, tiRules, unRules, AS_of_eq, ← decide_not, N0, N1, N2, N3, N4, N5, Z0, Z1, Z2, Z3, Z4, Z5, Z6, Z7, Z8, Z9, Z10, Zc, ↓reduceIte, reduceCtorEq, show keepL 3 = [⟨1, 3, []⟩] from rfl]
  refine call_over_t1 (by simp [get_cons]) (by omega) (a := [⟨2, 0, [120]⟩]) (b := [⟨1, 3, []⟩]) rfl rfl ⟨by decide, by decide, by simp⟩ ⟨by decide, by decide, by simp⟩ ?_
  simp only [goRules, coreRules, tiRules, unRules, AS_of_eq, ← decide_not, N0, N1, N2, N3, N4, N5, Z0, Z1, Z2, Z3, Z4, Z5, Z6, Z7, Z8, Z9, Z10, Zc, ↓reduceIte, reduceCtorEq, ovR_err (show ¬ ovE [⟨2, 0, [120]⟩] [⟨1, 3, []⟩] = 0 by rw [ov_a.2.2.2]; decide), ov_a.2.2.2, res2, List.length_cons, List.length_nil]
theorem call_awake10 {Γ : Env} (hf : Γ.get 42 = some trueCon) {σ : AS} {dr : Bool} {d : Option Nat} {K : AS → Prop}
    (hk : cont σ d (.v (.bool true)) K) : vcCall Tryd.prog Γ dr σ 42 [] d K :=
  vcCall_plain (C := trueCon) (i := ()) hf rfl rfl rfl rfl (fun _ h => h) rfl hk
abbrev meets10Con : Con where
  ι := StrM × Given × Given × Bool
  args := fun p => [.v (sv p.1.1), .sl 0 3 (comps p.2.1.1), .sl 0 3 (comps p.2.2.1.1), .v (.bool p.2.2.2)]
  post := fun _ r => r = .v (.bool true)
  plain := true
/-- What an edit, behind another one, does to what the other one made. -/
theorem do_over {s : List UInt8} {a b : List Cp} {f : Bool} (h1 : errI s a = 0) (h2 : errI s b = 0) (oa : okL a) (ob : okL b) (hc : checkI (ovN f a b) = 0) :
    ovE a b = 0 ∧ errI (doneB s b) (ovN f a b) = 0 ∧ doneB (doneB s b) (ovN f a b) = encs (doL (doL (cpts s) b) (ovN f a b)) ∧ baseL (ovN f a b) = cnt (doneB s b) := by
  obtain ⟨a1, a2, a3, a4⟩ := err_zero h1
  obtain ⟨b1, b2, b3, b4⟩ := err_zero h2
  obtain ⟨d1, d2, d3⟩ := done_law h2
  have he := ovE_of a1 b1 (by omega)
  obtain ⟨f1, f2, f3, f4⟩ := ov_facts f he oa ob
  have hr := err_of hc d1 (by omega)
  refine ⟨he, hr, ?_, ?_⟩
  · rw [show doneB (doneB s b) (ovN f a b) = if errI (doneB s b) (ovN f a b) = 0 then encs (doL (cpts (doneB s b)) (ovN f a b)) else [] from rfl, if_pos hr, cpts_some d1]
  · rw [cnt_pts d1]; omega
theorem meets10_good : Rw.Good Tryd.prog 12 meets10Con := by
  have hΓ : GoodEnv Tryd.prog [(42, trueCon), (16, weighCon), (22, doCon), (43, overCon), (17, checkCon), (18, baseCon), (21, rcountCon)] := (goodEnv_cons awake10_good (goodEnv_cons weigh_good (goodEnv_cons do_good (goodEnv_cons over_good (goodEnv_cons check_good (goodEnv_cons base_good (goodEnv_cons rcount_good goodEnv_nil)))))))
  refine good_fn (nn := 117) hΓ Tryd.func12 (by kernel_rfl) rfl (show Tryd.f12.results.toList = [.tmp 8] from rfl) (fun _ => rfl) (fun _ => rfl) ?_
  rintro ⟨⟨s, hs⟩, ⟨a, ha, hca⟩, ⟨b, hb, hcb⟩, f⟩
  simp only [goRules, coreRules, tiRules, unRules, AS_of_eq, ← decide_not, N0, N1, N2, N3, N4, N5, Z0, Z1, Z2, Z3, Z4, Z5, Z6, Z7, Z8, Z9, Z10, Zc, ↓reduceIte, reduceCtorEq]
  by_cases h1 : (s.length : Int) > 500
  · simp only [goRules, coreRules, tiRules, unRules, AS_of_eq, ← decide_not, N0, N1, N2, N3, N4, N5, Z0, Z1, Z2, Z3, Z4, Z5, Z6, Z7, Z8, Z9, Z10, Zc, ↓reduceIte, reduceCtorEq, h1]
    refine call_awake10 (by simp [get_cons]) ?_
    simp only [goRules, coreRules, tiRules, unRules, AS_of_eq, ← decide_not, N0, N1, N2, N3, N4, N5, Z0, Z1, Z2, Z3, Z4, Z5, Z6, Z7, Z8, Z9, Z10, Zc, ↓reduceIte, reduceCtorEq]
  simp only [goRules, coreRules, tiRules, unRules, AS_of_eq, ← decide_not, N0, N1, N2, N3, N4, N5, Z0, Z1, Z2, Z3, Z4, Z5, Z6, Z7, Z8, Z9, Z10, Zc, ↓reduceIte, reduceCtorEq, h1]
  refine call_weigh (by simp [get_cons]) rfl ha (fun c h => (hca c h).2) (by omega) ?_
  by_cases h2 : compsF 1000 0 a > 1000
  · simp only [goRules, coreRules, tiRules, unRules, AS_of_eq, ← decide_not, N0, N1, N2, N3, N4, N5, Z0, Z1, Z2, Z3, Z4, Z5, Z6, Z7, Z8, Z9, Z10, Zc, ↓reduceIte, reduceCtorEq, h2]
    refine call_awake10 (by simp [get_cons]) ?_
    simp only [goRules, coreRules, tiRules, unRules, AS_of_eq, ← decide_not, N0, N1, N2, N3, N4, N5, Z0, Z1, Z2, Z3, Z4, Z5, Z6, Z7, Z8, Z9, Z10, Zc, ↓reduceIte, reduceCtorEq]
  simp only [goRules, coreRules, tiRules, unRules, AS_of_eq, ← decide_not, N0, N1, N2, N3, N4, N5, Z0, Z1, Z2, Z3, Z4, Z5, Z6, Z7, Z8, Z9, Z10, Zc, ↓reduceIte, reduceCtorEq, h2]
  refine call_weigh (by simp [get_cons]) rfl hb (fun c h => (hcb c h).2) (by omega) ?_
  by_cases h3 : compsF 1000 0 b > 1000
  · simp only [goRules, coreRules, tiRules, unRules, AS_of_eq, ← decide_not, N0, N1, N2, N3, N4, N5, Z0, Z1, Z2, Z3, Z4, Z5, Z6, Z7, Z8, Z9, Z10, Zc, ↓reduceIte, reduceCtorEq, h3]
    refine call_awake10 (by simp [get_cons]) ?_
    simp only [goRules, coreRules, tiRules, unRules, AS_of_eq, ← decide_not, N0, N1, N2, N3, N4, N5, Z0, Z1, Z2, Z3, Z4, Z5, Z6, Z7, Z8, Z9, Z10, Zc, ↓reduceIte, reduceCtorEq]
  obtain ⟨oa, hwa⟩ := weigh_ok (by omega) hca (show compsF 1000 0 a ≤ 1000 by omega)
  obtain ⟨ob, hwb⟩ := weigh_ok (by omega) hcb (show compsF 1000 0 b ≤ 1000 by omega)
  simp only [goRules, coreRules, tiRules, unRules, AS_of_eq, ← decide_not, N0, N1, N2, N3, N4, N5, Z0, Z1, Z2, Z3, Z4, Z5, Z6, Z7, Z8, Z9, Z10, Zc, ↓reduceIte, reduceCtorEq, h3]
  refine call_do (by simp [get_cons]) rfl (by omega) oa ?_
  simp only [goRules, coreRules, tiRules, unRules, AS_of_eq, ← decide_not, N0, N1, N2, N3, N4, N5, Z0, Z1, Z2, Z3, Z4, Z5, Z6, Z7, Z8, Z9, Z10, Zc, ↓reduceIte, reduceCtorEq, doR, res2]
  refine call_do (by simp [get_cons]) rfl (by omega) ob ?_
  by_cases e1 : errI s a = 0
  case neg =>
    simp only [goRules, coreRules, tiRules, unRules, AS_of_eq, ← decide_not, N0, N1, N2, N3, N4, N5, Z0, Z1, Z2, Z3, Z4, Z5, Z6, Z7, Z8, Z9, Z10, Zc, ↓reduceIte, reduceCtorEq, doR, res2, e1]
    refine call_awake10 (by simp [get_cons]) ?_
    simp only [goRules, coreRules, tiRules, unRules, AS_of_eq, ← decide_not, N0, N1, N2, N3, N4, N5, Z0, Z1, Z2, Z3, Z4, Z5, Z6, Z7, Z8, Z9, Z10, Zc, ↓reduceIte, reduceCtorEq]
  by_cases e2 : errI s b = 0
  case neg =>
    simp only [goRules, coreRules, tiRules, unRules, AS_of_eq, ← decide_not, N0, N1, N2, N3, N4, N5, Z0, Z1, Z2, Z3, Z4, Z5, Z6, Z7, Z8, Z9, Z10, Zc, ↓reduceIte, reduceCtorEq, doR, res2, e1, e2]
    refine call_awake10 (by simp [get_cons]) ?_
    simp only [goRules, coreRules, tiRules, unRules, AS_of_eq, ← decide_not, N0, N1, N2, N3, N4, N5, Z0, Z1, Z2, Z3, Z4, Z5, Z6, Z7, Z8, Z9, Z10, Zc, ↓reduceIte, reduceCtorEq]
  obtain ⟨a1, a2, a3, a4⟩ := err_zero e1
  obtain ⟨b1, b2, b3, b4⟩ := err_zero e2
  have he := ovE_of a1 b1 (by omega)
  have he2 := ovE_comm he
  have o1 := (ov_facts f he oa ob).2.2.2
  have o2 := (ov_facts (!f) he2 ob oa).2.2.2
  have da := done_small s a
  have db := done_small s b
  simp only [goRules, coreRules, tiRules, unRules, AS_of_eq, ← decide_not, N0, N1, N2, N3, N4, N5, Z0, Z1, Z2, Z3, Z4, Z5, Z6, Z7, Z8, Z9, Z10, Zc, ↓reduceIte, reduceCtorEq, doR, res2, e1, e2]
  refine call_over (by simp [get_cons]) rfl rfl oa ob ?_
  simp only [goRules, coreRules, tiRules, unRules, AS_of_eq, ← decide_not, N0, N1, N2, N3, N4, N5, Z0, Z1, Z2, Z3, Z4, Z5, Z6, Z7, Z8, Z9, Z10, Zc, ↓reduceIte, reduceCtorEq, ovR_zero he, res2]
  refine call_over (fi := !f) (by simp [get_cons]) rfl rfl ob oa ?_
  simp only [goRules, coreRules, tiRules, unRules, AS_of_eq, ← decide_not, N0, N1, N2, N3, N4, N5, Z0, Z1, Z2, Z3, Z4, Z5, Z6, Z7, Z8, Z9, Z10, Zc, ↓reduceIte, reduceCtorEq, ovR_zero he2, res2]
  refine call_check (by simp [get_cons]) rfl o1 ?_
  by_cases c1 : checkI (ovN f a b) = 0
  case neg =>
    simp only [goRules, coreRules, tiRules, unRules, AS_of_eq, ← decide_not, N0, N1, N2, N3, N4, N5, Z0, Z1, Z2, Z3, Z4, Z5, Z6, Z7, Z8, Z9, Z10, Zc, ↓reduceIte, reduceCtorEq, c1]
    refine call_awake10 (by simp [get_cons]) ?_
    simp only [goRules, coreRules, tiRules, unRules, AS_of_eq, ← decide_not, N0, N1, N2, N3, N4, N5, Z0, Z1, Z2, Z3, Z4, Z5, Z6, Z7, Z8, Z9, Z10, Zc, ↓reduceIte, reduceCtorEq]
  simp only [goRules, coreRules, tiRules, unRules, AS_of_eq, ← decide_not, N0, N1, N2, N3, N4, N5, Z0, Z1, Z2, Z3, Z4, Z5, Z6, Z7, Z8, Z9, Z10, Zc, ↓reduceIte, reduceCtorEq, c1]
  refine call_check (by simp [get_cons]) rfl o2 ?_
  by_cases c2 : checkI (ovN (!f) b a) = 0
  case neg =>
    simp only [goRules, coreRules, tiRules, unRules, AS_of_eq, ← decide_not, N0, N1, N2, N3, N4, N5, Z0, Z1, Z2, Z3, Z4, Z5, Z6, Z7, Z8, Z9, Z10, Zc, ↓reduceIte, reduceCtorEq, c2]
    refine call_awake10 (by simp [get_cons]) ?_
    simp only [goRules, coreRules, tiRules, unRules, AS_of_eq, ← decide_not, N0, N1, N2, N3, N4, N5, Z0, Z1, Z2, Z3, Z4, Z5, Z6, Z7, Z8, Z9, Z10, Zc, ↓reduceIte, reduceCtorEq]
  obtain ⟨_, g1, g2, g3⟩ := do_over e1 e2 oa ob c1
  obtain ⟨_, k1, k2, k3⟩ := do_over e2 e1 ob oa c2
  rw [ov_meet f he oa ob a3, ← k2] at g2
  simp only [goRules, coreRules, tiRules, unRules, AS_of_eq, ← decide_not, N0, N1, N2, N3, N4, N5, Z0, Z1, Z2, Z3, Z4, Z5, Z6, Z7, Z8, Z9, Z10, Zc, ↓reduceIte, reduceCtorEq, c2]
  refine call_do (by simp [get_cons]) rfl (by omega) o1 ?_
  simp only [goRules, coreRules, tiRules, unRules, AS_of_eq, ← decide_not, N0, N1, N2, N3, N4, N5, Z0, Z1, Z2, Z3, Z4, Z5, Z6, Z7, Z8, Z9, Z10, Zc, ↓reduceIte, reduceCtorEq, doR, res2, g1, g2]
  refine call_do (by simp [get_cons]) rfl (by omega) o2 ?_
  simp only [goRules, coreRules, tiRules, unRules, AS_of_eq, ← decide_not, N0, N1, N2, N3, N4, N5, Z0, Z1, Z2, Z3, Z4, Z5, Z6, Z7, Z8, Z9, Z10, Zc, ↓reduceIte, reduceCtorEq, doR, res2, k1]
  refine call_base (by simp [get_cons]) rfl o1 ?_
  simp only [goRules, coreRules, tiRules, unRules, AS_of_eq, ← decide_not, N0, N1, N2, N3, N4, N5, Z0, Z1, Z2, Z3, Z4, Z5, Z6, Z7, Z8, Z9, Z10, Zc, ↓reduceIte, reduceCtorEq]
  refine call_rcount (by simp [get_cons]) (by omega) ?_
  simp only [goRules, coreRules, tiRules, unRules, AS_of_eq, ← decide_not, N0, N1, N2, N3, N4, N5, Z0, Z1, Z2, Z3, Z4, Z5, Z6, Z7, Z8, Z9, Z10, Zc, ↓reduceIte, reduceCtorEq, g3]
  refine call_awake10 (by simp [get_cons]) ?_
  simp only [goRules, coreRules, tiRules, unRules, AS_of_eq, ← decide_not, N0, N1, N2, N3, N4, N5, Z0, Z1, Z2, Z3, Z4, Z5, Z6, Z7, Z8, Z9, Z10, Zc, ↓reduceIte, reduceCtorEq]
end Go.Proofs
end
