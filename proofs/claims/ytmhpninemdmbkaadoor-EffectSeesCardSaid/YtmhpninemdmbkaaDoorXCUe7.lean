/-
  EffectSees answers true.
-/
import Derived.Test.YtmhpninemdmbkaaDoorXCUe6
import Derived.Test.YtmhpninemdmbkaaDoorXCAx5
import Derived.Test.YtmhpninemdmbkaaDoorXCAp5
import Derived.Test.YtmhpninemdmbkaaDoorXCAx3
set_option linter.unusedSimpArgs false
set_option linter.unusedVariables false
set_option linter.defProp false

-- CUe7
section
namespace Go.Proofs
open Go Go.Rw
open _root_.Nat renaming reduceAdd → N0, reduceSub → N1, reduceMul → N2, reduceLT → N3, reduceLeDiff → N4, reduceEqDiff → N5
open _root_.Int renaming reduceNeg → Z0, reduceAdd → Z1, reduceSub → Z2, reduceMul → Z3, reduceGT → Z4, reduceGE → Z5, reduceLT → Z6, reduceLE → Z7, reduceEq → Z8, reduceNe → Z9, reduceToNat → Z10, cast_ofNat_Int → Zc
set_option maxRecDepth 100000
set_option linter.unusedSimpArgs false
set_option linter.unusedVariables false

theorem ones_er2 (l : List On) : (AV.sl 0 8 (ones l)).er = .sl 0 8 (ones l) := rfl
theorem call_eff_t {Γ : Env} (hf : Γ.get 12 = some effCon) {n : Nat} {t : Nat → AV} {hd : Nat → Nat → AV} {nh nl : Nat} {h : Nat → Option AO} {fm : Nat → Nat} {lv : Nat → Option (Nat × Nat)} {mu : Bool} {l : List Ac} {t1 : Nat} {ys : List AV} {d : Option Nat} {K : AS → Prop} (h1 : 2 ≤ t1) (hy : ys = acts l) (hl : l.length ≤ 1099511627776) (ho : ∀ a ∈ l, okL a.ops)
    (hk : cont ⟨n, t, hd, ⟨nh, h, nl, fm, kill fm [t1] lv, mu⟩⟩ d (.sl 0 8 (ones (effL l))) K) : vcCall Tryd.prog Γ false ⟨n, t, hd, ⟨nh, h, nl, fm, lv, mu⟩⟩ 12 [.sl t1 6 ys] d K := by
  subst hy
  refine vcCall_none (C := effCon) (i := ⟨l, hl, ho⟩) hf rfl rfl rfl (by simp [AV.erL, AV.er]) (ts := [t1]) ?_ ?_
  · simp [AV.tagsL, AV.tags, h1]
  · rintro r rfl
    exact hk
theorem call_eff {Γ : Env} (hf : Γ.get 12 = some effCon) {σ : AS} {dr : Bool} {l : List Ac} {ys : List AV} {d : Option Nat} {K : AS → Prop} (hy : ys = acts l) (hl : l.length ≤ 1099511627776) (ho : ∀ a ∈ l, okL a.ops)
    (hk : cont σ d (.sl 0 8 (ones (effL l))) K) : vcCall Tryd.prog Γ dr σ 12 [.sl 0 6 ys] d K := by
  subst hy
  exact vcCall_fn (C := effCon) (i := ⟨l, hl, ho⟩) (r := .sl 0 8 (ones (effL l))) hf rfl rfl (by simp [AV.erL, AV.er]) rfl (fun _ h => h) hk
theorem call_eover_t {Γ : Env} (hf : Γ.get 11 = some eoverCon) {n : Nat} {t : Nat → AV} {hd : Nat → Nat → AV} {nh nl : Nat} {h : Nat → Option AO} {fm : Nat → Nat} {lv : Nat → Option (Nat × Nat)} {mu : Bool} {x : List On} {l : List Ac} {t1 : Nat} {xs ys : List AV} {d : Option Nat} {K : AS → Prop} (h1 : 2 ≤ t1) (hx : xs = ones x) (hy : ys = acts l) (hxl : x.length ≤ 1099511627776) (hxo : ∀ a ∈ x, okL a.ops) (hl : l.length ≤ 1099511627776) (ho : ∀ a ∈ l, okL a.ops)
    (hk : cont ⟨n, t, hd, ⟨nh, h, nl, fm, kill fm [t1] lv, mu⟩⟩ d (.sl 0 8 (ones (x.map fun z => overO z l))) K) : vcCall Tryd.prog Γ false ⟨n, t, hd, ⟨nh, h, nl, fm, lv, mu⟩⟩ 11 [.sl 0 8 xs, .sl t1 6 ys] d K := by
  subst hx hy
  refine vcCall_none (C := eoverCon) (i := (⟨x, hxl, hxo⟩, ⟨l, hl, ho⟩)) hf rfl rfl rfl (by simp [AV.erL, AV.er]) (ts := [t1]) ?_ ?_
  · simp [AV.tagsL, AV.tags, h1]
  · rintro r rfl
    exact hk
def awA : List Ac := [⟨3, 1, 0, [98], false, []⟩, ⟨4, 1, 0, [], false, [⟨1, 2, []⟩]⟩]
theorem aw_eff : effL awA = [⟨1, [⟨1, 2, []⟩], true, false, false, true, 0, [98]⟩] := by
  have h : effS [] awA = [⟨1, [⟨1, 2, []⟩], true, false, false, true, 0, [98]⟩] := by decide +kernel
  rw [effL, h]
  exact List.mergeSort_singleton _
theorem awake15_good : Rw.Good Tryd.prog 9 trueCon := by
  have hΓ : GoodEnv Tryd.prog [(12, effCon), (21, getCon)] := (goodEnv_cons eff_good (goodEnv_cons get_good goodEnv_nil))
  refine good_fn (nn := 48) hΓ Tryd.func9 (by kernel_rfl) rfl (show Tryd.f9.results.toList = [.tmp 0] from rfl) (fun _ => rfl) (fun _ => rfl) ?_
  intro _
  simp only [goRules, coreRules, tiRules, unRules, AS_of_eq, ← decide_not, N0, N1, N2, N3, N4, N5, Z0, Z1, Z2, Z3, Z4, Z5, Z6, Z7, Z8, Z9, Z10, Zc, ↓reduceIte, reduceCtorEq, List.map_cons, List.map_nil]
  refine call_eff_t (by simp [get_cons]) (by omega) (l := awA) rfl (by decide) (fun a ha => ?_) ?_
  · simp only [awA, List.mem_cons, List.not_mem_nil, or_false] at ha
    rcases ha with rfl | rfl
    · exact ⟨by decide, by decide, by simp⟩
    · exact ⟨by decide, by decide, by simp⟩
  simp only [goRules, coreRules, tiRules, unRules, AS_of_eq, ← decide_not, N0, N1, N2, N3, N4, N5, Z0, Z1, Z2, Z3, Z4, Z5, Z6, Z7, Z8, Z9, Z10, Zc, ↓reduceIte, reduceCtorEq, aw_eff, ones, oA, List.map_cons, List.map_nil]
  refine call_get (l := [⟨1, [⟨1, 2, []⟩], true, false, false, true, 0, [98]⟩]) (by simp [get_cons]) rfl (by decide) (fun a ha => ?_) ?_
  · rw [List.mem_singleton.1 ha]; exact ⟨by decide, by decide, by simp⟩
  simp only [goRules, coreRules, tiRules, unRules, AS_of_eq, ← decide_not, N0, N1, N2, N3, N4, N5, Z0, Z1, Z2, Z3, Z4, Z5, Z6, Z7, Z8, Z9, Z10, Zc, ↓reduceIte, reduceCtorEq, getO, hasO, fnd, oA, List.length_cons, List.length_nil]
theorem call_awake15 {Γ : Env} (hf : Γ.get 9 = some trueCon) {σ : AS} {dr : Bool} {d : Option Nat} {K : AS → Prop}
    (hk : cont σ d (.v (.bool true)) K) : vcCall Tryd.prog Γ dr σ 9 [] d K :=
  vcCall_plain (C := trueCon) (i := ()) hf rfl rfl rfl rfl (fun _ h => h) rfl hk
theorem eff_one (id : Int) (a : List Cp) : effL [⟨4, id, 0, [], false, a⟩] = [⟨id, a, true, false, false, false, 0, []⟩] := by
  have h : effS [] [⟨4, id, 0, [], false, a⟩] = [⟨id, a, true, false, false, false, 0, []⟩] := by simp [effS, fnd, addA]
  rw [effL, h]
  exact List.mergeSort_singleton _
abbrev sees15Con : Con where
  ι := StrM × Given × Given
  args := fun p => [.v (sv p.1.1), .sl 0 3 (comps p.2.1.1), .sl 0 3 (comps p.2.2.1)]
  post := fun _ r => r = .v (.bool true)
  plain := true
theorem sees15_good : Rw.Good Tryd.prog 3 sees15Con := by
  have hΓ : GoodEnv Tryd.prog [(9, trueCon), (8, weighCon), (10, doCon), (13, overCon), (14, checkCon), (12, effCon), (11, eoverCon)] := (goodEnv_cons awake15_good (goodEnv_cons weigh_good (goodEnv_cons rdo_good (goodEnv_cons rover_good (goodEnv_cons rcheck_good (goodEnv_cons eff_good (goodEnv_cons eover_good goodEnv_nil)))))))
  refine good_fn (nn := 116) hΓ Tryd.func3 (by kernel_rfl) rfl (show Tryd.f3.results.toList = [.tmp 6] from rfl) (fun _ => rfl) (fun _ => rfl) ?_
  rintro ⟨⟨s, hs⟩, ⟨a, ha, hca⟩, ⟨b, hb, hcb⟩⟩
  simp only [goRules, coreRules, tiRules, unRules, AS_of_eq, ← decide_not, N0, N1, N2, N3, N4, N5, Z0, Z1, Z2, Z3, Z4, Z5, Z6, Z7, Z8, Z9, Z10, Zc, ↓reduceIte, reduceCtorEq, comps_len]
  by_cases h1 : (s.length : Int) > 300
  · simp only [goRules, coreRules, tiRules, unRules, AS_of_eq, ← decide_not, N0, N1, N2, N3, N4, N5, Z0, Z1, Z2, Z3, Z4, Z5, Z6, Z7, Z8, Z9, Z10, Zc, ↓reduceIte, reduceCtorEq, h1]
    refine call_awake15 (by simp [get_cons]) ?_
    simp only [goRules, coreRules, tiRules, unRules, AS_of_eq, ← decide_not, N0, N1, N2, N3, N4, N5, Z0, Z1, Z2, Z3, Z4, Z5, Z6, Z7, Z8, Z9, Z10, Zc, ↓reduceIte, reduceCtorEq]
  simp only [goRules, coreRules, tiRules, unRules, AS_of_eq, ← decide_not, N0, N1, N2, N3, N4, N5, Z0, Z1, Z2, Z3, Z4, Z5, Z6, Z7, Z8, Z9, Z10, Zc, ↓reduceIte, reduceCtorEq, h1]
  refine call_weigh (by simp [get_cons]) rfl ha (fun c h => (hca c h).2) (by omega) ?_
  by_cases h2 : compsF 1000 0 a > 1000
  · simp only [goRules, coreRules, tiRules, unRules, AS_of_eq, ← decide_not, N0, N1, N2, N3, N4, N5, Z0, Z1, Z2, Z3, Z4, Z5, Z6, Z7, Z8, Z9, Z10, Zc, ↓reduceIte, reduceCtorEq, h2]
    refine call_awake15 (by simp [get_cons]) ?_
    simp only [goRules, coreRules, tiRules, unRules, AS_of_eq, ← decide_not, N0, N1, N2, N3, N4, N5, Z0, Z1, Z2, Z3, Z4, Z5, Z6, Z7, Z8, Z9, Z10, Zc, ↓reduceIte, reduceCtorEq]
  simp only [goRules, coreRules, tiRules, unRules, AS_of_eq, ← decide_not, N0, N1, N2, N3, N4, N5, Z0, Z1, Z2, Z3, Z4, Z5, Z6, Z7, Z8, Z9, Z10, Zc, ↓reduceIte, reduceCtorEq, h2]
  refine call_weigh (by simp [get_cons]) rfl hb (fun c h => (hcb c h).2) (by omega) ?_
  by_cases h3 : compsF 1000 0 b > 1000
  · simp only [goRules, coreRules, tiRules, unRules, AS_of_eq, ← decide_not, N0, N1, N2, N3, N4, N5, Z0, Z1, Z2, Z3, Z4, Z5, Z6, Z7, Z8, Z9, Z10, Zc, ↓reduceIte, reduceCtorEq, h3]
    refine call_awake15 (by simp [get_cons]) ?_
    simp only [goRules, coreRules, tiRules, unRules, AS_of_eq, ← decide_not, N0, N1, N2, N3, N4, N5, Z0, Z1, Z2, Z3, Z4, Z5, Z6, Z7, Z8, Z9, Z10, Zc, ↓reduceIte, reduceCtorEq]
  obtain ⟨oa, hwa⟩ := weigh_ok (by omega) hca (show compsF 1000 0 a ≤ 1000 by omega)
  obtain ⟨ob, hwb⟩ := weigh_ok (by omega) hcb (show compsF 1000 0 b ≤ 1000 by omega)
  simp only [goRules, coreRules, tiRules, unRules, AS_of_eq, ← decide_not, N0, N1, N2, N3, N4, N5, Z0, Z1, Z2, Z3, Z4, Z5, Z6, Z7, Z8, Z9, Z10, Zc, ↓reduceIte, reduceCtorEq, h3]
  refine call_do (by simp [get_cons]) rfl (by omega) oa ?_
  simp only [goRules, coreRules, tiRules, unRules, AS_of_eq, ← decide_not, N0, N1, N2, N3, N4, N5, Z0, Z1, Z2, Z3, Z4, Z5, Z6, Z7, Z8, Z9, Z10, Zc, ↓reduceIte, reduceCtorEq, doR, res2]
  refine call_do (by simp [get_cons]) rfl (by omega) ob ?_
  by_cases e1 : errI s a = 0
  case neg =>
    simp only [goRules, coreRules, tiRules, unRules, AS_of_eq, ← decide_not, N0, N1, N2, N3, N4, N5, Z0, Z1, Z2, Z3, Z4, Z5, Z6, Z7, Z8, Z9, Z10, Zc, ↓reduceIte, reduceCtorEq, doR, res2, e1]
    refine call_awake15 (by simp [get_cons]) ?_
    simp only [goRules, coreRules, tiRules, unRules, AS_of_eq, ← decide_not, N0, N1, N2, N3, N4, N5, Z0, Z1, Z2, Z3, Z4, Z5, Z6, Z7, Z8, Z9, Z10, Zc, ↓reduceIte, reduceCtorEq]
  by_cases e2 : errI s b = 0
  case neg =>
    simp only [goRules, coreRules, tiRules, unRules, AS_of_eq, ← decide_not, N0, N1, N2, N3, N4, N5, Z0, Z1, Z2, Z3, Z4, Z5, Z6, Z7, Z8, Z9, Z10, Zc, ↓reduceIte, reduceCtorEq, doR, res2, e1, e2]
    refine call_awake15 (by simp [get_cons]) ?_
    simp only [goRules, coreRules, tiRules, unRules, AS_of_eq, ← decide_not, N0, N1, N2, N3, N4, N5, Z0, Z1, Z2, Z3, Z4, Z5, Z6, Z7, Z8, Z9, Z10, Zc, ↓reduceIte, reduceCtorEq]
  by_cases e3 : a = []
  · subst e3
    simp only [goRules, coreRules, tiRules, unRules, AS_of_eq, ← decide_not, N0, N1, N2, N3, N4, N5, Z0, Z1, Z2, Z3, Z4, Z5, Z6, Z7, Z8, Z9, Z10, Zc, ↓reduceIte, reduceCtorEq, doR, res2, e1, e2, comps_nil, List.length_nil]
    refine call_awake15 (by simp [get_cons]) ?_
    simp only [goRules, coreRules, tiRules, unRules, AS_of_eq, ← decide_not, N0, N1, N2, N3, N4, N5, Z0, Z1, Z2, Z3, Z4, Z5, Z6, Z7, Z8, Z9, Z10, Zc, ↓reduceIte, reduceCtorEq]
  have e4 : ((a.length : Int) = 0) = False := eq_false (by have := List.length_pos_iff.2 e3; omega)
  obtain ⟨a1, a2, a3, a4⟩ := err_zero e1
  obtain ⟨b1, b2, b3, b4⟩ := err_zero e2
  have he := ovE_of a1 b1 (by omega)
  have he2 := ovE_comm he
  have o1 := (ov_facts true he oa ob).2.2.2
  have o2 := (ov_facts false he2 ob oa).2.2.2
  have da := done_small s a
  have db := done_small s b
  simp only [goRules, coreRules, tiRules, unRules, AS_of_eq, ← decide_not, N0, N1, N2, N3, N4, N5, Z0, Z1, Z2, Z3, Z4, Z5, Z6, Z7, Z8, Z9, Z10, Zc, ↓reduceIte, reduceCtorEq, doR, res2, e1, e2, e4, comps_len, List.map_cons, List.map_nil]
  refine call_eff_t (by simp [get_cons]) (by omega) (l := [⟨4, 5, 0, [], false, a⟩]) rfl (by simp) (fun x hx => by rw [List.mem_singleton.1 hx]; exact oa) ?_
  simp only [goRules, coreRules, tiRules, unRules, AS_of_eq, ← decide_not, N0, N1, N2, N3, N4, N5, Z0, Z1, Z2, Z3, Z4, Z5, Z6, Z7, Z8, Z9, Z10, Zc, ↓reduceIte, reduceCtorEq, eff_one, List.map_cons, List.map_nil]
  refine call_eover_t (by simp [get_cons]) (by omega) rfl (l := [⟨4, 5, 0, [], false, b⟩, ⟨4, 6, 0, [], false, b⟩]) rfl (by simp) (fun x hx => by rw [List.mem_singleton.1 hx]; exact oa) (by simp) (fun x hx => by
    simp only [List.mem_cons, List.not_mem_nil, or_false] at hx
    rcases hx with rfl | rfl <;> exact ob) ?_
  have hov : overO ⟨5, a, true, false, false, false, 0, []⟩ [⟨4, 5, 0, [], false, b⟩, ⟨4, 6, 0, [], false, b⟩] = ⟨5, ovN true a b, true, false, false, false, 0, []⟩ := by
    simp [overO, e3, behL, he]
  simp only [goRules, coreRules, tiRules, unRules, AS_of_eq, ← decide_not, N0, N1, N2, N3, N4, N5, Z0, Z1, Z2, Z3, Z4, Z5, Z6, Z7, Z8, Z9, Z10, Zc, ↓reduceIte, reduceCtorEq, hov, ones, oA, List.map_cons, List.map_nil]
  refine call_over (by simp [get_cons]) rfl rfl ob oa ?_
  simp only [goRules, coreRules, tiRules, unRules, AS_of_eq, ← decide_not, N0, N1, N2, N3, N4, N5, Z0, Z1, Z2, Z3, Z4, Z5, Z6, Z7, Z8, Z9, Z10, Zc, ↓reduceIte, reduceCtorEq, ovR_zero he2, res2]
  refine call_rcheck (by simp [get_cons]) rfl o1 ?_
  by_cases c1 : checkI (ovN true a b) = 0
  case neg =>
    simp only [goRules, coreRules, tiRules, unRules, AS_of_eq, ← decide_not, N0, N1, N2, N3, N4, N5, Z0, Z1, Z2, Z3, Z4, Z5, Z6, Z7, Z8, Z9, Z10, Zc, ↓reduceIte, reduceCtorEq, c1]
    refine call_awake15 (by simp [get_cons]) ?_
    simp only [goRules, coreRules, tiRules, unRules, AS_of_eq, ← decide_not, N0, N1, N2, N3, N4, N5, Z0, Z1, Z2, Z3, Z4, Z5, Z6, Z7, Z8, Z9, Z10, Zc, ↓reduceIte, reduceCtorEq]
  simp only [goRules, coreRules, tiRules, unRules, AS_of_eq, ← decide_not, N0, N1, N2, N3, N4, N5, Z0, Z1, Z2, Z3, Z4, Z5, Z6, Z7, Z8, Z9, Z10, Zc, ↓reduceIte, reduceCtorEq, c1]
  refine call_rcheck (by simp [get_cons]) rfl o2 ?_
  by_cases c2 : checkI (ovN false b a) = 0
  case neg =>
    simp only [goRules, coreRules, tiRules, unRules, AS_of_eq, ← decide_not, N0, N1, N2, N3, N4, N5, Z0, Z1, Z2, Z3, Z4, Z5, Z6, Z7, Z8, Z9, Z10, Zc, ↓reduceIte, reduceCtorEq, c2]
    refine call_awake15 (by simp [get_cons]) ?_
    simp only [goRules, coreRules, tiRules, unRules, AS_of_eq, ← decide_not, N0, N1, N2, N3, N4, N5, Z0, Z1, Z2, Z3, Z4, Z5, Z6, Z7, Z8, Z9, Z10, Zc, ↓reduceIte, reduceCtorEq]
  obtain ⟨_, g1, g2, g3⟩ := do_over e1 e2 oa ob c1
  obtain ⟨_, k1, k2, k3⟩ := do_over e2 e1 ob oa c2
  rw [ov_meet true he oa ob a3, show (!true) = false from rfl, ← k2] at g2
  simp only [goRules, coreRules, tiRules, unRules, AS_of_eq, ← decide_not, N0, N1, N2, N3, N4, N5, Z0, Z1, Z2, Z3, Z4, Z5, Z6, Z7, Z8, Z9, Z10, Zc, ↓reduceIte, reduceCtorEq, c2]
  refine call_do (by simp [get_cons]) rfl (by omega) o1 ?_
  simp only [goRules, coreRules, tiRules, unRules, AS_of_eq, ← decide_not, N0, N1, N2, N3, N4, N5, Z0, Z1, Z2, Z3, Z4, Z5, Z6, Z7, Z8, Z9, Z10, Zc, ↓reduceIte, reduceCtorEq, doR, res2, g1, g2]
  refine call_do (by simp [get_cons]) rfl (by omega) o2 ?_
  simp only [goRules, coreRules, tiRules, unRules, AS_of_eq, ← decide_not, N0, N1, N2, N3, N4, N5, Z0, Z1, Z2, Z3, Z4, Z5, Z6, Z7, Z8, Z9, Z10, Zc, ↓reduceIte, reduceCtorEq, doR, res2, k1]
  refine call_awake15 (by simp [get_cons]) ?_
  simp only [goRules, coreRules, tiRules, unRules, AS_of_eq, ← decide_not, N0, N1, N2, N3, N4, N5, Z0, Z1, Z2, Z3, Z4, Z5, Z6, Z7, Z8, Z9, Z10, Zc, ↓reduceIte, reduceCtorEq]
end Go.Proofs
end
