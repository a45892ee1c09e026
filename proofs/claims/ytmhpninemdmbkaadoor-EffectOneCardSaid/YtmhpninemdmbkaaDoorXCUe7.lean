/-
  EffectSees answers true. How much is given; lists of what was done, the document's and the program's. Lists of what was done: the document's and the program's. effect.Same. What the acts did, ID by ID. Plain. EffectOne answers true.
-/
import Derived.Test.YtmhpninemdmbkaaDoorXCUe6
import Derived.Test.YtmhpninemdmbkaaDoorXCAx5
import Derived.Test.YtmhpninemdmbkaaDoorXCAp5
import Derived.Test.YtmhpninemdmbkaaDoorXCAx3
import Derived.Test.YtmhpninemdmbkaaDoorXCUe5
set_option linter.unusedSimpArgs false
set_option linter.unusedVariables false
set_option linter.defProp false

-- CUe7
section
namespace Go.Proofs
open Go Go.Rw
open _root_.Nat renaming reduceAdd → N0, reduceSub → N1, reduceMul → N2, reduceLT → N3, reduceLeDiff → N4, reduceEqDiff → N5
open _root_.Int renaming reduceNeg → Z0, reduceAdd → Z1, reduceSub → Z2, reduceMul → Z3, reduceGT → Z4, reduceGE → Z5, reduceLT → Z6, reduceLE → Z7, reduceEq → Z8, reduceNe → Z9, reduceToNat → Z10, cast_ofNat_Int → Zc
set_option maxRecDepth 100000
set_option linter.unusedSimpArgs false
set_option linter.unusedVariables false

theorem ones_er2 (l : List On) : (AV.sl 0 8 (ones l)).er = .sl 0 8 (ones l) := rfl
theorem call_eff_t {Γ : Env} (hf : Γ.get 12 = some effCon) {n : Nat} {t : Nat → AV} {hd : Nat → Nat → AV} {nh nl : Nat} {h : Nat → Option AO} {fm : Nat → Nat} {lv : Nat → Option (Nat × Nat)} {mu : Bool} {l : List Ac} {t1 : Nat} {ys : List AV} {d : Option Nat} {K : AS → Prop} (h1 : 2 ≤ t1) (hy : ys = acts l) (hl : l.length ≤ 1099511627776) (ho : ∀ a ∈ l, okL a.ops)
    (hk : cont ⟨n, t, hd, ⟨nh, h, nl, fm, kill fm [t1] lv, mu⟩⟩ d (.sl 0 8 (ones (effL l))) K) : vcCall Tryd.prog Γ false ⟨n, t, hd, ⟨nh, h, nl, fm, lv, mu⟩⟩ 12 [.sl t1 6 ys] d K := by
  subst hy
  refine vcCall_none (C := effCon) (i := ⟨l, hl, ho⟩) hf rfl rfl rfl (by simp [AV.erL, AV.er]) (ts := [t1]) ?_ ?_
  · simp [AV.tagsL, AV.tags, h1]
  · rintro r rfl
    exact hk
theorem call_eff {Γ : Env} (hf : Γ.get 12 = some effCon) {σ : AS} {dr : Bool} {l : List Ac} {ys : List AV} {d : Option Nat} {K : AS → Prop} (hy : ys = acts l) (hl : l.length ≤ 1099511627776) (ho : ∀ a ∈ l, okL a.ops)
    (hk : cont σ d (.sl 0 8 (ones (effL l))) K) : vcCall Tryd.prog Γ dr σ 12 [.sl 0 6 ys] d K := by
  subst hy
  exact vcCall_fn (C := effCon) (i := ⟨l, hl, ho⟩) (r := .sl 0 8 (ones (effL l))) hf rfl rfl (by simp [AV.erL, AV.er]) rfl (fun _ h => h) hk
theorem call_eover_t {Γ : Env} (hf : Γ.get 11 = some eoverCon) {n : Nat} {t : Nat → AV} {hd : Nat → Nat → AV} {nh nl : Nat} {h : Nat → Option AO} {fm : Nat → Nat} {lv : Nat → Option (Nat × Nat)} {mu : Bool} {x : List On} {l : List Ac} {t1 : Nat} {xs ys : List AV} {d : Option Nat} {K : AS → Prop} (h1 : 2 ≤ t1) (hx : xs = ones x) (hy : ys = acts l) (hxl : x.length ≤ 1099511627776) (hxo : ∀ a ∈ x, okL a.ops) (hl : l.length ≤ 1099511627776) (ho : ∀ a ∈ l, okL a.ops)
    (hk : cont ⟨n, t, hd, ⟨nh, h, nl, fm, kill fm [t1] lv, mu⟩⟩ d (.sl 0 8 (ones (x.map fun z => overO z l))) K) : vcCall Tryd.prog Γ false ⟨n, t, hd, ⟨nh, h, nl, fm, lv, mu⟩⟩ 11 [.sl 0 8 xs, .sl t1 6 ys] d K := by
  subst hx hy
  refine vcCall_none (C := eoverCon) (i := (⟨x, hxl, hxo⟩, ⟨l, hl, ho⟩)) hf rfl rfl rfl (by simp [AV.erL, AV.er]) (ts := [t1]) ?_ ?_
  · simp [AV.tagsL, AV.tags, h1]
  · rintro r rfl
    exact hk
def awA : List Ac := [⟨3, 1, 0, [98], false, []⟩, ⟨4, 1, 0, [], false, [⟨1, 2, []⟩]⟩]
theorem aw_eff : effL awA = [⟨1, [⟨1, 2, []⟩], true, false, false, true, 0, [98]⟩] := by
  have h : effS [] awA = [⟨1, [⟨1, 2, []⟩], true, false, false, true, 0, [98]⟩] := by decide +kernel
  rw [effL, h]
  exact List.mergeSort_singleton _
theorem awake15_good : Rw.Good Tryd.prog 9 trueCon := by
  have hΓ : GoodEnv Tryd.prog [(12, effCon), (21, getCon)] := (goodEnv_cons eff_good (goodEnv_cons get_good goodEnv_nil))
  refine good_fn (nn := 48) hΓ Tryd.func9 (by kernel_rfl) rfl (show Tryd.f9.results.toList = [.tmp 0] from rfl) (fun _ => rfl) (fun _ => rfl) ?_
  intro _
  simp only [goRules, coreRules, tiRules, unRules, AS_of_eq, ← decide_not, N0, N1, N2, N3, N4, N5, Z0, Z1, Z2, Z3, Z4, Z5, Z6, Z7, Z8, Z9, Z10, Zc, ↓reduceIte, reduceCtorEq, List.map_cons, List.map_nil]
  refine call_eff_t (by simp [get_cons]) (by omega) (l := awA) rfl (by decide) (fun a ha => ?_) ?_
  · simp only [awA, List.mem_cons, List.not_mem_nil, or_false] at ha
    rcases ha with rfl | rfl
    · exact ⟨by decide, by decide, by simp⟩
    · exact ⟨by decide, by decide, by simp⟩
  simp only [goRules, coreRules, tiRules, unRules, AS_of_eq, ← decide_not, N0, N1, N2, N3, N4, N5, Z0, Z1, Z2, Z3, Z4, Z5, Z6, Z7, Z8, Z9, Z10, Zc, ↓reduceIte, reduceCtorEq, aw_eff, ones, oA, List.map_cons, List.map_nil]
  refine call_get (l := [⟨1, [⟨1, 2, []⟩], true, false, false, true, 0, [98]⟩]) (by simp [get_cons]) rfl (by decide) (fun a ha => ?_) ?_
  · rw [List.mem_singleton.1 ha]; exact ⟨by decide, by decide, by simp⟩
  simp only [goRules, coreRules, tiRules, unRules, AS_of_eq, ← decide_not, N0, N1, N2, N3, N4, N5, Z0, Z1, Z2, Z3, Z4, Z5, Z6, Z7, Z8, Z9, Z10, Zc, ↓reduceIte, reduceCtorEq, getO, hasO, fnd, oA, List.length_cons, List.length_nil]
theorem call_awake15 {Γ : Env} (hf : Γ.get 9 = some trueCon) {σ : AS} {dr : Bool} {d : Option Nat} {K : AS → Prop}
    (hk : cont σ d (.v (.bool true)) K) : vcCall Tryd.prog Γ dr σ 9 [] d K :=
  vcCall_plain (C := trueCon) (i := ()) hf rfl rfl rfl rfl (fun _ h => h) rfl hk
theorem eff_one (id : Int) (a : List Cp) : effL [⟨4, id, 0, [], false, a⟩] = [⟨id, a, true, false, false, false, 0, []⟩] := by
  have h : effS [] [⟨4, id, 0, [], false, a⟩] = [⟨id, a, true, false, false, false, 0, []⟩] := by simp [effS, fnd, addA]
  rw [effL, h]
  exact List.mergeSort_singleton _
abbrev sees15Con : Con where
  ι := StrM × Given × Given
  args := fun p => [.v (sv p.1.1), .sl 0 3 (comps p.2.1.1), .sl 0 3 (comps p.2.2.1)]
  post := fun _ r => r = .v (.bool true)
  plain := true
theorem sees15_good : Rw.Good Tryd.prog 3 sees15Con := by
  have hΓ : GoodEnv Tryd.prog [(9, trueCon), (8, weighCon), (10, doCon), (13, overCon), (14, checkCon), (12, effCon), (11, eoverCon)] := (goodEnv_cons awake15_good (goodEnv_cons weigh_good (goodEnv_cons rdo_good (goodEnv_cons rover_good (goodEnv_cons rcheck_good (goodEnv_cons eff_good (goodEnv_cons eover_good goodEnv_nil)))))))
  refine good_fn (nn := 116) hΓ Tryd.func3 (by kernel_rfl) rfl (show Tryd.f3.results.toList = [.tmp 6] from rfl) (fun _ => rfl) (fun _ => rfl) ?_
  rintro ⟨⟨s, hs⟩, ⟨a, ha, hca⟩, ⟨b, hb, hcb⟩⟩
  simp only [goRules, coreRules, tiRules, unRules, AS_of_eq, ← decide_not, N0, N1, N2, N3, N4, N5, Z0, Z1, Z2, Z3, Z4, Z5, Z6, Z7, Z8, Z9, Z10, Zc, ↓reduceIte, reduceCtorEq, comps_len]
  by_cases h1 : (s.length : Int) > 300
  · simp only [goRules, coreRules, tiRules, unRules, AS_of_eq, ← decide_not, N0, N1, N2, N3, N4, N5, Z0, Z1, Z2, Z3, Z4, Z5, Z6, Z7, Z8, Z9, Z10, Zc, ↓reduceIte, reduceCtorEq, h1]
    refine call_awake15 (by simp [get_cons]) ?_
    simp only [goRules, coreRules, tiRules, unRules, AS_of_eq, ← decide_not, N0, N1, N2, N3, N4, N5, Z0, Z1, Z2, Z3, Z4, Z5, Z6, Z7, Z8, Z9, Z10, Zc, ↓reduceIte, reduceCtorEq]
  simp only [goRules, coreRules, tiRules, unRules, AS_of_eq, ← decide_not, N0, N1, N2, N3, N4, N5, Z0, Z1, Z2, Z3, Z4, Z5, Z6, Z7, Z8, Z9, Z10, Zc, ↓reduceIte, reduceCtorEq, h1]
  refine call_weigh (by simp [get_cons]) rfl ha (fun c h => (hca c h).2) (by omega) ?_
  by_cases h2 : compsF 1000 0 a > 1000
  · simp only [goRules, coreRules, tiRules, unRules, AS_of_eq, ← decide_not, N0, N1, N2, N3, N4, N5, Z0, Z1, Z2, Z3, Z4, Z5, Z6, Z7, Z8, Z9, Z10, Zc, ↓reduceIte, reduceCtorEq, h2]
    refine call_awake15 (by simp [get_cons]) ?_
    simp only [goRules, coreRules, tiRules, unRules, AS_of_eq, ← decide_not, N0, N1, N2, N3, N4, N5, Z0, Z1, Z2, Z3, Z4, Z5, Z6, Z7, Z8, Z9, Z10, Zc, ↓reduceIte, reduceCtorEq]
  simp only [goRules, coreRules, tiRules, unRules, AS_of_eq, ← decide_not, N0, N1, N2, N3, N4, N5, Z0, Z1, Z2, Z3, Z4, Z5, Z6, Z7, Z8, Z9, Z10, Zc, ↓reduceIte, reduceCtorEq, h2]
  refine call_weigh (by simp [get_cons]) rfl hb (fun c h => (hcb c h).2) (by omega) ?_
  by_cases h3 : compsF 1000 0 b > 1000
  · simp only [goRules, coreRules, tiRules, unRules, AS_of_eq, ← decide_not, N0, N1, N2, N3, N4, N5, Z0, Z1, Z2, Z3, Z4, Z5, Z6, Z7, Z8, Z9, Z10, Zc, ↓reduceIte, reduceCtorEq, h3]
    refine call_awake15 (by simp [get_cons]) ?_
    simp only [goRules, coreRules, tiRules, unRules, AS_of_eq, ← decide_not, N0, N1, N2, N3, N4, N5, Z0, Z1, Z2, Z3, Z4, Z5, Z6, Z7, Z8, Z9, Z10, Zc, ↓reduceIte, reduceCtorEq]
  obtain ⟨oa, hwa⟩ := weigh_ok (by omega) hca (show compsF 1000 0 a ≤ 1000 by omega)
  obtain ⟨ob, hwb⟩ := weigh_ok (by omega) hcb (show compsF 1000 0 b ≤ 1000 by omega)
  simp only [goRules, coreRules, tiRules, unRules, AS_of_eq, ← decide_not, N0, N1, N2, N3, N4, N5, Z0, Z1, Z2, Z3, Z4, Z5, Z6, Z7, Z8, Z9, Z10, Zc, ↓reduceIte, reduceCtorEq, h3]
  refine call_do (by simp [get_cons]) rfl (by omega) oa ?_
  simp only [goRules, coreRules, tiRules, unRules, AS_of_eq, ← decide_not, N0, N1, N2, N3, N4, N5, Z0, Z1, Z2, Z3, Z4, Z5, Z6, Z7, Z8, Z9, Z10, Zc, ↓reduceIte, reduceCtorEq, doR, res2]
  refine call_do (by simp [get_cons]) rfl (by omega) ob ?_
  by_cases e1 : errI s a = 0
  case neg =>
    simp only [goRules, coreRules, tiRules, unRules, AS_of_eq, ← decide_not, N0, N1, N2, N3, N4, N5, Z0, Z1, Z2, Z3, Z4, Z5, Z6, Z7, Z8, Z9, Z10, Zc, ↓reduceIte, reduceCtorEq, doR, res2, e1]
    refine call_awake15 (by simp [get_cons]) ?_
    simp only [goRules, coreRules, tiRules, unRules, AS_of_eq, ← decide_not, N0, N1, N2, N3, N4, N5, Z0, Z1, Z2, Z3, Z4, Z5, Z6, Z7, Z8, Z9, Z10, Zc, ↓reduceIte, reduceCtorEq]
  by_cases e2 : errI s b = 0
  case neg =>
    simp only [goRules, coreRules, tiRules, unRules, AS_of_eq, ← decide_not, N0, N1, N2, N3, N4, N5, Z0, Z1, Z2, Z3, Z4, Z5, Z6, Z7, Z8, Z9, Z10, Zc, ↓reduceIte, reduceCtorEq, doR, res2, e1, e2]
    refine call_awake15 (by simp [get_cons]) ?_
    simp only [goRules, coreRules, tiRules, unRules, AS_of_eq, ← decide_not, N0, N1, N2, N3, N4, N5, Z0, Z1, Z2, Z3, Z4, Z5, Z6, Z7, Z8, Z9, Z10, Zc, ↓reduceIte, reduceCtorEq]
  by_cases e3 : a = []
  · subst e3
    simp only [goRules, coreRules, tiRules, unRules, AS_of_eq, ← decide_not, N0, N1, N2, N3, N4, N5, Z0, Z1, Z2, Z3, Z4, Z5, Z6, Z7, Z8, Z9, Z10, Zc, ↓reduceIte, reduceCtorEq, doR, res2, e1, e2, comps_nil, List.length_nil]
    refine call_awake15 (by simp [get_cons]) ?_
    simp only [goRules, coreRules, tiRules, unRules, AS_of_eq, ← decide_not, N0, N1, N2, N3, N4, N5, Z0, Z1, Z2, Z3, Z4, Z5, Z6, Z7, Z8, Z9, Z10, Zc, ↓reduceIte, reduceCtorEq]
  have e4 : ((a.length : Int) = 0) = False := eq_false (by have := List.length_pos_iff.2 e3; omega)
  obtain ⟨a1, a2, a3, a4⟩ := err_zero e1
  obtain ⟨b1, b2, b3, b4⟩ := err_zero e2
  have he := ovE_of a1 b1 (by omega)
  have he2 := ovE_comm he
  have o1 := (ov_facts true he oa ob).2.2.2
  have o2 := (ov_facts false he2 ob oa).2.2.2
  have da := done_small s a
  have db := done_small s b
  simp only [goRules, coreRules, tiRules, unRules, AS_of_eq, ← decide_not, N0, N1, N2, N3, N4, N5, Z0, Z1, Z2, Z3, Z4, Z5, Z6, Z7, Z8, Z9, Z10, Zc, ↓reduceIte, reduceCtorEq, doR, res2, e1, e2, e4, comps_len, List.map_cons, List.map_nil]
  refine call_eff_t (by simp [get_cons]) (by omega) (l := [⟨4, 5, 0, [], false, a⟩]) rfl (by simp) (fun x hx => by rw [List.mem_singleton.1 hx]; exact oa) ?_
  simp only [goRules, coreRules, tiRules, unRules, AS_of_eq, ← decide_not, N0, N1, N2, N3, N4, N5, Z0, Z1, Z2, Z3, Z4, Z5, Z6, Z7, Z8, Z9, Z10, Zc, ↓reduceIte, reduceCtorEq, eff_one, List.map_cons, List.map_nil]
  refine call_eover_t (by simp [get_cons]) (by omega) rfl (l := [⟨4, 5, 0, [], false, b⟩, ⟨4, 6, 0, [], false, b⟩]) rfl (by simp) (fun x hx => by rw [List.mem_singleton.1 hx]; exact oa) (by simp) (fun x hx => by
    simp only [List.mem_cons, List.not_mem_nil, or_false] at hx
    rcases hx with rfl | rfl <;> exact ob) ?_
  have hov : overO ⟨5, a, true, false, false, false, 0, []⟩ [⟨4, 5, 0, [], false, b⟩, ⟨4, 6, 0, [], false, b⟩] = ⟨5, ovN true a b, true, false, false, false, 0, []⟩ := by
    simp [overO, e3, behL, he]
  simp only [goRules, coreRules, tiRules, unRules, AS_of_eq, ← decide_not, N0, N1, N2, N3, N4, N5, Z0, Z1, Z2, Z3, Z4, Z5, Z6, Z7, Z8, Z9, Z10, Zc, ↓reduceIte, reduceCtorEq, hov, ones, oA, List.map_cons, List.map_nil]
  refine call_over (by simp [get_cons]) rfl rfl ob oa ?_
  simp only [goRules, coreRules, tiRules, unRules, AS_of_eq, ← decide_not, N0, N1, N2, N3, N4, N5, Z0, Z1, Z2, Z3, Z4, Z5, Z6, Z7, Z8, Z9, Z10, Zc, ↓reduceIte, reduceCtorEq, ovR_zero he2, res2]
  refine call_rcheck (by simp [get_cons]) rfl o1 ?_
  by_cases c1 : checkI (ovN true a b) = 0
  case neg =>
    simp only [goRules, coreRules, tiRules, unRules, AS_of_eq, ← decide_not, N0, N1, N2, N3, N4, N5, Z0, Z1, Z2, Z3, Z4, Z5, Z6, Z7, Z8, Z9, Z10, Zc, ↓reduceIte, reduceCtorEq, c1]
    refine call_awake15 (by simp [get_cons]) ?_
    simp only [goRules, coreRules, tiRules, unRules, AS_of_eq, ← decide_not, N0, N1, N2, N3, N4, N5, Z0, Z1, Z2, Z3, Z4, Z5, Z6, Z7, Z8, Z9, Z10, Zc, ↓reduceIte, reduceCtorEq]
  simp only [goRules, coreRules, tiRules, unRules, AS_of_eq, ← decide_not, N0, N1, N2, N3, N4, N5, Z0, Z1, Z2, Z3, Z4, Z5, Z6, Z7, Z8, Z9, Z10, Zc, ↓reduceIte, reduceCtorEq, c1]
  refine call_rcheck (by simp [get_cons]) rfl o2 ?_
  by_cases c2 : checkI (ovN false b a) = 0
  case neg =>
    simp only [goRules, coreRules, tiRules, unRules, AS_of_eq, ← decide_not, N0, N1, N2, N3, N4, N5, Z0, Z1, Z2, Z3, Z4, Z5, Z6, Z7, Z8, Z9, Z10, Zc, ↓reduceIte, reduceCtorEq, c2]
    refine call_awake15 (by simp [get_cons]) ?_
    simp only [goRules, coreRules, tiRules, unRules, AS_of_eq, ← decide_not, N0, N1, N2, N3, N4, N5, Z0, Z1, Z2, Z3, Z4, Z5, Z6, Z7, Z8, Z9, Z10, Zc, ↓reduceIte, reduceCtorEq]
  obtain ⟨_, g1, g2, g3⟩ := do_over e1 e2 oa ob c1
  obtain ⟨_, k1, k2, k3⟩ := do_over e2 e1 ob oa c2
  rw [ov_meet true he oa ob a3, show (!true) = false from rfl, ← k2] at g2
  simp only [goRules, coreRules, tiRules, unRules, AS_of_eq, ← decide_not, N0, N1, N2, N3, N4, N5, Z0, Z1, Z2, Z3, Z4, Z5, Z6, Z7, Z8, Z9, Z10, Zc, ↓reduceIte, reduceCtorEq, c2]
  refine call_do (by simp [get_cons]) rfl (by omega) o1 ?_
  simp only [goRules, coreRules, tiRules, unRules, AS_of_eq, ← decide_not, N0, N1, N2, N3, N4, N5, Z0, Z1, Z2, Z3, Z4, Z5, Z6, Z7, Z8, Z9, Z10, Zc, ↓reduceIte, reduceCtorEq, doR, res2, g1, g2]
  refine call_do (by simp [get_cons]) rfl (by omega) o2 ?_
  simp only [goRules, coreRules, tiRules, unRules, AS_of_eq, ← decide_not, N0, N1, N2, N3, N4, N5, Z0, Z1, Z2, Z3, Z4, Z5, Z6, Z7, Z8, Z9, Z10, Zc, ↓reduceIte, reduceCtorEq, doR, res2, k1]
  refine call_awake15 (by simp [get_cons]) ?_
  simp only [goRules, coreRules, tiRules, unRules, AS_of_eq, ← decide_not, N0, N1, N2, N3, N4, N5, Z0, Z1, Z2, Z3, Z4, Z5, Z6, Z7, Z8, Z9, Z10, Zc, ↓reduceIte, reduceCtorEq]
end Go.Proofs
end

-- CUe8
section
namespace Go.Proofs
open Go Go.Rw
open _root_.Nat renaming reduceAdd → N0, reduceSub → N1, reduceMul → N2, reduceLT → N3, reduceLeDiff → N4, reduceEqDiff → N5
open _root_.Int renaming reduceNeg → Z0, reduceAdd → Z1, reduceSub → Z2, reduceMul → Z3, reduceGT → Z4, reduceGE → Z5, reduceLT → Z6, reduceLE → Z7, reduceEq → Z8, reduceNe → Z9, reduceToNat → Z10, cast_ofNat_Int → Zc
set_option maxRecDepth 100000
set_option linter.unusedSimpArgs false
set_option linter.unusedVariables false

def wF (m : Int) : Int → List (Nat × List Cp) → Int
  | s, [] => s
  | s, (n, c) :: r => if s ≤ m then wF m (sumF s [(n : Int), compsF m 0 c, 3]) r else s
theorem compsF_bnd (m : Int) : ∀ (l : List Cp) (s : Int), 0 ≤ s → s ≤ 1099511627776 → 0 ≤ compsF m s l ∧ compsF m s l ≤ 1099511627776
  | [], s, h, h2 => ⟨h, h2⟩
  | c :: r, s, h, h2 => by
    rw [compsF]
    split
    · have := sumF_range [(c.t.length : Int), 2] (x := s) ⟨h, h2⟩ (by simp)
      exact compsF_bnd m r _ (by omega) this.2
    · exact ⟨h, h2⟩
theorem wF_le {m : Int} (hm : m < 1099511627776) : ∀ (l : List (Nat × List Cp)) {s : Int}, 0 ≤ s → wF m s l ≤ m → s + 3 * l.length ≤ m ∧ ∀ p ∈ l, (p.1 : Int) ≤ m ∧ compsF m 0 p.2 ≤ m
  | [], s, _, h => by simp only [wF] at h; simp; exact h
  | (n, c) :: r, s, hs, h => by
    simp only [wF] at h
    split at h
    · rename_i h1
      have hc := compsF_bnd m c 0 (by omega) (by omega)
      have e : sumF s [(n : Int), compsF m 0 c, 3] = addI (addI (addI s n) (compsF m 0 c)) 3 := rfl
      have h2 : 0 ≤ addI (addI (addI s n) (compsF m 0 c)) 3 := by unfold addI; omega
      rw [e] at h
      obtain ⟨h3, h4⟩ := wF_le hm r h2 h
      have h5 : addI (addI (addI s n) (compsF m 0 c)) 3 ≤ m := by omega
      have h6 : addI (addI (addI s n) (compsF m 0 c)) 3 = s + n + compsF m 0 c + 3 := by unfold addI at h5 ⊢; omega
      refine ⟨by simp only [List.length_cons]; omega, fun p hp => ?_⟩
      rcases List.mem_cons.1 hp with rfl | hp
      · exact ⟨by simp only; omega, by simp only; omega⟩
      · exact h4 p hp
    · omega
abbrev wideC (c : List Cp) : Prop := c.length ≤ 9223372036854775807 ∧ ∀ x ∈ c, (-9223372036854775808 ≤ x.n ∧ x.n ≤ 9223372036854775807) ∧ x.t.length ≤ 9223372036854775807
abbrev GivenA := { l : List Ac // l.length ≤ 9223372036854775807 ∧ ∀ a ∈ l, a.nm.length ≤ 9223372036854775807 ∧ wideC a.ops }
abbrev GivenO := { l : List On // l.length ≤ 9223372036854775807 ∧ ∀ a ∈ l, a.nm.length ≤ 9223372036854775807 ∧ wideC a.ops }
def wA (l : List Ac) : List (Nat × List Cp) := l.map fun a => (a.nm.length, a.ops)
def wO (l : List On) : List (Nat × List Cp) := l.map fun a => (a.nm.length, a.ops)
theorem wA_cons (a : Ac) (l : List Ac) : wA (a :: l) = (a.nm.length, a.ops) :: wA l := rfl
theorem wO_cons (a : On) (l : List On) : wO (a :: l) = (a.nm.length, a.ops) :: wO l := rfl
abbrev actsCon : Con where
  ι := GivenA × { m : Int // 0 ≤ m ∧ m ≤ 1000000 }
  args := fun p => [.sl 0 6 (acts p.1.1), .v (.int .i64 p.2.1)]
  post := fun p r => r = .v (.int .i64 (wF p.2.1 0 (wA p.1.1)))
  plain := true
theorem acts_good : Rw.Good Tryd.prog 16 actsCon := by
  have hΓ : GoodEnv Tryd.prog [(27, sumCon), (8, weighCon)] := (goodEnv_cons sum_good (goodEnv_cons weigh_good goodEnv_nil))
  refine good_fn (nn := 35) hΓ Tryd.func16 (by kernel_rfl) rfl (show Tryd.f16.results.toList = [.tmp 4] from rfl) (fun _ => rfl) (fun x => by simp [AV.erL, AV.er, acts_er]) ?_
  rintro ⟨⟨l, hl, hc⟩, ⟨m, hm⟩⟩
  simp only [goRules, coreRules, tiRules, unRules, AS_of_eq, ← decide_not, N0, N1, N2, N3, N4, N5, Z0, Z1, Z2, Z3, Z4, Z5, Z6, Z7, Z8, Z9, Z10, Zc, ↓reduceIte, reduceCtorEq, acts_len]
  obtain ⟨St, hSt⟩ : ∃ St : { p : Int × Nat // p.2 ≤ l.length ∧ (0 ≤ p.1 ∧ p.1 ≤ 1099511627776) ∧ wF m 0 (wA l) = wF m p.1 (wA (l.drop p.2)) } → AS, ∀ p, St p = AS.of 35 [(0, .sl 0 6 (acts l)), (1, .v (.int .i64 m)), (5, .v (.int .i64 p.1.1)), (6, .v (.int .i64 p.1.2))] [] [] := ⟨_, fun _ => rfl⟩
  refine vc_loopD [(5, [], [])] hΓ St (fun p => l.length - p.1.2) ⟨(0, 0), by omega, by simp only; omega, rfl⟩ (by rw [hSt]; refine weak_go [] [] ?_; simp only [goRules, coreRules, tiRules, unRules, AS_of_eq, ← decide_not, N0, N1, N2, N3, N4, N5, Z0, Z1, Z2, Z3, Z4, Z5, Z6, Z7, Z8, Z9, Z10, Zc, ↓reduceIte, reduceCtorEq] <;> ((repeat' apply And.intro) <;> first | rfl | omega | trivial)) ?_
  rintro ⟨⟨s, i⟩, hi, hs, hb⟩
  simp only at hi hs hb
  rw [hSt]
  simp only
  simp only [goRules, coreRules, tiRules, unRules, AS_of_eq, ← decide_not, N0, N1, N2, N3, N4, N5, Z0, Z1, Z2, Z3, Z4, Z5, Z6, Z7, Z8, Z9, Z10, Zc, ↓reduceIte, reduceCtorEq, wideRules, acts_len]
  (with_reducible first | refine branchP_dec (fun h => ?_) (fun h => ?_) | refine guardB_dec (fun h => ?_) (fun h => ?_))
  · have hlt : i < l.length := by omega
    have hci := hc l[i] (List.getElem_mem hlt)
    have e1 := acts_getD l hlt
    rw [List.drop_eq_getElem_cons hlt, wA_cons, wF] at hb
    generalize l[i] = a at *
    obtain ⟨k, id, par, nm, dir, ops⟩ := a
    obtain ⟨hn, ho, hoc⟩ := hci
    simp only at hn ho hoc hb e1
    simp (disch := omega) only [goRules, coreRules, tiRules, unRules, AS_of_eq, ← decide_not, N0, N1, N2, N3, N4, N5, Z0, Z1, Z2, Z3, Z4, Z5, Z6, Z7, Z8, Z9, Z10, Zc, ↓reduceIte, reduceCtorEq, wrap_i64, wideRules, h]
    (with_reducible first | refine branchP_dec (fun h2 => ?_) (fun h2 => ?_) | refine guardB_dec (fun h2 => ?_) (fun h2 => ?_))
    · simp (disch := omega) only [goRules, coreRules, tiRules, unRules, AS_of_eq, ← decide_not, N0, N1, N2, N3, N4, N5, Z0, Z1, Z2, Z3, Z4, Z5, Z6, Z7, Z8, Z9, Z10, Zc, ↓reduceIte, reduceCtorEq, wrap_i64, wideRules, h2, e1, aA, acts_len]
      (repeat (with_reducible refine And.intro ?_ ?_; focus (first | omega | exact mixed1 | kernel_rfl)))
      refine call_weigh (by simp [get_cons]) rfl ho (fun c h => (hoc c h).2) hm ?_
      have hcb := compsF_bnd m ops 0 (by omega) (by omega)
      simp (disch := omega) only [goRules, coreRules, tiRules, unRules, AS_of_eq, ← decide_not, N0, N1, N2, N3, N4, N5, Z0, Z1, Z2, Z3, Z4, Z5, Z6, Z7, Z8, Z9, Z10, Zc, ↓reduceIte, reduceCtorEq, wrap_i64, wideRules]
      refine call_sum (by simp [get_cons]) (y := [(nm.length : Int), compsF m 0 ops, 3]) rfl hs (by simp; omega) (by simp) ?_
      simp (disch := omega) only [goRules, coreRules, tiRules, unRules, AS_of_eq, ← decide_not, N0, N1, N2, N3, N4, N5, Z0, Z1, Z2, Z3, Z4, Z5, Z6, Z7, Z8, Z9, Z10, Zc, ↓reduceIte, reduceCtorEq, wrap_i64, wideRules]
      rw [if_pos h2] at hb
      have hr := sumF_range [(nm.length : Int), compsF m 0 ops, 3] hs (by simp; omega)
      refine weak_again ⟨(sumF s [(nm.length : Int), compsF m 0 ops, 3], i + 1), by simp only; omega, by simp only; omega, hb⟩ (by simp only; omega) ?_
      rw [hSt]; refine weak_go [] [] ?_
      simp only [goRules, coreRules, tiRules, unRules, AS_of_eq, ← decide_not, N0, N1, N2, N3, N4, N5, Z0, Z1, Z2, Z3, Z4, Z5, Z6, Z7, Z8, Z9, Z10, Zc, ↓reduceIte, reduceCtorEq] <;> ((repeat' apply And.intro) <;> first | rfl | omega | trivial)
    · simp (disch := omega) only [goRules, coreRules, tiRules, unRules, AS_of_eq, ← decide_not, N0, N1, N2, N3, N4, N5, Z0, Z1, Z2, Z3, Z4, Z5, Z6, Z7, Z8, Z9, Z10, Zc, ↓reduceIte, reduceCtorEq, wrap_i64, wideRules, h2]
      rw [hb, if_neg h2]
  · simp only [goRules, coreRules, tiRules, unRules, AS_of_eq, ← decide_not, N0, N1, N2, N3, N4, N5, Z0, Z1, Z2, Z3, Z4, Z5, Z6, Z7, Z8, Z9, Z10, Zc, ↓reduceIte, reduceCtorEq, wideRules, h]
    rw [List.drop_of_length_le (by omega)] at hb
    rw [hb]; rfl
theorem call_acts {Γ : Env} (hf : Γ.get 16 = some actsCon) {σ : AS} {dr : Bool} {l : List Ac} {m : Int} {ys : List AV} {d : Option Nat} {K : AS → Prop} (hy : ys = acts l) (h1 : l.length ≤ 9223372036854775807) (h2 : ∀ a ∈ l, a.nm.length ≤ 9223372036854775807 ∧ wideC a.ops) (hm : 0 ≤ m ∧ m ≤ 1000000)
    (hk : cont σ d (.v (.int .i64 (wF m 0 (wA l)))) K) : vcCall Tryd.prog Γ dr σ 16 [.sl 0 6 ys, .v (.int .i64 m)] d K := by
  subst hy
  exact vcCall_plain (C := actsCon) (i := (⟨l, h1, h2⟩, ⟨m, hm⟩)) hf rfl rfl rfl (by simp [AV.erL, AV.er, acts_er]) (fun _ h => h) rfl hk
theorem acts_ok {l : List Ac} {m : Int} (hm : m ≤ 1000000) (h2 : ∀ a ∈ l, a.nm.length ≤ 9223372036854775807 ∧ wideC a.ops) (h : wF m 0 (wA l) ≤ m) : l.length ≤ 1000000 ∧ ∀ a ∈ l, okL a.ops := by
  obtain ⟨h3, h4⟩ := wF_le (by omega) (wA l) (Int.le_refl 0) h
  simp only [wA, List.length_map] at h3
  refine ⟨by omega, fun a ha => (weigh_ok hm (h2 a ha).2.2 (h4 (a.nm.length, a.ops) (List.mem_map.2 ⟨a, ha, rfl⟩)).2).1⟩
end Go.Proofs
end

-- CUe9
section
namespace Go.Proofs
open Go Go.Rw
open _root_.Nat renaming reduceAdd → N0, reduceSub → N1, reduceMul → N2, reduceLT → N3, reduceLeDiff → N4, reduceEqDiff → N5
open _root_.Int renaming reduceNeg → Z0, reduceAdd → Z1, reduceSub → Z2, reduceMul → Z3, reduceGT → Z4, reduceGE → Z5, reduceLT → Z6, reduceLE → Z7, reduceEq → Z8, reduceNe → Z9, reduceToNat → Z10, cast_ofNat_Int → Zc
set_option maxRecDepth 100000
set_option linter.unusedSimpArgs false
set_option linter.unusedVariables false

abbrev small15Con : Con where
  ι := GivenO
  args := fun p => [.sl 0 8 (ones p.1)]
  post := fun p r => r = .v (.bool (decide (wF 3000 0 (wO p.1) ≤ 3000)))
  plain := true
theorem small15_good : Rw.Good Tryd.prog 15 small15Con := by
  have hΓ : GoodEnv Tryd.prog [(27, sumCon), (8, weighCon)] := (goodEnv_cons sum_good (goodEnv_cons weigh_good goodEnv_nil))
  refine good_fn (nn := 32) hΓ Tryd.func15 (by kernel_rfl) rfl (show Tryd.f15.results.toList = [.tmp 2] from rfl) (fun _ => rfl) (fun x => by simp [AV.erL, AV.er, ones_er]) ?_
  rintro ⟨l, hl, hc⟩
  simp only [goRules, coreRules, tiRules, unRules, AS_of_eq, ← decide_not, N0, N1, N2, N3, N4, N5, Z0, Z1, Z2, Z3, Z4, Z5, Z6, Z7, Z8, Z9, Z10, Zc, ↓reduceIte, reduceCtorEq, ones_len]
  obtain ⟨St, hSt⟩ : ∃ St : { p : Int × Nat // p.2 ≤ l.length ∧ (0 ≤ p.1 ∧ p.1 ≤ 1099511627776) ∧ wF 3000 0 (wO l) = wF 3000 p.1 (wO (l.drop p.2)) } → AS, ∀ p, St p = AS.of 32 [(0, .sl 0 8 (ones l)), (3, .v (.int .i64 p.1.1)), (4, .v (.int .i64 p.1.2))] [] [] := ⟨_, fun _ => rfl⟩
  refine vc_loopD [(5, [], [])] hΓ St (fun p => l.length - p.1.2) ⟨(0, 0), by omega, by simp only; omega, rfl⟩ (by rw [hSt]; refine weak_go [] [] ?_; simp only [goRules, coreRules, tiRules, unRules, AS_of_eq, ← decide_not, N0, N1, N2, N3, N4, N5, Z0, Z1, Z2, Z3, Z4, Z5, Z6, Z7, Z8, Z9, Z10, Zc, ↓reduceIte, reduceCtorEq] <;> ((repeat' apply And.intro) <;> first | rfl | omega | trivial)) ?_
  rintro ⟨⟨s, i⟩, hi, hs, hb⟩
  simp only at hi hs hb
  rw [hSt]
  simp only
  simp only [goRules, coreRules, tiRules, unRules, AS_of_eq, ← decide_not, N0, N1, N2, N3, N4, N5, Z0, Z1, Z2, Z3, Z4, Z5, Z6, Z7, Z8, Z9, Z10, Zc, ↓reduceIte, reduceCtorEq, wideRules, ones_len]
  (with_reducible first | refine branchP_dec (fun h => ?_) (fun h => ?_) | refine guardB_dec (fun h => ?_) (fun h => ?_))
  · have hlt : i < l.length := by omega
    have hci := hc l[i] (List.getElem_mem hlt)
    have e1 := ones_getD l hlt
    rw [List.drop_eq_getElem_cons hlt, wO_cons, wF] at hb
    generalize l[i] = a at *
    obtain ⟨id, ops, ed, rm, cr, mv, par, nm⟩ := a
    obtain ⟨hn, ho, hoc⟩ := hci
    simp only at hn ho hoc hb e1
    simp (disch := omega) only [goRules, coreRules, tiRules, unRules, AS_of_eq, ← decide_not, N0, N1, N2, N3, N4, N5, Z0, Z1, Z2, Z3, Z4, Z5, Z6, Z7, Z8, Z9, Z10, Zc, ↓reduceIte, reduceCtorEq, wrap_i64, wideRules, h]
    (with_reducible first | refine branchP_dec (fun h2 => ?_) (fun h2 => ?_) | refine guardB_dec (fun h2 => ?_) (fun h2 => ?_))
    · simp (disch := omega) only [goRules, coreRules, tiRules, unRules, AS_of_eq, ← decide_not, N0, N1, N2, N3, N4, N5, Z0, Z1, Z2, Z3, Z4, Z5, Z6, Z7, Z8, Z9, Z10, Zc, ↓reduceIte, reduceCtorEq, wrap_i64, wideRules, h2, e1, oA, ones_len]
      (repeat (with_reducible refine And.intro ?_ ?_; focus (first | omega | exact mixed1 | kernel_rfl)))
      refine call_weigh (by simp [get_cons]) rfl ho (fun c h => (hoc c h).2) (by omega) ?_
      have hcb := compsF_bnd 3000 ops 0 (by omega) (by omega)
      simp (disch := omega) only [goRules, coreRules, tiRules, unRules, AS_of_eq, ← decide_not, N0, N1, N2, N3, N4, N5, Z0, Z1, Z2, Z3, Z4, Z5, Z6, Z7, Z8, Z9, Z10, Zc, ↓reduceIte, reduceCtorEq, wrap_i64, wideRules]
      refine call_sum (by simp [get_cons]) (y := [(nm.length : Int), compsF 3000 0 ops, 3]) rfl hs (by simp; omega) (by simp) ?_
      simp (disch := omega) only [goRules, coreRules, tiRules, unRules, AS_of_eq, ← decide_not, N0, N1, N2, N3, N4, N5, Z0, Z1, Z2, Z3, Z4, Z5, Z6, Z7, Z8, Z9, Z10, Zc, ↓reduceIte, reduceCtorEq, wrap_i64, wideRules]
      rw [if_pos h2] at hb
      have hr := sumF_range [(nm.length : Int), compsF 3000 0 ops, 3] hs (by simp; omega)
      refine weak_again ⟨(sumF s [(nm.length : Int), compsF 3000 0 ops, 3], i + 1), by simp only; omega, by simp only; omega, hb⟩ (by simp only; omega) ?_
      rw [hSt]; refine weak_go [] [] ?_
      simp only [goRules, coreRules, tiRules, unRules, AS_of_eq, ← decide_not, N0, N1, N2, N3, N4, N5, Z0, Z1, Z2, Z3, Z4, Z5, Z6, Z7, Z8, Z9, Z10, Zc, ↓reduceIte, reduceCtorEq] <;> ((repeat' apply And.intro) <;> first | rfl | omega | trivial)
    · simp (disch := omega) only [goRules, coreRules, tiRules, unRules, AS_of_eq, ← decide_not, N0, N1, N2, N3, N4, N5, Z0, Z1, Z2, Z3, Z4, Z5, Z6, Z7, Z8, Z9, Z10, Zc, ↓reduceIte, reduceCtorEq, wrap_i64, wideRules, h2]
      rw [hb, if_neg h2]
      simp [h2]
  · simp only [goRules, coreRules, tiRules, unRules, AS_of_eq, ← decide_not, N0, N1, N2, N3, N4, N5, Z0, Z1, Z2, Z3, Z4, Z5, Z6, Z7, Z8, Z9, Z10, Zc, ↓reduceIte, reduceCtorEq, wideRules, h]
    rw [List.drop_of_length_le (by omega)] at hb
    rw [hb]; rfl
theorem call_small15 {Γ : Env} (hf : Γ.get 15 = some small15Con) {σ : AS} {dr : Bool} {l : List On} {ys : List AV} {d : Option Nat} {K : AS → Prop} (hy : ys = ones l) (h1 : l.length ≤ 9223372036854775807) (h2 : ∀ a ∈ l, a.nm.length ≤ 9223372036854775807 ∧ wideC a.ops)
    (hk : cont σ d (.v (.bool (decide (wF 3000 0 (wO l) ≤ 3000)))) K) : vcCall Tryd.prog Γ dr σ 15 [.sl 0 8 ys] d K := by
  subst hy
  exact vcCall_plain (C := small15Con) (i := ⟨l, h1, h2⟩) hf rfl rfl rfl (by simp [AV.erL, AV.er, ones_er]) (fun _ h => h) rfl hk
theorem ones_ok {l : List On} {m : Int} (hm : m ≤ 1000000) (h2 : ∀ a ∈ l, a.nm.length ≤ 9223372036854775807 ∧ wideC a.ops) (h : wF m 0 (wO l) ≤ m) : l.length ≤ 1000000 ∧ ∀ a ∈ l, okL a.ops := by
  obtain ⟨h3, h4⟩ := wF_le (by omega) (wO l) (Int.le_refl 0) h
  simp only [wO, List.length_map] at h3
  refine ⟨by omega, fun a ha => (weigh_ok hm (h2 a ha).2.2 (h4 (a.nm.length, a.ops) (List.mem_map.2 ⟨a, ha, rfl⟩)).2).1⟩
abbrev sameOnes : Con where
  ι := { l : List On // l.length ≤ 1099511627776 }
  args := fun p => [.sl 0 8 (ones p.1)]
  post := fun p r => r = .sl 0 8 (ones p.1)
theorem made15_good : Rw.Good Tryd.prog 18 sameOnes := by
  have hΓ : GoodEnv Tryd.prog [] := goodEnv_nil
  refine good_fn (nn := 37) hΓ Tryd.func18 (by kernel_rfl) rfl (show Tryd.f18.results.toList = [.tmp 2] from rfl) (fun _ => rfl) (fun x => by simp [AV.erL, AV.er, ones_er]) ?_
  rintro ⟨l, hl⟩
  simp only [goRules, coreRules, tiRules, unRules, AS_of_eq, ← decide_not, N0, N1, N2, N3, N4, N5, Z0, Z1, Z2, Z3, Z4, Z5, Z6, Z7, Z8, Z9, Z10, Zc, ↓reduceIte, reduceCtorEq, ones_len]
  obtain ⟨St, hSt⟩ : ∃ St : { i : Nat // i ≤ l.length } → AS, ∀ i, St i = AS.of 37 [(0, .sl 0 8 (ones l)), (3, .sl 2 8 (ones (l.take i.1))), (4, .v (.int .i64 i.1))] [] [(i.1, 37)] := ⟨_, fun _ => rfl⟩
  refine vc_loop hΓ St (fun i => l.length - i.1) ⟨0, by omega⟩ (by rw [hSt]; refine weak_go [] [.nil 8] ?_; simp only [goRules, coreRules, tiRules, unRules, AS_of_eq, ← decide_not, N0, N1, N2, N3, N4, N5, Z0, Z1, Z2, Z3, Z4, Z5, Z6, Z7, Z8, Z9, Z10, Zc, ↓reduceIte, reduceCtorEq, List.take_zero, ones_nil] <;> ((repeat' apply And.intro) <;> first | rfl | omega | trivial)) ?_
  rintro ⟨i, hi⟩
  rw [hSt]
  simp only
  simp only [goRules, coreRules, tiRules, unRules, AS_of_eq, ← decide_not, N0, N1, N2, N3, N4, N5, Z0, Z1, Z2, Z3, Z4, Z5, Z6, Z7, Z8, Z9, Z10, Zc, ↓reduceIte, reduceCtorEq, ones_len]
  (with_reducible first | refine branchP_dec (fun h => ?_) (fun h => ?_) | refine guardB_dec (fun h => ?_) (fun h => ?_))
  · have hlt : i < l.length := by omega
    have e1 := ones_getD l hlt
    have e2 : ones (l.take (i + 1)) = ones (l.take i) ++ [oA l[i]] := by rw [List.take_succ_eq_append_getElem hlt, ones, List.map_append]; rfl
    generalize l[i] = x at *
    simp only [oA] at e2
    simp only [goRules, coreRules, tiRules, unRules, AS_of_eq, ← decide_not, N0, N1, N2, N3, N4, N5, Z0, Z1, Z2, Z3, Z4, Z5, Z6, Z7, Z8, Z9, Z10, Zc, ↓reduceIte, reduceCtorEq, h, e1, oA, ones_len, List.map_cons, List.map_nil, List.length_take, show min i l.length = i by omega, wrap_i64 (n := (i : Int) + 1) (by omega) (by omega)]
    (repeat (with_reducible refine And.intro ?_ ?_; focus (first | omega | exact mixed1 | kernel_rfl)))
    refine weak_again ⟨i + 1, by omega⟩ (by simp only; omega) ?_
    rw [hSt]; refine weak_go [] [.live 2] ?_
    rw [e2]
    simp only [goRules, coreRules, tiRules, unRules, AS_of_eq, ← decide_not, N0, N1, N2, N3, N4, N5, Z0, Z1, Z2, Z3, Z4, Z5, Z6, Z7, Z8, Z9, Z10, Zc, ↓reduceIte, reduceCtorEq, List.length_append, List.length_cons, List.length_nil, ones_len, List.length_take, show min i l.length = i by omega] <;> ((repeat' apply And.intro) <;> first | rfl | omega | trivial)
  · have e5 : l.take i = l := List.take_of_length_le (by omega)
    rw [e5]
    simp only [goRules, coreRules, tiRules, unRules, AS_of_eq, ← decide_not, N0, N1, N2, N3, N4, N5, Z0, Z1, Z2, Z3, Z4, Z5, Z6, Z7, Z8, Z9, Z10, Zc, ↓reduceIte, reduceCtorEq, h]
theorem flat15_good : Rw.Good Tryd.prog 20 sameOnes := by
  have hΓ : GoodEnv Tryd.prog [] := goodEnv_nil
  refine good_fn (nn := 37) hΓ Tryd.func20 (by kernel_rfl) rfl (show Tryd.f20.results.toList = [.tmp 2] from rfl) (fun _ => rfl) (fun x => by simp [AV.erL, AV.er, ones_er]) ?_
  rintro ⟨l, hl⟩
  simp only [goRules, coreRules, tiRules, unRules, AS_of_eq, ← decide_not, N0, N1, N2, N3, N4, N5, Z0, Z1, Z2, Z3, Z4, Z5, Z6, Z7, Z8, Z9, Z10, Zc, ↓reduceIte, reduceCtorEq, ones_len]
  obtain ⟨St, hSt⟩ : ∃ St : { i : Nat // i ≤ l.length } → AS, ∀ i, St i = AS.of 37 [(0, .sl 0 8 (ones l)), (3, .sl 2 8 (ones (l.take i.1))), (4, .v (.int .i64 i.1))] [] [(i.1, 46)] := ⟨_, fun _ => rfl⟩
  refine vc_loop hΓ St (fun i => l.length - i.1) ⟨0, by omega⟩ (by rw [hSt]; refine weak_go [] [.nil 8] ?_; simp only [goRules, coreRules, tiRules, unRules, AS_of_eq, ← decide_not, N0, N1, N2, N3, N4, N5, Z0, Z1, Z2, Z3, Z4, Z5, Z6, Z7, Z8, Z9, Z10, Zc, ↓reduceIte, reduceCtorEq, List.take_zero, ones_nil] <;> ((repeat' apply And.intro) <;> first | rfl | omega | trivial)) ?_
  rintro ⟨i, hi⟩
  rw [hSt]
  simp only
  simp only [goRules, coreRules, tiRules, unRules, AS_of_eq, ← decide_not, N0, N1, N2, N3, N4, N5, Z0, Z1, Z2, Z3, Z4, Z5, Z6, Z7, Z8, Z9, Z10, Zc, ↓reduceIte, reduceCtorEq, ones_len]
  (with_reducible first | refine branchP_dec (fun h => ?_) (fun h => ?_) | refine guardB_dec (fun h => ?_) (fun h => ?_))
  · have hlt : i < l.length := by omega
    have e1 := ones_getD l hlt
    have e2 : ones (l.take (i + 1)) = ones (l.take i) ++ [oA l[i]] := by rw [List.take_succ_eq_append_getElem hlt, ones, List.map_append]; rfl
    generalize l[i] = x at *
    simp only [oA] at e2
    simp only [goRules, coreRules, tiRules, unRules, AS_of_eq, ← decide_not, N0, N1, N2, N3, N4, N5, Z0, Z1, Z2, Z3, Z4, Z5, Z6, Z7, Z8, Z9, Z10, Zc, ↓reduceIte, reduceCtorEq, h, e1, oA, ones_len, List.map_cons, List.map_nil, List.length_take, show min i l.length = i by omega, wrap_i64 (n := (i : Int) + 1) (by omega) (by omega)]
    (repeat (with_reducible refine And.intro ?_ ?_; focus (first | omega | exact mixed1 | kernel_rfl)))
    refine weak_again ⟨i + 1, by omega⟩ (by simp only; omega) ?_
    rw [hSt]; refine weak_go [] [.live 2] ?_
    rw [e2]
    simp only [goRules, coreRules, tiRules, unRules, AS_of_eq, ← decide_not, N0, N1, N2, N3, N4, N5, Z0, Z1, Z2, Z3, Z4, Z5, Z6, Z7, Z8, Z9, Z10, Zc, ↓reduceIte, reduceCtorEq, List.length_append, List.length_cons, List.length_nil, ones_len, List.length_take, show min i l.length = i by omega] <;> ((repeat' apply And.intro) <;> first | rfl | omega | trivial)
  · have e5 : l.take i = l := List.take_of_length_le (by omega)
    rw [e5]
    simp only [goRules, coreRules, tiRules, unRules, AS_of_eq, ← decide_not, N0, N1, N2, N3, N4, N5, Z0, Z1, Z2, Z3, Z4, Z5, Z6, Z7, Z8, Z9, Z10, Zc, ↓reduceIte, reduceCtorEq, h]
theorem call_sameOnes {Γ : Env} {f : Nat} (hf : Γ.get f = some sameOnes) {σ : AS} {dr : Bool} {l : List On} {ys : List AV} {d : Option Nat} {K : AS → Prop} (hy : ys = ones l) (h1 : l.length ≤ 1099511627776)
    (hk : cont σ d (.sl 0 8 (ones l)) K) : vcCall Tryd.prog Γ dr σ f [.sl 0 8 ys] d K := by
  subst hy
  exact vcCall_fn (C := sameOnes) (i := ⟨l, h1⟩) (r := .sl 0 8 (ones l)) hf rfl rfl (by simp [AV.erL, AV.er, ones_er]) rfl (fun _ h => h) hk
theorem rget_good : Rw.Good Tryd.prog 17 findCon := by
  have hΓ : GoodEnv Tryd.prog [] := goodEnv_nil
  refine good_fn (nn := 20) hΓ Tryd.func17 (by kernel_rfl) rfl (show Tryd.f17.results.toList = [.tmp 4] from rfl) (fun _ => rfl) (fun x => by simp [AV.erL, AV.er, ones_er]) ?_
  rintro ⟨⟨l, hl⟩, id⟩
  simp only [goRules, coreRules, tiRules, unRules, AS_of_eq, ← decide_not, N0, N1, N2, N3, N4, N5, Z0, Z1, Z2, Z3, Z4, Z5, Z6, Z7, Z8, Z9, Z10, Zc, ↓reduceIte, reduceCtorEq, ones_len]
  obtain ⟨St, hSt⟩ : ∃ St : { i : Nat // i ≤ l.length ∧ fnd id l = i + fnd id (l.drop i) } → AS, ∀ i, St i = AS.of 20 [(0, .sl 0 8 (ones l)), (1, .v (.int .i64 id)), (5, .v (.int .i64 i.1))] [] [] := ⟨_, fun _ => rfl⟩
  refine vc_loop hΓ St (fun i => l.length - i.1) ⟨0, by omega, by simp⟩ (by rw [hSt]; refine weak_go [] [] ?_; simp only [goRules, coreRules, tiRules, unRules, AS_of_eq, ← decide_not, N0, N1, N2, N3, N4, N5, Z0, Z1, Z2, Z3, Z4, Z5, Z6, Z7, Z8, Z9, Z10, Zc, ↓reduceIte, reduceCtorEq] <;> ((repeat' apply And.intro) <;> first | rfl | omega | trivial)) ?_
  rintro ⟨i, hi, hf⟩
  rw [hSt]
  simp only
  simp only [goRules, coreRules, tiRules, unRules, AS_of_eq, ← decide_not, N0, N1, N2, N3, N4, N5, Z0, Z1, Z2, Z3, Z4, Z5, Z6, Z7, Z8, Z9, Z10, Zc, ↓reduceIte, reduceCtorEq, ones_len]
  (with_reducible first | refine branchP_dec (fun h => ?_) (fun h => ?_) | refine guardB_dec (fun h => ?_) (fun h => ?_))
  · have hlt : i < l.length := by omega
    have e1 := ones_getD l hlt
    rw [List.drop_eq_getElem_cons hlt, fnd] at hf
    generalize l[i] = x at *
    by_cases hx : x.id = id
    · rw [if_pos hx] at hf
      simp only [goRules, coreRules, tiRules, unRules, AS_of_eq, ← decide_not, N0, N1, N2, N3, N4, N5, Z0, Z1, Z2, Z3, Z4, Z5, Z6, Z7, Z8, Z9, Z10, Zc, ↓reduceIte, reduceCtorEq, h, e1, oA, ones_len, hx]
      (repeat (with_reducible refine And.intro ?_ ?_; focus (first | omega | exact mixed1 | kernel_rfl)))
      rw [fndI, if_pos (by omega), hf, Nat.add_zero]
    · rw [if_neg hx] at hf
      simp only [goRules, coreRules, tiRules, unRules, AS_of_eq, ← decide_not, N0, N1, N2, N3, N4, N5, Z0, Z1, Z2, Z3, Z4, Z5, Z6, Z7, Z8, Z9, Z10, Zc, ↓reduceIte, reduceCtorEq, h, e1, oA, ones_len, hx, wrap_i64 (n := (i : Int) + 1) (by omega) (by omega)]
      (repeat (with_reducible refine And.intro ?_ ?_; focus (first | omega | exact mixed1 | kernel_rfl)))
      refine weak_again ⟨i + 1, by omega, by omega⟩ (by simp only; omega) ?_
      rw [hSt]; refine weak_go [] [] ?_
      simp only [goRules, coreRules, tiRules, unRules, AS_of_eq, ← decide_not, N0, N1, N2, N3, N4, N5, Z0, Z1, Z2, Z3, Z4, Z5, Z6, Z7, Z8, Z9, Z10, Zc, ↓reduceIte, reduceCtorEq] <;> ((repeat' apply And.intro) <;> first | rfl | omega | trivial)
  · simp only [goRules, coreRules, tiRules, unRules, AS_of_eq, ← decide_not, N0, N1, N2, N3, N4, N5, Z0, Z1, Z2, Z3, Z4, Z5, Z6, Z7, Z8, Z9, Z10, Zc, ↓reduceIte, reduceCtorEq, h]
    rw [List.drop_of_length_le (by omega), fnd] at hf
    rw [fndI, if_neg (by omega)]
theorem call_rget {Γ : Env} (hf : Γ.get 17 = some findCon) {σ : AS} {dr : Bool} {xs : List On} {id : Int} {ys : List AV} {d : Option Nat} {K : AS → Prop} (hy : ys = ones xs) (hl : xs.length ≤ 1099511627776)
    (hk : cont σ d (.v (.int .i64 (fndI id xs))) K) : vcCall Tryd.prog Γ dr σ 17 [.sl 0 8 ys, .v (.int .i64 id)] d K := by
  subst hy
  exact vcCall_plain (C := findCon) (i := (⟨xs, hl⟩, id)) hf rfl rfl rfl (by simp [AV.erL, AV.er, ones_er]) (fun _ h => h) rfl hk
end Go.Proofs
end

-- CUe10
section
namespace Go.Proofs
open Go Go.Rw
open _root_.Nat renaming reduceAdd → N0, reduceSub → N1, reduceMul → N2, reduceLT → N3, reduceLeDiff → N4, reduceEqDiff → N5
open _root_.Int renaming reduceNeg → Z0, reduceAdd → Z1, reduceSub → Z2, reduceMul → Z3, reduceGT → Z4, reduceGE → Z5, reduceLT → Z6, reduceLE → Z7, reduceEq → Z8, reduceNe → Z9, reduceToNat → Z10, cast_ofNat_Int → Zc
set_option maxRecDepth 100000
set_option linter.unusedSimpArgs false
set_option linter.unusedVariables false

abbrev OnS := { x : On // x.ops.length ≤ 4000000000000 }
abbrev esame1Con : Con where
  ι := OnS × OnS
  args := fun p => [oA p.1.1, oA p.2.1]
  post := fun p r => r = .v (.bool (decide (p.1.1 = p.2.1)))
  plain := true
theorem esame1_good : Rw.Good Tryd.prog 47 esame1Con := by
  have hΓ : GoodEnv Tryd.prog [(62, sameCon)] := (goodEnv_cons same_good goodEnv_nil)
  refine good_fn (nn := 61) hΓ Tryd.func47 (by kernel_rfl) rfl (show Tryd.f47.results.toList = [.tmp 4] from rfl) (fun _ => rfl) (fun x => by simp [AV.erL, oA_er]) ?_
  rintro ⟨⟨x, hx⟩, ⟨y, hy⟩⟩
  have key : (x = y) = (x.ed = y.ed ∧ x.rm = y.rm ∧ x.cr = y.cr ∧ x.mv = y.mv ∧ x.id = y.id ∧ x.par = y.par ∧ x.nm = y.nm ∧ x.ops = y.ops) := by
    cases x; cases y
    simp only [On.mk.injEq]
    apply propext
    constructor
    · rintro ⟨a, b, c, d, e, f, g, h⟩; exact ⟨c, d, e, f, a, g, h, b⟩
    · rintro ⟨c, d, e, f, a, g, h, b⟩; exact ⟨a, b, c, d, e, f, g, h⟩
  have dk : decide (x = y) = decide (x.ed = y.ed ∧ x.rm = y.rm ∧ x.cr = y.cr ∧ x.mv = y.mv ∧ x.id = y.id ∧ x.par = y.par ∧ x.nm = y.nm ∧ x.ops = y.ops) := by simp only [key]
  simp only [dk]
  simp only [goRules, coreRules, tiRules, unRules, AS_of_eq, ← decide_not, N0, N1, N2, N3, N4, N5, Z0, Z1, Z2, Z3, Z4, Z5, Z6, Z7, Z8, Z9, Z10, Zc, ↓reduceIte, reduceCtorEq, oA]
  by_cases h1 : x.ed = y.ed
  case neg =>
    have n1 : (x.ed == y.ed) = false := by simp [h1]
    simp only [goRules, coreRules, tiRules, unRules, AS_of_eq, ← decide_not, N0, N1, N2, N3, N4, N5, Z0, Z1, Z2, Z3, Z4, Z5, Z6, Z7, Z8, Z9, Z10, Zc, ↓reduceIte, reduceCtorEq, n1]
    simp [key, h1]
  have b1 : (x.ed == y.ed) = true := by simp [h1]
  by_cases h2 : x.rm = y.rm
  case neg =>
    have n2 : (x.rm == y.rm) = false := by simp [h2]
    simp only [goRules, coreRules, tiRules, unRules, AS_of_eq, ← decide_not, N0, N1, N2, N3, N4, N5, Z0, Z1, Z2, Z3, Z4, Z5, Z6, Z7, Z8, Z9, Z10, Zc, ↓reduceIte, reduceCtorEq, b1, n2]
    simp [key, h2]
  have b2 : (x.rm == y.rm) = true := by simp [h2]
  by_cases h3 : x.cr = y.cr
  case neg =>
    have n3 : (x.cr == y.cr) = false := by simp [h3]
    simp only [goRules, coreRules, tiRules, unRules, AS_of_eq, ← decide_not, N0, N1, N2, N3, N4, N5, Z0, Z1, Z2, Z3, Z4, Z5, Z6, Z7, Z8, Z9, Z10, Zc, ↓reduceIte, reduceCtorEq, b1, b2, n3]
    simp [key, h3]
  have b3 : (x.cr == y.cr) = true := by simp [h3]
  by_cases h4 : x.mv = y.mv
  case neg =>
    have n4 : (x.mv == y.mv) = false := by simp [h4]
    simp only [goRules, coreRules, tiRules, unRules, AS_of_eq, ← decide_not, N0, N1, N2, N3, N4, N5, Z0, Z1, Z2, Z3, Z4, Z5, Z6, Z7, Z8, Z9, Z10, Zc, ↓reduceIte, reduceCtorEq, b1, b2, b3, n4]
    simp [key, h4]
  have b4 : (x.mv == y.mv) = true := by simp [h4]
  by_cases h5 : x.id = y.id
  case neg =>
    simp only [goRules, coreRules, tiRules, unRules, AS_of_eq, ← decide_not, N0, N1, N2, N3, N4, N5, Z0, Z1, Z2, Z3, Z4, Z5, Z6, Z7, Z8, Z9, Z10, Zc, ↓reduceIte, reduceCtorEq, b1, b2, b3, b4, h5]
    simp [key, h5]
  by_cases h6 : x.par = y.par
  case neg =>
    simp only [goRules, coreRules, tiRules, unRules, AS_of_eq, ← decide_not, N0, N1, N2, N3, N4, N5, Z0, Z1, Z2, Z3, Z4, Z5, Z6, Z7, Z8, Z9, Z10, Zc, ↓reduceIte, reduceCtorEq, b1, b2, b3, b4, h5, h6]
    simp [key, h6]
  by_cases h7 : x.nm = y.nm
  case neg =>
    simp only [goRules, coreRules, tiRules, unRules, AS_of_eq, ← decide_not, N0, N1, N2, N3, N4, N5, Z0, Z1, Z2, Z3, Z4, Z5, Z6, Z7, Z8, Z9, Z10, Zc, ↓reduceIte, reduceCtorEq, b1, b2, b3, b4, h5, h6, h7]
    simp [key, h7]
  simp only [goRules, coreRules, tiRules, unRules, AS_of_eq, ← decide_not, N0, N1, N2, N3, N4, N5, Z0, Z1, Z2, Z3, Z4, Z5, Z6, Z7, Z8, Z9, Z10, Zc, ↓reduceIte, reduceCtorEq, b1, b2, b3, b4, h5, h6, h7]
  refine call_same (by simp [get_cons]) rfl rfl hx hy ?_
  simp only [goRules, coreRules, tiRules, unRules, AS_of_eq, ← decide_not, N0, N1, N2, N3, N4, N5, Z0, Z1, Z2, Z3, Z4, Z5, Z6, Z7, Z8, Z9, Z10, Zc, ↓reduceIte, reduceCtorEq, b1, b2, b3, b4, h5, h6, h7]
  simp [key, h1, h2, h3, h4, h5, h6, h7]
abbrev OnsS := { l : List On // l.length ≤ 1099511627776 ∧ ∀ x ∈ l, x.ops.length ≤ 4000000000000 }
abbrev eqfCon : Con where
  ι := OnsS × OnsS
  args := fun p => [.sl 0 8 (ones p.1.1), .sl 0 8 (ones p.2.1), .fn 47 []]
  post := fun p r => r = .v (.bool (decide (p.1.1 = p.2.1)))
  plain := true
theorem eqf_good : Rw.Good Tryd.prog 46 eqfCon := by
  have hΓ : GoodEnv Tryd.prog [(47, esame1Con)] := (goodEnv_cons esame1_good goodEnv_nil)
  refine good_fn (nn := 32) hΓ Tryd.func46 (by kernel_rfl) rfl (show Tryd.f46.results.toList = [.tmp 6] from rfl) (fun _ => rfl) (fun x => by simp [AV.erL, AV.er, ones_er]) ?_
  rintro ⟨⟨a, ha, hao⟩, ⟨b, hb, hbo⟩⟩
  simp only [goRules, coreRules, tiRules, unRules, AS_of_eq, ← decide_not, N0, N1, N2, N3, N4, N5, Z0, Z1, Z2, Z3, Z4, Z5, Z6, Z7, Z8, Z9, Z10, Zc, ↓reduceIte, reduceCtorEq, ones_len]
  by_cases hl : a.length = b.length
  case neg =>
    have hne : a ≠ b := fun e => hl (by rw [e])
    simp only [goRules, coreRules, tiRules, unRules, AS_of_eq, ← decide_not, N0, N1, N2, N3, N4, N5, Z0, Z1, Z2, Z3, Z4, Z5, Z6, Z7, Z8, Z9, Z10, Zc, ↓reduceIte, reduceCtorEq, show ((a.length : Int) = b.length) = False from eq_false (by omega), hne]
  simp only [goRules, coreRules, tiRules, unRules, AS_of_eq, ← decide_not, N0, N1, N2, N3, N4, N5, Z0, Z1, Z2, Z3, Z4, Z5, Z6, Z7, Z8, Z9, Z10, Zc, ↓reduceIte, reduceCtorEq, hl, ones_len]
  obtain ⟨St, hSt⟩ : ∃ St : { i : Nat // i ≤ b.length ∧ a.take i = b.take i } → AS, ∀ i, St i = AS.of 32 [(1, .sl 0 8 (ones b)), (2, .fn 47 []), (15, .sl 0 8 (ones a)), (16, .v (.int .i64 b.length)), (17, .v (.int .i64 i.1))] [] [] := ⟨_, fun _ => rfl⟩
  refine vc_loop hΓ St (fun i => b.length - i.1) ⟨0, by omega, by simp⟩ (by rw [hSt]; refine weak_go [] [] ?_; simp only [goRules, coreRules, tiRules, unRules, AS_of_eq, ← decide_not, N0, N1, N2, N3, N4, N5, Z0, Z1, Z2, Z3, Z4, Z5, Z6, Z7, Z8, Z9, Z10, Zc, ↓reduceIte, reduceCtorEq] <;> ((repeat' apply And.intro) <;> first | rfl | omega | trivial)) ?_
  rintro ⟨i, hi, hs⟩
  rw [hSt]
  simp only
  simp only [goRules, coreRules, tiRules, unRules, AS_of_eq, ← decide_not, N0, N1, N2, N3, N4, N5, Z0, Z1, Z2, Z3, Z4, Z5, Z6, Z7, Z8, Z9, Z10, Zc, ↓reduceIte, reduceCtorEq, ones_len]
  (with_reducible first | refine branchP_dec (fun h => ?_) (fun h => ?_) | refine guardB_dec (fun h => ?_) (fun h => ?_))
  · have hlt : i < a.length := by omega
    have hlt2 : i < b.length := by omega
    have e1 := ones_getD a hlt
    have e2 := ones_getD b hlt2
    have hx := hao _ (List.getElem_mem hlt)
    have hy := hbo _ (List.getElem_mem hlt2)
    have ta := List.take_succ_eq_append_getElem hlt
    have tb := List.take_succ_eq_append_getElem hlt2
    have hab : a[i] = b[i] → a.take (i + 1) = b.take (i + 1) := fun he => by rw [ta, tb, he, hs]
    have hne : ¬ a[i] = b[i] → a ≠ b := fun he hh => he (by subst hh; rfl)
    generalize a[i] = x at *
    generalize b[i] = y at *
    simp only [goRules, coreRules, tiRules, unRules, AS_of_eq, ← decide_not, N0, N1, N2, N3, N4, N5, Z0, Z1, Z2, Z3, Z4, Z5, Z6, Z7, Z8, Z9, Z10, Zc, ↓reduceIte, reduceCtorEq, h, e1, e2, oA, ones_len]
    (repeat (with_reducible refine And.intro ?_ ?_; focus (first | omega | exact mixed1 | kernel_rfl)))
    refine vcCall_plain (C := esame1Con) (i := (⟨x, hx⟩, ⟨y, hy⟩)) (by simp [get_cons]) rfl rfl rfl (by simp [AV.erL, AV.er, oA]) (fun _ h => h) rfl ?_
    by_cases hxy : x = y
    · simp only [goRules, coreRules, tiRules, unRules, AS_of_eq, ← decide_not, N0, N1, N2, N3, N4, N5, Z0, Z1, Z2, Z3, Z4, Z5, Z6, Z7, Z8, Z9, Z10, Zc, ↓reduceIte, reduceCtorEq, hxy, wrap_i64 (n := (i : Int) + 1) (by omega) (by omega)]
      refine weak_again ⟨i + 1, by omega, hab hxy⟩ (by simp only; omega) ?_
      rw [hSt]; refine weak_go [] [] ?_
      simp only [goRules, coreRules, tiRules, unRules, AS_of_eq, ← decide_not, N0, N1, N2, N3, N4, N5, Z0, Z1, Z2, Z3, Z4, Z5, Z6, Z7, Z8, Z9, Z10, Zc, ↓reduceIte, reduceCtorEq] <;> ((repeat' apply And.intro) <;> first | rfl | omega | trivial)
    · simp only [goRules, coreRules, tiRules, unRules, AS_of_eq, ← decide_not, N0, N1, N2, N3, N4, N5, Z0, Z1, Z2, Z3, Z4, Z5, Z6, Z7, Z8, Z9, Z10, Zc, ↓reduceIte, reduceCtorEq, hxy, hne hxy]
  · have e1 : a.take i = a := List.take_of_length_le (by omega)
    have e2 : b.take i = b := List.take_of_length_le (by omega)
    rw [e1, e2] at hs
    simp only [goRules, coreRules, tiRules, unRules, AS_of_eq, ← decide_not, N0, N1, N2, N3, N4, N5, Z0, Z1, Z2, Z3, Z4, Z5, Z6, Z7, Z8, Z9, Z10, Zc, ↓reduceIte, reduceCtorEq, h, hs]
theorem esame_good : Rw.Good Tryd.prog 22 { ι := OnsS × OnsS, args := fun p => [.sl 0 8 (ones p.1.1), .sl 0 8 (ones p.2.1)], post := fun p r => r = .v (.bool (decide (p.1.1 = p.2.1))), plain := true } := by
  have hΓ : GoodEnv Tryd.prog [(46, eqfCon)] := (goodEnv_cons eqf_good goodEnv_nil)
  refine good_fn (nn := 8) hΓ Tryd.func22 (by kernel_rfl) rfl (show Tryd.f22.results.toList = [.tmp 4] from rfl) (fun _ => rfl) (fun x => by simp [AV.erL, AV.er, ones_er]) ?_
  rintro ⟨⟨a, ha, hao⟩, ⟨b, hb, hbo⟩⟩
  simp only [goRules, coreRules, tiRules, unRules, AS_of_eq, ← decide_not, N0, N1, N2, N3, N4, N5, Z0, Z1, Z2, Z3, Z4, Z5, Z6, Z7, Z8, Z9, Z10, Zc, ↓reduceIte, reduceCtorEq]
  refine vcCall_plain (C := eqfCon) (i := (⟨a, ha, hao⟩, ⟨b, hb, hbo⟩)) (by simp [get_cons]) rfl rfl rfl (by simp [AV.erL, AV.er, ones_er]) (fun _ h => h) rfl ?_
  simp only [goRules, coreRules, tiRules, unRules, AS_of_eq, ← decide_not, N0, N1, N2, N3, N4, N5, Z0, Z1, Z2, Z3, Z4, Z5, Z6, Z7, Z8, Z9, Z10, Zc, ↓reduceIte, reduceCtorEq]
end Go.Proofs
end

-- CUe11
section
namespace Go.Proofs
open Go Go.Rw
set_option maxRecDepth 100000
set_option linter.unusedSimpArgs false
set_option linter.unusedVariables false

def newO (id : Int) : On := ⟨id, [], false, false, false, false, 0, []⟩
/-- What is known of an ID, or nothing yet. -/
def curO (id : Int) (out : List On) : On := out.getD (fnd id out) (newO id)
def stepS (out : List On) (a : Ac) : List On := if fnd a.id out < out.length then out.modify (fnd a.id out) (addA · a) else out ++ [addA (newO a.id) a]
theorem effS_cons (out : List On) (a : Ac) (l : List Ac) : effS out (a :: l) = effS (stepS out a) l := rfl
theorem fnd_nodup : ∀ (l : List On), (l.map On.id).Nodup → ∀ (i : Nat) (h : i < l.length), fnd (l[i]).id l = i
  | x :: l, hn, 0, _ => by simp [fnd]
  | x :: l, hn, i + 1, h => by
    simp only [List.map_cons, List.nodup_cons] at hn
    have h2 : i < l.length := by simpa using h
    have hne : ¬ x.id = (l[i]).id := fun e => hn.1 (by rw [e]; exact List.mem_map.2 ⟨_, List.getElem_mem h2, rfl⟩)
    simp only [List.getElem_cons_succ]
    rw [fnd, if_neg hne, fnd_nodup l hn.2 i h2]
theorem fnd_ids (id : Int) : ∀ l l' : List On, l.map On.id = l'.map On.id → fnd id l = fnd id l'
  | [], [], _ => rfl
  | x :: l, y :: l', h => by
    simp only [List.map_cons, List.cons.injEq] at h
    rw [fnd, fnd, h.1, fnd_ids id l l' h.2]
  | [], y :: l', h => by simp at h
  | x :: l, [], h => by simp at h
theorem fnd_app (id : Int) : ∀ (l : List On) (x : On), fnd id (l ++ [x]) = if fnd id l < l.length then fnd id l else if x.id = id then l.length else l.length + 1
  | [], x => by simp [fnd]
  | y :: l, x => by
    rw [List.cons_append, fnd, fnd]
    by_cases h : y.id = id
    · simp [h]
    · rw [if_neg h, if_neg h, fnd_app id l x]
      simp only [List.length_cons, Nat.add_lt_add_iff_right]
      split
      · rfl
      · split <;> rfl
theorem cur_step {out : List On} (id : Int) (a : Ac) : curO id (stepS out a) = if a.id = id then addA (curO id out) a else curO id out := by
  unfold stepS
  by_cases hf : fnd a.id out < out.length
  · rw [if_pos hf]
    have e1 : fnd id (out.modify (fnd a.id out) (addA · a)) = fnd id out := fnd_ids id _ _ (modify_ids _ _ _)
    unfold curO
    rw [e1]
    by_cases h : a.id = id
    · subst h
      rw [if_pos rfl, List.getD_eq_getElem?_getD, List.getD_eq_getElem?_getD, List.getElem?_modify_eq]
      simp [hf]
    · rw [if_neg h, List.getD_eq_getElem?_getD, List.getD_eq_getElem?_getD]
      by_cases h2 : fnd id out < out.length
      · have hne : fnd a.id out ≠ fnd id out := fun e => by
          have g1 := fnd_get a.id out hf
          have g2 := fnd_get id out h2
          simp only [e] at g1
          exact h (g1.symm.trans g2)
        rw [List.getElem?_modify]; simp [hne]
      · rw [List.getElem?_eq_none (by rw [List.length_modify]; omega), List.getElem?_eq_none (by omega)]
  · rw [if_neg hf]
    unfold curO
    rw [fnd_app]
    by_cases h2 : fnd id out < out.length
    · rw [if_pos h2]
      have hne : ¬ a.id = id := fun e => hf (by rw [e]; exact h2)
      rw [if_neg hne, List.getD_eq_getElem?_getD, List.getD_eq_getElem?_getD, List.getElem?_append_left h2]
    · rw [if_neg h2]
      have e3 : out.getD (fnd id out) (newO id) = newO id := by rw [List.getD_eq_getElem?_getD, List.getElem?_eq_none (by omega)]; rfl
      rw [e3]
      have hid : (addA (newO a.id) a).id = a.id := addA_id _ _
      rw [hid]
      by_cases h : a.id = id
      · subst h
        rw [if_pos rfl, if_pos rfl, List.getD_eq_getElem?_getD]; simp
      · rw [if_neg h, if_neg h, List.getD_eq_getElem?_getD, List.getElem?_eq_none (by simp)]; rfl
theorem stepS_nodup {out : List On} (a : Ac) (h : (out.map On.id).Nodup) : ((stepS out a).map On.id).Nodup := effS_nodup [a] out h
theorem cur_mem {out : List On} (hn : (out.map On.id).Nodup) {x : On} (hx : x ∈ out) : x = curO x.id out := by
  obtain ⟨i, hi, rfl⟩ := List.getElem_of_mem hx
  rw [curO, fnd_nodup out hn i hi, List.getD_eq_getElem?_getD, List.getElem?_eq_getElem hi]; rfl
/-- Each is what the acts of its ID make of what was known of it. -/
theorem effS_cur : ∀ (l : List Ac) (out : List On), (out.map On.id).Nodup → ∀ x ∈ effS out l, x = (l.filter fun a => decide (a.id = x.id)).foldl addA (curO x.id out)
  | [], out, hn, x, hx => cur_mem hn hx
  | a :: l, out, hn, x, hx => by
    rw [effS_cons] at hx
    have h := effS_cur l (stepS out a) (stepS_nodup a hn) x hx
    rw [cur_step] at h
    rw [List.filter_cons]
    by_cases hid : a.id = x.id
    · rw [if_pos hid] at h
      simp only [hid, decide_true, if_true, List.foldl_cons]
      exact h
    · rw [if_neg hid] at h
      simp only [hid, decide_false, Bool.false_eq_true, if_false]
      exact h
def hasK (k id : Int) (l : List Ac) : Bool := l.any fun a => decide (a.id = id) && decide (a.k = k)
theorem fold_flags : ∀ (m : List Ac) (x : On), (m.foldl addA x).cr = (x.cr || m.any fun a => decide (a.k = 1)) ∧ (m.foldl addA x).rm = (x.rm || m.any fun a => decide (a.k = 2)) ∧ (m.foldl addA x).mv = (x.mv || m.any fun a => decide (a.k = 3)) ∧ (m.foldl addA x).ed = (x.ed || m.any fun a => decide (a.k = 4)) ∧
    ((m.any fun a => decide (a.k = 4)) = false → (m.foldl addA x).ops = x.ops) ∧ ((m.any fun a => decide (a.k = 1)) = false → (m.any fun a => decide (a.k = 3)) = false → (m.foldl addA x).nm = x.nm ∧ (m.foldl addA x).par = x.par)
  | [], x => by simp
  | a :: m, x => by
    obtain ⟨h1, h2, h3, h4, h5, h6⟩ := fold_flags m (addA x a)
    simp only [List.foldl_cons, List.any_cons, h1, h2, h3, h4]
    unfold addA at h5 h6 ⊢
    by_cases c1 : a.k = 1
    · simp only [c1, if_true, decide_true, Bool.true_or, Bool.or_true] at *
      simp_all
    · by_cases c2 : a.k = 2
      · simp_all
      · by_cases c3 : a.k = 3
        · simp_all
        · by_cases c4 : a.k = 4
          · simp_all
          · simp_all
theorem any_filter (l : List Ac) (id k : Int) : ((l.filter fun a => decide (a.id = id)).any fun a => decide (a.k = k)) = hasK k id l := by
  rw [List.any_filter]; rfl
theorem eff_flags {l : List Ac} {x : On} (hx : x ∈ effL l) : x.cr = hasK 1 x.id l ∧ x.rm = hasK 2 x.id l ∧ x.mv = hasK 3 x.id l ∧ x.ed = hasK 4 x.id l ∧ (x.ed = false → x.ops = []) ∧ (x.cr = false → x.mv = false → x.nm = [] ∧ x.par = 0) := by
  have hm : x ∈ effS [] l := (List.mergeSort_perm _ leO).mem_iff.1 hx
  have h := effS_cur l [] (by simp) x hm
  have e0 : curO x.id [] = newO x.id := rfl
  rw [e0] at h
  obtain ⟨h1, h2, h3, h4, h5, h6⟩ := fold_flags (l.filter fun a => decide (a.id = x.id)) (newO x.id)
  rw [← h] at h1 h2 h3 h4 h5 h6
  simp only [any_filter, newO, Bool.false_or] at h1 h2 h3 h4 h5 h6
  exact ⟨h1, h2, h3, h4, fun he => h5 (by rw [← h4]; exact he), fun hc hv => h6 (by rw [← h1]; exact hc) (by rw [← h3]; exact hv)⟩
theorem effS_ids : ∀ (l : List Ac) (out : List On), (∀ x ∈ out.map On.id, x ∈ (effS out l).map On.id) ∧ ∀ a ∈ l, a.id ∈ (effS out l).map On.id
  | [], out => ⟨fun x h => h, fun a h => by cases h⟩
  | a :: l, out => by
    rw [effS_cons]
    obtain ⟨h1, h2⟩ := effS_ids l (stepS out a)
    have key : (∀ x ∈ out.map On.id, x ∈ (stepS out a).map On.id) ∧ a.id ∈ (stepS out a).map On.id := by
      unfold stepS
      by_cases hf : fnd a.id out < out.length
      · rw [if_pos hf, modify_ids]
        exact ⟨fun x h => h, (fnd_mem a.id out).1 hf⟩
      · rw [if_neg hf, List.map_append, List.map_cons, List.map_nil, addA_id]
        exact ⟨fun x h => List.mem_append_left _ h, by simp [newO]⟩
    refine ⟨fun x hx => h1 x (key.1 x hx), fun b hb => ?_⟩
    rcases List.mem_cons.1 hb with rfl | hb
    · exact h1 _ key.2
    · exact h2 b hb
theorem eff_ids {l : List Ac} {a : Ac} (ha : a ∈ l) : a.id ∈ (effL l).map On.id := by
  have h := (effS_ids l []).2 a ha
  exact ((List.mergeSort_perm (effS [] l) leO).map On.id).mem_iff.2 h
theorem eff_nodup (l : List Ac) : ((effL l).map On.id).Nodup := ((List.mergeSort_perm (effS [] l) leO).map On.id).nodup_iff.2 (effS_nodup l [] (by simp))
theorem eff_sorted (l : List Ac) : (effL l).Pairwise fun a b => a.id < b.id := by
  have h1 : (effL l).Pairwise fun a b => a.id ≤ b.id := by
    have := List.pairwise_mergeSort (le := leO) (fun a b c h1 h2 => by simp only [leO, decide_eq_true_eq] at *; omega) (fun a b => by simp only [leO, Bool.or_eq_true, decide_eq_true_eq]; omega) (effS [] l)
    exact this.imp fun h => by simpa [leO] using h
  have h2 : (effL l).Pairwise fun a b => a.id ≠ b.id := by
    have := eff_nodup l
    rw [List.Nodup, List.pairwise_map] at this
    exact this
  exact (h1.and h2).imp fun h => by omega
theorem eff_len (l : List Ac) : (effL l).length ≤ l.length := by
  have := effS_len l []
  rw [effL, List.length_mergeSort]
  simpa using this
theorem fold_ops : ∀ (m : List Ac) (x : On), okL x.ops → (∀ a ∈ m, okL a.ops) → okL (m.foldl addA x).ops
  | [], x, h, _ => h
  | a :: m, x, h, ha => by
    refine fold_ops m (addA x a) ?_ fun b hb => ha b (List.mem_cons_of_mem _ hb)
    unfold addA
    split
    · exact h
    · split
      · exact h
      · split
        · exact h
        · split
          · exact ha a (List.mem_cons_self ..)
          · exact h
theorem eff_ok {l : List Ac} (ho : ∀ a ∈ l, okL a.ops) {x : On} (hx : x ∈ effL l) : okL x.ops := by
  have hm : x ∈ effS [] l := (List.mergeSort_perm _ leO).mem_iff.1 hx
  have h := effS_cur l [] (by simp) x hm
  rw [h]
  exact fold_ops _ _ (show okL ([] : List Cp) from ⟨by decide, by decide, fun c hc => by cases hc⟩) fun a ha => ho a (List.mem_filter.1 ha).1
end Go.Proofs
end

-- CUe12
section
namespace Go.Proofs
open Go Go.Rw
open _root_.Nat renaming reduceAdd → N0, reduceSub → N1, reduceMul → N2, reduceLT → N3, reduceLeDiff → N4, reduceEqDiff → N5
open _root_.Int renaming reduceNeg → Z0, reduceAdd → Z1, reduceSub → Z2, reduceMul → Z3, reduceGT → Z4, reduceGE → Z5, reduceLT → Z6, reduceLE → Z7, reduceEq → Z8, reduceNe → Z9, reduceToNat → Z10, cast_ofNat_Int → Zc
set_option maxRecDepth 100000
set_option linter.unusedSimpArgs false
set_option linter.unusedVariables false

abbrev esameCon : Con := { ι := OnsS × OnsS, args := fun p => [.sl 0 8 (ones p.1.1), .sl 0 8 (ones p.2.1)], post := fun p r => r = .v (.bool (decide (p.1.1 = p.2.1))), plain := true }
theorem hasK_take {k id : Int} {l : List Ac} {j : Nat} (h : j < l.length) : hasK k id (l.take (j + 1)) = (hasK k id (l.take j) || (decide (l[j].id = id) && decide (l[j].k = k))) := by
  rw [List.take_succ_eq_append_getElem h, hasK, List.any_append]; simp [hasK]
abbrev one15Con : Con where
  ι := GivenA
  args := fun p => [.sl 0 6 (acts p.1)]
  post := fun _ r => r = .v (.bool true)
  plain := true
set_option maxHeartbeats 4000000 in
theorem one15_good : Rw.Good Tryd.prog 5 one15Con := by
  have hΓ : GoodEnv Tryd.prog [(9, trueCon), (16, actsCon), (12, effCon), (21, getCon), (11, eoverCon), (22, esameCon)] := (goodEnv_cons awake15_good (goodEnv_cons acts_good (goodEnv_cons eff_good (goodEnv_cons get_good (goodEnv_cons eover_good (goodEnv_cons esame_good goodEnv_nil))))))
  refine good_fn (nn := 211) hΓ Tryd.func5 (by kernel_rfl) rfl (show Tryd.f5.results.toList = [.tmp 2] from rfl) (fun _ => rfl) (fun x => by simp [AV.erL, AV.er, acts_er]) ?_
  rintro ⟨l, hl, hc⟩
  simp only [goRules, coreRules, tiRules, unRules, AS_of_eq, ← decide_not, N0, N1, N2, N3, N4, N5, Z0, Z1, Z2, Z3, Z4, Z5, Z6, Z7, Z8, Z9, Z10, Zc, ↓reduceIte, reduceCtorEq, acts_len]
  refine call_acts (by simp [get_cons]) rfl hl hc (by omega) ?_
  by_cases h1 : wF 3000 0 (wA l) > 3000
  · simp only [goRules, coreRules, tiRules, unRules, AS_of_eq, ← decide_not, N0, N1, N2, N3, N4, N5, Z0, Z1, Z2, Z3, Z4, Z5, Z6, Z7, Z8, Z9, Z10, Zc, ↓reduceIte, reduceCtorEq, h1]
    refine call_awake15 (by simp [get_cons]) ?_
    simp only [goRules, coreRules, tiRules, unRules, AS_of_eq, ← decide_not, N0, N1, N2, N3, N4, N5, Z0, Z1, Z2, Z3, Z4, Z5, Z6, Z7, Z8, Z9, Z10, Zc, ↓reduceIte, reduceCtorEq]
  obtain ⟨hlen, ho⟩ := acts_ok (m := 3000) (by omega) hc (by omega)
  simp only [goRules, coreRules, tiRules, unRules, AS_of_eq, ← decide_not, N0, N1, N2, N3, N4, N5, Z0, Z1, Z2, Z3, Z4, Z5, Z6, Z7, Z8, Z9, Z10, Zc, ↓reduceIte, reduceCtorEq, h1]
  refine call_eff (by simp [get_cons]) rfl (by omega) ho ?_
  have hxl := eff_len l
  have hxo : ∀ x ∈ effL l, okL x.ops := fun x hx => eff_ok ho hx
  have hso := eff_sorted l
  have hfl : ∀ x ∈ effL l, _ := fun x hx => eff_flags hx
  have hids : ∀ a ∈ l, a.id ∈ (effL l).map On.id := fun a ha => eff_ids ha
  have hz : (effL l = []) ↔ l = [] := by
    constructor
    · intro h
      cases l with
      | nil => rfl
      | cons a l => have := hids a (by simp); rw [h] at this; cases this
    · intro h; subst h; exact List.eq_nil_of_length_eq_zero (by simpa using hxl)
  generalize effL l = X at *
  simp only [goRules, coreRules, tiRules, unRules, AS_of_eq, ← decide_not, N0, N1, N2, N3, N4, N5, Z0, Z1, Z2, Z3, Z4, Z5, Z6, Z7, Z8, Z9, Z10, Zc, ↓reduceIte, reduceCtorEq]
  obtain ⟨St, hSt⟩ : ∃ St : { i : Nat // i ≤ X.length } → AS, ∀ i, St i = AS.of 211 [(0, .sl 0 6 (acts l)), (3, .sl 0 8 (ones X)), (4, .v (.int .i64 i.1))] [] [] := ⟨_, fun _ => rfl⟩
  refine vc_loop hΓ St (fun i => X.length - i.1) ⟨0, by omega⟩ (by rw [hSt]; refine weak_go [] [] ?_; simp only [goRules, coreRules, tiRules, unRules, AS_of_eq, ← decide_not, N0, N1, N2, N3, N4, N5, Z0, Z1, Z2, Z3, Z4, Z5, Z6, Z7, Z8, Z9, Z10, Zc, ↓reduceIte, reduceCtorEq] <;> ((repeat' apply And.intro) <;> first | rfl | omega | trivial)) ?_
  rintro ⟨i, hi⟩
  rw [hSt]
  simp only
  simp only [goRules, coreRules, tiRules, unRules, AS_of_eq, ← decide_not, N0, N1, N2, N3, N4, N5, Z0, Z1, Z2, Z3, Z4, Z5, Z6, Z7, Z8, Z9, Z10, Zc, ↓reduceIte, reduceCtorEq, ones_len]
  (with_reducible first | refine branchP_dec (fun h => ?_) (fun h => ?_) | refine guardB_dec (fun h => ?_) (fun h => ?_))
  · have hlt : i < X.length := by omega
    have e1 := ones_getD X hlt
    have hf := hfl _ (List.getElem_mem hlt)
    have hprev : 0 < i → X[i - 1].id < X[i].id := fun hp => List.pairwise_iff_getElem.1 hso (i - 1) i (by omega) hlt (by omega)
    have e0 : 0 < i → (ones X).getD (i - 1) .any = oA X[i - 1] := fun hp => ones_getD X (by omega)
    generalize hxi : X[i] = x at *
    simp only [goRules, coreRules, tiRules, unRules, AS_of_eq, ← decide_not, N0, N1, N2, N3, N4, N5, Z0, Z1, Z2, Z3, Z4, Z5, Z6, Z7, Z8, Z9, Z10, Zc, ↓reduceIte, reduceCtorEq, h]
    obtain ⟨Sb, hSb⟩ : ∃ Sb : { j : Nat // j ≤ l.length } → AS, ∀ j, Sb j = AS.of 211 [(0, .sl 0 6 (acts l)), (3, .sl 0 8 (ones X)), (4, .v (.int .i64 i)), (5, .v (.bool (hasK 1 x.id (l.take j.1)))), (6, .v (.bool (hasK 2 x.id (l.take j.1)))), (7, .v (.bool (hasK 3 x.id (l.take j.1)))), (8, .v (.bool (hasK 4 x.id (l.take j.1)))), (9, .v (.int .i64 j.1))] [] [] := ⟨_, fun _ => rfl⟩
    refine vc_loop hΓ Sb (fun j => l.length - j.1) ⟨0, by omega⟩ (by rw [hSb]; refine weak_go [] [] ?_; simp only [goRules, coreRules, tiRules, unRules, AS_of_eq, ← decide_not, N0, N1, N2, N3, N4, N5, Z0, Z1, Z2, Z3, Z4, Z5, Z6, Z7, Z8, Z9, Z10, Zc, ↓reduceIte, reduceCtorEq, List.take_zero, hasK, List.any_nil] <;> ((repeat' apply And.intro) <;> first | rfl | omega | trivial)) ?_
    rintro ⟨j, hj⟩
    rw [hSb]
    simp only
    simp only [goRules, coreRules, tiRules, unRules, AS_of_eq, ← decide_not, N0, N1, N2, N3, N4, N5, Z0, Z1, Z2, Z3, Z4, Z5, Z6, Z7, Z8, Z9, Z10, Zc, ↓reduceIte, reduceCtorEq, acts_len]
    (with_reducible first | refine branchP_dec (fun h2 => ?_) (fun h2 => ?_) | refine guardB_dec (fun h2 => ?_) (fun h2 => ?_))
    · have hlt2 : j < l.length := by omega
      have e3 := acts_getD l hlt2
      have k1 := fun k => hasK_take (k := k) (id := x.id) hlt2
      generalize l[j] = a at *
      by_cases hid : a.id = x.id
      · simp only [goRules, coreRules, tiRules, unRules, AS_of_eq, ← decide_not, N0, N1, N2, N3, N4, N5, Z0, Z1, Z2, Z3, Z4, Z5, Z6, Z7, Z8, Z9, Z10, Zc, ↓reduceIte, reduceCtorEq, h2, e1, e3, aA, oA, acts_len, ones_len, hid]
        (repeat (with_reducible refine And.intro ?_ ?_; focus (first | omega | exact mixed1 | kernel_rfl)))
        cases hk1 : hasK 1 x.id (l.take j) <;> cases hk2 : hasK 2 x.id (l.take j) <;> cases hk3 : hasK 3 x.id (l.take j) <;> cases hk4 : hasK 4 x.id (l.take j)
        all_goals
          simp only [goRules, coreRules, tiRules, unRules, AS_of_eq, ← decide_not, N0, N1, N2, N3, N4, N5, Z0, Z1, Z2, Z3, Z4, Z5, Z6, Z7, Z8, Z9, Z10, Zc, ↓reduceIte, reduceCtorEq, h2, e1, e3, aA, oA, acts_len, ones_len, hid, wrap_i64 (n := (j : Int) + 1) (by omega) (by omega)]
          (repeat (with_reducible refine And.intro ?_ ?_; focus (first | omega | exact mixed1 | kernel_rfl)))
          refine weak_again ⟨j + 1, by omega⟩ (by simp only; omega) ?_
          rw [hSb]; refine weak_go [] [] ?_
          simp only [goRules, coreRules, tiRules, unRules, AS_of_eq, ← decide_not, N0, N1, N2, N3, N4, N5, Z0, Z1, Z2, Z3, Z4, Z5, Z6, Z7, Z8, Z9, Z10, Zc, ↓reduceIte, reduceCtorEq, k1, hk1, hk2, hk3, hk4, hid] <;> ((repeat' apply And.intro) <;> first | rfl | omega | trivial)
      · simp only [goRules, coreRules, tiRules, unRules, AS_of_eq, ← decide_not, N0, N1, N2, N3, N4, N5, Z0, Z1, Z2, Z3, Z4, Z5, Z6, Z7, Z8, Z9, Z10, Zc, ↓reduceIte, reduceCtorEq, h2, e1, e3, aA, oA, acts_len, ones_len, hid, wrap_i64 (n := (j : Int) + 1) (by omega) (by omega)]
        (repeat (with_reducible refine And.intro ?_ ?_; focus (first | omega | exact mixed1 | kernel_rfl)))
        refine weak_again ⟨j + 1, by omega⟩ (by simp only; omega) ?_
        rw [hSb]; refine weak_go [] [] ?_
        simp only [goRules, coreRules, tiRules, unRules, AS_of_eq, ← decide_not, N0, N1, N2, N3, N4, N5, Z0, Z1, Z2, Z3, Z4, Z5, Z6, Z7, Z8, Z9, Z10, Zc, ↓reduceIte, reduceCtorEq, k1, hid] <;> ((repeat' apply And.intro) <;> first | rfl | omega | trivial)
    · have e5 : l.take j = l := List.take_of_length_le (by omega)
      rw [e5]
      obtain ⟨f1, f2, f3, f4, f5, f6⟩ := hf
      rw [← f1, ← f2, ← f3, ← f4]
      obtain ⟨xid, xops, xed, xrm, xcr, xmv, xpar, xnm⟩ := x
      simp only at f5 f6 hprev e1 ⊢
      by_cases hp : (i : Int) > 0
      · have hp1 := hprev (by omega)
        have hp2 := e0 (by omega)
        generalize X[i - 1] = p at hp1 hp2
        have hge : (p.id ≥ xid) = False := eq_false (by omega)
        have hn1 : ((i : Int) - 1).toNat = i - 1 := by omega
        simp only [goRules, coreRules, tiRules, unRules, AS_of_eq, ← decide_not, N0, N1, N2, N3, N4, N5, Z0, Z1, Z2, Z3, Z4, Z5, Z6, Z7, Z8, Z9, Z10, Zc, ↓reduceIte, reduceCtorEq, h2, hp, List.append_eq, e1, oA, ones_len, comps_len, wrap_i64 (n := (i : Int) - 1) (by omega) (by omega), hn1, hp2, hge, bne_self_eq_false]
        (repeat (with_reducible refine And.intro ?_ ?_; focus (first | omega | exact mixed1 | kernel_rfl)))
        cases xed <;> cases xcr <;> cases xmv
        all_goals (try obtain rfl := f5 rfl)
        all_goals (try obtain ⟨rfl, rfl⟩ := f6 rfl rfl)
        all_goals
          simp only [goRules, coreRules, tiRules, unRules, AS_of_eq, ← decide_not, N0, N1, N2, N3, N4, N5, Z0, Z1, Z2, Z3, Z4, Z5, Z6, Z7, Z8, Z9, Z10, Zc, ↓reduceIte, reduceCtorEq, bne_self_eq_false, comps_nil, List.length_nil, List.append_eq, e1, oA, ones_len, comps_len, wrap_i64 (n := (i : Int) + 1) (by omega) (by omega)]
          try (repeat (with_reducible refine And.intro ?_ ?_; focus (first | omega | exact mixed1 | kernel_rfl)))
          refine weak_again ⟨i + 1, by omega⟩ (by simp only; omega) ?_
          rw [hSt]; refine weak_go [] [] ?_
          simp only [goRules, coreRules, tiRules, unRules, AS_of_eq, ← decide_not, N0, N1, N2, N3, N4, N5, Z0, Z1, Z2, Z3, Z4, Z5, Z6, Z7, Z8, Z9, Z10, Zc, ↓reduceIte, reduceCtorEq] <;> ((repeat' apply And.intro) <;> first | rfl | omega | trivial)
      · simp only [goRules, coreRules, tiRules, unRules, AS_of_eq, ← decide_not, N0, N1, N2, N3, N4, N5, Z0, Z1, Z2, Z3, Z4, Z5, Z6, Z7, Z8, Z9, Z10, Zc, ↓reduceIte, reduceCtorEq, h2, hp, List.append_eq, e1, oA, ones_len, comps_len, bne_self_eq_false]
        (repeat (with_reducible refine And.intro ?_ ?_; focus (first | omega | exact mixed1 | kernel_rfl)))
        cases xed <;> cases xcr <;> cases xmv
        all_goals (try obtain rfl := f5 rfl)
        all_goals (try obtain ⟨rfl, rfl⟩ := f6 rfl rfl)
        all_goals
          simp only [goRules, coreRules, tiRules, unRules, AS_of_eq, ← decide_not, N0, N1, N2, N3, N4, N5, Z0, Z1, Z2, Z3, Z4, Z5, Z6, Z7, Z8, Z9, Z10, Zc, ↓reduceIte, reduceCtorEq, bne_self_eq_false, comps_nil, List.length_nil, List.append_eq, e1, oA, ones_len, comps_len, wrap_i64 (n := (i : Int) + 1) (by omega) (by omega)]
          try (repeat (with_reducible refine And.intro ?_ ?_; focus (first | omega | exact mixed1 | kernel_rfl)))
          refine weak_again ⟨i + 1, by omega⟩ (by simp only; omega) ?_
          rw [hSt]; refine weak_go [] [] ?_
          simp only [goRules, coreRules, tiRules, unRules, AS_of_eq, ← decide_not, N0, N1, N2, N3, N4, N5, Z0, Z1, Z2, Z3, Z4, Z5, Z6, Z7, Z8, Z9, Z10, Zc, ↓reduceIte, reduceCtorEq] <;> ((repeat' apply And.intro) <;> first | rfl | omega | trivial)
  · simp only [goRules, coreRules, tiRules, unRules, AS_of_eq, ← decide_not, N0, N1, N2, N3, N4, N5, Z0, Z1, Z2, Z3, Z4, Z5, Z6, Z7, Z8, Z9, Z10, Zc, ↓reduceIte, reduceCtorEq, h]
    obtain ⟨Sc, hSc⟩ : ∃ Sc : { j : Nat // j ≤ l.length } → AS, ∀ j, Sc j = AS.of 211 [(0, .sl 0 6 (acts l)), (3, .sl 0 8 (ones X)), (10, .v (.int .i64 j.1))] [] [] := ⟨_, fun _ => rfl⟩
    refine vc_loop hΓ Sc (fun j => l.length - j.1) ⟨0, by omega⟩ (by rw [hSc]; refine weak_go [] [] ?_; simp only [goRules, coreRules, tiRules, unRules, AS_of_eq, ← decide_not, N0, N1, N2, N3, N4, N5, Z0, Z1, Z2, Z3, Z4, Z5, Z6, Z7, Z8, Z9, Z10, Zc, ↓reduceIte, reduceCtorEq] <;> ((repeat' apply And.intro) <;> first | rfl | omega | trivial)) ?_
    rintro ⟨j, hj⟩
    rw [hSc]
    simp only
    simp only [goRules, coreRules, tiRules, unRules, AS_of_eq, ← decide_not, N0, N1, N2, N3, N4, N5, Z0, Z1, Z2, Z3, Z4, Z5, Z6, Z7, Z8, Z9, Z10, Zc, ↓reduceIte, reduceCtorEq, acts_len]
    (with_reducible first | refine branchP_dec (fun h2 => ?_) (fun h2 => ?_) | refine guardB_dec (fun h2 => ?_) (fun h2 => ?_))
    · have hlt2 : j < l.length := by omega
      have e3 := acts_getD l hlt2
      have hid := (fnd_mem _ X).2 (hids _ (List.getElem_mem hlt2))
      have hgid := fnd_get _ X hid
      have hgo : getO l[j].id X = X[fnd l[j].id X] := by simp [getO, List.getD_eq_getElem?_getD, hid]
      have hho : hasO l[j].id X = true := by simp [hasO, hid]
      generalize X[fnd l[j].id X] = y at *
      generalize l[j] = a at *
      simp only [goRules, coreRules, tiRules, unRules, AS_of_eq, ← decide_not, N0, N1, N2, N3, N4, N5, Z0, Z1, Z2, Z3, Z4, Z5, Z6, Z7, Z8, Z9, Z10, Zc, ↓reduceIte, reduceCtorEq, h2, e3, aA, acts_len]
      (repeat (with_reducible refine And.intro ?_ ?_; focus (first | omega | exact mixed1 | kernel_rfl)))
      refine call_get (by simp [get_cons]) rfl (by omega) hxo ?_
      rw [hgo, hho]
      simp only [goRules, coreRules, tiRules, unRules, AS_of_eq, ← decide_not, N0, N1, N2, N3, N4, N5, Z0, Z1, Z2, Z3, Z4, Z5, Z6, Z7, Z8, Z9, Z10, Zc, ↓reduceIte, reduceCtorEq, oA, h2, e3, aA, acts_len, hgid]
      (repeat (with_reducible refine And.intro ?_ ?_; focus (first | omega | exact mixed1 | kernel_rfl)))
      simp only [goRules, coreRules, tiRules, unRules, AS_of_eq, ← decide_not, N0, N1, N2, N3, N4, N5, Z0, Z1, Z2, Z3, Z4, Z5, Z6, Z7, Z8, Z9, Z10, Zc, ↓reduceIte, reduceCtorEq, hgid, wrap_i64 (n := (j : Int) + 1) (by omega) (by omega)]
      refine weak_again ⟨j + 1, by omega⟩ (by simp only; omega) ?_
      rw [hSc]; refine weak_go [] [] ?_
      simp only [goRules, coreRules, tiRules, unRules, AS_of_eq, ← decide_not, N0, N1, N2, N3, N4, N5, Z0, Z1, Z2, Z3, Z4, Z5, Z6, Z7, Z8, Z9, Z10, Zc, ↓reduceIte, reduceCtorEq] <;> ((repeat' apply And.intro) <;> first | rfl | omega | trivial)
    · have hb2 : (decide ((X.length : Int) > 0) == decide ((l.length : Int) > 0)) = true := by
        by_cases hq : l = []
        · have := hz.2 hq; subst this; subst hq; rfl
        · have q1 := List.length_pos_iff.2 hq
          have q2 := List.length_pos_iff.2 (fun e => hq (hz.1 e))
          rw [decide_eq_true (by omega), decide_eq_true (by omega)]; rfl
      simp only [goRules, coreRules, tiRules, unRules, AS_of_eq, ← decide_not, N0, N1, N2, N3, N4, N5, Z0, Z1, Z2, Z3, Z4, Z5, Z6, Z7, Z8, Z9, Z10, Zc, ↓reduceIte, reduceCtorEq, h2, ones_len, acts_len, hb2]
      refine vcCall_fn (C := eoverCon) (i := (⟨X, by omega, hxo⟩, ⟨[], by simp, by simp⟩)) (r := .sl 0 8 (ones (X.map fun x => overO x []))) (by simp [get_cons]) rfl rfl (by simp [AV.erL, AV.er, ones_er, acts]) (by simp [AV.tagsL, AV.tags]) (fun _ h => h) ?_
      have hid : (X.map fun x => overO x []) = X := by simp [overO]
      rw [hid]
      simp only [goRules, coreRules, tiRules, unRules, AS_of_eq, ← decide_not, N0, N1, N2, N3, N4, N5, Z0, Z1, Z2, Z3, Z4, Z5, Z6, Z7, Z8, Z9, Z10, Zc, ↓reduceIte, reduceCtorEq, AV.er]
      refine vcCall_plain (C := esameCon) (i := (⟨X, by omega, fun x hx => by have := (hxo x hx).1; omega⟩, ⟨X, by omega, fun x hx => by have := (hxo x hx).1; omega⟩)) (by simp [get_cons]) rfl rfl rfl (by simp [AV.erL, AV.er, ones_er]) (fun _ h => h) rfl ?_
      simp only [goRules, coreRules, tiRules, unRules, AS_of_eq, ← decide_not, N0, N1, N2, N3, N4, N5, Z0, Z1, Z2, Z3, Z4, Z5, Z6, Z7, Z8, Z9, Z10, Zc, ↓reduceIte, reduceCtorEq]
      refine call_awake15 (by simp [get_cons]) ?_
      simp only [goRules, coreRules, tiRules, unRules, AS_of_eq, ← decide_not, N0, N1, N2, N3, N4, N5, Z0, Z1, Z2, Z3, Z4, Z5, Z6, Z7, Z8, Z9, Z10, Zc, ↓reduceIte, reduceCtorEq]
end Go.Proofs
end
