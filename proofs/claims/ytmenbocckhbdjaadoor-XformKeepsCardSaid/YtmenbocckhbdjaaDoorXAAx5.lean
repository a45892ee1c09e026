/-
  XformMeets answers true.
-/
import Derived.Test.YtmenbocckhbdjaaDoorXAAx1
import Derived.Test.YtmenbocckhbdjaaDoorXAAw8
set_option linter.unusedSimpArgs false
set_option linter.unusedVariables false
set_option linter.defProp false

-- AAx5
section
namespace Go.Proofs
open Go Go.Rw
open _root_.Nat renaming reduceAdd → N0, reduceSub → N1, reduceMul → N2, reduceLT → N3, reduceLeDiff → N4, reduceEqDiff → N5
open _root_.Int renaming reduceNeg → Z0, reduceAdd → Z1, reduceSub → Z2, reduceMul → Z3, reduceGT → Z4, reduceGE → Z5, reduceLT → Z6, reduceLE → Z7, reduceEq → Z8, reduceNe → Z9, reduceToNat → Z10, cast_ofNat_Int → Zc
set_option maxRecDepth 100000
set_option linter.unusedSimpArgs false
set_option linter.unusedVariables false

theorem ov_a : ovE [⟨2, 0, [120]⟩] [⟨2, 0, [121]⟩] = 0 ∧ ovN true [⟨2, 0, [120]⟩] [⟨2, 0, [121]⟩] = [⟨2, 0, [120]⟩, ⟨1, 1, []⟩] ∧ ovN false [⟨2, 0, [120]⟩] [⟨2, 0, [121]⟩] = [⟨1, 1, []⟩, ⟨2, 0, [120]⟩] ∧ ovE [⟨2, 0, [120]⟩] [⟨1, 3, []⟩] = 11 := by decide +kernel
theorem call_over_t {Γ : Env} {f : Nat} (hf : Γ.get f = some overCon) {n : Nat} {t : Nat → AV} {hd : Nat → Nat → AV} {nh nl : Nat} {h : Nat → Option AO} {fm : Nat → Nat} {lv : Nat → Option (Nat × Nat)} {mu : Bool} {a b : List Cp} {fi : Bool} {t1 t2 : Nat} {ys zs : List AV} {d : Option Nat} {K : AS → Prop} (h1 : 2 ≤ t1) (h2 : 2 ≤ t2) (hy : ys = comps a) (hz : zs = comps b) (oa : okL a) (ob : okL b)
    (hk : cont ⟨n, t, hd, ⟨nh, h, nl, fm, kill fm [t1, t2] lv, mu⟩⟩ d (ovR fi a b) K) : vcCall Tryd.prog Γ false ⟨n, t, hd, ⟨nh, h, nl, fm, lv, mu⟩⟩ f [.sl t1 3 ys, .sl t2 3 zs, .v (.bool fi)] d K := by
  subst hy hz
  refine vcCall_none (C := overCon) (i := (⟨a, oa⟩, ⟨b, ob⟩, fi)) hf rfl rfl rfl rfl (ts := [t1, t2]) ?_ ?_
  · simp [AV.tagsL, AV.tags, h1, h2]
  · rintro r rfl
    rw [ovR_er]
    exact hk
theorem call_over_t1 {Γ : Env} {f : Nat} (hf : Γ.get f = some overCon) {n : Nat} {t : Nat → AV} {hd : Nat → Nat → AV} {nh nl : Nat} {h : Nat → Option AO} {fm : Nat → Nat} {lv : Nat → Option (Nat × Nat)} {mu : Bool} {a b : List Cp} {fi : Bool} {t1 : Nat} {ys zs : List AV} {d : Option Nat} {K : AS → Prop} (h1 : 2 ≤ t1) (hy : ys = comps a) (hz : zs = comps b) (oa : okL a) (ob : okL b)
    (hk : cont ⟨n, t, hd, ⟨nh, h, nl, fm, kill fm [t1] lv, mu⟩⟩ d (ovR fi a b) K) : vcCall Tryd.prog Γ false ⟨n, t, hd, ⟨nh, h, nl, fm, lv, mu⟩⟩ f [.sl t1 3 ys, .sl 0 3 zs, .v (.bool fi)] d K := by
  subst hy hz
  refine vcCall_none (C := overCon) (i := (⟨a, oa⟩, ⟨b, ob⟩, fi)) hf rfl rfl rfl rfl (ts := [t1]) ?_ ?_
  · simp [AV.tagsL, AV.tags, h1]
  · rintro r rfl
    rw [ovR_er]
    exact hk
theorem awake10_good : Rw.Good Tryd.prog 42 trueCon := by
  have hΓ : GoodEnv Tryd.prog [(43, overCon), (40, keepCon)] := (goodEnv_cons over_good (goodEnv_cons keep_good goodEnv_nil))
  refine good_fn (nn := 65) hΓ Tryd.func42 (by kernel_rfl) rfl (show Tryd.f42.results.toList = [.tmp 0] from rfl) (fun _ => rfl) (fun _ => rfl) ?_
  intro _
  simp only [goRules, coreRules, tiRules, unRules, AS_of_eq, ← decide_not, N0, N1, N2, N3, N4, N5, Z0, Z1, Z2, Z3, Z4, Z5, Z6, Z7, Z8, Z9, Z10, Zc, ↓reduceIte, reduceCtorEq, List.map_cons, List.map_nil]
  refine call_over_t (by simp [get_cons]) (by omega) (by omega) (a := [⟨2, 0, [120]⟩]) (b := [⟨2, 0, [121]⟩]) rfl rfl ⟨by decide, by decide, by simp⟩ ⟨by decide, by decide, by simp⟩ ?_
  have hc1 : comps [⟨2, 0, [120]⟩, ⟨1, 1, []⟩] = [.agg [.v (.int .i64 2), .v (.int .i64 0), .v (sv [120])], .agg [.v (.int .i64 1), .v (.int .i64 1), .v (sv [])]] := rfl
  have hc2 : comps [⟨1, 1, []⟩, ⟨2, 0, [120]⟩] = [.agg [.v (.int .i64 1), .v (.int .i64 1), .v (sv [])], .agg [.v (.int .i64 2), .v (.int .i64 0), .v (sv [120])]] := rfl
  simp only [goRules, coreRules, tiRules, unRules, AS_of_eq, ← decide_not, N0, N1, N2, N3, N4, N5, Z0, Z1, Z2, Z3, Z4, Z5, Z6, Z7, Z8, Z9, Z10, Zc, ↓reduceIte, reduceCtorEq, ovR_zero ov_a.1, ov_a.2.1, res2, hc1]
  refine call_over_t (by simp [get_cons]) (by omega) (by omega) (a := [⟨2, 0, [120]⟩]) (b := [⟨2, 0, [121]⟩]) rfl rfl ⟨by decide, by decide, by simp⟩ ⟨by decide, by decide, by simp⟩ ?_
  simp only [goRules, coreRules, tiRules, unRules, AS_of_eq, ← decide_not, N0, N1, N2, N3, N4, N5, Z0, Z1, Z2, Z3, Z4, Z5, Z6, Z7, Z8, Z9, Z10, Zc, ↓reduceIte, reduceCtorEq, ovR_zero ov_a.1, ov_a.2.2.1, res2, hc2]
  refine call_keep (by simp [get_cons]) (by omega) ?_
  simp only [goRules, coreRules, tiRules, unRules, AS_of_eq, ← decide_not, N0, N1, N2, N3, N4, N5, Z0, Z1, Z2, Z3, Z4, Z5, Z6, Z7, Z8, Z9, Z10, Zc, ↓reduceIte, reduceCtorEq, show keepL 3 = [⟨1, 3, []⟩] from rfl]
  refine call_over_t1 (by simp [get_cons]) (by omega) (a := [⟨2, 0, [120]⟩]) (b := [⟨1, 3, []⟩]) rfl rfl ⟨by decide, by decide, by simp⟩ ⟨by decide, by decide, by simp⟩ ?_
  simp only [goRules, coreRules, tiRules, unRules, AS_of_eq, ← decide_not, N0, N1, N2, N3, N4, N5, Z0, Z1, Z2, Z3, Z4, Z5, Z6, Z7, Z8, Z9, Z10, Zc, ↓reduceIte, reduceCtorEq, ovR_err (show ¬ ovE [⟨2, 0, [120]⟩] [⟨1, 3, []⟩] = 0 by rw [ov_a.2.2.2]; decide), ov_a.2.2.2, res2, List.length_cons, List.length_nil]
theorem call_awake10 {Γ : Env} (hf : Γ.get 42 = some trueCon) {σ : AS} {dr : Bool} {d : Option Nat} {K : AS → Prop}
    (hk : cont σ d (.v (.bool true)) K) : vcCall Tryd.prog Γ dr σ 42 [] d K :=
  vcCall_plain (C := trueCon) (i := ()) hf rfl rfl rfl rfl (fun _ h => h) rfl hk
end Go.Proofs
end
