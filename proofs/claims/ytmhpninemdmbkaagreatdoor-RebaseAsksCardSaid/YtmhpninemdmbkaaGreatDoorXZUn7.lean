/-
  What the document fixes of rebase.
-/
import Derived.Test.YtmhpninemdmbkaaGreatDoorXZUn4
import Derived.Test.YtmhpninemdmbkaaGreatDoorXZUe7
set_option linter.unusedSimpArgs false
set_option linter.unusedVariables false
set_option linter.defProp false

-- ZUn7
section
namespace Go.Proofs
open Go Go.Rw
open _root_.Nat renaming reduceAdd → N0, reduceSub → N1, reduceMul → N2, reduceLT → N3, reduceLeDiff → N4, reduceEqDiff → N5
open _root_.Int renaming reduceNeg → Z0, reduceAdd → Z1, reduceSub → Z2, reduceMul → Z3, reduceGT → Z4, reduceGE → Z5, reduceLT → Z6, reduceLE → Z7, reduceEq → Z8, reduceNe → Z9, reduceToNat → Z10, cast_ofNat_Int → Zc
set_option maxRecDepth 100000
theorem kDV {Γ : Env} (hf : Γ.get 14 = some qY) {σ : AS} {dr : Bool} {l : List Ac} {b : List On} {ys zs : List AV} {d : Option Nat} {K : AS → Prop} (hy : ys = acts l) (hz : zs = ones b) (hl : l.length ≤ 1000000) (ho : ∀ a ∈ l, okA a) (hb : b.length ≤ 1099511627776) (hbo : ∀ x ∈ b, okL x.ops)
    (hk : cont σ d (.tup [.sl 0 6 (acts (rebR l b).out), .sl 0 8 (ones (rebR l b).left), .v (.int .i64 (rebR l b).e)]) K) : kR Tryz.prog Γ dr σ 14 [.sl 0 6 ys, .sl 0 8 zs] d K := by
  subst hy hz
  exact qK (C := qY) (i := (⟨l, hl, ho⟩, ⟨b, hb, hbo⟩)) (r := .tup [.sl 0 6 (acts (rebR l b).out), .sl 0 8 (ones (rebR l b).left), .v (.int .i64 (rebR l b).e)]) hf rfl rfl (by simp [AV.erL, AV.er, qD, qF]) rfl (fun _ h => h) (by simp only [AV.er, AV.erL]; exact hk)
theorem kA3 {Γ : Env} (hf : Γ.get 14 = some qY) {n : Nat} {t : Nat → AV} {hd : Nat → Nat → AV} {nh nl : Nat} {h : Nat → Option AO} {fm : Nat → Nat} {lv : Nat → Option (Nat × Nat)} {mu : Bool} {l : List Ac} {b : List On} {t1 : Nat} {ys zs : List AV} {d : Option Nat} {K : AS → Prop} (h1 : 2 ≤ t1) (hy : ys = acts l) (hz : zs = ones b) (hl : l.length ≤ 1000000) (ho : ∀ a ∈ l, okA a) (hb : b.length ≤ 1099511627776) (hbo : ∀ x ∈ b, okL x.ops)
    (hk : cont ⟨n, t, hd, ⟨nh, h, nl, fm, kill fm [t1] lv, mu⟩⟩ d (.tup [.sl 0 6 (acts (rebR l b).out), .sl 0 8 (ones (rebR l b).left), .v (.int .i64 (rebR l b).e)]) K) : kR Tryz.prog Γ false ⟨n, t, hd, ⟨nh, h, nl, fm, lv, mu⟩⟩ 14 [.sl t1 6 ys, .sl 0 8 zs] d K := by
  subst hy hz
  refine kAk (C := qY) (i := (⟨l, hl, ho⟩, ⟨b, hb, hbo⟩)) hf rfl rfl rfl (by simp [AV.erL, AV.er, qF, qD]) (ts := [t1]) ?_ ?_
  · simp [AV.tagsL, AV.tags, h1]
  · rintro r rfl
    simp only [AV.er, AV.erL]
    exact hk
theorem call_why_e {Γ : Env} (hf : Γ.get 28 = some kAN) {σ : AS} {a : Ac} {l : List On} {y : AV} {ys : List AV} {d : Option Nat} {K : AS → Prop} (hy : y.er = aA a) (hz : ys = ones l) (oa : okL a.ops) (hn : a.nm.length ≤ 1099511627776) (hl : l.length ≤ 1099511627776) (ho : ∀ x ∈ l, okL x.ops)
    (hk : cont σ d (.v (.int .i64 (whyI a l))) K) : kR Tryz.prog Γ false σ 28 [y, .sl 0 8 ys] d K := by
  subst hz
  exact kK (C := kAN) (i := (⟨a, oa, hn⟩, ⟨l, hl, ho⟩)) hf rfl rfl rfl (by simp [AV.erL, AV.er, hy, qD]) (fun _ h => h) rfl hk
def insC : List Cp := [⟨2, 0, [120]⟩]
theorem ok_insC : okL insC := ⟨by decide, by decide, fun c hc => by simp [insC] at hc; subst hc; decide⟩
def aw16 : List Ac := [⟨4, 1, 0, [], false, insC⟩, ⟨2, 2, 0, [], false, []⟩]
def by16 : List On := [⟨1, insC, true, false, false, false, 0, []⟩, ⟨2, [], false, true, false, false, 0, []⟩]
theorem eff_sorted2 {l : List Ac} {x : List On} (h : effS [] l = x) (hs : x.Pairwise fun a b => leO a b = true) : effL l = x := by
  rw [effL, h]; exact List.mergeSort_of_pairwise hs
theorem aw16_eff : effL aw16 = by16 := eff_sorted2 (by decide +kernel) (by decide +kernel)
theorem aw16_a : rebR [⟨4, 1, 0, [], false, insC⟩] by16 = ⟨[⟨4, 1, 0, [], false, [⟨1, 1, []⟩, ⟨2, 0, [120]⟩]⟩], [⟨1, [⟨2, 0, [120]⟩, ⟨1, 1, []⟩], true, false, false, false, 0, []⟩, ⟨2, [], false, true, false, false, 0, []⟩], 0⟩ := by decide +kernel
theorem aw16_b : rebR [⟨4, 2, 0, [], false, insC⟩] by16 = ⟨[], by16, 12⟩ := by decide +kernel
theorem aw16_c : rebR [⟨2, 2, 0, [], false, []⟩] by16 = ⟨[], by16, 0⟩ := by decide +kernel
theorem aw16_d : whyI ⟨2, 1, 0, [], false, []⟩ by16 = 13 := by decide +kernel
theorem ok_by16 : ∀ x ∈ by16, okL x.ops := fun x hx => by
  simp only [by16, List.mem_cons, List.not_mem_nil, or_false] at hx
  rcases hx with rfl | rfl
  · exact ok_insC
  · exact kDI
theorem okA1 {a : Ac} (oa : okL a.ops) (hn : a.nm.length ≤ 1099511627776) : ∀ b ∈ [a], okA b := fun b hb => by rw [List.mem_singleton.1 hb]; exact ⟨oa, hn⟩
theorem awake16_good : Rw.Good Tryz.prog 11 trueCon := by
  have hΓ : kL Tryz.prog [(15, kBI), (14, qY), (28, kAN)] := (kE eff_good (kE kBF (kE why_good kJ)))
  refine kS (nn := 79) hΓ Tryz.func11 (by kernel_rfl) rfl (show Tryz.f11.results.toList = [.tmp 0] from rfl) (fun _ => rfl) (fun _ => rfl) ?_
  intro _
  simp only [aR,N0,N1,N2,N3,N4,N5,Z0,Z1,Z2,Z3,Z4,Z5,Z6,Z7,Z8,Z9,Z10,Zc,↓reduceIte,reduceCtorEq, List.map_cons, List.map_nil]
  refine call_eff_t (by simp [kB]) (by omega) (l := aw16) rfl (by decide) (fun a ha => ?_) ?_
  · simp only [aw16, List.mem_cons, List.not_mem_nil, or_false] at ha
    rcases ha with rfl | rfl
    · exact ok_insC
    · exact kDI
  rw [aw16_eff]
  simp only [aR,N0,N1,N2,N3,N4,N5,Z0,Z1,Z2,Z3,Z4,Z5,Z6,Z7,Z8,Z9,Z10,Zc,↓reduceIte,reduceCtorEq, List.map_cons, List.map_nil]
  refine kA3 (by simp [kB]) (by omega) (l := [⟨4, 1, 0, [], false, insC⟩]) rfl rfl (by decide) (okA1 ok_insC (by decide)) (by decide) ok_by16 ?_
  rw [aw16_a]
  simp only [aR,N0,N1,N2,N3,N4,N5,Z0,Z1,Z2,Z3,Z4,Z5,Z6,Z7,Z8,Z9,Z10,Zc,↓reduceIte,reduceCtorEq, List.map_cons, List.map_nil, acts]
  refine kA3 (by simp [kB]) (by omega) (l := [⟨4, 2, 0, [], false, insC⟩]) rfl rfl (by decide) (okA1 ok_insC (by decide)) (by decide) ok_by16 ?_
  rw [aw16_b]
  simp only [aR,N0,N1,N2,N3,N4,N5,Z0,Z1,Z2,Z3,Z4,Z5,Z6,Z7,Z8,Z9,Z10,Zc,↓reduceIte,reduceCtorEq, List.map_cons, List.map_nil, acts]
  refine kA3 (by simp [kB]) (by omega) (l := [⟨2, 2, 0, [], false, []⟩]) rfl rfl (by decide) (okA1 kDI (by decide)) (by decide) ok_by16 ?_
  rw [aw16_c]
  simp only [aR,N0,N1,N2,N3,N4,N5,Z0,Z1,Z2,Z3,Z4,Z5,Z6,Z7,Z8,Z9,Z10,Zc,↓reduceIte,reduceCtorEq, List.map_cons, List.map_nil, acts, aA, kU]
  refine call_why_e (by simp [kB]) (a := ⟨2, 1, 0, [], false, []⟩) rfl rfl kDI (by decide) (by decide) ok_by16 ?_
  rw [aw16_d]
  simp only [aR,N0,N1,N2,N3,N4,N5,Z0,Z1,Z2,Z3,Z4,Z5,Z6,Z7,Z8,Z9,Z10,Zc,↓reduceIte,reduceCtorEq]
theorem j4 {Γ : Env} (hf : Γ.get 11 = some trueCon) {σ : AS} {dr : Bool} {d : Option Nat} {K : AS → Prop}
    (hk : cont σ d (.v (.bool true)) K) : kR Tryz.prog Γ dr σ 11 [] d K :=
  kK (C := trueCon) (i := ()) hf rfl rfl rfl rfl (fun _ h => h) rfl hk
end Go.Proofs
end
