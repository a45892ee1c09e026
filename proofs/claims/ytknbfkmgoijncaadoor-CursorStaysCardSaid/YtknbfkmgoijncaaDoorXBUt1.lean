/-
  utf.Valid tells just whether bytes are a text.
-/
import Derived.Test.YtknbfkmgoijncaaDoorXBTi
import Derived.Test.YtknbfkmgoijncaaDoorRwF
import Derived.Test.YtknbfkmgoijncaaDoorXBSh
set_option linter.unusedSimpArgs false
set_option linter.unusedVariables false
set_option linter.defProp false

-- BUt1
section
namespace Go.Proofs
open Go Go.Rw
open _root_.Nat renaming reduceAdd → N0, reduceSub → N1, reduceMul → N2, reduceLT → N3, reduceLeDiff → N4, reduceEqDiff → N5
open _root_.Int renaming reduceNeg → Z0, reduceAdd → Z1, reduceSub → Z2, reduceMul → Z3, reduceGT → Z4, reduceGE → Z5, reduceLT → Z6, reduceLE → Z7, reduceEq → Z8, reduceNe → Z9, reduceToNat → Z10, cast_ofNat_Int → Zc
set_option maxRecDepth 100000
set_option linter.unusedSimpArgs false
set_option linter.unusedVariables false

instance tabsU : Tabs where
  blk := fun g => g = 1 ∨ g = 2
  ok := fun w => Lib.Utf8Tabs 1 2 w
  stable := fun w w' h hw => by
    have h0 := fun i : Nat => World.cell?_of_block (a := ⟨1, i, none⟩) (h 1 (.inl rfl))
    have h1 := fun i : Nat => World.cell?_of_block (a := ⟨2, i, none⟩) (h 2 (.inr rfl))
    unfold Lib.Utf8Tabs at hw ⊢
    simp only [h0, h1]
    exact hw

abbrev big : Nat := 1099511627776
theorem big_eq : big = 1099511627776 := rfl
abbrev Str := { l : List UInt8 // l.length ≤ 1099511627776 }

abbrev validSCon : Con where
  ι := Str
  args := fun s => [.v (sv s.1)]
  post := fun s r => r = .v (.bool (Lib.validD s.1))
  plain := true
theorem validS_good : Rw.Good Tryd.prog 58 validSCon := by
  refine good_below ⟨_, Tryd.func58, by kernel_rfl, by kernel_rfl⟩ rfl rfl fun s w F vs htb hs hv => ?_
  obtain ⟨s, hl⟩ := s
  have h0 := hv 0
  have e : vs = #[sv s] := by
    apply Array.ext (by simpa using hs)
    intro i h1 h2
    have : i = 0 := by simpa using h2
    subst this
    have h3 := VR.v_inv h0
    rw [Array.getD_eq_getD_getElem?, Array.getElem?_eq_getElem h1] at h3
    simpa using h3
  subst e
  refine (Any.utf8_ValidString Tryd.lays196 ⟨s.toArray⟩ w (by simp [ByteArray.size]; omega) htb.1).mono ?_
  rintro e w' ⟨rfl, hb⟩
  exact ⟨_, _, rfl, rfl, fun _ _ => .v _, rfl, hb⟩
theorem call_validS {Γ : Env} (hf : Γ.get 58 = some validSCon) {σ : AS} {dr : Bool} {l : List UInt8} {d : Option Nat} {K : AS → Prop} (h : l.length ≤ 1099511627776)
    (hk : cont σ d (.v (.bool (Lib.validD l))) K) : vcCall Tryd.prog Γ dr σ 58 [.v (sv l)] d K :=
  vcCall_plain (C := validSCon) (i := ⟨l, h⟩) hf rfl rfl rfl rfl (fun _ h => h) rfl hk

abbrev ibCon : Con where
  ι := List UInt8 × UInt8
  args := fun s => [.v (sv s.1), .v (.int .u8 s.2.toNat)]
  post := fun s r => r = .v (.int .i64 (Lib.indexByte s.1 s.2))
  plain := true
theorem ib_good : Rw.Good Tryd.prog 72 ibCon := by
  refine good_below ⟨_, Tryd.func72, by kernel_rfl, by kernel_rfl⟩ rfl rfl fun s w F vs htb hs hv => ?_
  obtain ⟨s, c⟩ := s
  have h0 := VR.v_inv (hv 0)
  have h1 := VR.v_inv (hv 1)
  have e : vs = #[sv s, .int .u8 c.toNat] := by
    apply Array.ext (by simpa using hs)
    intro i h2 h3
    rw [Array.getD_eq_getD_getElem?] at h0 h1
    have : i = 0 ∨ i = 1 := by have : i < 2 := by simpa using h3
                               omega
    rcases this with rfl | rfl
    · rw [Array.getElem?_eq_getElem h2] at h0; simpa using h0
    · rw [Array.getElem?_eq_getElem h2] at h1; simpa using h1
  subst e
  refine (Any.stringslite_IndexByte Tryd.lays217 ⟨s.toArray⟩ (c.toNat : Int) w).mono ?_
  rintro e w' ⟨rfl, rfl⟩
  have hc : (c.toNat : Int).toNat.toUInt8 = c := by simp
  exact ⟨_, _, rfl, rfl, fun _ _ => by simp only [hc]; exact .v _, rfl, .refl _ _⟩
theorem call_ib {Γ : Env} (hf : Γ.get 72 = some ibCon) {σ : AS} {dr : Bool} {l : List UInt8} {c : UInt8} {n : Int} {d : Option Nat} {K : AS → Prop} (hn : n = c.toNat)
    (hk : cont σ d (.v (.int .i64 (Lib.indexByte l c))) K) : vcCall Tryd.prog Γ dr σ 72 [.v (sv l), .v (.int .u8 n)] d K := by
  subst hn
  exact vcCall_plain (C := ibCon) (i := (l, c)) hf rfl rfl rfl rfl (fun _ h => h) rfl hk

theorem indexByte_mem : ∀ (l : List UInt8) (c : UInt8), -1 ≤ Lib.indexByte l c ∧ (0 ≤ Lib.indexByte l c ↔ c ∈ l)
  | [], c => by simp [Lib.indexByte]
  | x :: l, c => by
    have ih := indexByte_mem l c
    unfold Lib.indexByte
    by_cases h : x = c
    · subst h; simp
    · have h1 : (x == c) = false := by simpa using h
      rw [h1]
      simp only [Bool.false_eq_true, if_false, List.mem_cons]
      by_cases h2 : Lib.indexByte l c = -1
      · rw [h2]
        have h3 : c ∉ l := fun hc => by have := ih.2.2 hc; omega
        simp [h3]; exact fun e => h e.symm
      · have h3 : (Lib.indexByte l c == -1) = false := by simpa using h2
        rw [h3]
        simp only [Bool.false_eq_true, if_false]
        have h4 : c ∈ l := ih.2.1 (by omega)
        exact ⟨by omega, by simp [h4]; omega⟩

abbrev containsCon : Con where
  ι := Str
  args := fun s => [.v (sv s.1), .v (sv [0])]
  post := fun s r => r = .v (.bool (s.1.contains 0))
  plain := true
abbrev indexCon : Con where
  ι := Str
  args := fun s => [.v (sv s.1), .v (sv [0])]
  post := fun s r => ∃ i, r = .v (.int .i64 i) ∧ (0 ≤ i ↔ (0 : UInt8) ∈ s.1)
  plain := true
theorem index_good : Rw.Good Tryd.prog 71 indexCon := by
  have hΓ : GoodEnv Tryd.prog [(72, ibCon)] := (goodEnv_cons ib_good goodEnv_nil)
  refine good_fn (nn := 143) hΓ Tryd.func71 (by kernel_rfl) rfl (show Tryd.f71.results.toList = [.tmp 4] from rfl) (fun _ => rfl) (fun _ => rfl) ?_
  rintro ⟨s, hs⟩
  simp only [goRules, coreRules, tiRules, unRules, AS_of_eq, ← decide_not, N0, N1, N2, N3, N4, N5, Z0, Z1, Z2, Z3, Z4, Z5, Z6, Z7, Z8, Z9, Z10, Zc, ↓reduceIte, reduceCtorEq]
  refine branchP_dec (fun h => ?_) (fun h => ?_)
  · simp only [goRules, coreRules, tiRules, unRules, AS_of_eq, ← decide_not, N0, N1, N2, N3, N4, N5, Z0, Z1, Z2, Z3, Z4, Z5, Z6, Z7, Z8, Z9, Z10, Zc, ↓reduceIte, reduceCtorEq]
    exact ⟨0, rfl, by simp [← h]⟩
  · simp only [goRules, coreRules, tiRules, unRules, AS_of_eq, ← decide_not, N0, N1, N2, N3, N4, N5, Z0, Z1, Z2, Z3, Z4, Z5, Z6, Z7, Z8, Z9, Z10, Zc, ↓reduceIte, reduceCtorEq]
    refine call_ib (c := 0) (by simp [get_cons]) (by simp) ?_
    simp only [goRules, coreRules, tiRules, unRules, AS_of_eq, ← decide_not, N0, N1, N2, N3, N4, N5, Z0, Z1, Z2, Z3, Z4, Z5, Z6, Z7, Z8, Z9, Z10, Zc, ↓reduceIte, reduceCtorEq]
    exact ⟨_, rfl, (indexByte_mem s 0).2⟩

theorem sindex_good : Rw.Good Tryd.prog 66 indexCon := by
  have hΓ : GoodEnv Tryd.prog [(71, indexCon)] := (goodEnv_cons index_good goodEnv_nil)
  refine good_fn (nn := 8) hΓ Tryd.func66 (by kernel_rfl) rfl (show Tryd.f66.results.toList = [.tmp 4] from rfl) (fun _ => rfl) (fun _ => rfl) ?_
  rintro ⟨s, hs⟩
  simp only [goRules, coreRules, tiRules, unRules, AS_of_eq, ← decide_not, N0, N1, N2, N3, N4, N5, Z0, Z1, Z2, Z3, Z4, Z5, Z6, Z7, Z8, Z9, Z10, Zc, ↓reduceIte, reduceCtorEq]
  refine vcCall_some (C := indexCon) (i := ⟨s, hs⟩) (by simp [get_cons]) rfl rfl rfl rfl (fun r ⟨i, hr, _⟩ => by rw [hr]; rfl) (fun r ⟨i, hr, h⟩ => ?_)
  subst hr
  simp only [goRules, coreRules, tiRules, unRules, AS_of_eq, ← decide_not, N0, N1, N2, N3, N4, N5, Z0, Z1, Z2, Z3, Z4, Z5, Z6, Z7, Z8, Z9, Z10, Zc, ↓reduceIte, reduceCtorEq]
  exact ⟨i, rfl, h⟩

theorem contains_good : Rw.Good Tryd.prog 59 containsCon := by
  have hΓ : GoodEnv Tryd.prog [(66, indexCon)] := (goodEnv_cons sindex_good goodEnv_nil)
  refine good_fn (nn := 9) hΓ Tryd.func59 (by kernel_rfl) rfl (show Tryd.f59.results.toList = [.tmp 4] from rfl) (fun _ => rfl) (fun _ => rfl) ?_
  rintro ⟨s, hs⟩
  simp only [goRules, coreRules, tiRules, unRules, AS_of_eq, ← decide_not, N0, N1, N2, N3, N4, N5, Z0, Z1, Z2, Z3, Z4, Z5, Z6, Z7, Z8, Z9, Z10, Zc, ↓reduceIte, reduceCtorEq]
  refine vcCall_some (C := indexCon) (i := ⟨s, hs⟩) (by simp [get_cons]) rfl rfl rfl rfl (fun r ⟨i, hr, _⟩ => by rw [hr]; rfl) (fun r ⟨i, hr, h⟩ => ?_)
  subst hr
  simp only [goRules, coreRules, tiRules, unRules, AS_of_eq, ← decide_not, N0, N1, N2, N3, N4, N5, Z0, Z1, Z2, Z3, Z4, Z5, Z6, Z7, Z8, Z9, Z10, Zc, ↓reduceIte, reduceCtorEq]
  rw [Bool.eq_iff_iff]; simpa using h
theorem call_contains {Γ : Env} (hf : Γ.get 59 = some containsCon) {σ : AS} {dr : Bool} {l : List UInt8} {d : Option Nat} {K : AS → Prop} (h : l.length ≤ 1099511627776)
    (hk : cont σ d (.v (.bool (l.contains 0))) K) : vcCall Tryd.prog Γ dr σ 59 [.v (sv l), .v (sv [0])] d K :=
  vcCall_plain (C := containsCon) (i := ⟨l, h⟩) hf rfl rfl rfl rfl (fun _ h => h) rfl hk

abbrev validCon : Con where
  ι := Str
  args := fun s => [.v (sv s.1)]
  post := fun s r => r = .v (.bool (pts s.1).isSome)
  plain := true
theorem valid_good : Rw.Good Tryd.prog 51 validCon := by
  have hΓ : GoodEnv Tryd.prog [(58, validSCon), (59, containsCon)] := (goodEnv_cons validS_good (goodEnv_cons contains_good goodEnv_nil))
  refine good_fn (nn := 10) hΓ Tryd.func51 (by kernel_rfl) rfl (show Tryd.f51.results.toList = [.tmp 2] from rfl) (fun _ => rfl) (fun _ => rfl) ?_
  rintro ⟨s, hs⟩
  simp only [goRules, coreRules, tiRules, unRules, AS_of_eq, ← decide_not, N0, N1, N2, N3, N4, N5, Z0, Z1, Z2, Z3, Z4, Z5, Z6, Z7, Z8, Z9, Z10, Zc, ↓reduceIte, reduceCtorEq]
  refine call_validS (by simp [get_cons]) hs ?_
  have key := valid_pts _ s (Nat.le_refl _)
  simp only [goRules, coreRules, tiRules, unRules, AS_of_eq, ← decide_not, N0, N1, N2, N3, N4, N5, Z0, Z1, Z2, Z3, Z4, Z5, Z6, Z7, Z8, Z9, Z10, Zc, ↓reduceIte, reduceCtorEq]
  cases hv : Lib.validD s with
  | false =>
    rw [hv] at key
    simp only [goRules, coreRules, tiRules, unRules, AS_of_eq, ← decide_not, N0, N1, N2, N3, N4, N5, Z0, Z1, Z2, Z3, Z4, Z5, Z6, Z7, Z8, Z9, Z10, Zc, ↓reduceIte, reduceCtorEq]
    rw [← key]; rfl
  | true =>
    rw [hv] at key
    simp only [goRules, coreRules, tiRules, unRules, AS_of_eq, ← decide_not, N0, N1, N2, N3, N4, N5, Z0, Z1, Z2, Z3, Z4, Z5, Z6, Z7, Z8, Z9, Z10, Zc, ↓reduceIte, reduceCtorEq]
    refine call_contains (by simp [get_cons]) hs ?_
    simp only [goRules, coreRules, tiRules, unRules, AS_of_eq, ← decide_not, N0, N1, N2, N3, N4, N5, Z0, Z1, Z2, Z3, Z4, Z5, Z6, Z7, Z8, Z9, Z10, Zc, ↓reduceIte, reduceCtorEq]
    rw [← key]; rfl
theorem call_valid {Γ : Env} (hf : Γ.get 51 = some validCon) {σ : AS} {dr : Bool} {l : List UInt8} {d : Option Nat} {K : AS → Prop} (h : l.length ≤ 1099511627776)
    (hk : cont σ d (.v (.bool (pts l).isSome)) K) : vcCall Tryd.prog Γ dr σ 51 [.v (sv l)] d K :=
  vcCall_plain (C := validCon) (i := ⟨l, h⟩) hf rfl rfl rfl rfl (fun _ h => h) rfl hk
end Go.Proofs
end
