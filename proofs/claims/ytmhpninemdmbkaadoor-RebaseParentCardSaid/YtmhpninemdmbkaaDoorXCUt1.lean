/-
  utf.Valid tells just whether bytes are a text. utf.Count counts a text's code points. utf.Points, utf.Offset, utf.Slice. The reference's code points. The reference's texts; numbers turned into bounds; rows of numbers held against each other. The reference's offsets and pieces. What the document fixes of texts.
-/
import Derived.Test.YtmhpninemdmbkaaDoorXCTi
import Derived.Test.YtmhpninemdmbkaaDoorRwF
import Derived.Test.YtmhpninemdmbkaaDoorXCSh
set_option linter.unusedSimpArgs false
set_option linter.unusedVariables false
set_option linter.defProp false

-- CUt1
section
namespace Go.Proofs
open Go Go.Rw
open _root_.Nat renaming reduceAdd → N0, reduceSub → N1, reduceMul → N2, reduceLT → N3, reduceLeDiff → N4, reduceEqDiff → N5
open _root_.Int renaming reduceNeg → Z0, reduceAdd → Z1, reduceSub → Z2, reduceMul → Z3, reduceGT → Z4, reduceGE → Z5, reduceLT → Z6, reduceLE → Z7, reduceEq → Z8, reduceNe → Z9, reduceToNat → Z10, cast_ofNat_Int → Zc
set_option maxRecDepth 100000
set_option linter.unusedSimpArgs false
set_option linter.unusedVariables false

instance tabsU : Tabs where
  blk := fun g => g = 0 ∨ g = 1
  ok := fun w => Lib.Utf8Tabs 0 1 w
  stable := fun w w' h hw => by
    have h0 := fun i : Nat => World.cell?_of_block (a := ⟨0, i, none⟩) (h 0 (.inl rfl))
    have h1 := fun i : Nat => World.cell?_of_block (a := ⟨1, i, none⟩) (h 1 (.inr rfl))
    unfold Lib.Utf8Tabs at hw ⊢
    simp only [h0, h1]
    exact hw

abbrev Str := { l : List UInt8 // l.length ≤ 1099511627776 }

abbrev validSCon : Con where
  ι := Str
  args := fun s => [.v (sv s.1)]
  post := fun s r => r = .v (.bool (Lib.validD s.1))
  plain := true
theorem validS_good : Rw.Good Tryd.prog 112 validSCon := by
  refine good_below ⟨_, Tryd.func112, by kernel_rfl, by kernel_rfl⟩ rfl rfl fun s w F vs htb hs hv => ?_
  obtain ⟨s, hl⟩ := s
  have h0 := hv 0
  have e : vs = #[sv s] := by
    apply Array.ext (by simpa using hs)
    intro i h1 h2
    have : i = 0 := by simpa using h2
    subst this
    have h3 := VR.v_inv h0
    rw [Array.getD_eq_getD_getElem?, Array.getElem?_eq_getElem h1] at h3
    simpa using h3
  subst e
  refine (Any.utf8_ValidString Tryd.lays196 ⟨s.toArray⟩ w (by simp [ByteArray.size]; omega) htb.1).mono ?_
  rintro e w' ⟨rfl, hb⟩
  exact ⟨_, _, rfl, rfl, fun _ _ => .v _, rfl, hb⟩
theorem call_validS {Γ : Env} (hf : Γ.get 112 = some validSCon) {σ : AS} {dr : Bool} {l : List UInt8} {d : Option Nat} {K : AS → Prop} (h : l.length ≤ 1099511627776)
    (hk : cont σ d (.v (.bool (Lib.validD l))) K) : vcCall Tryd.prog Γ dr σ 112 [.v (sv l)] d K :=
  vcCall_plain (C := validSCon) (i := ⟨l, h⟩) hf rfl rfl rfl rfl (fun _ h => h) rfl hk

abbrev ibCon : Con where
  ι := List UInt8 × UInt8
  args := fun s => [.v (sv s.1), .v (.int .u8 s.2.toNat)]
  post := fun s r => r = .v (.int .i64 (Lib.indexByte s.1 s.2))
  plain := true
theorem ib_good : Rw.Good Tryd.prog 117 ibCon := by
  refine good_below ⟨_, Tryd.func117, by kernel_rfl, by kernel_rfl⟩ rfl rfl fun s w F vs htb hs hv => ?_
  obtain ⟨s, c⟩ := s
  have h0 := VR.v_inv (hv 0)
  have h1 := VR.v_inv (hv 1)
  have e : vs = #[sv s, .int .u8 c.toNat] := by
    apply Array.ext (by simpa using hs)
    intro i h2 h3
    rw [Array.getD_eq_getD_getElem?] at h0 h1
    have : i = 0 ∨ i = 1 := by have : i < 2 := by simpa using h3
                               omega
    rcases this with rfl | rfl
    · rw [Array.getElem?_eq_getElem h2] at h0; simpa using h0
    · rw [Array.getElem?_eq_getElem h2] at h1; simpa using h1
  subst e
  refine (Any.stringslite_IndexByte Tryd.lays217 ⟨s.toArray⟩ (c.toNat : Int) w).mono ?_
  rintro e w' ⟨rfl, rfl⟩
  have hc : (c.toNat : Int).toNat.toUInt8 = c := by simp
  exact ⟨_, _, rfl, rfl, fun _ _ => by simp only [hc]; exact .v _, rfl, .refl _ _⟩
theorem call_ib {Γ : Env} (hf : Γ.get 117 = some ibCon) {σ : AS} {dr : Bool} {l : List UInt8} {c : UInt8} {n : Int} {d : Option Nat} {K : AS → Prop} (hn : n = c.toNat)
    (hk : cont σ d (.v (.int .i64 (Lib.indexByte l c))) K) : vcCall Tryd.prog Γ dr σ 117 [.v (sv l), .v (.int .u8 n)] d K := by
  subst hn
  exact vcCall_plain (C := ibCon) (i := (l, c)) hf rfl rfl rfl rfl (fun _ h => h) rfl hk

theorem indexByte_mem : ∀ (l : List UInt8) (c : UInt8), -1 ≤ Lib.indexByte l c ∧ (0 ≤ Lib.indexByte l c ↔ c ∈ l)
  | [], c => by simp [Lib.indexByte]
  | x :: l, c => by
    have ih := indexByte_mem l c
    unfold Lib.indexByte
    by_cases h : x = c
    · subst h; simp
    · have h1 : (x == c) = false := by simpa using h
      rw [h1]
      simp only [Bool.false_eq_true, if_false, List.mem_cons]
      by_cases h2 : Lib.indexByte l c = -1
      · rw [h2]
        have h3 : c ∉ l := fun hc => by have := ih.2.2 hc; omega
        simp [h3]; exact fun e => h e.symm
      · have h3 : (Lib.indexByte l c == -1) = false := by simpa using h2
        rw [h3]
        simp only [Bool.false_eq_true, if_false]
        have h4 : c ∈ l := ih.2.1 (by omega)
        exact ⟨by omega, by simp [h4]; omega⟩

abbrev containsCon : Con where
  ι := Str
  args := fun s => [.v (sv s.1), .v (sv [0])]
  post := fun s r => r = .v (.bool (s.1.contains 0))
  plain := true
abbrev indexCon : Con where
  ι := Str
  args := fun s => [.v (sv s.1), .v (sv [0])]
  post := fun s r => ∃ i, r = .v (.int .i64 i) ∧ (0 ≤ i ↔ (0 : UInt8) ∈ s.1)
  plain := true
theorem index_good : Rw.Good Tryd.prog 116 indexCon := by
  have hΓ : GoodEnv Tryd.prog [(117, ibCon)] := (goodEnv_cons ib_good goodEnv_nil)
  refine good_fn (nn := 143) hΓ Tryd.func116 (by kernel_rfl) rfl (show Tryd.f116.results.toList = [.tmp 4] from rfl) (fun _ => rfl) (fun _ => rfl) ?_
  rintro ⟨s, hs⟩
  simp only [goRules, coreRules, tiRules, unRules, AS_of_eq, ← decide_not, N0, N1, N2, N3, N4, N5, Z0, Z1, Z2, Z3, Z4, Z5, Z6, Z7, Z8, Z9, Z10, Zc, ↓reduceIte, reduceCtorEq]
  refine branchP_dec (fun h => ?_) (fun h => ?_)
  · simp only [goRules, coreRules, tiRules, unRules, AS_of_eq, ← decide_not, N0, N1, N2, N3, N4, N5, Z0, Z1, Z2, Z3, Z4, Z5, Z6, Z7, Z8, Z9, Z10, Zc, ↓reduceIte, reduceCtorEq]
    exact ⟨0, rfl, by simp [← h]⟩
  · simp only [goRules, coreRules, tiRules, unRules, AS_of_eq, ← decide_not, N0, N1, N2, N3, N4, N5, Z0, Z1, Z2, Z3, Z4, Z5, Z6, Z7, Z8, Z9, Z10, Zc, ↓reduceIte, reduceCtorEq]
    refine call_ib (c := 0) (by simp [get_cons]) (by simp) ?_
    simp only [goRules, coreRules, tiRules, unRules, AS_of_eq, ← decide_not, N0, N1, N2, N3, N4, N5, Z0, Z1, Z2, Z3, Z4, Z5, Z6, Z7, Z8, Z9, Z10, Zc, ↓reduceIte, reduceCtorEq]
    exact ⟨_, rfl, (indexByte_mem s 0).2⟩

theorem sindex_good : Rw.Good Tryd.prog 115 indexCon := by
  have hΓ : GoodEnv Tryd.prog [(116, indexCon)] := (goodEnv_cons index_good goodEnv_nil)
  refine good_fn (nn := 8) hΓ Tryd.func115 (by kernel_rfl) rfl (show Tryd.f115.results.toList = [.tmp 4] from rfl) (fun _ => rfl) (fun _ => rfl) ?_
  rintro ⟨s, hs⟩
  simp only [goRules, coreRules, tiRules, unRules, AS_of_eq, ← decide_not, N0, N1, N2, N3, N4, N5, Z0, Z1, Z2, Z3, Z4, Z5, Z6, Z7, Z8, Z9, Z10, Zc, ↓reduceIte, reduceCtorEq]
  refine vcCall_some (C := indexCon) (i := ⟨s, hs⟩) (by simp [get_cons]) rfl rfl rfl rfl (fun r ⟨i, hr, _⟩ => by rw [hr]; rfl) (fun r ⟨i, hr, h⟩ => ?_)
  subst hr
  simp only [goRules, coreRules, tiRules, unRules, AS_of_eq, ← decide_not, N0, N1, N2, N3, N4, N5, Z0, Z1, Z2, Z3, Z4, Z5, Z6, Z7, Z8, Z9, Z10, Zc, ↓reduceIte, reduceCtorEq]
  exact ⟨i, rfl, h⟩

theorem contains_good : Rw.Good Tryd.prog 113 containsCon := by
  have hΓ : GoodEnv Tryd.prog [(115, indexCon)] := (goodEnv_cons sindex_good goodEnv_nil)
  refine good_fn (nn := 9) hΓ Tryd.func113 (by kernel_rfl) rfl (show Tryd.f113.results.toList = [.tmp 4] from rfl) (fun _ => rfl) (fun _ => rfl) ?_
  rintro ⟨s, hs⟩
  simp only [goRules, coreRules, tiRules, unRules, AS_of_eq, ← decide_not, N0, N1, N2, N3, N4, N5, Z0, Z1, Z2, Z3, Z4, Z5, Z6, Z7, Z8, Z9, Z10, Zc, ↓reduceIte, reduceCtorEq]
  refine vcCall_some (C := indexCon) (i := ⟨s, hs⟩) (by simp [get_cons]) rfl rfl rfl rfl (fun r ⟨i, hr, _⟩ => by rw [hr]; rfl) (fun r ⟨i, hr, h⟩ => ?_)
  subst hr
  simp only [goRules, coreRules, tiRules, unRules, AS_of_eq, ← decide_not, N0, N1, N2, N3, N4, N5, Z0, Z1, Z2, Z3, Z4, Z5, Z6, Z7, Z8, Z9, Z10, Zc, ↓reduceIte, reduceCtorEq]
  rw [Bool.eq_iff_iff]; simpa using h
theorem call_contains {Γ : Env} (hf : Γ.get 113 = some containsCon) {σ : AS} {dr : Bool} {l : List UInt8} {d : Option Nat} {K : AS → Prop} (h : l.length ≤ 1099511627776)
    (hk : cont σ d (.v (.bool (l.contains 0))) K) : vcCall Tryd.prog Γ dr σ 113 [.v (sv l), .v (sv [0])] d K :=
  vcCall_plain (C := containsCon) (i := ⟨l, h⟩) hf rfl rfl rfl rfl (fun _ h => h) rfl hk

abbrev validCon : Con where
  ι := Str
  args := fun s => [.v (sv s.1)]
  post := fun s r => r = .v (.bool (pts s.1).isSome)
  plain := true
theorem valid_good : Rw.Good Tryd.prog 110 validCon := by
  have hΓ : GoodEnv Tryd.prog [(112, validSCon), (113, containsCon)] := (goodEnv_cons validS_good (goodEnv_cons contains_good goodEnv_nil))
  refine good_fn (nn := 10) hΓ Tryd.func110 (by kernel_rfl) rfl (show Tryd.f110.results.toList = [.tmp 2] from rfl) (fun _ => rfl) (fun _ => rfl) ?_
  rintro ⟨s, hs⟩
  simp only [goRules, coreRules, tiRules, unRules, AS_of_eq, ← decide_not, N0, N1, N2, N3, N4, N5, Z0, Z1, Z2, Z3, Z4, Z5, Z6, Z7, Z8, Z9, Z10, Zc, ↓reduceIte, reduceCtorEq]
  refine call_validS (by simp [get_cons]) hs ?_
  have key := valid_pts _ s (Nat.le_refl _)
  simp only [goRules, coreRules, tiRules, unRules, AS_of_eq, ← decide_not, N0, N1, N2, N3, N4, N5, Z0, Z1, Z2, Z3, Z4, Z5, Z6, Z7, Z8, Z9, Z10, Zc, ↓reduceIte, reduceCtorEq]
  cases hv : Lib.validD s with
  | false =>
    rw [hv] at key
    simp only [goRules, coreRules, tiRules, unRules, AS_of_eq, ← decide_not, N0, N1, N2, N3, N4, N5, Z0, Z1, Z2, Z3, Z4, Z5, Z6, Z7, Z8, Z9, Z10, Zc, ↓reduceIte, reduceCtorEq]
    rw [← key]; rfl
  | true =>
    rw [hv] at key
    simp only [goRules, coreRules, tiRules, unRules, AS_of_eq, ← decide_not, N0, N1, N2, N3, N4, N5, Z0, Z1, Z2, Z3, Z4, Z5, Z6, Z7, Z8, Z9, Z10, Zc, ↓reduceIte, reduceCtorEq]
    refine call_contains (by simp [get_cons]) hs ?_
    simp only [goRules, coreRules, tiRules, unRules, AS_of_eq, ← decide_not, N0, N1, N2, N3, N4, N5, Z0, Z1, Z2, Z3, Z4, Z5, Z6, Z7, Z8, Z9, Z10, Zc, ↓reduceIte, reduceCtorEq]
    rw [← key]; rfl
theorem call_valid {Γ : Env} (hf : Γ.get 110 = some validCon) {σ : AS} {dr : Bool} {l : List UInt8} {d : Option Nat} {K : AS → Prop} (h : l.length ≤ 1099511627776)
    (hk : cont σ d (.v (.bool (pts l).isSome)) K) : vcCall Tryd.prog Γ dr σ 110 [.v (sv l)] d K :=
  vcCall_plain (C := validCon) (i := ⟨l, h⟩) hf rfl rfl rfl rfl (fun _ h => h) rfl hk
end Go.Proofs
end

-- CUt2
section
namespace Go.Proofs
open Go Go.Rw
open _root_.Nat renaming reduceAdd → N0, reduceSub → N1, reduceMul → N2, reduceLT → N3, reduceLeDiff → N4, reduceEqDiff → N5
open _root_.Int renaming reduceNeg → Z0, reduceAdd → Z1, reduceSub → Z2, reduceMul → Z3, reduceGT → Z4, reduceGE → Z5, reduceLT → Z6, reduceLE → Z7, reduceEq → Z8, reduceNe → Z9, reduceToNat → Z10, cast_ofNat_Int → Zc
set_option maxRecDepth 100000
set_option linter.unusedSimpArgs false
set_option linter.unusedVariables false

theorem and192 {b : UInt8} : IntKind.wrap .u8 ((BitVec.ofInt IntKind.u8.bits (b.toNat : Int) &&& BitVec.ofInt IntKind.u8.bits 192).toNat : Nat) = ((b.toNat / 64 * 64 : Nat) : Int) := by
  have key : ∀ m : Nat, m < 256 → (BitVec.ofInt IntKind.u8.bits (m : Int) &&& BitVec.ofInt IntKind.u8.bits 192).toNat = m / 64 * 64 := by decide +kernel
  have hb := b.toNat_lt
  rw [key _ (by omega), wrap_u8 (by omega) (by omega)]

abbrev startCon : Con where
  ι := UInt8
  args := fun b => [.v (.int .u8 b.toNat)]
  post := fun b r => r = .v (.bool (decide (¬ (128 ≤ b.toNat ∧ b.toNat < 192))))
  plain := true
theorem start_good : Rw.Good Tryd.prog 111 startCon := by
  have hΓ : GoodEnv Tryd.prog [] := goodEnv_nil
  refine good_fn (nn := 6) hΓ Tryd.func111 (by kernel_rfl) rfl (show Tryd.f111.results.toList = [.tmp 2] from rfl) (fun _ => rfl) (fun _ => rfl) ?_
  intro b
  simp only [goRules, coreRules, tiRules, unRules, AS_of_eq, ← decide_not, N0, N1, N2, N3, N4, N5, Z0, Z1, Z2, Z3, Z4, Z5, Z6, Z7, Z8, Z9, Z10, Zc, ↓reduceIte, reduceCtorEq, and192]
  rw [Bool.eq_iff_iff]; simp; omega
theorem call_start {Γ : Env} (hf : Γ.get 111 = some startCon) {σ : AS} {dr : Bool} {b : UInt8} {n : Int} {d : Option Nat} {K : AS → Prop} (hn : n = b.toNat)
    (hk : cont σ d (.v (.bool (decide (¬ (128 ≤ b.toNat ∧ b.toNat < 192))))) K) : vcCall Tryd.prog Γ dr σ 111 [.v (.int .u8 n)] d K := by
  subst hn
  exact vcCall_plain (C := startCon) (i := b) hf rfl rfl rfl rfl (fun _ h => h) rfl hk

theorem opt_cases {α : Type} (x : Option α) : x = none ∨ ∃ a, x = some a := by cases x <;> simp

/-- An answer and an error's number. -/
def res2 (a : AV) (e : Int) : AV := .tup [a, .v (.int .i64 e)]
def countR (l : List UInt8) : AV := match pts l with
  | some cs => res2 (.v (.int .i64 cs.length)) 0
  | none => res2 (.v (.int .i64 0)) 2
theorem countR_plain (l : List UInt8) : (countR l).plain = true := by unfold countR; split <;> rfl

abbrev countCon : Con where
  ι := Str
  args := fun s => [.v (sv s.1)]
  post := fun s r => r = countR s.1
  plain := true
theorem count_good : Rw.Good Tryd.prog 109 countCon := by
  have hΓ : GoodEnv Tryd.prog [(110, validCon), (111, startCon)] := (goodEnv_cons valid_good (goodEnv_cons start_good goodEnv_nil))
  refine good_fn (nn := 30) hΓ Tryd.func109 (by kernel_rfl) rfl (show Tryd.f109.results.toList = [.tmp 2, .tmp 3] from rfl) (fun _ => rfl) (fun _ => rfl) ?_
  rintro ⟨s, hs⟩
  simp only [goRules, coreRules, tiRules, unRules, AS_of_eq, ← decide_not, N0, N1, N2, N3, N4, N5, Z0, Z1, Z2, Z3, Z4, Z5, Z6, Z7, Z8, Z9, Z10, Zc, ↓reduceIte, reduceCtorEq]
  obtain ⟨St, hSt⟩ : ∃ St : { p : List Nat × List Nat // pts s = some (p.1 ++ p.2) } → AS, ∀ p, St p = AS.of 30 [(0, .v (sv s)), (2, .v (.int .i64 p.1.1.length)), (4, .v (.int .i64 (encs p.1.1).length))] [] [] := ⟨_, fun _ => rfl⟩
  refine vc_lab hΓ 1 St (fun p => p.1.2.length) 1 rfl rfl ?_ ?_
  · rintro ⟨⟨pre, post⟩, hp⟩
    simp only at hp
    obtain ⟨hok, hse⟩ := pts_some hp
    rw [hSt]
    have hl := congrArg List.length hse
    rw [encs_app, List.length_append] at hl
    have hpl := encs_le pre
    simp only [goRules, coreRules, tiRules, unRules, AS_of_eq, ← decide_not, N0, N1, N2, N3, N4, N5, Z0, Z1, Z2, Z3, Z4, Z5, Z6, Z7, Z8, Z9, Z10, Zc, ↓reduceIte, reduceCtorEq]
    refine branchP_dec (fun h => ?_) (fun h => ?_)
    · simp only [goRules, coreRules, tiRules, unRules, AS_of_eq, ← decide_not, N0, N1, N2, N3, N4, N5, Z0, Z1, Z2, Z3, Z4, Z5, Z6, Z7, Z8, Z9, Z10, Zc, ↓reduceIte, reduceCtorEq]
      refine ⟨_, rfl, ?_⟩
      simp only [goRules, coreRules, tiRules, unRules, AS_of_eq, ← decide_not, N0, N1, N2, N3, N4, N5, Z0, Z1, Z2, Z3, Z4, Z5, Z6, Z7, Z8, Z9, Z10, Zc, ↓reduceIte, reduceCtorEq]
      have : post = [] := by
        cases post with
        | nil => rfl
        | cons c cs => have := encs_pos (c := c) (cs := cs); omega
      subst this
      unfold countR
      rw [hp, List.append_nil]; rfl
    · cases post with
      | nil => rw [encs_nil, List.length_nil] at hl; omega
      | cons c cs =>
        have hc := hok c (by simp)
        have hw := wid_pos c
        have hcl := enc_len c
        rw [encs_cons, List.length_append, hcl] at hl
        rw [encs_app, encs_cons] at hse
        simp (disch := omega) only [goRules, coreRules, tiRules, unRules, AS_of_eq, ← decide_not, N0, N1, N2, N3, N4, N5, Z0, Z1, Z2, Z3, Z4, Z5, Z6, Z7, Z8, Z9, Z10, Zc, ↓reduceIte, reduceCtorEq, wrap_i64, wrap_i64]
        obtain ⟨St2, hSt2⟩ : ∃ St2 : { j : Nat // 1 ≤ j ∧ j ≤ wid c } → AS, ∀ j, St2 j = AS.of 30 [(0, .v (sv s)), (2, .v (.int .i64 pre.length)), (4, .v (.int .i64 ((encs pre).length + j.1 : Nat)))] [] [] := ⟨_, fun _ => rfl⟩
        refine vc_loop hΓ St2 (fun j => wid c - j.1) ⟨1, by omega⟩ (by rw [hSt2]; refine weak_go [] [] ?_; simp only [goRules, coreRules, tiRules, unRules, AS_of_eq, ← decide_not, N0, N1, N2, N3, N4, N5, Z0, Z1, Z2, Z3, Z4, Z5, Z6, Z7, Z8, Z9, Z10, Zc, ↓reduceIte, reduceCtorEq]; rfl) ?_
        rintro ⟨j, hj1, hj2⟩
        rw [hSt2]
        simp only
        simp only [goRules, coreRules, tiRules, unRules, AS_of_eq, ← decide_not, N0, N1, N2, N3, N4, N5, Z0, Z1, Z2, Z3, Z4, Z5, Z6, Z7, Z8, Z9, Z10, Zc, ↓reduceIte, reduceCtorEq]
        have hlast : ∀ σ : AS, j = wid c → Weak σ (AS.of 30 [(0, .v (sv s)), (2, .v (.int .i64 (pre.length + 1 : Nat))), (4, .v (.int .i64 ((encs pre).length + wid c : Nat)))] [] []) → ∃ y : { p : List Nat × List Nat // pts s = some (p.1 ++ p.2) }, y.1.2.length < (c :: cs).length ∧ Weak σ (St y) := by
          intro σ hj hw
          refine ⟨⟨(pre ++ [c], cs), by simpa using hp⟩, by simp, ?_⟩
          rw [hSt]
          simp only [encs_app, List.length_append, encs_cons, encs_nil, List.append_nil, hcl, List.length_cons, List.length_nil, Nat.zero_add]
          exact hw
        refine guardB_dec (fun h2 => ?_) (fun h2 => ?_)
        · simp (disch := omega) only [goRules, coreRules, tiRules, unRules, AS_of_eq, ← decide_not, N0, N1, N2, N3, N4, N5, Z0, Z1, Z2, Z3, Z4, Z5, Z6, Z7, Z8, Z9, Z10, Zc, ↓reduceIte, reduceCtorEq, wrap_i64, wrap_i64, h2]
          refine ⟨by omega, ?_⟩
          refine call_start (by simp [get_cons]) rfl ?_
          simp only [goRules, coreRules, tiRules, unRules, AS_of_eq, ← decide_not, N0, N1, N2, N3, N4, N5, Z0, Z1, Z2, Z3, Z4, Z5, Z6, Z7, Z8, Z9, Z10, Zc, ↓reduceIte, reduceCtorEq, h2]
          refine branchP_dec (fun h3 => ?_) (fun h3 => ?_)
          · simp (disch := omega) only [goRules, coreRules, tiRules, unRules, AS_of_eq, ← decide_not, N0, N1, N2, N3, N4, N5, Z0, Z1, Z2, Z3, Z4, Z5, Z6, Z7, Z8, Z9, Z10, Zc, ↓reduceIte, reduceCtorEq, wrap_i64, wrap_i64]
            have hj3 : j < wid c := by
              rcases Nat.lt_or_ge j (wid c) with h4 | h4
              · exact h4
              · exfalso
                have hjw : j = wid c := by omega
                cases cs with
                | nil => rw [encs_nil, List.length_nil] at hl; omega
                | cons c2 cs =>
                  have h5 := enc_head (hok c2 (by simp))
                  have h6 : s.getD ((encs pre).length + j) 0 = (enc c2).getD 0 0 := by
                    rw [hse, encs_cons, ← List.append_assoc, hjw, ← hcl, ← List.length_append]
                    exact getD_mid (j := 0) (by rw [enc_len]; exact wid_pos c2)
                  rw [h6] at h3
                  omega
            refine weak_again ⟨j + 1, by omega⟩ (by simp only; omega) ?_
            rw [hSt2]; refine weak_go [] [] ?_
            simp only [goRules, coreRules, tiRules, unRules, AS_of_eq, ← decide_not, N0, N1, N2, N3, N4, N5, Z0, Z1, Z2, Z3, Z4, Z5, Z6, Z7, Z8, Z9, Z10, Zc, ↓reduceIte, reduceCtorEq] <;> ((repeat' apply And.intro) <;> first | rfl | omega | trivial)
          · have hjw : j = wid c := by
              rcases Nat.lt_or_ge j (wid c) with h4 | h4
              · exfalso
                have h5 := enc_cont hc hj1 h4
                have h6 : s.getD ((encs pre).length + j) 0 = (enc c).getD j 0 := by
                  rw [hse]; exact getD_mid (by rw [hcl]; exact h4)
                rw [h6] at h3
                omega
              · omega
            subst hjw
            simp (disch := omega) only [goRules, coreRules, tiRules, unRules, AS_of_eq, ← decide_not, N0, N1, N2, N3, N4, N5, Z0, Z1, Z2, Z3, Z4, Z5, Z6, Z7, Z8, Z9, Z10, Zc, ↓reduceIte, reduceCtorEq, wrap_i64, wrap_i64]
            refine hlast _ rfl ?_
            refine weak_go [] [] ?_
            simp only [goRules, coreRules, tiRules, unRules, AS_of_eq, ← decide_not, N0, N1, N2, N3, N4, N5, Z0, Z1, Z2, Z3, Z4, Z5, Z6, Z7, Z8, Z9, Z10, Zc, ↓reduceIte, reduceCtorEq] <;> ((repeat' apply And.intro) <;> first | rfl | omega | trivial)
        · have hjw : j = wid c := by omega
          subst hjw
          simp (disch := omega) only [goRules, coreRules, tiRules, unRules, AS_of_eq, ← decide_not, N0, N1, N2, N3, N4, N5, Z0, Z1, Z2, Z3, Z4, Z5, Z6, Z7, Z8, Z9, Z10, Zc, ↓reduceIte, reduceCtorEq, wrap_i64, wrap_i64, h2]
          refine hlast _ rfl ?_
          refine weak_go [] [] ?_
          simp only [goRules, coreRules, tiRules, unRules, AS_of_eq, ← decide_not, N0, N1, N2, N3, N4, N5, Z0, Z1, Z2, Z3, Z4, Z5, Z6, Z7, Z8, Z9, Z10, Zc, ↓reduceIte, reduceCtorEq] <;> ((repeat' apply And.intro) <;> first | rfl | omega | trivial)
  · simp only [goRules, coreRules, tiRules, unRules, AS_of_eq, ← decide_not, N0, N1, N2, N3, N4, N5, Z0, Z1, Z2, Z3, Z4, Z5, Z6, Z7, Z8, Z9, Z10, Zc, ↓reduceIte, reduceCtorEq]
    refine call_valid (by simp [get_cons]) hs ?_
    simp only [goRules, coreRules, tiRules, unRules, AS_of_eq, ← decide_not, N0, N1, N2, N3, N4, N5, Z0, Z1, Z2, Z3, Z4, Z5, Z6, Z7, Z8, Z9, Z10, Zc, ↓reduceIte, reduceCtorEq]
    rcases opt_cases (pts s) with hp | ⟨cs, hp⟩
    · simp only [goRules, coreRules, tiRules, unRules, AS_of_eq, ← decide_not, N0, N1, N2, N3, N4, N5, Z0, Z1, Z2, Z3, Z4, Z5, Z6, Z7, Z8, Z9, Z10, Zc, ↓reduceIte, reduceCtorEq, hp, Option.isSome_none]
      unfold countR
      rw [hp]; rfl
    · simp only [goRules, coreRules, tiRules, unRules, AS_of_eq, ← decide_not, N0, N1, N2, N3, N4, N5, Z0, Z1, Z2, Z3, Z4, Z5, Z6, Z7, Z8, Z9, Z10, Zc, ↓reduceIte, reduceCtorEq, hp, Option.isSome_some]
      refine ⟨⟨([], cs), hp⟩, ?_⟩
      rw [hSt]; refine weak_go [] [] ?_
      simp only [goRules, coreRules, tiRules, unRules, AS_of_eq, ← decide_not, N0, N1, N2, N3, N4, N5, Z0, Z1, Z2, Z3, Z4, Z5, Z6, Z7, Z8, Z9, Z10, Zc, ↓reduceIte, reduceCtorEq]
      rfl
end Go.Proofs
end

-- CUt3
section
namespace Go.Proofs
open Go Go.Rw
open _root_.Nat renaming reduceAdd → N0, reduceSub → N1, reduceMul → N2, reduceLT → N3, reduceLeDiff → N4, reduceEqDiff → N5
open _root_.Int renaming reduceNeg → Z0, reduceAdd → Z1, reduceSub → Z2, reduceMul → Z3, reduceGT → Z4, reduceGE → Z5, reduceLT → Z6, reduceLE → Z7, reduceEq → Z8, reduceNe → Z9, reduceToNat → Z10, cast_ofNat_Int → Zc
set_option maxRecDepth 100000
set_option linter.unusedSimpArgs false
set_option linter.unusedVariables false

theorem dec1_mid {pre post : List Nat} {c : Nat} (h : okc c) : dec1 (encs (pre ++ c :: post)) (encs pre).length = c := by unfold dec1; rw [decode_mid h]
theorem dec2_mid {pre post : List Nat} {c : Nat} (h : okc c) : dec2 (encs (pre ++ c :: post)) (encs pre).length = wid c := by unfold dec2; rw [decode_mid h]
def offR (l : List UInt8) (n : Int) : AV := match pts l with
  | none => res2 (.v (.int .i64 0)) 2
  | some cs => if n < 0 ∨ n > cs.length then res2 (.v (.int .i64 0)) 1 else res2 (.v (.int .i64 (encs (cs.take n.toNat)).length)) 0
theorem offR_plain (l : List UInt8) (n : Int) : (offR l n).plain = true := by
  unfold offR
  repeat' split
  all_goals rfl
theorem call_count {Γ : Env} (hf : Γ.get 109 = some countCon) {σ : AS} {dr : Bool} {l : List UInt8} {d : Option Nat} {K : AS → Prop} (h : l.length ≤ 1099511627776)
    (hk : cont σ d (countR l) K) : vcCall Tryd.prog Γ dr σ 109 [.v (sv l)] d K :=
  vcCall_plain (C := countCon) (i := ⟨l, h⟩) hf rfl rfl rfl rfl (fun _ h => h) (countR_plain l) hk
abbrev offCon : Con where
  ι := Str × { n : Int // -9223372036854775808 ≤ n ∧ n ≤ 9223372036854775807 }
  args := fun s => [.v (sv s.1.1), .v (.int .i64 s.2.1)]
  post := fun s r => r = offR s.1.1 s.2.1
  plain := true
theorem off_good : Rw.Good Tryd.prog 106 offCon := by
  have hΓ : GoodEnv Tryd.prog [(109, countCon)] := (goodEnv_cons count_good goodEnv_nil)
  refine good_fn (nn := 38) hΓ Tryd.func106 (by kernel_rfl) rfl (show Tryd.f106.results.toList = [.tmp 4, .tmp 5] from rfl) (fun _ => rfl) (fun _ => rfl) ?_
  rintro ⟨⟨s, hs⟩, ⟨n, hn1, hn2⟩⟩
  simp only [goRules, coreRules, tiRules, unRules, AS_of_eq, ← decide_not, N0, N1, N2, N3, N4, N5, Z0, Z1, Z2, Z3, Z4, Z5, Z6, Z7, Z8, Z9, Z10, Zc, ↓reduceIte, reduceCtorEq]
  refine call_count (by simp [get_cons]) hs ?_
  rcases opt_cases (pts s) with hp | ⟨cs, hp⟩
  · simp only [goRules, coreRules, tiRules, unRules, AS_of_eq, ← decide_not, N0, N1, N2, N3, N4, N5, Z0, Z1, Z2, Z3, Z4, Z5, Z6, Z7, Z8, Z9, Z10, Zc, ↓reduceIte, reduceCtorEq, countR, hp, res2]
    unfold offR
    rw [hp]; rfl
  · simp only [goRules, coreRules, tiRules, unRules, AS_of_eq, ← decide_not, N0, N1, N2, N3, N4, N5, Z0, Z1, Z2, Z3, Z4, Z5, Z6, Z7, Z8, Z9, Z10, Zc, ↓reduceIte, reduceCtorEq, countR, hp, res2]
    obtain ⟨hok, hse⟩ := pts_some hp
    have hle := encs_le cs
    have fin : ∀ m : Int, 0 ≤ m → m ≤ cs.length → offR s m = res2 (.v (.int .i64 (encs (cs.take m.toNat)).length)) 0 := fun m h1 h2 => by
      unfold offR
      rw [hp]
      simp only
      rw [if_neg (by omega)]
    have bad : n < 0 ∨ n > cs.length → offR s n = res2 (.v (.int .i64 0)) 1 := fun h => by
      unfold offR
      rw [hp]
      simp only
      rw [if_pos h]
    (with_reducible first | refine branchP_dec (fun h => ?_) (fun h => ?_) | refine guardB_dec (fun h => ?_) (fun h => ?_))
    · simp only [goRules, coreRules, tiRules, unRules, AS_of_eq, ← decide_not, N0, N1, N2, N3, N4, N5, Z0, Z1, Z2, Z3, Z4, Z5, Z6, Z7, Z8, Z9, Z10, Zc, ↓reduceIte, reduceCtorEq, h]
      rw [bad (.inl h)]; rfl
    · simp only [goRules, coreRules, tiRules, unRules, AS_of_eq, ← decide_not, N0, N1, N2, N3, N4, N5, Z0, Z1, Z2, Z3, Z4, Z5, Z6, Z7, Z8, Z9, Z10, Zc, ↓reduceIte, reduceCtorEq, h]
      (with_reducible first | refine branchP_dec (fun h2 => ?_) (fun h2 => ?_) | refine guardB_dec (fun h2 => ?_) (fun h2 => ?_))
      · simp only [goRules, coreRules, tiRules, unRules, AS_of_eq, ← decide_not, N0, N1, N2, N3, N4, N5, Z0, Z1, Z2, Z3, Z4, Z5, Z6, Z7, Z8, Z9, Z10, Zc, ↓reduceIte, reduceCtorEq, h2]
        rw [bad (.inr h2)]; rfl
      · simp only [goRules, coreRules, tiRules, unRules, AS_of_eq, ← decide_not, N0, N1, N2, N3, N4, N5, Z0, Z1, Z2, Z3, Z4, Z5, Z6, Z7, Z8, Z9, Z10, Zc, ↓reduceIte, reduceCtorEq, h2]
        obtain ⟨St, hSt⟩ : ∃ St : { p : List Nat × List Nat // p.1 ++ p.2 = cs ∧ (p.1.length : Int) ≤ n } → AS, ∀ p, St p = AS.of 38 [(0, .v (sv s)), (1, .v (.int .i64 (n - p.1.1.length))), (27, .ptr 0 0)] [.iter ⟨s.toArray⟩ (encs p.1.1).length] [] := ⟨_, fun _ => rfl⟩
        refine vc_loop hΓ St (fun p => p.1.2.length) ⟨([], cs), rfl, by simp; omega⟩ (by rw [hSt]; refine weak_go [0] [] ?_; simp only [goRules, coreRules, tiRules, unRules, AS_of_eq, ← decide_not, N0, N1, N2, N3, N4, N5, Z0, Z1, Z2, Z3, Z4, Z5, Z6, Z7, Z8, Z9, Z10, Zc, ↓reduceIte, reduceCtorEq, encs_nil] <;> ((repeat' apply And.intro) <;> first | rfl | omega | trivial)) ?_
        rintro ⟨⟨pre, post⟩, hpp, hpn⟩
        simp only at hpp hpn
        subst hpp
        rw [hSt]
        simp only
        subst hse
        rw [encs_app_len, List.length_append] at hle
        have hs2 := hs
        rw [encs_app_len] at hs2
        simp only [goRules, coreRules, tiRules, unRules, AS_of_eq, ← decide_not, N0, N1, N2, N3, N4, N5, Z0, Z1, Z2, Z3, Z4, Z5, Z6, Z7, Z8, Z9, Z10, Zc, ↓reduceIte, reduceCtorEq]
        cases post with
        | nil =>
          rw [nextO_end (by simp)]
          simp only [goRules, coreRules, tiRules, unRules, AS_of_eq, ← decide_not, N0, N1, N2, N3, N4, N5, Z0, Z1, Z2, Z3, Z4, Z5, Z6, Z7, Z8, Z9, Z10, Zc, ↓reduceIte, reduceCtorEq]
          rw [List.append_nil] at h2 fin
          rw [fin n (by omega) (by omega), show n.toNat = pre.length by omega, List.take_length]
          rfl
        | cons c post =>
          have hc := hok c (by simp)
          rw [nextO_in (by rw [encs_app_len, encs_cons_len]; have := wid_pos c; omega), dec1_mid hc, dec2_mid hc]
          simp only [goRules, coreRules, tiRules, unRules, AS_of_eq, ← decide_not, N0, N1, N2, N3, N4, N5, Z0, Z1, Z2, Z3, Z4, Z5, Z6, Z7, Z8, Z9, Z10, Zc, ↓reduceIte, reduceCtorEq]
          (with_reducible first | refine branchP_dec (fun h5 => ?_) (fun h5 => ?_) | refine guardB_dec (fun h5 => ?_) (fun h5 => ?_))
          · simp only [goRules, coreRules, tiRules, unRules, AS_of_eq, ← decide_not, N0, N1, N2, N3, N4, N5, Z0, Z1, Z2, Z3, Z4, Z5, Z6, Z7, Z8, Z9, Z10, Zc, ↓reduceIte, reduceCtorEq]
            rw [fin n (by omega) (by omega), show n.toNat = pre.length by omega, List.take_left]
            rfl
          · simp (disch := omega) only [goRules, coreRules, tiRules, unRules, AS_of_eq, ← decide_not, N0, N1, N2, N3, N4, N5, Z0, Z1, Z2, Z3, Z4, Z5, Z6, Z7, Z8, Z9, Z10, Zc, ↓reduceIte, reduceCtorEq, wrap_i64, wrap_i64]
            refine weak_again ⟨(pre ++ [c], post), by simp, by simp; omega⟩ (by simp) ?_
            rw [hSt]; refine weak_go [0] [] ?_
            simp only [goRules, coreRules, tiRules, unRules, AS_of_eq, ← decide_not, N0, N1, N2, N3, N4, N5, Z0, Z1, Z2, Z3, Z4, Z5, Z6, Z7, Z8, Z9, Z10, Zc, ↓reduceIte, reduceCtorEq, encs_snoc_len, List.length_append] <;> ((repeat' apply And.intro) <;> first | rfl | omega | trivial)

def sliceR (l : List UInt8) (a b : Int) : AV := match pts l with
  | none => res2 (.v (sv [])) 2
  | some cs => if 0 ≤ a ∧ a ≤ b ∧ b ≤ cs.length then res2 (.v (sv (encs ((cs.drop a.toNat).take (b.toNat - a.toNat))))) 0 else res2 (.v (sv [])) 1
theorem sliceR_plain (l : List UInt8) (a b : Int) : (sliceR l a b).plain = true := by
  unfold sliceR
  repeat' split
  all_goals rfl
abbrev I64 := { n : Int // -9223372036854775808 ≤ n ∧ n ≤ 9223372036854775807 }
theorem call_off {Γ : Env} (hf : Γ.get 106 = some offCon) {σ : AS} {dr : Bool} {l : List UInt8} {n : Int} {d : Option Nat} {K : AS → Prop} (h : l.length ≤ 1099511627776) (h1 : -9223372036854775808 ≤ n) (h2 : n ≤ 9223372036854775807)
    (hk : cont σ d (offR l n) K) : vcCall Tryd.prog Γ dr σ 106 [.v (sv l), .v (.int .i64 n)] d K :=
  vcCall_plain (C := offCon) (i := (⟨l, h⟩, ⟨n, h1, h2⟩)) hf rfl rfl rfl rfl (fun _ h => h) (offR_plain l n) hk
abbrev sliceCon : Con where
  ι := Str × I64 × I64
  args := fun s => [.v (sv s.1.1), .v (.int .i64 s.2.1.1), .v (.int .i64 s.2.2.1)]
  post := fun s r => r = sliceR s.1.1 s.2.1.1 s.2.2.1
  plain := true
theorem slice_good : Rw.Good Tryd.prog 94 sliceCon := by
  have hΓ : GoodEnv Tryd.prog [(106, offCon)] := (goodEnv_cons off_good goodEnv_nil)
  refine good_fn (nn := 36) hΓ Tryd.func94 (by kernel_rfl) rfl (show Tryd.f94.results.toList = [.tmp 6, .tmp 7] from rfl) (fun _ => rfl) (fun _ => rfl) ?_
  rintro ⟨⟨s, hs⟩, ⟨a, ha1, ha2⟩, ⟨b, hb1, hb2⟩⟩
  simp only [goRules, coreRules, tiRules, unRules, AS_of_eq, ← decide_not, N0, N1, N2, N3, N4, N5, Z0, Z1, Z2, Z3, Z4, Z5, Z6, Z7, Z8, Z9, Z10, Zc, ↓reduceIte, reduceCtorEq]
  refine call_off (by simp [get_cons]) hs ha1 ha2 ?_
  rcases opt_cases (pts s) with hp | ⟨cs, hp⟩
  · simp only [goRules, coreRules, tiRules, unRules, AS_of_eq, ← decide_not, N0, N1, N2, N3, N4, N5, Z0, Z1, Z2, Z3, Z4, Z5, Z6, Z7, Z8, Z9, Z10, Zc, ↓reduceIte, reduceCtorEq, offR, hp, res2]
    unfold sliceR
    rw [hp]; rfl
  · obtain ⟨hok, hse⟩ := pts_some hp
    by_cases ha : a < 0 ∨ a > cs.length
    · simp only [goRules, coreRules, tiRules, unRules, AS_of_eq, ← decide_not, N0, N1, N2, N3, N4, N5, Z0, Z1, Z2, Z3, Z4, Z5, Z6, Z7, Z8, Z9, Z10, Zc, ↓reduceIte, reduceCtorEq, offR, hp, res2, ha]
      unfold sliceR
      rw [hp]
      simp only
      rw [if_neg (by omega)]; rfl
    · simp only [goRules, coreRules, tiRules, unRules, AS_of_eq, ← decide_not, N0, N1, N2, N3, N4, N5, Z0, Z1, Z2, Z3, Z4, Z5, Z6, Z7, Z8, Z9, Z10, Zc, ↓reduceIte, reduceCtorEq, offR, hp, res2, ha]
      refine call_off (by simp [get_cons]) hs hb1 hb2 ?_
      by_cases hb : b < 0 ∨ b > cs.length
      · simp only [goRules, coreRules, tiRules, unRules, AS_of_eq, ← decide_not, N0, N1, N2, N3, N4, N5, Z0, Z1, Z2, Z3, Z4, Z5, Z6, Z7, Z8, Z9, Z10, Zc, ↓reduceIte, reduceCtorEq, offR, hp, res2, hb]
        unfold sliceR
        rw [hp]
        simp only
        rw [if_neg (by omega)]; rfl
      · simp only [goRules, coreRules, tiRules, unRules, AS_of_eq, ← decide_not, N0, N1, N2, N3, N4, N5, Z0, Z1, Z2, Z3, Z4, Z5, Z6, Z7, Z8, Z9, Z10, Zc, ↓reduceIte, reduceCtorEq, offR, hp, res2, hb]
        have hl1 := encs_take_le cs a.toNat
        have hl2 := encs_take_le cs b.toNat
        rw [← hse] at hl1 hl2
        (with_reducible first | refine branchP_dec (fun h => ?_) (fun h => ?_) | refine guardB_dec (fun h => ?_) (fun h => ?_))
        · simp only [goRules, coreRules, tiRules, unRules, AS_of_eq, ← decide_not, N0, N1, N2, N3, N4, N5, Z0, Z1, Z2, Z3, Z4, Z5, Z6, Z7, Z8, Z9, Z10, Zc, ↓reduceIte, reduceCtorEq]
          unfold sliceR
          rw [hp]
          simp only
          rw [if_neg]
          · rfl
          · intro hc
            have := encs_take_mono cs (a := a.toNat) (b := b.toNat) (by omega)
            omega
        · have hab : a ≤ b := by
            by_cases h1 : b < a
            · have := encs_take_lt cs (a := b.toNat) (b := a.toNat) (by omega) (by omega)
              omega
            · omega
          simp only [goRules, coreRules, tiRules, unRules, AS_of_eq, ← decide_not, N0, N1, N2, N3, N4, N5, Z0, Z1, Z2, Z3, Z4, Z5, Z6, Z7, Z8, Z9, Z10, Zc, ↓reduceIte, reduceCtorEq]
          refine ⟨by omega, ?_⟩
          unfold sliceR
          rw [hp]
          simp only
          rw [if_pos (by omega)]
          subst hse
          rw [encs_slice cs (by omega)]; rfl
end Go.Proofs
end

-- CUt4
section
namespace Go.Proofs
open Go Go.Rw
open _root_.Nat renaming reduceAdd → N0, reduceSub → N1, reduceMul → N2, reduceLT → N3, reduceLeDiff → N4, reduceEqDiff → N5
open _root_.Int renaming reduceNeg → Z0, reduceAdd → Z1, reduceSub → Z2, reduceMul → Z3, reduceGT → Z4, reduceGE → Z5, reduceLT → Z6, reduceLE → Z7, reduceEq → Z8, reduceNe → Z9, reduceToNat → Z10, cast_ofNat_Int → Zc
set_option maxRecDepth 100000
set_option linter.unusedSimpArgs false
set_option linter.unusedVariables false

end Go.Proofs
end

-- CUt5
section
namespace Go.Proofs
open Go Go.Rw
open _root_.Nat renaming reduceAdd → N0, reduceSub → N1, reduceMul → N2, reduceLT → N3, reduceLeDiff → N4, reduceEqDiff → N5
open _root_.Int renaming reduceNeg → Z0, reduceAdd → Z1, reduceSub → Z2, reduceMul → Z3, reduceGT → Z4, reduceGE → Z5, reduceLT → Z6, reduceLE → Z7, reduceEq → Z8, reduceNe → Z9, reduceToNat → Z10, cast_ofNat_Int → Zc
set_option maxRecDepth 100000
set_option linter.unusedSimpArgs false
set_option linter.unusedVariables false

theorem drop_ne {l : List UInt8} {i : Nat} (h : i < l.length) : l.drop i ≠ [] := by
  intro e
  have this := congrArg List.length e
  rw [List.length_drop, List.length_nil] at this; omega
abbrev roundCon : Con where
  ι := I64 × { n : Int // 1 ≤ n ∧ n ≤ 4611686018427387904 }
  args := fun p => [.v (.int .i64 p.1.1), .v (.int .i64 p.2.1)]
  post := fun p r => r = .v (.int .i64 (p.1.1 % p.2.1))
  plain := true
theorem emod_tmod {k n : Int} (h : 1 ≤ n) : k % n = if k.tmod n < 0 then k.tmod n + n else k.tmod n := by
  have h3 := Int.emod_nonneg k (show n ≠ 0 by omega)
  have h4 := Int.emod_lt_of_pos k (show 0 < n by omega)
  have h5 : k.tmod n = k % n - if 0 ≤ k ∨ n ∣ k then 0 else n.natAbs := Int.tmod_eq_emod
  have h6 : (n.natAbs : Int) = n := by omega
  rw [h5]
  by_cases hc : 0 ≤ k ∨ n ∣ k
  · rw [if_pos hc, if_neg (by omega)]; omega
  · rw [if_neg hc, h6, if_pos (by omega)]; omega
theorem round_good : Rw.Good Tryd.prog 23 roundCon := by
  have hΓ : GoodEnv Tryd.prog [] := goodEnv_nil
  refine good_fn (nn := 14) hΓ Tryd.func23 (by kernel_rfl) rfl (show Tryd.f23.results.toList = [.tmp 4] from rfl) (fun _ => rfl) (fun _ => rfl) ?_
  rintro ⟨⟨k, hk1, hk2⟩, ⟨n, hn1, hn2⟩⟩
  simp only
  have h3 := emod_tmod (k := k) hn1
  have h4 := Int.emod_nonneg k (show n ≠ 0 by omega)
  have h5 := Int.emod_lt_of_pos k (show 0 < n by omega)
  simp (disch := omega) only [goRules, coreRules, tiRules, unRules, AS_of_eq, ← decide_not, N0, N1, N2, N3, N4, N5, Z0, Z1, Z2, Z3, Z4, Z5, Z6, Z7, Z8, Z9, Z10, Zc, ↓reduceIte, reduceCtorEq, wrap_i64, show ¬ n = 0 by omega]
  (try ((with_reducible first | refine branchP_dec (fun q1 => ?_) (fun q1 => ?_) | refine guardB_dec (fun q1 => ?_) (fun q1 => ?_)) <;> simp (disch := omega) only [goRules, coreRules, tiRules, unRules, AS_of_eq, ← decide_not, N0, N1, N2, N3, N4, N5, Z0, Z1, Z2, Z3, Z4, Z5, Z6, Z7, Z8, Z9, Z10, Zc, ↓reduceIte, reduceCtorEq, wrap_i64, q1] <;> (with_reducible first | (refine And.intro ?_ ?_; focus (first | omega | exact mixed1 | kernel_rfl)); (repeat (with_reducible refine And.intro ?_ ?_; focus (first | omega | exact mixed1 | kernel_rfl))); (try simp (disch := omega) only [goRules, coreRules, tiRules, unRules, AS_of_eq, ← decide_not, N0, N1, N2, N3, N4, N5, Z0, Z1, Z2, Z3, Z4, Z5, Z6, Z7, Z8, Z9, Z10, Zc, ↓reduceIte, reduceCtorEq, wrap_i64, q1]) | skip) <;> skip))
  all_goals (rw [h3]; first | rw [if_pos (by assumption)] | rw [if_neg (by assumption)])
theorem call_round {Γ : Env} (hf : Γ.get 23 = some roundCon) {σ : AS} {dr : Bool} {k n : Int} {d : Option Nat} {K : AS → Prop} (h1 : -9223372036854775808 ≤ k ∧ k ≤ 9223372036854775807) (h2 : 1 ≤ n ∧ n ≤ 4611686018427387904)
    (hk : cont σ d (.v (.int .i64 (k % n))) K) : vcCall Tryd.prog Γ dr σ 23 [.v (.int .i64 k), .v (.int .i64 n)] d K :=
  vcCall_plain (C := roundCon) (i := (⟨k, h1⟩, ⟨n, h2⟩)) hf rfl rfl rfl rfl (fun _ h => h) rfl hk

theorem mixed1 : Tryd.prog.follows .mixedOrders = true := by kernel_rfl
end Go.Proofs
end

-- CUt6
section
namespace Go.Proofs
open Go Go.Rw
open _root_.Nat renaming reduceAdd → N0, reduceSub → N1, reduceMul → N2, reduceLT → N3, reduceLeDiff → N4, reduceEqDiff → N5
open _root_.Int renaming reduceNeg → Z0, reduceAdd → Z1, reduceSub → Z2, reduceMul → Z3, reduceGT → Z4, reduceGE → Z5, reduceLT → Z6, reduceLE → Z7, reduceEq → Z8, reduceNe → Z9, reduceToNat → Z10, cast_ofNat_Int → Zc
set_option maxRecDepth 100000
set_option linter.unusedSimpArgs false
set_option linter.unusedVariables false

end Go.Proofs
end

-- CUt7
section
namespace Go.Proofs
open Go Go.Rw
set_option maxRecDepth 100000
set_option linter.unusedSimpArgs false
set_option linter.unusedVariables false

theorem call_slice {Γ : Env} (hf : Γ.get 94 = some sliceCon) {σ : AS} {dr : Bool} {l : List UInt8} {a b : Int} {d : Option Nat} {K : AS → Prop} (h : l.length ≤ 1099511627776) (h1 : -9223372036854775808 ≤ a ∧ a ≤ 9223372036854775807) (h2 : -9223372036854775808 ≤ b ∧ b ≤ 9223372036854775807)
    (hk : cont σ d (sliceR l a b) K) : vcCall Tryd.prog Γ dr σ 94 [.v (sv l), .v (.int .i64 a), .v (.int .i64 b)] d K :=
  vcCall_plain (C := sliceCon) (i := (⟨l, h⟩, ⟨a, h1⟩, ⟨b, h2⟩)) hf rfl rfl rfl rfl (fun _ h => h) (sliceR_plain l a b) hk
abbrev trueCon : Con where
  ι := Unit
  args := fun _ => []
  post := fun _ r => r = .v (.bool true)
  plain := true
end Go.Proofs
end
