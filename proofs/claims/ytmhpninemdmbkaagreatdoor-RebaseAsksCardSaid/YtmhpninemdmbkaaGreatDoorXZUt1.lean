/-
  utf.Valid tells just whether bytes are a text. utf.Count counts a text's code points. utf.Points, utf.Offset, utf.Slice. The reference's code points. The reference's texts; numbers turned into bounds; rows of numbers held against each other. The reference's offsets and pieces. What the document fixes of texts.
-/
import Derived.Test.YtmhpninemdmbkaaGreatDoorXZTi
import Derived.Test.YtmhpninemdmbkaaGreatDoorRwF
import Derived.Test.YtmhpninemdmbkaaGreatDoorXZSh
set_option linter.unusedSimpArgs false
set_option linter.unusedVariables false
set_option linter.defProp false

-- ZUt1
section
namespace Go.Proofs
open Go Go.Rw
open _root_.Nat renaming reduceAdd → N0, reduceSub → N1, reduceMul → N2, reduceLT → N3, reduceLeDiff → N4, reduceEqDiff → N5
open _root_.Int renaming reduceNeg → Z0, reduceAdd → Z1, reduceSub → Z2, reduceMul → Z3, reduceGT → Z4, reduceGE → Z5, reduceLT → Z6, reduceLE → Z7, reduceEq → Z8, reduceNe → Z9, reduceToNat → Z10, cast_ofNat_Int → Zc
set_option maxRecDepth 100000
instance tabsU : Tabs where
  blk := fun g => g = 0 ∨ g = 1
  ok := fun w => Lib.Utf8Tabs 0 1 w
  stable := fun w w' h hw => by
    have h0 := fun i : Nat => World.cell?_of_block (a := ⟨0, i, none⟩) (h 0 (.inl rfl))
    have h1 := fun i : Nat => World.cell?_of_block (a := ⟨1, i, none⟩) (h 1 (.inr rfl))
    unfold Lib.Utf8Tabs at hw ⊢
    simp only [h0, h1]
    exact hw
abbrev Str := { l : List UInt8 // l.length ≤ 1099511627776 }
abbrev kC8 : Con where
  ι := Str
  args := fun s => [.v (sv s.1)]
  post := fun s r => r = .v (.bool (Lib.validD s.1))
  plain := true
theorem validS_good : Rw.Good Tryz.prog 132 kC8 := by
  refine kEy ⟨_, Tryz.func132, by kernel_rfl, by kernel_rfl⟩ rfl rfl fun s w F vs htb hs hv => ?_
  obtain ⟨s, hl⟩ := s
  have h0 := hv 0
  have e : vs = #[sv s] := by
    apply Array.ext (by simpa using hs)
    intro i h1 h2
    have : i = 0 := by simpa using h2
    subst this
    have h3 := VR.v_inv h0
    rw [Array.getD_eq_getD_getElem?, Array.getElem?_eq_getElem h1] at h3
    simpa using h3
  subst e
  refine (Any.utf8_ValidString Tryz.lays196 ⟨s.toArray⟩ w (by simp [ByteArray.size]; omega) htb.1).mono ?_
  rintro e w' ⟨rfl, hb⟩
  exact ⟨_, _, rfl, rfl, fun _ _ => .v _, rfl, hb⟩
theorem call_validS {Γ : Env} (hf : Γ.get 132 = some kC8) {σ : AS} {dr : Bool} {l : List UInt8} {d : Option Nat} {K : AS → Prop} (h : l.length ≤ 1099511627776)
    (hk : cont σ d (.v (.bool (Lib.validD l))) K) : kR Tryz.prog Γ dr σ 132 [.v (sv l)] d K :=
  kK (C := kC8) (i := ⟨l, h⟩) hf rfl rfl rfl rfl (fun _ h => h) rfl hk
abbrev ibCon : Con where
  ι := List UInt8 × UInt8
  args := fun s => [.v (sv s.1), .v (.int .u8 s.2.toNat)]
  post := fun s r => r = .v (.int .i64 (Lib.indexByte s.1 s.2))
  plain := true
theorem ib_good : Rw.Good Tryz.prog 138 ibCon := by
  refine kEy ⟨_, Tryz.func138, by kernel_rfl, by kernel_rfl⟩ rfl rfl fun s w F vs htb hs hv => ?_
  obtain ⟨s, c⟩ := s
  have h0 := VR.v_inv (hv 0)
  have h1 := VR.v_inv (hv 1)
  have e : vs = #[sv s, .int .u8 c.toNat] := by
    apply Array.ext (by simpa using hs)
    intro i h2 h3
    rw [Array.getD_eq_getD_getElem?] at h0 h1
    have : i = 0 ∨ i = 1 := by have : i < 2 := by simpa using h3
                               omega
    rcases this with rfl | rfl
    · rw [Array.getElem?_eq_getElem h2] at h0; simpa using h0
    · rw [Array.getElem?_eq_getElem h2] at h1; simpa using h1
  subst e
  refine (Any.stringslite_IndexByte Tryz.lays217 ⟨s.toArray⟩ (c.toNat : Int) w).mono ?_
  rintro e w' ⟨rfl, rfl⟩
  have hc : (c.toNat : Int).toNat.toUInt8 = c := by simp
  exact ⟨_, _, rfl, rfl, fun _ _ => by simp only [hc]; exact .v _, rfl, .refl _ _⟩
theorem call_ib {Γ : Env} (hf : Γ.get 138 = some ibCon) {σ : AS} {dr : Bool} {l : List UInt8} {c : UInt8} {n : Int} {d : Option Nat} {K : AS → Prop} (hn : n = c.toNat)
    (hk : cont σ d (.v (.int .i64 (Lib.indexByte l c))) K) : kR Tryz.prog Γ dr σ 138 [.v (sv l), .v (.int .u8 n)] d K := by
  subst hn
  exact kK (C := ibCon) (i := (l, c)) hf rfl rfl rfl rfl (fun _ h => h) rfl hk
theorem kCK : ∀ (l : List UInt8) (c : UInt8), -1 ≤ Lib.indexByte l c ∧ (0 ≤ Lib.indexByte l c ↔ c ∈ l)
  | [], c => by simp [Lib.indexByte]
  | x :: l, c => by
    have ih := kCK l c
    unfold Lib.indexByte
    by_cases h : x = c
    · subst h; simp
    · have h1 : (x == c) = false := by simpa using h
      rw [h1]
      simp only [Bool.false_eq_true, if_false, List.mem_cons]
      by_cases h2 : Lib.indexByte l c = -1
      · rw [h2]
        have h3 : c ∉ l := fun hc => by have := ih.2.2 hc; omega
        simp [h3]; exact fun e => h e.symm
      · have h3 : (Lib.indexByte l c == -1) = false := by simpa using h2
        rw [h3]
        simp only [Bool.false_eq_true, if_false]
        have h4 : c ∈ l := ih.2.1 (by omega)
        exact ⟨by omega, by simp [h4]; omega⟩
abbrev kAo : Con where
  ι := Str
  args := fun s => [.v (sv s.1), .v (sv [0])]
  post := fun s r => r = .v (.bool (s.1.contains 0))
  plain := true
abbrev kBa : Con where
  ι := Str
  args := fun s => [.v (sv s.1), .v (sv [0])]
  post := fun s r => ∃ i, r = .v (.int .i64 i) ∧ (0 ≤ i ↔ (0 : UInt8) ∈ s.1)
  plain := true
theorem index_good : Rw.Good Tryz.prog 137 kBa := by
  have hΓ : kL Tryz.prog [(138, ibCon)] := (kE ib_good kJ)
  refine kS (nn := 143) hΓ Tryz.func137 (by kernel_rfl) rfl (show Tryz.f137.results.toList = [.tmp 4] from rfl) (fun _ => rfl) (fun _ => rfl) ?_
  rintro ⟨s, hs⟩
  simp only [aR,N0,N1,N2,N3,N4,N5,Z0,Z1,Z2,Z3,Z4,Z5,Z6,Z7,Z8,Z9,Z10,Zc,↓reduceIte,reduceCtorEq]
  refine kC (fun h => ?_) (fun h => ?_)
  · simp only [aR,N0,N1,N2,N3,N4,N5,Z0,Z1,Z2,Z3,Z4,Z5,Z6,Z7,Z8,Z9,Z10,Zc,↓reduceIte,reduceCtorEq]
    exact ⟨0, rfl, by simp [← h]⟩
  · simp only [aR,N0,N1,N2,N3,N4,N5,Z0,Z1,Z2,Z3,Z4,Z5,Z6,Z7,Z8,Z9,Z10,Zc,↓reduceIte,reduceCtorEq]
    refine call_ib (c := 0) (by simp [kB]) (by simp) ?_
    simp only [aR,N0,N1,N2,N3,N4,N5,Z0,Z1,Z2,Z3,Z4,Z5,Z6,Z7,Z8,Z9,Z10,Zc,↓reduceIte,reduceCtorEq]
    exact ⟨_, rfl, (kCK s 0).2⟩
theorem sindex_good : Rw.Good Tryz.prog 136 kBa := by
  have hΓ : kL Tryz.prog [(137, kBa)] := (kE index_good kJ)
  refine kS (nn := 8) hΓ Tryz.func136 (by kernel_rfl) rfl (show Tryz.f136.results.toList = [.tmp 4] from rfl) (fun _ => rfl) (fun _ => rfl) ?_
  rintro ⟨s, hs⟩
  simp only [aR,N0,N1,N2,N3,N4,N5,Z0,Z1,Z2,Z3,Z4,Z5,Z6,Z7,Z8,Z9,Z10,Zc,↓reduceIte,reduceCtorEq]
  refine kDx (C := kBa) (i := ⟨s, hs⟩) (by simp [kB]) rfl rfl rfl rfl (fun r ⟨i, hr, _⟩ => by rw [hr]; rfl) (fun r ⟨i, hr, h⟩ => ?_)
  subst hr
  simp only [aR,N0,N1,N2,N3,N4,N5,Z0,Z1,Z2,Z3,Z4,Z5,Z6,Z7,Z8,Z9,Z10,Zc,↓reduceIte,reduceCtorEq]
  exact ⟨i, rfl, h⟩
theorem contains_good : Rw.Good Tryz.prog 133 kAo := by
  have hΓ : kL Tryz.prog [(136, kBa)] := (kE sindex_good kJ)
  refine kS (nn := 9) hΓ Tryz.func133 (by kernel_rfl) rfl (show Tryz.f133.results.toList = [.tmp 4] from rfl) (fun _ => rfl) (fun _ => rfl) ?_
  rintro ⟨s, hs⟩
  simp only [aR,N0,N1,N2,N3,N4,N5,Z0,Z1,Z2,Z3,Z4,Z5,Z6,Z7,Z8,Z9,Z10,Zc,↓reduceIte,reduceCtorEq]
  refine kDx (C := kBa) (i := ⟨s, hs⟩) (by simp [kB]) rfl rfl rfl rfl (fun r ⟨i, hr, _⟩ => by rw [hr]; rfl) (fun r ⟨i, hr, h⟩ => ?_)
  subst hr
  simp only [aR,N0,N1,N2,N3,N4,N5,Z0,Z1,Z2,Z3,Z4,Z5,Z6,Z7,Z8,Z9,Z10,Zc,↓reduceIte,reduceCtorEq]
  rw [Bool.eq_iff_iff]; simpa using h
theorem call_contains {Γ : Env} (hf : Γ.get 133 = some kAo) {σ : AS} {dr : Bool} {l : List UInt8} {d : Option Nat} {K : AS → Prop} (h : l.length ≤ 1099511627776)
    (hk : cont σ d (.v (.bool (l.contains 0))) K) : kR Tryz.prog Γ dr σ 133 [.v (sv l), .v (sv [0])] d K :=
  kK (C := kAo) (i := ⟨l, h⟩) hf rfl rfl rfl rfl (fun _ h => h) rfl hk
abbrev kAE : Con where
  ι := Str
  args := fun s => [.v (sv s.1)]
  post := fun s r => r = .v (.bool (pts s.1).isSome)
  plain := true
theorem kFD : Rw.Good Tryz.prog 130 kAE := by
  have hΓ : kL Tryz.prog [(132, kC8), (133, kAo)] := (kE validS_good (kE contains_good kJ))
  refine kS (nn := 10) hΓ Tryz.func130 (by kernel_rfl) rfl (show Tryz.f130.results.toList = [.tmp 2] from rfl) (fun _ => rfl) (fun _ => rfl) ?_
  rintro ⟨s, hs⟩
  simp only [aR,N0,N1,N2,N3,N4,N5,Z0,Z1,Z2,Z3,Z4,Z5,Z6,Z7,Z8,Z9,Z10,Zc,↓reduceIte,reduceCtorEq]
  refine call_validS (by simp [kB]) hs ?_
  have key := valid_pts _ s (Nat.le_refl _)
  simp only [aR,N0,N1,N2,N3,N4,N5,Z0,Z1,Z2,Z3,Z4,Z5,Z6,Z7,Z8,Z9,Z10,Zc,↓reduceIte,reduceCtorEq]
  cases hv : Lib.validD s with
  | false =>
    rw [hv] at key
    simp only [aR,N0,N1,N2,N3,N4,N5,Z0,Z1,Z2,Z3,Z4,Z5,Z6,Z7,Z8,Z9,Z10,Zc,↓reduceIte,reduceCtorEq]
    rw [← key]; rfl
  | true =>
    rw [hv] at key
    simp only [aR,N0,N1,N2,N3,N4,N5,Z0,Z1,Z2,Z3,Z4,Z5,Z6,Z7,Z8,Z9,Z10,Zc,↓reduceIte,reduceCtorEq]
    refine call_contains (by simp [kB]) hs ?_
    simp only [aR,N0,N1,N2,N3,N4,N5,Z0,Z1,Z2,Z3,Z4,Z5,Z6,Z7,Z8,Z9,Z10,Zc,↓reduceIte,reduceCtorEq]
    rw [← key]; rfl
theorem kFY {Γ : Env} (hf : Γ.get 130 = some kAE) {σ : AS} {dr : Bool} {l : List UInt8} {d : Option Nat} {K : AS → Prop} (h : l.length ≤ 1099511627776)
    (hk : cont σ d (.v (.bool (pts l).isSome)) K) : kR Tryz.prog Γ dr σ 130 [.v (sv l)] d K :=
  kK (C := kAE) (i := ⟨l, h⟩) hf rfl rfl rfl rfl (fun _ h => h) rfl hk
end Go.Proofs
end
-- ZUt2
section
namespace Go.Proofs
open Go Go.Rw
open _root_.Nat renaming reduceAdd → N0, reduceSub → N1, reduceMul → N2, reduceLT → N3, reduceLeDiff → N4, reduceEqDiff → N5
open _root_.Int renaming reduceNeg → Z0, reduceAdd → Z1, reduceSub → Z2, reduceMul → Z3, reduceGT → Z4, reduceGE → Z5, reduceLT → Z6, reduceLE → Z7, reduceEq → Z8, reduceNe → Z9, reduceToNat → Z10, cast_ofNat_Int → Zc
set_option maxRecDepth 100000
theorem and192 {b : UInt8} : IntKind.wrap .u8 ((BitVec.ofInt IntKind.u8.bits (b.toNat : Int) &&& BitVec.ofInt IntKind.u8.bits 192).toNat : Nat) = ((b.toNat / 64 * 64 : Nat) : Int) := by
  have key : ∀ m : Nat, m < 256 → (BitVec.ofInt IntKind.u8.bits (m : Int) &&& BitVec.ofInt IntKind.u8.bits 192).toNat = m / 64 * 64 := by decide +kernel
  have hb := b.toNat_lt
  rw [key _ (by omega), wrap_u8 (by omega) (by omega)]
abbrev kDf : Con where
  ι := UInt8
  args := fun b => [.v (.int .u8 b.toNat)]
  post := fun b r => r = .v (.bool (decide (¬ (128 ≤ b.toNat ∧ b.toNat < 192))))
  plain := true
theorem start_good : Rw.Good Tryz.prog 134 kDf := by
  have hΓ : kL Tryz.prog [] := kJ
  refine kS (nn := 6) hΓ Tryz.func134 (by kernel_rfl) rfl (show Tryz.f134.results.toList = [.tmp 2] from rfl) (fun _ => rfl) (fun _ => rfl) ?_
  intro b
  simp only [aR,N0,N1,N2,N3,N4,N5,Z0,Z1,Z2,Z3,Z4,Z5,Z6,Z7,Z8,Z9,Z10,Zc,↓reduceIte,reduceCtorEq, and192]
  rw [Bool.eq_iff_iff]; simp; omega
theorem call_start {Γ : Env} (hf : Γ.get 134 = some kDf) {σ : AS} {dr : Bool} {b : UInt8} {n : Int} {d : Option Nat} {K : AS → Prop} (hn : n = b.toNat)
    (hk : cont σ d (.v (.bool (decide (¬ (128 ≤ b.toNat ∧ b.toNat < 192))))) K) : kR Tryz.prog Γ dr σ 134 [.v (.int .u8 n)] d K := by
  subst hn
  exact kK (C := kDf) (i := b) hf rfl rfl rfl rfl (fun _ h => h) rfl hk
theorem kBL {α : Type} (x : Option α) : x = none ∨ ∃ a, x = some a := by cases x <;> simp
def res2 (a : AV) (e : Int) : AV := .tup [a, .v (.int .i64 e)]
def kDZ (l : List UInt8) : AV := match pts l with
  | some cs => res2 (.v (.int .i64 cs.length)) 0
  | none => res2 (.v (.int .i64 0)) 2
theorem countR_plain (l : List UInt8) : (kDZ l).plain = true := by unfold kDZ; split <;> rfl
abbrev kDc : Con where
  ι := Str
  args := fun s => [.v (sv s.1)]
  post := fun s r => r = kDZ s.1
  plain := true
theorem count_good : Rw.Good Tryz.prog 131 kDc := by
  have hΓ : kL Tryz.prog [(130, kAE), (134, kDf)] := (kE kFD (kE start_good kJ))
  refine kS (nn := 30) hΓ Tryz.func131 (by kernel_rfl) rfl (show Tryz.f131.results.toList = [.tmp 2, .tmp 3] from rfl) (fun _ => rfl) (fun _ => rfl) ?_
  rintro ⟨s, hs⟩
  simp only [aR,N0,N1,N2,N3,N4,N5,Z0,Z1,Z2,Z3,Z4,Z5,Z6,Z7,Z8,Z9,Z10,Zc,↓reduceIte,reduceCtorEq]
  obtain ⟨St, hSt⟩ : ∃ St : { p : List Nat × List Nat // pts s = some (p.1 ++ p.2) } → AS, ∀ p, St p = AS.of 30 [(0, .v (sv s)), (2, .v (.int .i64 p.1.1.length)), (4, .v (.int .i64 (encs p.1.1).length))] [] [] := ⟨_, fun _ => rfl⟩
  refine vc_lab hΓ 1 St (fun p => p.1.2.length) 1 rfl rfl ?_ ?_
  · rintro ⟨⟨pre, post⟩, hp⟩
    simp only at hp
    obtain ⟨hok, hse⟩ := jY hp
    rw [hSt]
    have hl := congrArg List.length hse
    rw [jL, List.length_append] at hl
    have hpl := kCm pre
    simp only [aR,N0,N1,N2,N3,N4,N5,Z0,Z1,Z2,Z3,Z4,Z5,Z6,Z7,Z8,Z9,Z10,Zc,↓reduceIte,reduceCtorEq]
    refine kC (fun h => ?_) (fun h => ?_)
    · simp only [aR,N0,N1,N2,N3,N4,N5,Z0,Z1,Z2,Z3,Z4,Z5,Z6,Z7,Z8,Z9,Z10,Zc,↓reduceIte,reduceCtorEq]
      refine ⟨_, rfl, ?_⟩
      simp only [aR,N0,N1,N2,N3,N4,N5,Z0,Z1,Z2,Z3,Z4,Z5,Z6,Z7,Z8,Z9,Z10,Zc,↓reduceIte,reduceCtorEq]
      have : post = [] := by
        cases post with
        | nil => rfl
        | cons c cs => have := encs_pos (c := c) (cs := cs); omega
      subst this
      unfold kDZ
      rw [hp, List.append_nil]; rfl
    · cases post with
      | nil => rw [kBW, List.length_nil] at hl; omega
      | cons c cs =>
        have hc := hok c (by simp)
        have hw := j9 c
        have hcl := jB c
        rw [qS, List.length_append, hcl] at hl
        rw [jL, qS] at hse
        simp (disch := omega) only [aR,N0,N1,N2,N3,N4,N5,Z0,Z1,Z2,Z3,Z4,Z5,Z6,Z7,Z8,Z9,Z10,Zc,↓reduceIte,reduceCtorEq, kA, kA]
        obtain ⟨St2, hSt2⟩ : ∃ St2 : { j : Nat // 1 ≤ j ∧ j ≤ wid c } → AS, ∀ j, St2 j = AS.of 30 [(0, .v (sv s)), (2, .v (.int .i64 pre.length)), (4, .v (.int .i64 ((encs pre).length + j.1 : Nat)))] [] [] := ⟨_, fun _ => rfl⟩
        refine kX hΓ St2 (fun j => wid c - j.1) ⟨1, by omega⟩ (by rw [hSt2]; refine kH [] [] ?_; simp only [aR,N0,N1,N2,N3,N4,N5,Z0,Z1,Z2,Z3,Z4,Z5,Z6,Z7,Z8,Z9,Z10,Zc,↓reduceIte,reduceCtorEq]; rfl) ?_
        rintro ⟨j, hj1, hj2⟩
        rw [hSt2]
        simp only
        simp only [aR,N0,N1,N2,N3,N4,N5,Z0,Z1,Z2,Z3,Z4,Z5,Z6,Z7,Z8,Z9,Z10,Zc,↓reduceIte,reduceCtorEq]
        have hlast : ∀ σ : AS, j = wid c → Weak σ (AS.of 30 [(0, .v (sv s)), (2, .v (.int .i64 (pre.length + 1 : Nat))), (4, .v (.int .i64 ((encs pre).length + wid c : Nat)))] [] []) → ∃ y : { p : List Nat × List Nat // pts s = some (p.1 ++ p.2) }, y.1.2.length < (c :: cs).length ∧ Weak σ (St y) := by
          intro σ hj hw
          refine ⟨⟨(pre ++ [c], cs), by simpa using hp⟩, by simp, ?_⟩
          rw [hSt]
          simp only [jL, List.length_append, qS, kBW, List.append_nil, hcl, List.length_cons, List.length_nil, Nat.zero_add]
          exact hw
        refine kF (fun h2 => ?_) (fun h2 => ?_)
        · simp (disch := omega) only [aR,N0,N1,N2,N3,N4,N5,Z0,Z1,Z2,Z3,Z4,Z5,Z6,Z7,Z8,Z9,Z10,Zc,↓reduceIte,reduceCtorEq, kA, kA, h2]
          refine ⟨by omega, ?_⟩
          refine call_start (by simp [kB]) rfl ?_
          simp only [aR,N0,N1,N2,N3,N4,N5,Z0,Z1,Z2,Z3,Z4,Z5,Z6,Z7,Z8,Z9,Z10,Zc,↓reduceIte,reduceCtorEq, h2]
          refine kC (fun h3 => ?_) (fun h3 => ?_)
          · simp (disch := omega) only [aR,N0,N1,N2,N3,N4,N5,Z0,Z1,Z2,Z3,Z4,Z5,Z6,Z7,Z8,Z9,Z10,Zc,↓reduceIte,reduceCtorEq, kA, kA]
            have hj3 : j < wid c := by
              rcases Nat.lt_or_ge j (wid c) with h4 | h4
              · exact h4
              · exfalso
                have hjw : j = wid c := by omega
                cases cs with
                | nil => rw [kBW, List.length_nil] at hl; omega
                | cons c2 cs =>
                  have h5 := enc_head (hok c2 (by simp))
                  have h6 : s.getD ((encs pre).length + j) 0 = (enc c2).getD 0 0 := by
                    rw [hse, qS, ← List.append_assoc, hjw, ← hcl, ← List.length_append]
                    exact getD_mid (j := 0) (by rw [jB]; exact j9 c2)
                  rw [h6] at h3
                  omega
            refine kI ⟨j + 1, by omega⟩ (by simp only; omega) ?_
            rw [hSt2]; refine kH [] [] ?_
            simp only [aR,N0,N1,N2,N3,N4,N5,Z0,Z1,Z2,Z3,Z4,Z5,Z6,Z7,Z8,Z9,Z10,Zc,↓reduceIte,reduceCtorEq] <;> ((repeat' apply And.intro) <;> first | rfl | omega | trivial)
          · have hjw : j = wid c := by
              rcases Nat.lt_or_ge j (wid c) with h4 | h4
              · exfalso
                have h5 := enc_cont hc hj1 h4
                have h6 : s.getD ((encs pre).length + j) 0 = (enc c).getD j 0 := by
                  rw [hse]; exact getD_mid (by rw [hcl]; exact h4)
                rw [h6] at h3
                omega
              · omega
            subst hjw
            simp (disch := omega) only [aR,N0,N1,N2,N3,N4,N5,Z0,Z1,Z2,Z3,Z4,Z5,Z6,Z7,Z8,Z9,Z10,Zc,↓reduceIte,reduceCtorEq, kA, kA]
            refine hlast _ rfl ?_
            refine kH [] [] ?_
            simp only [aR,N0,N1,N2,N3,N4,N5,Z0,Z1,Z2,Z3,Z4,Z5,Z6,Z7,Z8,Z9,Z10,Zc,↓reduceIte,reduceCtorEq] <;> ((repeat' apply And.intro) <;> first | rfl | omega | trivial)
        · have hjw : j = wid c := by omega
          subst hjw
          simp (disch := omega) only [aR,N0,N1,N2,N3,N4,N5,Z0,Z1,Z2,Z3,Z4,Z5,Z6,Z7,Z8,Z9,Z10,Zc,↓reduceIte,reduceCtorEq, kA, kA, h2]
          refine hlast _ rfl ?_
          refine kH [] [] ?_
          simp only [aR,N0,N1,N2,N3,N4,N5,Z0,Z1,Z2,Z3,Z4,Z5,Z6,Z7,Z8,Z9,Z10,Zc,↓reduceIte,reduceCtorEq] <;> ((repeat' apply And.intro) <;> first | rfl | omega | trivial)
  · simp only [aR,N0,N1,N2,N3,N4,N5,Z0,Z1,Z2,Z3,Z4,Z5,Z6,Z7,Z8,Z9,Z10,Zc,↓reduceIte,reduceCtorEq]
    refine kFY (by simp [kB]) hs ?_
    simp only [aR,N0,N1,N2,N3,N4,N5,Z0,Z1,Z2,Z3,Z4,Z5,Z6,Z7,Z8,Z9,Z10,Zc,↓reduceIte,reduceCtorEq]
    rcases kBL (pts s) with hp | ⟨cs, hp⟩
    · simp only [aR,N0,N1,N2,N3,N4,N5,Z0,Z1,Z2,Z3,Z4,Z5,Z6,Z7,Z8,Z9,Z10,Zc,↓reduceIte,reduceCtorEq, hp, Option.isSome_none]
      unfold kDZ
      rw [hp]; rfl
    · simp only [aR,N0,N1,N2,N3,N4,N5,Z0,Z1,Z2,Z3,Z4,Z5,Z6,Z7,Z8,Z9,Z10,Zc,↓reduceIte,reduceCtorEq, hp, Option.isSome_some]
      refine ⟨⟨([], cs), hp⟩, ?_⟩
      rw [hSt]; refine kH [] [] ?_
      simp only [aR,N0,N1,N2,N3,N4,N5,Z0,Z1,Z2,Z3,Z4,Z5,Z6,Z7,Z8,Z9,Z10,Zc,↓reduceIte,reduceCtorEq]
      rfl
end Go.Proofs
end
-- ZUt3
section
namespace Go.Proofs
open Go Go.Rw
open _root_.Nat renaming reduceAdd → N0, reduceSub → N1, reduceMul → N2, reduceLT → N3, reduceLeDiff → N4, reduceEqDiff → N5
open _root_.Int renaming reduceNeg → Z0, reduceAdd → Z1, reduceSub → Z2, reduceMul → Z3, reduceGT → Z4, reduceGE → Z5, reduceLT → Z6, reduceLE → Z7, reduceEq → Z8, reduceNe → Z9, reduceToNat → Z10, cast_ofNat_Int → Zc
set_option maxRecDepth 100000
def nats (l : List Nat) : List AV := ints .i64 (l.map fun (c : Nat) => (c : Int))
theorem nats_nil : nats [] = [] := rfl
theorem nats_len (l : List Nat) : (nats l).length = l.length := by simp [nats, ints]
theorem nats_snoc (l : List Nat) (c : Nat) : nats l ++ [.v (.int .i64 c)] = nats (l ++ [c]) := by simp [nats, ints]
theorem dec1_mid {pre post : List Nat} {c : Nat} (h : okc c) : dec1 (encs (pre ++ c :: post)) (encs pre).length = c := by unfold dec1; rw [kF6 h]
theorem dec2_mid {pre post : List Nat} {c : Nat} (h : okc c) : dec2 (encs (pre ++ c :: post)) (encs pre).length = wid c := by unfold dec2; rw [kF6 h]
def offR (l : List UInt8) (n : Int) : AV := match pts l with
  | none => res2 (.v (.int .i64 0)) 2
  | some cs => if n < 0 ∨ n > cs.length then res2 (.v (.int .i64 0)) 1 else res2 (.v (.int .i64 (encs (cs.take n.toNat)).length)) 0
theorem offR_plain (l : List UInt8) (n : Int) : (offR l n).plain = true := by
  unfold offR
  repeat' split
  all_goals rfl
theorem call_count {Γ : Env} (hf : Γ.get 131 = some kDc) {σ : AS} {dr : Bool} {l : List UInt8} {d : Option Nat} {K : AS → Prop} (h : l.length ≤ 1099511627776)
    (hk : cont σ d (kDZ l) K) : kR Tryz.prog Γ dr σ 131 [.v (sv l)] d K :=
  kK (C := kDc) (i := ⟨l, h⟩) hf rfl rfl rfl rfl (fun _ h => h) (countR_plain l) hk
abbrev offCon : Con where
  ι := Str × { n : Int // -9223372036854775808 ≤ n ∧ n ≤ 9223372036854775807 }
  args := fun s => [.v (sv s.1.1), .v (.int .i64 s.2.1)]
  post := fun s r => r = offR s.1.1 s.2.1
  plain := true
theorem off_good : Rw.Good Tryz.prog 128 offCon := by
  have hΓ : kL Tryz.prog [(131, kDc)] := (kE count_good kJ)
  refine kS (nn := 38) hΓ Tryz.func128 (by kernel_rfl) rfl (show Tryz.f128.results.toList = [.tmp 4, .tmp 5] from rfl) (fun _ => rfl) (fun _ => rfl) ?_
  rintro ⟨⟨s, hs⟩, ⟨n, hn1, hn2⟩⟩
  simp only [aR,N0,N1,N2,N3,N4,N5,Z0,Z1,Z2,Z3,Z4,Z5,Z6,Z7,Z8,Z9,Z10,Zc,↓reduceIte,reduceCtorEq]
  refine call_count (by simp [kB]) hs ?_
  rcases kBL (pts s) with hp | ⟨cs, hp⟩
  · simp only [aR,N0,N1,N2,N3,N4,N5,Z0,Z1,Z2,Z3,Z4,Z5,Z6,Z7,Z8,Z9,Z10,Zc,↓reduceIte,reduceCtorEq, kDZ, hp, res2]
    unfold offR
    rw [hp]; rfl
  · simp only [aR,N0,N1,N2,N3,N4,N5,Z0,Z1,Z2,Z3,Z4,Z5,Z6,Z7,Z8,Z9,Z10,Zc,↓reduceIte,reduceCtorEq, kDZ, hp, res2]
    obtain ⟨hok, hse⟩ := jY hp
    have hle := kCm cs
    have fin : ∀ m : Int, 0 ≤ m → m ≤ cs.length → offR s m = res2 (.v (.int .i64 (encs (cs.take m.toNat)).length)) 0 := fun m h1 h2 => by
      unfold offR
      rw [hp]
      simp only
      rw [if_neg (by omega)]
    have bad : n < 0 ∨ n > cs.length → offR s n = res2 (.v (.int .i64 0)) 1 := fun h => by
      unfold offR
      rw [hp]
      simp only
      rw [if_pos h]
    (with_reducible first | refine kC (fun h => ?_) (fun h => ?_) | refine kF (fun h => ?_) (fun h => ?_))
    · simp only [aR,N0,N1,N2,N3,N4,N5,Z0,Z1,Z2,Z3,Z4,Z5,Z6,Z7,Z8,Z9,Z10,Zc,↓reduceIte,reduceCtorEq, h]
      rw [bad (.inl h)]; rfl
    · simp only [aR,N0,N1,N2,N3,N4,N5,Z0,Z1,Z2,Z3,Z4,Z5,Z6,Z7,Z8,Z9,Z10,Zc,↓reduceIte,reduceCtorEq, h]
      (with_reducible first | refine kC (fun h2 => ?_) (fun h2 => ?_) | refine kF (fun h2 => ?_) (fun h2 => ?_))
      · simp only [aR,N0,N1,N2,N3,N4,N5,Z0,Z1,Z2,Z3,Z4,Z5,Z6,Z7,Z8,Z9,Z10,Zc,↓reduceIte,reduceCtorEq, h2]
        rw [bad (.inr h2)]; rfl
      · simp only [aR,N0,N1,N2,N3,N4,N5,Z0,Z1,Z2,Z3,Z4,Z5,Z6,Z7,Z8,Z9,Z10,Zc,↓reduceIte,reduceCtorEq, h2]
        obtain ⟨St, hSt⟩ : ∃ St : { p : List Nat × List Nat // p.1 ++ p.2 = cs ∧ (p.1.length : Int) ≤ n } → AS, ∀ p, St p = AS.of 38 [(0, .v (sv s)), (1, .v (.int .i64 (n - p.1.1.length))), (27, .ptr 0 0)] [.iter ⟨s.toArray⟩ (encs p.1.1).length] [] := ⟨_, fun _ => rfl⟩
        refine kX hΓ St (fun p => p.1.2.length) ⟨([], cs), rfl, by simp; omega⟩ (by rw [hSt]; refine kH [0] [] ?_; simp only [aR,N0,N1,N2,N3,N4,N5,Z0,Z1,Z2,Z3,Z4,Z5,Z6,Z7,Z8,Z9,Z10,Zc,↓reduceIte,reduceCtorEq, kBW] <;> ((repeat' apply And.intro) <;> first | rfl | omega | trivial)) ?_
        rintro ⟨⟨pre, post⟩, hpp, hpn⟩
        simp only at hpp hpn
        subst hpp
        rw [hSt]
        simp only
        subst hse
        rw [zT, List.length_append] at hle
        have hs2 := hs
        rw [zT] at hs2
        simp only [aR,N0,N1,N2,N3,N4,N5,Z0,Z1,Z2,Z3,Z4,Z5,Z6,Z7,Z8,Z9,Z10,Zc,↓reduceIte,reduceCtorEq]
        cases post with
        | nil =>
          rw [nextO_end (by simp)]
          simp only [aR,N0,N1,N2,N3,N4,N5,Z0,Z1,Z2,Z3,Z4,Z5,Z6,Z7,Z8,Z9,Z10,Zc,↓reduceIte,reduceCtorEq]
          rw [List.append_nil] at h2 fin
          rw [fin n (by omega) (by omega), show n.toNat = pre.length by omega, List.take_length]
          rfl
        | cons c post =>
          have hc := hok c (by simp)
          rw [nextO_in (by rw [zT, kAB]; have := j9 c; omega), dec1_mid hc, dec2_mid hc]
          simp only [aR,N0,N1,N2,N3,N4,N5,Z0,Z1,Z2,Z3,Z4,Z5,Z6,Z7,Z8,Z9,Z10,Zc,↓reduceIte,reduceCtorEq]
          (with_reducible first | refine kC (fun h5 => ?_) (fun h5 => ?_) | refine kF (fun h5 => ?_) (fun h5 => ?_))
          · simp only [aR,N0,N1,N2,N3,N4,N5,Z0,Z1,Z2,Z3,Z4,Z5,Z6,Z7,Z8,Z9,Z10,Zc,↓reduceIte,reduceCtorEq]
            rw [fin n (by omega) (by omega), show n.toNat = pre.length by omega, List.take_left]
            rfl
          · simp (disch := omega) only [aR,N0,N1,N2,N3,N4,N5,Z0,Z1,Z2,Z3,Z4,Z5,Z6,Z7,Z8,Z9,Z10,Zc,↓reduceIte,reduceCtorEq, kA, kA]
            refine kI ⟨(pre ++ [c], post), by simp, by simp; omega⟩ (by simp) ?_
            rw [hSt]; refine kH [0] [] ?_
            simp only [aR,N0,N1,N2,N3,N4,N5,Z0,Z1,Z2,Z3,Z4,Z5,Z6,Z7,Z8,Z9,Z10,Zc,↓reduceIte,reduceCtorEq, encs_snoc_len, List.length_append] <;> ((repeat' apply And.intro) <;> first | rfl | omega | trivial)
def kBH (l : List UInt8) (a b : Int) : AV := match pts l with
  | none => res2 (.v (sv [])) 2
  | some cs => if 0 ≤ a ∧ a ≤ b ∧ b ≤ cs.length then res2 (.v (sv (encs ((cs.drop a.toNat).take (b.toNat - a.toNat))))) 0 else res2 (.v (sv [])) 1
theorem sliceR_plain (l : List UInt8) (a b : Int) : (kBH l a b).plain = true := by
  unfold kBH
  repeat' split
  all_goals rfl
abbrev I64 := { n : Int // -9223372036854775808 ≤ n ∧ n ≤ 9223372036854775807 }
theorem call_off {Γ : Env} (hf : Γ.get 128 = some offCon) {σ : AS} {dr : Bool} {l : List UInt8} {n : Int} {d : Option Nat} {K : AS → Prop} (h : l.length ≤ 1099511627776) (h1 : -9223372036854775808 ≤ n) (h2 : n ≤ 9223372036854775807)
    (hk : cont σ d (offR l n) K) : kR Tryz.prog Γ dr σ 128 [.v (sv l), .v (.int .i64 n)] d K :=
  kK (C := offCon) (i := (⟨l, h⟩, ⟨n, h1, h2⟩)) hf rfl rfl rfl rfl (fun _ h => h) (offR_plain l n) hk
abbrev kBe : Con where
  ι := Str × I64 × I64
  args := fun s => [.v (sv s.1.1), .v (.int .i64 s.2.1.1), .v (.int .i64 s.2.2.1)]
  post := fun s r => r = kBH s.1.1 s.2.1.1 s.2.2.1
  plain := true
theorem slice_good : Rw.Good Tryz.prog 118 kBe := by
  have hΓ : kL Tryz.prog [(128, offCon)] := (kE off_good kJ)
  refine kS (nn := 36) hΓ Tryz.func118 (by kernel_rfl) rfl (show Tryz.f118.results.toList = [.tmp 6, .tmp 7] from rfl) (fun _ => rfl) (fun _ => rfl) ?_
  rintro ⟨⟨s, hs⟩, ⟨a, ha1, ha2⟩, ⟨b, hb1, hb2⟩⟩
  simp only [aR,N0,N1,N2,N3,N4,N5,Z0,Z1,Z2,Z3,Z4,Z5,Z6,Z7,Z8,Z9,Z10,Zc,↓reduceIte,reduceCtorEq]
  refine call_off (by simp [kB]) hs ha1 ha2 ?_
  rcases kBL (pts s) with hp | ⟨cs, hp⟩
  · simp only [aR,N0,N1,N2,N3,N4,N5,Z0,Z1,Z2,Z3,Z4,Z5,Z6,Z7,Z8,Z9,Z10,Zc,↓reduceIte,reduceCtorEq, offR, hp, res2]
    unfold kBH
    rw [hp]; rfl
  · obtain ⟨hok, hse⟩ := jY hp
    by_cases ha : a < 0 ∨ a > cs.length
    · simp only [aR,N0,N1,N2,N3,N4,N5,Z0,Z1,Z2,Z3,Z4,Z5,Z6,Z7,Z8,Z9,Z10,Zc,↓reduceIte,reduceCtorEq, offR, hp, res2, ha]
      unfold kBH
      rw [hp]
      simp only
      rw [if_neg (by omega)]; rfl
    · simp only [aR,N0,N1,N2,N3,N4,N5,Z0,Z1,Z2,Z3,Z4,Z5,Z6,Z7,Z8,Z9,Z10,Zc,↓reduceIte,reduceCtorEq, offR, hp, res2, ha]
      refine call_off (by simp [kB]) hs hb1 hb2 ?_
      by_cases hb : b < 0 ∨ b > cs.length
      · simp only [aR,N0,N1,N2,N3,N4,N5,Z0,Z1,Z2,Z3,Z4,Z5,Z6,Z7,Z8,Z9,Z10,Zc,↓reduceIte,reduceCtorEq, offR, hp, res2, hb]
        unfold kBH
        rw [hp]
        simp only
        rw [if_neg (by omega)]; rfl
      · simp only [aR,N0,N1,N2,N3,N4,N5,Z0,Z1,Z2,Z3,Z4,Z5,Z6,Z7,Z8,Z9,Z10,Zc,↓reduceIte,reduceCtorEq, offR, hp, res2, hb]
        have hl1 := kBJ cs a.toNat
        have hl2 := kBJ cs b.toNat
        rw [← hse] at hl1 hl2
        (with_reducible first | refine kC (fun h => ?_) (fun h => ?_) | refine kF (fun h => ?_) (fun h => ?_))
        · simp only [aR,N0,N1,N2,N3,N4,N5,Z0,Z1,Z2,Z3,Z4,Z5,Z6,Z7,Z8,Z9,Z10,Zc,↓reduceIte,reduceCtorEq]
          unfold kBH
          rw [hp]
          simp only
          rw [if_neg]
          · rfl
          · intro hc
            have := kBu cs (a := a.toNat) (b := b.toNat) (by omega)
            omega
        · have hab : a ≤ b := by
            by_cases h1 : b < a
            · have := encs_take_lt cs (a := b.toNat) (b := a.toNat) (by omega) (by omega)
              omega
            · omega
          simp only [aR,N0,N1,N2,N3,N4,N5,Z0,Z1,Z2,Z3,Z4,Z5,Z6,Z7,Z8,Z9,Z10,Zc,↓reduceIte,reduceCtorEq]
          refine ⟨by omega, ?_⟩
          unfold kBH
          rw [hp]
          simp only
          rw [if_pos (by omega)]
          subst hse
          rw [kFO cs (by omega)]; rfl
end Go.Proofs
end
-- ZUt4
section
namespace Go.Proofs
open Go Go.Rw
open _root_.Nat renaming reduceAdd → N0, reduceSub → N1, reduceMul → N2, reduceLT → N3, reduceLeDiff → N4, reduceEqDiff → N5
open _root_.Int renaming reduceNeg → Z0, reduceAdd → Z1, reduceSub → Z2, reduceMul → Z3, reduceGT → Z4, reduceGE → Z5, reduceLT → Z6, reduceLE → Z7, reduceEq → Z8, reduceNe → Z9, reduceToNat → Z10, cast_ofNat_Int → Zc
set_option maxRecDepth 100000
theorem andi {m k : Nat} {n : Int} (h0 : 0 ≤ n) (h1 : n < 256) (hk : ∀ m : Nat, m < 256 → (BitVec.ofInt IntKind.i64.bits (m : Int) &&& BitVec.ofInt IntKind.i64.bits (k : Int)).toNat = m % (k + 1)) :
    IntKind.wrap .i64 ((BitVec.ofInt IntKind.i64.bits n &&& BitVec.ofInt IntKind.i64.bits (k : Int)).toNat : Nat) = n % (k + 1) := by
  obtain ⟨m, rfl⟩ := Int.eq_ofNat_of_zero_le h0
  have hm : m % (k + 1) < 256 := Nat.lt_of_le_of_lt (Nat.mod_le _ _) (by omega)
  rw [hk m (by omega), kA (by omega) (by omega)]; rfl
theorem kBq {n : Int} (h0 : 0 ≤ n) (h1 : n < 256) : IntKind.wrap .i64 ((BitVec.ofInt IntKind.i64.bits n &&& BitVec.ofInt IntKind.i64.bits 31).toNat : Nat) = n % 32 := andi (m := 0) (k := 31) h0 h1 (by decide +kernel)
theorem kBr {n : Int} (h0 : 0 ≤ n) (h1 : n < 256) : IntKind.wrap .i64 ((BitVec.ofInt IntKind.i64.bits n &&& BitVec.ofInt IntKind.i64.bits 15).toNat : Nat) = n % 16 := andi (m := 0) (k := 15) h0 h1 (by decide +kernel)
theorem kBl {n : Int} (h0 : 0 ≤ n) (h1 : n < 256) : IntKind.wrap .i64 ((BitVec.ofInt IntKind.i64.bits n &&& BitVec.ofInt IntKind.i64.bits 7).toNat : Nat) = n % 8 := andi (m := 0) (k := 7) h0 h1 (by decide +kernel)
theorem and63 {n : Int} (h0 : 0 ≤ n) (h1 : n < 256) : IntKind.wrap .i64 ((BitVec.ofInt IntKind.i64.bits n &&& BitVec.ofInt IntKind.i64.bits 63).toNat : Nat) = n % 64 := andi (m := 0) (k := 63) h0 h1 (by decide +kernel)
theorem shl6 {n : Int} : n * 2 ^ min 6 IntKind.i64.bits = n * 64 := rfl
theorem or6 {n c : Int} (h1 : 0 ≤ n) (h2 : n ≤ 1000000000) (h3 : 0 ≤ c) (h4 : c < 64) : IntKind.wrap .i64 ((BitVec.ofInt IntKind.i64.bits (n * 64) ||| BitVec.ofInt IntKind.i64.bits c).toNat : Nat) = n * 64 + c := by
  obtain ⟨m, rfl⟩ := Int.eq_ofNat_of_zero_le h1
  obtain ⟨d, rfl⟩ := Int.eq_ofNat_of_zero_le h3
  have e : (BitVec.ofInt IntKind.i64.bits ((m : Int) * 64) ||| BitVec.ofInt IntKind.i64.bits (d : Int)).toNat = m * 64 + d := by
    rw [BitVec.toNat_or]
    have e1 : (BitVec.ofInt IntKind.i64.bits ((m : Int) * 64)).toNat = 2 ^ 6 * m := by
      rw [BitVec.toNat_ofInt]; simp only [IntKind.bits]; omega
    have e2 : (BitVec.ofInt IntKind.i64.bits (d : Int)).toNat = d := by
      rw [BitVec.toNat_ofInt]; simp only [IntKind.bits]; omega
    rw [e1, e2, ← Nat.two_pow_add_eq_or_of_lt (by omega)]; omega
  rw [e, kA (by omega) (by omega)]; omega
def pntR (l : List UInt8) (i : Nat) : AV := .tup [.v (.int .i64 (pnt (l.drop i)).1), .v (.int .i64 (pnt (l.drop i)).2)]
abbrev kEx : Con where
  ι := { p : Str × Nat // p.2 < p.1.1.length }
  args := fun p => [.v (sv p.1.1.1), .v (.int .i64 p.1.2)]
  post := fun p r => r = pntR p.1.1.1 p.1.2
  plain := true
def vv (s : List UInt8) (i m : Nat) : Nat → Nat
  | 0 => m
  | k + 1 => vv s i m k * 64 + (s.getD (i + k + 1) 0).toNat % 64
theorem vv_lt (s : List UInt8) (i m : Nat) (hm : m < 32) : ∀ k, k ≤ 3 → vv s i m k < 32 * 64 ^ k
  | 0, _ => by simpa [vv] using hm
  | k + 1, h => by
    have := vv_lt s i m hm k (by omega)
    simp only [vv]
    rw [Nat.pow_succ]; omega
theorem vv_le (s : List UInt8) (i m : Nat) (hm : m < 32) (k : Nat) (h : k ≤ 3) : vv s i m k < 8388608 := by
  have h1 := vv_lt s i m hm k h
  have h2 : 64 ^ k ≤ 64 ^ 3 := Nat.pow_le_pow_right (by omega) h
  omega
theorem kCq : Rw.Good Tryz.prog 84 kEx := by
  have hΓ : kL Tryz.prog [] := kJ
  refine good_fna (nn := 96) Tryz.func84 (by kernel_rfl) rfl (show Tryz.f84.results.toList = [.tmp 4, .tmp 5] from rfl) (fun _ => rfl) (fun _ => rfl) ?_
  rintro ⟨⟨⟨s, hs⟩, i⟩, hi⟩
  simp only at hi ⊢
  have k0 := (s.getD i 0).toNat_lt
  have hi1 : (0 : Int) ≤ i ∧ (i : Int) < s.length := by omega
  have hw := kA (n := ((s.getD i 0).toNat : Int)) (by omega) (by omega)
  have hp := pnt_at s i
  have k1 := (s.getD (i + 1) 0).toNat_lt
  have k2 := (s.getD (i + 2) 0).toNat_lt
  have k3 := (s.getD (i + 3) 0).toNat_lt
  iterate 3
    refine awp_cut hΓ ?_
    simp only [aR,N0,N1,N2,N3,N4,N5,Z0,Z1,Z2,Z3,Z4,Z5,Z6,Z7,Z8,Z9,Z10,Zc,↓reduceIte,reduceCtorEq, hi1, hw]
  obtain ⟨St, hSt⟩ : ∃ St : { p : Nat × Nat × Nat // (194 ≤ (s.getD i 0).toNat ∧ (s.getD i 0).toNat < 224 ∧ p = (2, (s.getD i 0).toNat % 32, 128)) ∨ (224 ≤ (s.getD i 0).toNat ∧ (s.getD i 0).toNat < 240 ∧ p = (3, (s.getD i 0).toNat % 16, 2048)) ∨ (240 ≤ (s.getD i 0).toNat ∧ (s.getD i 0).toNat < 245 ∧ p = (4, (s.getD i 0).toNat % 8, 65536)) } → AS,
    ∀ p, St p = AS.of 96 [(0, .v (sv s)), (1, .v (.int .i64 i)), (7, .v (.int .i64 p.1.1)), (8, .v (.int .i64 p.1.2.1)), (9, .v (.int .i64 p.1.2.2))] [] [] := ⟨_, fun _ => rfl⟩
  have bad : (pnt (s.drop i)).2 = 0 → pntR s i = .tup [.v (.int .i64 0), .v (.int .i64 0)] := fun h => by
    unfold pntR
    have : pnt (s.drop i) = (0, 0) := by
      unfold pnt at h ⊢
      split
      · rfl
      · rename_i hn
        rw [if_neg hn] at h
        have := Lib.decodeL_width (s.drop i)
        omega
    rw [this]; rfl
  refine awp_mid hΓ St ?_ ?_
  · simp only [aR,N0,N1,N2,N3,N4,N5,Z0,Z1,Z2,Z3,Z4,Z5,Z6,Z7,Z8,Z9,Z10,Zc,↓reduceIte,reduceCtorEq]
    (try ((with_reducible first | refine kC (fun q1 => ?_) (fun q1 => ?_) | refine kF (fun q1 => ?_) (fun q1 => ?_)) <;> simp (disch := omega) only [aR,N0,N1,N2,N3,N4,N5,Z0,Z1,Z2,Z3,Z4,Z5,Z6,Z7,Z8,Z9,Z10,Zc,↓reduceIte,reduceCtorEq, kA, q1, kBq, kBr, kBl] <;> (with_reducible first | (refine And.intro ?_ ?_; focus (first | omega | exact kG | kernel_rfl)); (repeat (with_reducible refine And.intro ?_ ?_; focus (first | omega | exact kG | kernel_rfl))); (try simp (disch := omega) only [aR,N0,N1,N2,N3,N4,N5,Z0,Z1,Z2,Z3,Z4,Z5,Z6,Z7,Z8,Z9,Z10,Zc,↓reduceIte,reduceCtorEq, kA, q1, kBq, kBr, kBl]) | skip) <;> (try ((with_reducible first | refine kC (fun q2 => ?_) (fun q2 => ?_) | refine kF (fun q2 => ?_) (fun q2 => ?_)) <;> simp (disch := omega) only [aR,N0,N1,N2,N3,N4,N5,Z0,Z1,Z2,Z3,Z4,Z5,Z6,Z7,Z8,Z9,Z10,Zc,↓reduceIte,reduceCtorEq, kA, q2, kBq, kBr, kBl] <;> (with_reducible first | (refine And.intro ?_ ?_; focus (first | omega | exact kG | kernel_rfl)); (repeat (with_reducible refine And.intro ?_ ?_; focus (first | omega | exact kG | kernel_rfl))); (try simp (disch := omega) only [aR,N0,N1,N2,N3,N4,N5,Z0,Z1,Z2,Z3,Z4,Z5,Z6,Z7,Z8,Z9,Z10,Zc,↓reduceIte,reduceCtorEq, kA, q2, kBq, kBr, kBl]) | skip) <;> (try ((with_reducible first | refine kC (fun q3 => ?_) (fun q3 => ?_) | refine kF (fun q3 => ?_) (fun q3 => ?_)) <;> simp (disch := omega) only [aR,N0,N1,N2,N3,N4,N5,Z0,Z1,Z2,Z3,Z4,Z5,Z6,Z7,Z8,Z9,Z10,Zc,↓reduceIte,reduceCtorEq, kA, q3, kBq, kBr, kBl] <;> (with_reducible first | (refine And.intro ?_ ?_; focus (first | omega | exact kG | kernel_rfl)); (repeat (with_reducible refine And.intro ?_ ?_; focus (first | omega | exact kG | kernel_rfl))); (try simp (disch := omega) only [aR,N0,N1,N2,N3,N4,N5,Z0,Z1,Z2,Z3,Z4,Z5,Z6,Z7,Z8,Z9,Z10,Zc,↓reduceIte,reduceCtorEq, kA, q3, kBq, kBr, kBl]) | skip) <;> (try ((with_reducible first | refine kC (fun q4 => ?_) (fun q4 => ?_) | refine kF (fun q4 => ?_) (fun q4 => ?_)) <;> simp (disch := omega) only [aR,N0,N1,N2,N3,N4,N5,Z0,Z1,Z2,Z3,Z4,Z5,Z6,Z7,Z8,Z9,Z10,Zc,↓reduceIte,reduceCtorEq, kA, q4, kBq, kBr, kBl] <;> (with_reducible first | (refine And.intro ?_ ?_; focus (first | omega | exact kG | kernel_rfl)); (repeat (with_reducible refine And.intro ?_ ?_; focus (first | omega | exact kG | kernel_rfl))); (try simp (disch := omega) only [aR,N0,N1,N2,N3,N4,N5,Z0,Z1,Z2,Z3,Z4,Z5,Z6,Z7,Z8,Z9,Z10,Zc,↓reduceIte,reduceCtorEq, kA, q4, kBq, kBr, kBl]) | skip) <;> (try ((with_reducible first | refine kC (fun q5 => ?_) (fun q5 => ?_) | refine kF (fun q5 => ?_) (fun q5 => ?_)) <;> simp (disch := omega) only [aR,N0,N1,N2,N3,N4,N5,Z0,Z1,Z2,Z3,Z4,Z5,Z6,Z7,Z8,Z9,Z10,Zc,↓reduceIte,reduceCtorEq, kA, q5, kBq, kBr, kBl] <;> (with_reducible first | (refine And.intro ?_ ?_; focus (first | omega | exact kG | kernel_rfl)); (repeat (with_reducible refine And.intro ?_ ?_; focus (first | omega | exact kG | kernel_rfl))); (try simp (disch := omega) only [aR,N0,N1,N2,N3,N4,N5,Z0,Z1,Z2,Z3,Z4,Z5,Z6,Z7,Z8,Z9,Z10,Zc,↓reduceIte,reduceCtorEq, kA, q5, kBq, kBr, kBl]) | skip) <;> (try ((with_reducible first | refine kC (fun q6 => ?_) (fun q6 => ?_) | refine kF (fun q6 => ?_) (fun q6 => ?_)) <;> simp (disch := omega) only [aR,N0,N1,N2,N3,N4,N5,Z0,Z1,Z2,Z3,Z4,Z5,Z6,Z7,Z8,Z9,Z10,Zc,↓reduceIte,reduceCtorEq, kA, q6, kBq, kBr, kBl] <;> (with_reducible first | (refine And.intro ?_ ?_; focus (first | omega | exact kG | kernel_rfl)); (repeat (with_reducible refine And.intro ?_ ?_; focus (first | omega | exact kG | kernel_rfl))); (try simp (disch := omega) only [aR,N0,N1,N2,N3,N4,N5,Z0,Z1,Z2,Z3,Z4,Z5,Z6,Z7,Z8,Z9,Z10,Zc,↓reduceIte,reduceCtorEq, kA, q6, kBq, kBr, kBl]) | skip) <;> (try ((with_reducible first | refine kC (fun q7 => ?_) (fun q7 => ?_) | refine kF (fun q7 => ?_) (fun q7 => ?_)) <;> simp (disch := omega) only [aR,N0,N1,N2,N3,N4,N5,Z0,Z1,Z2,Z3,Z4,Z5,Z6,Z7,Z8,Z9,Z10,Zc,↓reduceIte,reduceCtorEq, kA, q7, kBq, kBr, kBl] <;> (with_reducible first | (refine And.intro ?_ ?_; focus (first | omega | exact kG | kernel_rfl)); (repeat (with_reducible refine And.intro ?_ ?_; focus (first | omega | exact kG | kernel_rfl))); (try simp (disch := omega) only [aR,N0,N1,N2,N3,N4,N5,Z0,Z1,Z2,Z3,Z4,Z5,Z6,Z7,Z8,Z9,Z10,Zc,↓reduceIte,reduceCtorEq, kA, q7, kBq, kBr, kBl]) | skip) <;> (try ((with_reducible first | refine kC (fun q8 => ?_) (fun q8 => ?_) | refine kF (fun q8 => ?_) (fun q8 => ?_)) <;> simp (disch := omega) only [aR,N0,N1,N2,N3,N4,N5,Z0,Z1,Z2,Z3,Z4,Z5,Z6,Z7,Z8,Z9,Z10,Zc,↓reduceIte,reduceCtorEq, kA, q8, kBq, kBr, kBl] <;> (with_reducible first | (refine And.intro ?_ ?_; focus (first | omega | exact kG | kernel_rfl)); (repeat (with_reducible refine And.intro ?_ ?_; focus (first | omega | exact kG | kernel_rfl))); (try simp (disch := omega) only [aR,N0,N1,N2,N3,N4,N5,Z0,Z1,Z2,Z3,Z4,Z5,Z6,Z7,Z8,Z9,Z10,Zc,↓reduceIte,reduceCtorEq, kA, q8, kBq, kBr, kBl]) | skip) <;> skip))))))))))))))))
    all_goals first
      | (exfalso; omega)
      | (unfold pntR; rw [hp, pntd_one k0 k1 k2 k3 (by omega) (by omega)]; rfl)
      | (rw [bad (by rw [hp, pntd_bad k0 k1 k2 k3 (by omega)])])
      | (refine ⟨⟨(2, (s.getD i 0).toNat % 32, 128), .inl ⟨by omega, by omega, rfl⟩⟩, ?_⟩
         rw [hSt]; refine kH [] [] ?_
         simp only [aR,N0,N1,N2,N3,N4,N5,Z0,Z1,Z2,Z3,Z4,Z5,Z6,Z7,Z8,Z9,Z10,Zc,↓reduceIte,reduceCtorEq] <;> ((repeat' apply And.intro) <;> first | rfl | omega | trivial))
      | (refine ⟨⟨(3, (s.getD i 0).toNat % 16, 2048), .inr (.inl ⟨by omega, by omega, rfl⟩)⟩, ?_⟩
         rw [hSt]; refine kH [] [] ?_
         simp only [aR,N0,N1,N2,N3,N4,N5,Z0,Z1,Z2,Z3,Z4,Z5,Z6,Z7,Z8,Z9,Z10,Zc,↓reduceIte,reduceCtorEq] <;> ((repeat' apply And.intro) <;> first | rfl | omega | trivial))
      | (refine ⟨⟨(4, (s.getD i 0).toNat % 8, 65536), .inr (.inr ⟨by omega, by omega, rfl⟩)⟩, ?_⟩
         rw [hSt]; refine kH [] [] ?_
         simp only [aR,N0,N1,N2,N3,N4,N5,Z0,Z1,Z2,Z3,Z4,Z5,Z6,Z7,Z8,Z9,Z10,Zc,↓reduceIte,reduceCtorEq] <;> ((repeat' apply And.intro) <;> first | rfl | omega | trivial))
      | trace_state
  · rintro ⟨⟨n, m, low⟩, hcl⟩
    rw [hSt]
    refine vc_awp hΓ ?_
    simp only
    have hn : 2 ≤ n ∧ n ≤ 4 := by simp only [Prod.mk.injEq] at hcl; omega
    have hm : m < 32 := by simp only [Prod.mk.injEq] at hcl; omega
    simp (disch := omega) only [aR,N0,N1,N2,N3,N4,N5,Z0,Z1,Z2,Z3,Z4,Z5,Z6,Z7,Z8,Z9,Z10,Zc,↓reduceIte,reduceCtorEq, kA, kA]
    (with_reducible first | refine kC (fun h1 => ?_) (fun h1 => ?_) | refine kF (fun h1 => ?_) (fun h1 => ?_))
    · simp (disch := omega) only [aR,N0,N1,N2,N3,N4,N5,Z0,Z1,Z2,Z3,Z4,Z5,Z6,Z7,Z8,Z9,Z10,Zc,↓reduceIte,reduceCtorEq, kA, h1]
      rw [bad]
      rw [hp]
      simp only [Prod.mk.injEq] at hcl
      rcases hcl with ⟨ha, hb, rfl, rfl, rfl⟩ | ⟨ha, hb, rfl, rfl, rfl⟩ | ⟨ha, hb, rfl, rfl, rfl⟩
      · rw [pntd_two k0 k1 k2 k3 ⟨ha, hb⟩, if_neg (by omega)]
      · rw [kCg k0 k1 k2 k3 ⟨ha, hb⟩, if_neg (by omega)]
      · rw [kES k0 k1 k2 k3 ⟨ha, hb⟩, if_neg (by omega)]
    · simp (disch := omega) only [aR,N0,N1,N2,N3,N4,N5,Z0,Z1,Z2,Z3,Z4,Z5,Z6,Z7,Z8,Z9,Z10,Zc,↓reduceIte,reduceCtorEq, kA, h1]
      obtain ⟨St2, hSt2⟩ : ∃ St2 : { k : Nat // k + 1 ≤ n ∧ ∀ j, j < k → (s.getD (i + j + 1) 0).toNat / 64 = 2 } → AS, ∀ k, St2 k = AS.of 96 [(0, .v (sv s)), (1, .v (.int .i64 i)), (7, .v (.int .i64 n)), (8, .v (.int .i64 (vv s i m k.1))), (9, .v (.int .i64 low)), (10, .v (.int .i64 (k.1 + 1 : Nat)))] [] [] := ⟨_, fun _ => rfl⟩
      refine kX hΓ St2 (fun k => n - k.1) ⟨0, by omega, by simp⟩ (by rw [hSt2]; refine kH [] [] ?_; simp only [aR,N0,N1,N2,N3,N4,N5,Z0,Z1,Z2,Z3,Z4,Z5,Z6,Z7,Z8,Z9,Z10,Zc,↓reduceIte,reduceCtorEq, vv] <;> ((repeat' apply And.intro) <;> first | rfl | omega | trivial)) ?_
      rintro ⟨k, hk, hj⟩
      rw [hSt2]
      simp only
      have hv := vv_le s i m hm k (by omega)
      have hkb := (s.getD (i + k + 1) 0).toNat_lt
      simp only [aR,N0,N1,N2,N3,N4,N5,Z0,Z1,Z2,Z3,Z4,Z5,Z6,Z7,Z8,Z9,Z10,Zc,↓reduceIte,reduceCtorEq]
      (with_reducible first | refine kC (fun h2 => ?_) (fun h2 => ?_) | refine kF (fun h2 => ?_) (fun h2 => ?_))
      · simp (disch := omega) only [aR,N0,N1,N2,N3,N4,N5,Z0,Z1,Z2,Z3,Z4,Z5,Z6,Z7,Z8,Z9,Z10,Zc,↓reduceIte,reduceCtorEq, kA, h2, kA]
        have e1 : ((i : Int) + ((k + 1 : Nat) : Int)).toNat = i + k + 1 := by omega
        simp (disch := omega) only [aR,N0,N1,N2,N3,N4,N5,Z0,Z1,Z2,Z3,Z4,Z5,Z6,Z7,Z8,Z9,Z10,Zc,↓reduceIte,reduceCtorEq, kA, e1]
        refine ⟨by omega, ?_⟩
        have badk : ¬ (s.getD (i + k + 1) 0).toNat / 64 = 2 → pntR s i = .tup [.v (.int .i64 0), .v (.int .i64 0)] := fun hb => by
          refine bad ?_
          rw [hp]
          simp only [Prod.mk.injEq] at hcl
          have hb1 : k = 0 → ¬ (s.getD (i + 1) 0).toNat / 64 = 2 := fun e => by subst e; exact hb
          have hb2 : k = 1 → ¬ (s.getD (i + 2) 0).toNat / 64 = 2 := fun e => by subst e; exact hb
          have hb3 : k = 2 → ¬ (s.getD (i + 3) 0).toNat / 64 = 2 := fun e => by subst e; exact hb
          rcases hcl with ⟨ha, hb, rfl, rfl, rfl⟩ | ⟨ha, hb, rfl, rfl, rfl⟩ | ⟨ha, hb, rfl, rfl, rfl⟩
          · rw [pntd_two k0 k1 k2 k3 ⟨ha, hb⟩, if_neg (by omega)]
          · rw [kCg k0 k1 k2 k3 ⟨ha, hb⟩, if_neg (by omega)]
          · rw [kES k0 k1 k2 k3 ⟨ha, hb⟩, if_neg (by omega)]
        (try ((with_reducible first | refine kC (fun q1 => ?_) (fun q1 => ?_) | refine kF (fun q1 => ?_) (fun q1 => ?_)) <;> simp (disch := omega) only [aR,N0,N1,N2,N3,N4,N5,Z0,Z1,Z2,Z3,Z4,Z5,Z6,Z7,Z8,Z9,Z10,Zc,↓reduceIte,reduceCtorEq, kA, q1, shl6, and63, or6] <;> (with_reducible first | (refine And.intro ?_ ?_; focus (first | omega | exact kG | kernel_rfl)); (repeat (with_reducible refine And.intro ?_ ?_; focus (first | omega | exact kG | kernel_rfl))); (try simp (disch := omega) only [aR,N0,N1,N2,N3,N4,N5,Z0,Z1,Z2,Z3,Z4,Z5,Z6,Z7,Z8,Z9,Z10,Zc,↓reduceIte,reduceCtorEq, kA, q1, shl6, and63, or6]) | skip) <;> (try ((with_reducible first | refine kC (fun q2 => ?_) (fun q2 => ?_) | refine kF (fun q2 => ?_) (fun q2 => ?_)) <;> simp (disch := omega) only [aR,N0,N1,N2,N3,N4,N5,Z0,Z1,Z2,Z3,Z4,Z5,Z6,Z7,Z8,Z9,Z10,Zc,↓reduceIte,reduceCtorEq, kA, q2, shl6, and63, or6] <;> (with_reducible first | (refine And.intro ?_ ?_; focus (first | omega | exact kG | kernel_rfl)); (repeat (with_reducible refine And.intro ?_ ?_; focus (first | omega | exact kG | kernel_rfl))); (try simp (disch := omega) only [aR,N0,N1,N2,N3,N4,N5,Z0,Z1,Z2,Z3,Z4,Z5,Z6,Z7,Z8,Z9,Z10,Zc,↓reduceIte,reduceCtorEq, kA, q2, shl6, and63, or6]) | skip) <;> (try ((with_reducible first | refine kC (fun q3 => ?_) (fun q3 => ?_) | refine kF (fun q3 => ?_) (fun q3 => ?_)) <;> simp (disch := omega) only [aR,N0,N1,N2,N3,N4,N5,Z0,Z1,Z2,Z3,Z4,Z5,Z6,Z7,Z8,Z9,Z10,Zc,↓reduceIte,reduceCtorEq, kA, q3, shl6, and63, or6] <;> (with_reducible first | (refine And.intro ?_ ?_; focus (first | omega | exact kG | kernel_rfl)); (repeat (with_reducible refine And.intro ?_ ?_; focus (first | omega | exact kG | kernel_rfl))); (try simp (disch := omega) only [aR,N0,N1,N2,N3,N4,N5,Z0,Z1,Z2,Z3,Z4,Z5,Z6,Z7,Z8,Z9,Z10,Zc,↓reduceIte,reduceCtorEq, kA, q3, shl6, and63, or6]) | skip) <;> skip))))))
        all_goals first
          | (rw [badk (by omega)])
          | (refine kI ⟨k + 1, by omega, fun j hj' => ?_⟩ (by simp only; omega) ?_
             · rcases Nat.lt_or_ge j k with h5 | h5
               · exact hj j h5
               · rw [show j = k by omega]; omega
             · rw [hSt2]; refine kH [] [] ?_
               simp only [aR,N0,N1,N2,N3,N4,N5,Z0,Z1,Z2,Z3,Z4,Z5,Z6,Z7,Z8,Z9,Z10,Zc,↓reduceIte,reduceCtorEq, vv] <;> ((repeat' apply And.intro) <;> first | rfl | omega | trivial))
          | trace_state
      · have hkn : k + 1 = n := by omega
        have hv1 : k = 1 → vv s i m k = m * 64 + (s.getD (i + 1) 0).toNat % 64 := fun e => by subst e; rfl
        have hv2 : k = 2 → vv s i m k = (m * 64 + (s.getD (i + 1) 0).toNat % 64) * 64 + (s.getD (i + 2) 0).toNat % 64 := fun e => by subst e; rfl
        have hv3 : k = 3 → vv s i m k = ((m * 64 + (s.getD (i + 1) 0).toNat % 64) * 64 + (s.getD (i + 2) 0).toNat % 64) * 64 + (s.getD (i + 3) 0).toNat % 64 := fun e => by subst e; rfl
        have hj0 := hj 0
        have hj1 := hj 1
        have hj2 := hj 2
        simp only [Nat.add_zero, show i + 1 + 1 = i + 2 from rfl, show i + 2 + 1 = i + 3 from rfl] at hj0 hj1 hj2
        generalize vv s i m k = V at *
        have fin : pntR s i = if V < low ∨ (55296 ≤ V ∧ V < 57344) ∨ V > 1114111 then .tup [.v (.int .i64 0), .v (.int .i64 0)] else .tup [.v (.int .i64 V), .v (.int .i64 n)] := by
          unfold pntR
          rw [hp]
          simp only [Prod.mk.injEq] at hcl
          rcases hcl with ⟨ha, hb, rfl, rfl, rfl⟩ | ⟨ha, hb, rfl, rfl, rfl⟩ | ⟨ha, hb, rfl, rfl, rfl⟩
          · rw [pntd_two k0 k1 k2 k3 ⟨ha, hb⟩, if_pos (by omega), if_neg (by omega), hv1 (by omega)]
          · rw [kCg k0 k1 k2 k3 ⟨ha, hb⟩]
            have e : V = (s.getD i 0).toNat % 16 * 4096 + (s.getD (i + 1) 0).toNat % 64 * 64 + (s.getD (i + 2) 0).toNat % 64 := by have := hv2 (by omega); omega
            by_cases hc : V < 2048 ∨ (55296 ≤ V ∧ V < 57344) ∨ V > 1114111
            · rw [if_pos hc, if_neg (by omega)]; rfl
            · rw [if_neg hc, if_pos (by omega), ← e]
          · rw [kES k0 k1 k2 k3 ⟨ha, hb⟩]
            have e : V = (s.getD i 0).toNat % 8 * 262144 + (s.getD (i + 1) 0).toNat % 64 * 4096 + (s.getD (i + 2) 0).toNat % 64 * 64 + (s.getD (i + 3) 0).toNat % 64 := by have := hv3 (by omega); omega
            by_cases hc : V < 65536 ∨ (55296 ≤ V ∧ V < 57344) ∨ V > 1114111
            · rw [if_pos hc, if_neg (by omega)]; rfl
            · rw [if_neg hc, if_pos (by omega), ← e]
        simp (disch := omega) only [aR,N0,N1,N2,N3,N4,N5,Z0,Z1,Z2,Z3,Z4,Z5,Z6,Z7,Z8,Z9,Z10,Zc,↓reduceIte,reduceCtorEq, kA, h2]
        (try ((with_reducible first | refine kC (fun q1 => ?_) (fun q1 => ?_) | refine kF (fun q1 => ?_) (fun q1 => ?_)) <;> simp (disch := omega) only [aR,N0,N1,N2,N3,N4,N5,Z0,Z1,Z2,Z3,Z4,Z5,Z6,Z7,Z8,Z9,Z10,Zc,↓reduceIte,reduceCtorEq, kA, q1] <;> (with_reducible first | (refine And.intro ?_ ?_; focus (first | omega | exact kG | kernel_rfl)); (repeat (with_reducible refine And.intro ?_ ?_; focus (first | omega | exact kG | kernel_rfl))); (try simp (disch := omega) only [aR,N0,N1,N2,N3,N4,N5,Z0,Z1,Z2,Z3,Z4,Z5,Z6,Z7,Z8,Z9,Z10,Zc,↓reduceIte,reduceCtorEq, kA, q1]) | skip) <;> (try ((with_reducible first | refine kC (fun q2 => ?_) (fun q2 => ?_) | refine kF (fun q2 => ?_) (fun q2 => ?_)) <;> simp (disch := omega) only [aR,N0,N1,N2,N3,N4,N5,Z0,Z1,Z2,Z3,Z4,Z5,Z6,Z7,Z8,Z9,Z10,Zc,↓reduceIte,reduceCtorEq, kA, q2] <;> (with_reducible first | (refine And.intro ?_ ?_; focus (first | omega | exact kG | kernel_rfl)); (repeat (with_reducible refine And.intro ?_ ?_; focus (first | omega | exact kG | kernel_rfl))); (try simp (disch := omega) only [aR,N0,N1,N2,N3,N4,N5,Z0,Z1,Z2,Z3,Z4,Z5,Z6,Z7,Z8,Z9,Z10,Zc,↓reduceIte,reduceCtorEq, kA, q2]) | skip) <;> (try ((with_reducible first | refine kC (fun q3 => ?_) (fun q3 => ?_) | refine kF (fun q3 => ?_) (fun q3 => ?_)) <;> simp (disch := omega) only [aR,N0,N1,N2,N3,N4,N5,Z0,Z1,Z2,Z3,Z4,Z5,Z6,Z7,Z8,Z9,Z10,Zc,↓reduceIte,reduceCtorEq, kA, q3] <;> (with_reducible first | (refine And.intro ?_ ?_; focus (first | omega | exact kG | kernel_rfl)); (repeat (with_reducible refine And.intro ?_ ?_; focus (first | omega | exact kG | kernel_rfl))); (try simp (disch := omega) only [aR,N0,N1,N2,N3,N4,N5,Z0,Z1,Z2,Z3,Z4,Z5,Z6,Z7,Z8,Z9,Z10,Zc,↓reduceIte,reduceCtorEq, kA, q3]) | skip) <;> (try ((with_reducible first | refine kC (fun q4 => ?_) (fun q4 => ?_) | refine kF (fun q4 => ?_) (fun q4 => ?_)) <;> simp (disch := omega) only [aR,N0,N1,N2,N3,N4,N5,Z0,Z1,Z2,Z3,Z4,Z5,Z6,Z7,Z8,Z9,Z10,Zc,↓reduceIte,reduceCtorEq, kA, q4] <;> (with_reducible first | (refine And.intro ?_ ?_; focus (first | omega | exact kG | kernel_rfl)); (repeat (with_reducible refine And.intro ?_ ?_; focus (first | omega | exact kG | kernel_rfl))); (try simp (disch := omega) only [aR,N0,N1,N2,N3,N4,N5,Z0,Z1,Z2,Z3,Z4,Z5,Z6,Z7,Z8,Z9,Z10,Zc,↓reduceIte,reduceCtorEq, kA, q4]) | skip) <;> (try ((with_reducible first | refine kC (fun q5 => ?_) (fun q5 => ?_) | refine kF (fun q5 => ?_) (fun q5 => ?_)) <;> simp (disch := omega) only [aR,N0,N1,N2,N3,N4,N5,Z0,Z1,Z2,Z3,Z4,Z5,Z6,Z7,Z8,Z9,Z10,Zc,↓reduceIte,reduceCtorEq, kA, q5] <;> (with_reducible first | (refine And.intro ?_ ?_; focus (first | omega | exact kG | kernel_rfl)); (repeat (with_reducible refine And.intro ?_ ?_; focus (first | omega | exact kG | kernel_rfl))); (try simp (disch := omega) only [aR,N0,N1,N2,N3,N4,N5,Z0,Z1,Z2,Z3,Z4,Z5,Z6,Z7,Z8,Z9,Z10,Zc,↓reduceIte,reduceCtorEq, kA, q5]) | skip) <;> skip))))))))))
        all_goals first
          | (rw [fin, if_pos (by omega)])
          | (rw [fin, if_neg (by omega)])
          | trace_state
end Go.Proofs
end
-- ZUt5
section
namespace Go.Proofs
open Go Go.Rw
open _root_.Nat renaming reduceAdd → N0, reduceSub → N1, reduceMul → N2, reduceLT → N3, reduceLeDiff → N4, reduceEqDiff → N5
open _root_.Int renaming reduceNeg → Z0, reduceAdd → Z1, reduceSub → Z2, reduceMul → Z3, reduceGT → Z4, reduceGE → Z5, reduceLT → Z6, reduceLE → Z7, reduceEq → Z8, reduceNe → Z9, reduceToNat → Z10, cast_ofNat_Int → Zc
set_option maxRecDepth 100000
theorem pntR_plain (l : List UInt8) (i : Nat) : (pntR l i).plain = true := rfl
theorem kDL {Γ : Env} (hf : Γ.get 84 = some kEx) {σ : AS} {dr : Bool} {l : List UInt8} {i : Nat} {d : Option Nat} {K : AS → Prop} (h : l.length ≤ 1099511627776) (hi : i < l.length)
    (hk : cont σ d (pntR l i) K) : kR Tryz.prog Γ dr σ 84 [.v (sv l), .v (.int .i64 i)] d K :=
  kK (C := kEx) (i := ⟨(⟨l, h⟩, i), hi⟩) hf rfl rfl rfl rfl (fun _ h => h) (pntR_plain l i) hk
theorem pnt_len {l : List UInt8} (hne : l ≠ []) : (pnt l).2 ≤ l.length := by
  by_cases h : (pnt l).2 = 0
  · omega
  · obtain ⟨_, h2, h3⟩ := kDp hne h
    have h4 := congrArg List.length h3
    rw [List.length_append, List.length_drop, jB] at h4
    omega
theorem drop_ne {l : List UInt8} {i : Nat} (h : i < l.length) : l.drop i ≠ [] := by
  intro e
  have this := congrArg List.length e
  rw [List.length_drop, List.length_nil] at this; omega
theorem kE7 (l : List UInt8) : (pnt l).1 ≤ 1114111 ∧ (pnt l).2 ≤ 4 := by
  by_cases hl : l = []
  · subst hl; exact ⟨by decide +kernel, by decide +kernel⟩
  · by_cases h : (pnt l).2 = 0
    · unfold pnt at h ⊢
      split
      · simp
      · rename_i hn
        rw [if_neg hn] at h
        have := Lib.decodeL_width l
        omega
    · obtain ⟨h1, h2, _⟩ := kDp hl h
      have := wid_le (pnt l).1
      exact ⟨h1.2.1, by omega⟩
def jV (l : List UInt8) : AV := match pts l with
  | some cs => .tup [.sl 0 1 (nats cs), .v (.bool true)]
  | none => .tup [.sl 0 1 [], .v (.bool false)]
abbrev kA8 : Con where
  ι := Str
  args := fun s => [.v (sv s.1)]
  post := fun s r => r = jV s.1
theorem kD5 : Rw.Good Tryz.prog 59 kA8 := by
  have hΓ : kL Tryz.prog [(84, kEx)] := (kE kCq kJ)
  refine kS (nn := 28) hΓ Tryz.func59 (by kernel_rfl) rfl (show Tryz.f59.results.toList = [.tmp 2, .tmp 3] from rfl) (fun _ => rfl) (fun _ => rfl) ?_
  rintro ⟨s, hs⟩
  simp only [aR,N0,N1,N2,N3,N4,N5,Z0,Z1,Z2,Z3,Z4,Z5,Z6,Z7,Z8,Z9,Z10,Zc,↓reduceIte,reduceCtorEq]
  obtain ⟨St, hSt⟩ : ∃ St : { p : List Nat × Nat // p.2 ≤ s.length ∧ p.1.length ≤ p.2 ∧ pts s = (pts (s.drop p.2)).map (p.1 ++ ·) } → AS, ∀ p, St p = AS.of 28 [(0, .v (sv s)), (4, .sl 2 1 (nats p.1.1)), (5, .v (.int .i64 p.1.2))] [] [(p.1.1.length, 3)] := ⟨_, fun _ => rfl⟩
  refine kX hΓ St (fun p => s.length - p.1.2) ⟨([], 0), by omega, by simp, by simp⟩ (by rw [hSt]; refine kH [] [.nil 1] ?_; simp only [aR,N0,N1,N2,N3,N4,N5,Z0,Z1,Z2,Z3,Z4,Z5,Z6,Z7,Z8,Z9,Z10,Zc,↓reduceIte,reduceCtorEq, nats_nil] <;> ((repeat' apply And.intro) <;> first | rfl | omega | trivial)) ?_
  rintro ⟨⟨cs, i⟩, hi, hci, hp⟩
  simp only at hi hci hp
  rw [hSt]
  simp only
  simp only [aR,N0,N1,N2,N3,N4,N5,Z0,Z1,Z2,Z3,Z4,Z5,Z6,Z7,Z8,Z9,Z10,Zc,↓reduceIte,reduceCtorEq]
  (with_reducible first | refine kC (fun h => ?_) (fun h => ?_) | refine kF (fun h => ?_) (fun h => ?_))
  · simp only [aR,N0,N1,N2,N3,N4,N5,Z0,Z1,Z2,Z3,Z4,Z5,Z6,Z7,Z8,Z9,Z10,Zc,↓reduceIte,reduceCtorEq, h]
    have hlt : i < s.length := by omega
    refine kDL (by simp [kB]) hs hlt ?_
    have hne := drop_ne hlt
    have hsm := kE7 (s.drop i)
    have hpl := pnt_len hne
    rw [List.length_drop] at hpl
    rw [pts_step hne] at hp
    unfold pntR
    generalize hq : pnt (s.drop i) = q at *
    obtain ⟨c, n⟩ := q
    simp only at hsm hp hpl
    simp only [aR,N0,N1,N2,N3,N4,N5,Z0,Z1,Z2,Z3,Z4,Z5,Z6,Z7,Z8,Z9,Z10,Zc,↓reduceIte,reduceCtorEq]
    (with_reducible first | refine kC (fun h2 => ?_) (fun h2 => ?_) | refine kF (fun h2 => ?_) (fun h2 => ?_))
    · simp only [aR,N0,N1,N2,N3,N4,N5,Z0,Z1,Z2,Z3,Z4,Z5,Z6,Z7,Z8,Z9,Z10,Zc,↓reduceIte,reduceCtorEq, h2]
      unfold jV
      rw [hp, if_pos (by omega)]; rfl
    · rw [if_neg (by omega), List.drop_drop] at hp
      simp (disch := omega) only [aR,N0,N1,N2,N3,N4,N5,Z0,Z1,Z2,Z3,Z4,Z5,Z6,Z7,Z8,Z9,Z10,Zc,↓reduceIte,reduceCtorEq, kA, h2, nats_len]
      refine ⟨by omega, by omega, kI ⟨(cs ++ [c], i + n), by omega, by simp; omega, ?_⟩ (by simp only; omega) ?_⟩
      · rw [hp, Option.map_map]
        congr 1
        funext x; simp
      · rw [hSt]; refine kH [] [.live 2] ?_
        simp only [aR,N0,N1,N2,N3,N4,N5,Z0,Z1,Z2,Z3,Z4,Z5,Z6,Z7,Z8,Z9,Z10,Zc,↓reduceIte,reduceCtorEq, nats_snoc, List.length_append] <;> ((repeat' apply And.intro) <;> first | rfl | omega | trivial)
  · simp only [aR,N0,N1,N2,N3,N4,N5,Z0,Z1,Z2,Z3,Z4,Z5,Z6,Z7,Z8,Z9,Z10,Zc,↓reduceIte,reduceCtorEq, h]
    rw [List.drop_of_length_le (by omega), kAr] at hp
    unfold jV
    rw [hp]; simp
theorem kD3 {Γ : Env} (hf : Γ.get 59 = some kA8) {σ : AS} {dr : Bool} {l : List UInt8} {d : Option Nat} {K : AS → Prop} (h : l.length ≤ 1099511627776)
    (hk : cont σ d (jV l) K) : kR Tryz.prog Γ dr σ 59 [.v (sv l)] d K :=
  qK (C := kA8) (i := ⟨l, h⟩) (r := jV l) hf rfl rfl rfl rfl (fun _ h => h) (by
    have : (jV l).er = jV l := by unfold jV; split <;> rfl
    rw [this]; exact hk)
theorem rvalid_good : Rw.Good Tryz.prog 34 kAE := by
  have hΓ : kL Tryz.prog [(59, kA8)] := (kE kD5 kJ)
  refine kS (nn := 11) hΓ Tryz.func34 (by kernel_rfl) rfl (show Tryz.f34.results.toList = [.tmp 2] from rfl) (fun _ => rfl) (fun _ => rfl) ?_
  rintro ⟨s, hs⟩
  simp only [aR,N0,N1,N2,N3,N4,N5,Z0,Z1,Z2,Z3,Z4,Z5,Z6,Z7,Z8,Z9,Z10,Zc,↓reduceIte,reduceCtorEq]
  refine kD3 (by simp [kB]) hs ?_
  rcases kBL (pts s) with hp | ⟨cs, hp⟩
  all_goals simp only [aR,N0,N1,N2,N3,N4,N5,Z0,Z1,Z2,Z3,Z4,Z5,Z6,Z7,Z8,Z9,Z10,Zc,↓reduceIte,reduceCtorEq, jV, hp]
  all_goals rfl
theorem kDv {Γ : Env} (hf : Γ.get 34 = some kAE) {σ : AS} {dr : Bool} {l : List UInt8} {d : Option Nat} {K : AS → Prop} (h : l.length ≤ 1099511627776)
    (hk : cont σ d (.v (.bool (pts l).isSome)) K) : kR Tryz.prog Γ dr σ 34 [.v (sv l)] d K :=
  kK (C := kAE) (i := ⟨l, h⟩) hf rfl rfl rfl rfl (fun _ h => h) rfl hk
def cnt (l : List UInt8) : Nat := match pts l with | some cs => cs.length | none => 0
abbrev j7 : Con where
  ι := Str
  args := fun s => [.v (sv s.1)]
  post := fun s r => r = .v (.int .i64 (cnt s.1))
  plain := true
theorem kEG : Rw.Good Tryz.prog 35 j7 := by
  have hΓ : kL Tryz.prog [(59, kA8)] := (kE kD5 kJ)
  refine kS (nn := 12) hΓ Tryz.func35 (by kernel_rfl) rfl (show Tryz.f35.results.toList = [.tmp 2] from rfl) (fun _ => rfl) (fun _ => rfl) ?_
  rintro ⟨s, hs⟩
  simp only [aR,N0,N1,N2,N3,N4,N5,Z0,Z1,Z2,Z3,Z4,Z5,Z6,Z7,Z8,Z9,Z10,Zc,↓reduceIte,reduceCtorEq]
  refine kD3 (by simp [kB]) hs ?_
  rcases kBL (pts s) with hp | ⟨cs, hp⟩
  all_goals simp only [aR,N0,N1,N2,N3,N4,N5,Z0,Z1,Z2,Z3,Z4,Z5,Z6,Z7,Z8,Z9,Z10,Zc,↓reduceIte,reduceCtorEq, jV, hp, nats_len, cnt] <;> ((repeat' apply And.intro) <;> first | rfl | omega | trivial)
theorem kEX {Γ : Env} (hf : Γ.get 35 = some j7) {σ : AS} {dr : Bool} {l : List UInt8} {d : Option Nat} {K : AS → Prop} (h : l.length ≤ 1099511627776)
    (hk : cont σ d (.v (.int .i64 (cnt l))) K) : kR Tryz.prog Γ dr σ 35 [.v (sv l)] d K :=
  kK (C := j7) (i := ⟨l, h⟩) hf rfl rfl rfl rfl (fun _ h => h) rfl hk
theorem kG : Tryz.prog.follows .mixedOrders = true := by kernel_rfl
end Go.Proofs
end
-- ZUt6
section
namespace Go.Proofs
open Go Go.Rw
open _root_.Nat renaming reduceAdd → N0, reduceSub → N1, reduceMul → N2, reduceLT → N3, reduceLeDiff → N4, reduceEqDiff → N5
open _root_.Int renaming reduceNeg → Z0, reduceAdd → Z1, reduceSub → Z2, reduceMul → Z3, reduceGT → Z4, reduceGE → Z5, reduceLT → Z6, reduceLE → Z7, reduceEq → Z8, reduceNe → Z9, reduceToNat → Z10, cast_ofNat_Int → Zc
set_option maxRecDepth 100000
def roffF : Nat → List UInt8 → Int → Nat
  | 0, _, _ => 0
  | f + 1, l, n => if n ≤ 0 ∨ l = [] then 0 else max (pnt l).2 1 + roffF f (l.drop (max (pnt l).2 1)) (n - 1)
def roff (l : List UInt8) (n : Int) : Nat := roffF l.length l n
theorem kF4 : ∀ (f g : Nat) (l : List UInt8) (n : Int), l.length ≤ f → l.length ≤ g → roffF f l n = roffF g l n
  | 0, 0, _, _, _, _ => rfl
  | 0, g + 1, l, n, h, _ => by
    have : l = [] := List.eq_nil_of_length_eq_zero (by omega)
    subst this; simp [roffF]
  | f + 1, 0, l, n, _, h => by
    have : l = [] := List.eq_nil_of_length_eq_zero (by omega)
    subst this; simp [roffF]
  | f + 1, g + 1, l, n, h1, h2 => by
    simp only [roffF]
    split
    · rfl
    · rename_i hc
      rw [not_or] at hc
      have : 0 < l.length := List.length_pos_iff.2 hc.2
      rw [kF4 f g _ _ (by rw [List.length_drop]; omega) (by rw [List.length_drop]; omega)]
theorem kC5 {l : List UInt8} {n : Int} (h : n ≤ 0 ∨ l = []) : roff l n = 0 := by
  unfold roff
  cases hl : l.length with
  | zero => rfl
  | succ f => simp only [roffF]; rw [if_pos h]
theorem roff_step {l : List UInt8} {n : Int} (h1 : ¬ n ≤ 0) (h2 : l ≠ []) : roff l n = max (pnt l).2 1 + roff (l.drop (max (pnt l).2 1)) (n - 1) := by
  unfold roff
  have hpos : 0 < l.length := List.length_pos_iff.2 h2
  obtain ⟨f, hf⟩ : ∃ f, l.length = f + 1 := ⟨l.length - 1, by omega⟩
  rw [hf]
  simp only [roffF]
  rw [if_neg (by rw [not_or]; exact ⟨h1, h2⟩), kF4 f _ _ _ (by rw [List.length_drop]; omega) (Nat.le_refl _)]
theorem kEV : ∀ (cs : List Nat) (n : Int), (∀ c ∈ cs, okc c) → roff (encs cs) n = (encs (cs.take n.toNat)).length
  | [], n, _ => by rw [kC5 (.inr (show encs [] = [] from rfl))]; simp [encs]
  | c :: cs, n, h => by
    by_cases hn : n ≤ 0
    · rw [kC5 (.inl hn), show n.toNat = 0 by omega]; rfl
    · have hc := h c (by simp)
      have hw := j9 c
      have hne : encs (c :: cs) ≠ [] := by
        intro e
        have h2 := congrArg List.length e
        rw [kAB, List.length_nil] at h2; omega
      rw [roff_step hn hne, qS, pnt_enc hc]
      simp only
      rw [Nat.max_eq_left hw, show (enc c ++ encs cs).drop (wid c) = encs cs by rw [← jB c, List.drop_left], kEV cs _ (fun x hx => h x (by simp [hx])), show n.toNat = (n - 1).toNat + 1 by omega, List.take_succ_cons, kAB]
abbrev roffCon : Con where
  ι := Str × I64
  args := fun p => [.v (sv p.1.1), .v (.int .i64 p.2.1)]
  post := fun p r => r = .v (.int .i64 (roff p.1.1 p.2.1))
  plain := true
theorem roff_good : Rw.Good Tryz.prog 112 roffCon := by
  have hΓ : kL Tryz.prog [(84, kEx)] := (kE kCq kJ)
  refine kS (nn := 29) hΓ Tryz.func112 (by kernel_rfl) rfl (show Tryz.f112.results.toList = [.tmp 4] from rfl) (fun _ => rfl) (fun _ => rfl) ?_
  rintro ⟨⟨s, hs⟩, ⟨n, hn1, hn2⟩⟩
  simp only
  simp only [aR,N0,N1,N2,N3,N4,N5,Z0,Z1,Z2,Z3,Z4,Z5,Z6,Z7,Z8,Z9,Z10,Zc,↓reduceIte,reduceCtorEq]
  obtain ⟨St, hSt⟩ : ∃ St : { p : Int × Nat // -9223372036854775808 ≤ p.1 ∧ p.1 ≤ 9223372036854775807 ∧ p.2 ≤ s.length ∧ roff s n = p.2 + roff (s.drop p.2) p.1 } → AS, ∀ p, St p = AS.of 29 [(0, .v (sv s)), (1, .v (.int .i64 p.1.1)), (5, .v (.int .i64 p.1.2))] [] [] := ⟨_, fun _ => rfl⟩
  refine kX hΓ St (fun p => s.length - p.1.2) ⟨(n, 0), hn1, hn2, by omega, by simp⟩ (by rw [hSt]; refine kH [] [] ?_; simp only [aR,N0,N1,N2,N3,N4,N5,Z0,Z1,Z2,Z3,Z4,Z5,Z6,Z7,Z8,Z9,Z10,Zc,↓reduceIte,reduceCtorEq] <;> ((repeat' apply And.intro) <;> first | rfl | omega | trivial)) ?_
  rintro ⟨⟨m, i⟩, hm1, hm2, hi, hr⟩
  simp only at hm1 hm2 hi hr
  rw [hSt]
  simp only
  simp only [aR,N0,N1,N2,N3,N4,N5,Z0,Z1,Z2,Z3,Z4,Z5,Z6,Z7,Z8,Z9,Z10,Zc,↓reduceIte,reduceCtorEq]
  (try ((with_reducible first | refine kC (fun q1 => ?_) (fun q1 => ?_) | refine kF (fun q1 => ?_) (fun q1 => ?_)) <;> simp (disch := omega) only [aR,N0,N1,N2,N3,N4,N5,Z0,Z1,Z2,Z3,Z4,Z5,Z6,Z7,Z8,Z9,Z10,Zc,↓reduceIte,reduceCtorEq, kA, q1] <;> (with_reducible first | (refine And.intro ?_ ?_; focus (first | omega | exact kG | kernel_rfl)); (repeat (with_reducible refine And.intro ?_ ?_; focus (first | omega | exact kG | kernel_rfl))); (try simp (disch := omega) only [aR,N0,N1,N2,N3,N4,N5,Z0,Z1,Z2,Z3,Z4,Z5,Z6,Z7,Z8,Z9,Z10,Zc,↓reduceIte,reduceCtorEq, kA, q1]) | skip) <;> (try ((with_reducible first | refine kC (fun q2 => ?_) (fun q2 => ?_) | refine kF (fun q2 => ?_) (fun q2 => ?_)) <;> simp (disch := omega) only [aR,N0,N1,N2,N3,N4,N5,Z0,Z1,Z2,Z3,Z4,Z5,Z6,Z7,Z8,Z9,Z10,Zc,↓reduceIte,reduceCtorEq, kA, q2] <;> (with_reducible first | (refine And.intro ?_ ?_; focus (first | omega | exact kG | kernel_rfl)); (repeat (with_reducible refine And.intro ?_ ?_; focus (first | omega | exact kG | kernel_rfl))); (try simp (disch := omega) only [aR,N0,N1,N2,N3,N4,N5,Z0,Z1,Z2,Z3,Z4,Z5,Z6,Z7,Z8,Z9,Z10,Zc,↓reduceIte,reduceCtorEq, kA, q2]) | skip) <;> skip))))
  · have hlt : i < s.length := by omega
    refine kDL (by simp [kB]) hs hlt ?_
    have hne := drop_ne hlt
    have hsm := kE7 (s.drop i)
    have hpl := pnt_len hne
    rw [List.length_drop] at hpl
    rw [roff_step (by omega) hne, List.drop_drop] at hr
    unfold pntR
    generalize hq : pnt (s.drop i) = q at *
    obtain ⟨c, k⟩ := q
    simp only at hsm hpl hr
    have e1 : max (k : Int) 1 = ((max k 1 : Nat) : Int) := by omega
    simp (disch := omega) only [aR,N0,N1,N2,N3,N4,N5,Z0,Z1,Z2,Z3,Z4,Z5,Z6,Z7,Z8,Z9,Z10,Zc,↓reduceIte,reduceCtorEq, kA, kB7, zU, e1]
    refine kI ⟨(m - 1, i + max k 1), by omega, by omega, by omega, by show roff s n = (i + max k 1) + roff (s.drop (i + max k 1)) (m - 1); omega⟩ (by simp only; omega) ?_
    rw [hSt]; refine kH [] [] ?_
    simp only [aR,N0,N1,N2,N3,N4,N5,Z0,Z1,Z2,Z3,Z4,Z5,Z6,Z7,Z8,Z9,Z10,Zc,↓reduceIte,reduceCtorEq] <;> ((repeat' apply And.intro) <;> first | rfl | omega | trivial)
  all_goals
    first
    | rw [kC5 (l := s.drop i) (n := m) (.inl (by omega))] at hr
    | rw [kC5 (l := s.drop i) (n := m) (.inr (List.drop_of_length_le (by omega)))] at hr
    omega
theorem call_roff {Γ : Env} (hf : Γ.get 112 = some roffCon) {σ : AS} {dr : Bool} {l : List UInt8} {n : Int} {d : Option Nat} {K : AS → Prop} (h : l.length ≤ 1099511627776) (h1 : -9223372036854775808 ≤ n ∧ n ≤ 9223372036854775807)
    (hk : cont σ d (.v (.int .i64 (roff l n))) K) : kR Tryz.prog Γ dr σ 112 [.v (sv l), .v (.int .i64 n)] d K :=
  kK (C := roffCon) (i := (⟨l, h⟩, ⟨n, h1⟩)) hf rfl rfl rfl rfl (fun _ h => h) rfl hk
abbrev kBT : Con where
  ι := { p : List Nat × Int × Int // (∀ c ∈ p.1, okc c) ∧ (encs p.1).length ≤ 1099511627776 ∧ 0 ≤ p.2.1 ∧ p.2.1 ≤ p.2.2 ∧ p.2.2 ≤ p.1.length }
  args := fun p => [.v (sv (encs p.1.1)), .v (.int .i64 p.1.2.1), .v (.int .i64 p.1.2.2)]
  post := fun p r => r = .v (sv (encs ((p.1.1.drop p.1.2.1.toNat).take (p.1.2.2.toNat - p.1.2.1.toNat))))
  plain := true
theorem rslice_good : Rw.Good Tryz.prog 85 kBT := by
  have hΓ : kL Tryz.prog [(112, roffCon)] := (kE roff_good kJ)
  refine kS (nn := 15) hΓ Tryz.func85 (by kernel_rfl) rfl (show Tryz.f85.results.toList = [.tmp 6] from rfl) (fun _ => rfl) (fun _ => rfl) ?_
  rintro ⟨⟨cs, a, b⟩, hok, hl, h1, h2, h3⟩
  simp only at hok hl h1 h2 h3 ⊢
  have hcl := kCm cs
  simp only [aR,N0,N1,N2,N3,N4,N5,Z0,Z1,Z2,Z3,Z4,Z5,Z6,Z7,Z8,Z9,Z10,Zc,↓reduceIte,reduceCtorEq]
  refine call_roff (by simp [kB]) hl (by omega) ?_
  simp only [aR,N0,N1,N2,N3,N4,N5,Z0,Z1,Z2,Z3,Z4,Z5,Z6,Z7,Z8,Z9,Z10,Zc,↓reduceIte,reduceCtorEq]
  refine call_roff (by simp [kB]) hl (by omega) ?_
  rw [kEV cs a hok, kEV cs b hok]
  have hl1 := kBJ cs b.toNat
  have hl2 := kBu cs (a := a.toNat) (b := b.toNat) (by omega)
  simp only [aR,N0,N1,N2,N3,N4,N5,Z0,Z1,Z2,Z3,Z4,Z5,Z6,Z7,Z8,Z9,Z10,Zc,↓reduceIte,reduceCtorEq]
  (repeat (with_reducible refine And.intro ?_ ?_; focus (first | omega | exact kG | kernel_rfl)))
  rw [kFO cs (by omega)]
theorem call_rslice {Γ : Env} (hf : Γ.get 85 = some kBT) {σ : AS} {dr : Bool} {cs : List Nat} {a b : Int} {d : Option Nat} {K : AS → Prop} (h1 : ∀ c ∈ cs, okc c) (h2 : (encs cs).length ≤ 1099511627776) (h3 : 0 ≤ a ∧ a ≤ b ∧ b ≤ cs.length)
    (hk : cont σ d (.v (sv (encs ((cs.drop a.toNat).take (b.toNat - a.toNat))))) K) : kR Tryz.prog Γ dr σ 85 [.v (sv (encs cs)), .v (.int .i64 a), .v (.int .i64 b)] d K :=
  kK (C := kBT) (i := ⟨(cs, a, b), h1, h2, h3.1, h3.2.1, h3.2.2⟩) hf rfl rfl rfl rfl (fun _ h => h) rfl hk
end Go.Proofs
end
-- ZUt7
section
namespace Go.Proofs
open Go Go.Rw
set_option maxRecDepth 100000
theorem call_slice {Γ : Env} (hf : Γ.get 118 = some kBe) {σ : AS} {dr : Bool} {l : List UInt8} {a b : Int} {d : Option Nat} {K : AS → Prop} (h : l.length ≤ 1099511627776) (h1 : -9223372036854775808 ≤ a ∧ a ≤ 9223372036854775807) (h2 : -9223372036854775808 ≤ b ∧ b ≤ 9223372036854775807)
    (hk : cont σ d (kBH l a b) K) : kR Tryz.prog Γ dr σ 118 [.v (sv l), .v (.int .i64 a), .v (.int .i64 b)] d K :=
  kK (C := kBe) (i := (⟨l, h⟩, ⟨a, h1⟩, ⟨b, h2⟩)) hf rfl rfl rfl rfl (fun _ h => h) (sliceR_plain l a b) hk
abbrev trueCon : Con where
  ι := Unit
  args := fun _ => []
  post := fun _ r => r = .v (.bool true)
  plain := true
end Go.Proofs
end
