/-
  Library functions' bodies at this dump, compared by the kernel. utf.Valid tells just whether bytes are a text. utf.Count counts a text's code points. utf.Points, utf.Offset, utf.Slice. The reference's code points. The reference's texts; numbers turned into bounds; rows of numbers held against each other. The reference's offsets and pieces. What the document fixes of texts. Counts of an edit's parts; which parts may be. What was done: rows of it; whom it was done to. An act, taken in. An act, taken in: the call, reckoned in place. Which edits may be. Parts put behind others; the normal form. The document's normal form. Parts held against each other; edits that are alike. Names: what may be one. Transactions: their acts, one by one. txn.names, Plain, same. Transactions: whether they may be. txn.one, puts, Check. An edit of a place; what does nothing; the law's own readiness. OpOf answers true. Sums, held; how much an edit takes. Laws of the normal form. What the normal form keeps. Edits done, undone, found. Plain.
-/
import Derived.Shelf.Strings.Search1
import Derived.Shelf.Unicode.ValidAny
import Derived.Shelf.Small.Utf8
import Derived.Test.YtfhipjafkdembaaDoorProg
import Derived.Test.YtfhipjafkdembaaDoorXFTi
import Derived.Test.YtfhipjafkdembaaDoorRwF
import Derived.Test.YtfhipjafkdembaaDoorRwJ
set_option linter.unusedSimpArgs false
set_option linter.unusedVariables false
set_option linter.defProp false
set_option linter.unusedSectionVars false

-- FSh
section
namespace Go.Proofs
open Go.Shelf
def Tryd.lays196_ren : Go.Shelf.Ren := ⟨fun | 196 => 46 | 259 => 70 | n => n, fun | 0 => 0 | 3 => 3 | 4 => 4 | 5 => 5 | 9 => 9 | 12 => 12 | 46 => 78 | 53 => 95 | 119 => 103 | 138 => 105 | 139 => 106 | n => n, fun | 3 => 0 | 4 => 1 | n => n⟩
theorem Tryd.lays196 : Go.Proofs.Lays.n196 Tryd.prog Tryd.lays196_ren := {
  mixed := by kernel_rfl
  f196 := Tryd.func46.trans (congrArg some (by kernel_rfl))
  f259 := Tryd.func70.trans (congrArg some (by kernel_rfl))
  t0 := Tryd.underlying0
  a0 := Tryd.isAgg0
  z0 := Tryd.sizeOf0
  v0 := Tryd.zeroValue0
  t3 := Tryd.underlying3
  a3 := Tryd.isAgg3
  z3 := Tryd.sizeOf3
  v3 := Tryd.zeroValue3
  t4 := Tryd.underlying4
  a4 := Tryd.isAgg4
  z4 := Tryd.sizeOf4
  v4 := Tryd.zeroValue4
  t5 := Tryd.underlying5
  a5 := Tryd.isAgg5
  z5 := Tryd.sizeOf5
  v5 := Tryd.zeroValue5
  t9 := Tryd.underlying9
  a9 := Tryd.isAgg9
  z9 := Tryd.sizeOf9
  v9 := Tryd.zeroValue9
  t12 := Tryd.underlying12
  a12 := Tryd.isAgg12
  z12 := Tryd.sizeOf12
  v12 := Tryd.zeroValue12
  t46 := Tryd.underlying78
  a46 := Tryd.isAgg78
  z46 := Tryd.sizeOf78
  v46 := Tryd.zeroValue78
  t53 := Tryd.underlying95
  a53 := Tryd.isAgg95
  z53 := Tryd.sizeOf95
  v53 := Tryd.zeroValue95
  t119 := Tryd.underlying103
  a119 := Tryd.isAgg103
  z119 := Tryd.sizeOf103
  t138 := Tryd.underlying105
  a138 := Tryd.isAgg105
  z138 := Tryd.sizeOf105
  v138 := Tryd.zeroValue105
  t139 := Tryd.underlying106
  a139 := Tryd.isAgg106
  z139 := Tryd.sizeOf106
  v139 := Tryd.zeroValue106
  g3 := by kernel_rfl
  g4 := by kernel_rfl
}
def Tryd.lays217_ren : Go.Shelf.Ren := ⟨fun | 217 => 86 | 266 => 90 | n => n, fun | 3 => 3 | 5 => 5 | 9 => 9 | n => n, fun | n => n⟩
theorem Tryd.lays217 : Go.Proofs.Lays.n217 Tryd.prog Tryd.lays217_ren := {
  mixed := by kernel_rfl
  f217 := Tryd.func86.trans (congrArg some (by kernel_rfl))
  f266 := Tryd.func90.trans (congrArg some (by kernel_rfl))
  t3 := Tryd.underlying3
  a3 := Tryd.isAgg3
  z3 := Tryd.sizeOf3
  v3 := Tryd.zeroValue3
  t5 := Tryd.underlying5
  a5 := Tryd.isAgg5
  z5 := Tryd.sizeOf5
  v5 := Tryd.zeroValue5
  t9 := Tryd.underlying9
  a9 := Tryd.isAgg9
  z9 := Tryd.sizeOf9
  v9 := Tryd.zeroValue9
}
end Go.Proofs
end

-- FUt1
section
namespace Go.Proofs
open Go Go.Rw
set_option maxRecDepth 100000
set_option linter.unusedSimpArgs false
set_option linter.unusedVariables false

instance tabsU : Tabs where
  blk := fun g => g = 0 ∨ g = 1
  ok := fun w => Lib.Utf8Tabs 0 1 w
  stable := fun w w' h hw => by
    have h0 := fun i : Nat => World.cell?_of_block (a := ⟨0, i, none⟩) (h 0 (.inl rfl))
    have h1 := fun i : Nat => World.cell?_of_block (a := ⟨1, i, none⟩) (h 1 (.inr rfl))
    unfold Lib.Utf8Tabs at hw ⊢
    simp only [h0, h1]
    exact hw

abbrev Str := { l : List UInt8 // l.length ≤ 1099511627776 }

abbrev validSCon : Con where
  ι := Str
  args := fun s => [.v (sv s.1)]
  post := fun s r => r = .v (.bool (Lib.validD s.1))
  plain := true
theorem validS_good : Rw.Good Tryd.prog 46 validSCon := by
  refine good_below ⟨_, Tryd.func46, by kernel_rfl, by kernel_rfl⟩ rfl rfl fun s w F vs htb hs hv => ?_
  obtain ⟨s, hl⟩ := s
  have h0 := hv 0
  have e : vs = #[sv s] := by
    apply Array.ext (by simpa using hs)
    intro i h1 h2
    have : i = 0 := by simpa using h2
    subst this
    have h3 := VR.v_inv h0
    rw [Array.getD_eq_getD_getElem?, Array.getElem?_eq_getElem h1] at h3
    simpa using h3
  subst e
  refine (Any.utf8_ValidString Tryd.lays196 ⟨s.toArray⟩ w (by simp [ByteArray.size]; omega) htb.1).mono ?_
  rintro e w' ⟨rfl, hb⟩
  exact ⟨_, _, rfl, rfl, fun _ _ => .v _, rfl, hb⟩
theorem call_validS {Γ : Env} (hf : Γ.get 46 = some validSCon) {σ : AS} {dr : Bool} {l : List UInt8} {d : Option Nat} {K : AS → Prop} (h : l.length ≤ 1099511627776)
    (hk : cont σ d (.v (.bool (Lib.validD l))) K) : vcCall Tryd.prog Γ dr σ 46 [.v (sv l)] d K :=
  vcCall_plain (C := validSCon) (i := ⟨l, h⟩) hf rfl rfl rfl rfl (fun _ h => h) rfl hk

abbrev ibCon : Con where
  ι := List UInt8 × UInt8
  args := fun s => [.v (sv s.1), .v (.int .u8 s.2.toNat)]
  post := fun s r => r = .v (.int .i64 (Lib.indexByte s.1 s.2))
  plain := true
theorem ib_good : Rw.Good Tryd.prog 86 ibCon := by
  refine good_below ⟨_, Tryd.func86, by kernel_rfl, by kernel_rfl⟩ rfl rfl fun s w F vs htb hs hv => ?_
  obtain ⟨s, c⟩ := s
  have h0 := VR.v_inv (hv 0)
  have h1 := VR.v_inv (hv 1)
  have e : vs = #[sv s, .int .u8 c.toNat] := by
    apply Array.ext (by simpa using hs)
    intro i h2 h3
    rw [Array.getD_eq_getD_getElem?] at h0 h1
    have : i = 0 ∨ i = 1 := by have : i < 2 := by simpa using h3
                               omega
    rcases this with rfl | rfl
    · rw [Array.getElem?_eq_getElem h2] at h0; simpa using h0
    · rw [Array.getElem?_eq_getElem h2] at h1; simpa using h1
  subst e
  refine (Any.stringslite_IndexByte Tryd.lays217 ⟨s.toArray⟩ (c.toNat : Int) w).mono ?_
  rintro e w' ⟨rfl, rfl⟩
  have hc : (c.toNat : Int).toNat.toUInt8 = c := by simp
  exact ⟨_, _, rfl, rfl, fun _ _ => by simp only [hc]; exact .v _, rfl, .refl _ _⟩
theorem call_ib {Γ : Env} (hf : Γ.get 86 = some ibCon) {σ : AS} {dr : Bool} {l : List UInt8} {c : UInt8} {n : Int} {d : Option Nat} {K : AS → Prop} (hn : n = c.toNat)
    (hk : cont σ d (.v (.int .i64 (Lib.indexByte l c))) K) : vcCall Tryd.prog Γ dr σ 86 [.v (sv l), .v (.int .u8 n)] d K := by
  subst hn
  exact vcCall_plain (C := ibCon) (i := (l, c)) hf rfl rfl rfl rfl (fun _ h => h) rfl hk

theorem indexByte_mem : ∀ (l : List UInt8) (c : UInt8), -1 ≤ Lib.indexByte l c ∧ (0 ≤ Lib.indexByte l c ↔ c ∈ l)
  | [], c => by simp [Lib.indexByte]
  | x :: l, c => by
    have ih := indexByte_mem l c
    unfold Lib.indexByte
    by_cases h : x = c
    · subst h; simp
    · have h1 : (x == c) = false := by simpa using h
      rw [h1]
      simp only [Bool.false_eq_true, if_false, List.mem_cons]
      by_cases h2 : Lib.indexByte l c = -1
      · rw [h2]
        have h3 : c ∉ l := fun hc => by have := ih.2.2 hc; omega
        simp [h3]; exact fun e => h e.symm
      · have h3 : (Lib.indexByte l c == -1) = false := by simpa using h2
        rw [h3]
        simp only [Bool.false_eq_true, if_false]
        have h4 : c ∈ l := ih.2.1 (by omega)
        exact ⟨by omega, by simp [h4]; omega⟩

abbrev containsCon : Con where
  ι := Str
  args := fun s => [.v (sv s.1), .v (sv [0])]
  post := fun s r => r = .v (.bool (s.1.contains 0))
  plain := true
abbrev indexCon : Con where
  ι := Str
  args := fun s => [.v (sv s.1), .v (sv [0])]
  post := fun s r => ∃ i, r = .v (.int .i64 i) ∧ (0 ≤ i ↔ (0 : UInt8) ∈ s.1)
  plain := true
theorem index_good : Rw.Good Tryd.prog 83 indexCon := by
  have hΓ : GoodEnv Tryd.prog [(86, ibCon)] := (goodEnv_cons ib_good goodEnv_nil)
  refine good_fn (nn := 143) hΓ Tryd.func83 (by kernel_rfl) rfl (show Tryd.f83.results.toList = [.tmp 4] from rfl) (fun _ => rfl) (fun _ => rfl) ?_
  rintro ⟨s, hs⟩
  simp only [goRules, coreRules, tiRules, unRules, AS_of_eq, ← decide_not, seval]
  refine branchP_dec (fun h => ?_) (fun h => ?_)
  · simp only [goRules, coreRules, tiRules, unRules, AS_of_eq, ← decide_not, seval]
    exact ⟨0, rfl, by simp [← h]⟩
  · simp only [goRules, coreRules, tiRules, unRules, AS_of_eq, ← decide_not, seval]
    refine call_ib (c := 0) (by simp [get_cons]) (by simp) ?_
    simp only [goRules, coreRules, tiRules, unRules, AS_of_eq, ← decide_not, seval]
    exact ⟨_, rfl, (indexByte_mem s 0).2⟩

theorem sindex_good : Rw.Good Tryd.prog 71 indexCon := by
  have hΓ : GoodEnv Tryd.prog [(83, indexCon)] := (goodEnv_cons index_good goodEnv_nil)
  refine good_fn (nn := 8) hΓ Tryd.func71 (by kernel_rfl) rfl (show Tryd.f71.results.toList = [.tmp 4] from rfl) (fun _ => rfl) (fun _ => rfl) ?_
  rintro ⟨s, hs⟩
  simp only [goRules, coreRules, tiRules, unRules, AS_of_eq, ← decide_not, seval]
  refine vcCall_some (C := indexCon) (i := ⟨s, hs⟩) (by simp [get_cons]) rfl rfl rfl rfl (fun r ⟨i, hr, _⟩ => by rw [hr]; rfl) (fun r ⟨i, hr, h⟩ => ?_)
  subst hr
  simp only [goRules, coreRules, tiRules, unRules, AS_of_eq, ← decide_not, seval]
  exact ⟨i, rfl, h⟩

theorem contains_good : Rw.Good Tryd.prog 47 containsCon := by
  have hΓ : GoodEnv Tryd.prog [(71, indexCon)] := (goodEnv_cons sindex_good goodEnv_nil)
  refine good_fn (nn := 9) hΓ Tryd.func47 (by kernel_rfl) rfl (show Tryd.f47.results.toList = [.tmp 4] from rfl) (fun _ => rfl) (fun _ => rfl) ?_
  rintro ⟨s, hs⟩
  simp only [goRules, coreRules, tiRules, unRules, AS_of_eq, ← decide_not, seval]
  refine vcCall_some (C := indexCon) (i := ⟨s, hs⟩) (by simp [get_cons]) rfl rfl rfl rfl (fun r ⟨i, hr, _⟩ => by rw [hr]; rfl) (fun r ⟨i, hr, h⟩ => ?_)
  subst hr
  simp only [goRules, coreRules, tiRules, unRules, AS_of_eq, ← decide_not, seval]
  rw [Bool.eq_iff_iff]; simpa using h
theorem call_contains {Γ : Env} (hf : Γ.get 47 = some containsCon) {σ : AS} {dr : Bool} {l : List UInt8} {d : Option Nat} {K : AS → Prop} (h : l.length ≤ 1099511627776)
    (hk : cont σ d (.v (.bool (l.contains 0))) K) : vcCall Tryd.prog Γ dr σ 47 [.v (sv l), .v (sv [0])] d K :=
  vcCall_plain (C := containsCon) (i := ⟨l, h⟩) hf rfl rfl rfl rfl (fun _ h => h) rfl hk

abbrev validCon : Con where
  ι := Str
  args := fun s => [.v (sv s.1)]
  post := fun s r => r = .v (.bool (pts s.1).isSome)
  plain := true
theorem valid_good : Rw.Good Tryd.prog 36 validCon := by
  have hΓ : GoodEnv Tryd.prog [(46, validSCon), (47, containsCon)] := (goodEnv_cons validS_good (goodEnv_cons contains_good goodEnv_nil))
  refine good_fn (nn := 10) hΓ Tryd.func36 (by kernel_rfl) rfl (show Tryd.f36.results.toList = [.tmp 2] from rfl) (fun _ => rfl) (fun _ => rfl) ?_
  rintro ⟨s, hs⟩
  simp only [goRules, coreRules, tiRules, unRules, AS_of_eq, ← decide_not, seval]
  refine call_validS (by simp [get_cons]) hs ?_
  have key := valid_pts _ s (Nat.le_refl _)
  simp only [goRules, coreRules, tiRules, unRules, AS_of_eq, ← decide_not, seval]
  cases hv : Lib.validD s with
  | false =>
    rw [hv] at key
    simp only [goRules, coreRules, tiRules, unRules, AS_of_eq, ← decide_not, seval]
    rw [← key]; rfl
  | true =>
    rw [hv] at key
    simp only [goRules, coreRules, tiRules, unRules, AS_of_eq, ← decide_not, seval]
    refine call_contains (by simp [get_cons]) hs ?_
    simp only [goRules, coreRules, tiRules, unRules, AS_of_eq, ← decide_not, seval]
    rw [← key]; rfl
theorem call_valid {Γ : Env} (hf : Γ.get 36 = some validCon) {σ : AS} {dr : Bool} {l : List UInt8} {d : Option Nat} {K : AS → Prop} (h : l.length ≤ 1099511627776)
    (hk : cont σ d (.v (.bool (pts l).isSome)) K) : vcCall Tryd.prog Γ dr σ 36 [.v (sv l)] d K :=
  vcCall_plain (C := validCon) (i := ⟨l, h⟩) hf rfl rfl rfl rfl (fun _ h => h) rfl hk
end Go.Proofs
end

-- FUt2
section
namespace Go.Proofs
open Go Go.Rw
set_option maxRecDepth 100000
set_option linter.unusedSimpArgs false
set_option linter.unusedVariables false

theorem and192 {b : UInt8} : IntKind.wrap .u8 ((BitVec.ofInt IntKind.u8.bits (b.toNat : Int) &&& BitVec.ofInt IntKind.u8.bits 192).toNat : Nat) = ((b.toNat / 64 * 64 : Nat) : Int) := by
  have key : ∀ m : Nat, m < 256 → (BitVec.ofInt IntKind.u8.bits (m : Int) &&& BitVec.ofInt IntKind.u8.bits 192).toNat = m / 64 * 64 := by decide +kernel
  have hb := b.toNat_lt
  rw [key _ (by omega), wrap_u8 (by omega) (by omega)]

abbrev startCon : Con where
  ι := UInt8
  args := fun b => [.v (.int .u8 b.toNat)]
  post := fun b r => r = .v (.bool (decide (¬ (128 ≤ b.toNat ∧ b.toNat < 192))))
  plain := true
theorem start_good : Rw.Good Tryd.prog 37 startCon := by
  have hΓ : GoodEnv Tryd.prog [] := goodEnv_nil
  refine good_fn (nn := 6) hΓ Tryd.func37 (by kernel_rfl) rfl (show Tryd.f37.results.toList = [.tmp 2] from rfl) (fun _ => rfl) (fun _ => rfl) ?_
  intro b
  simp only [goRules, coreRules, tiRules, unRules, AS_of_eq, ← decide_not, seval, and192]
  rw [Bool.eq_iff_iff]; simp; omega
theorem call_start {Γ : Env} (hf : Γ.get 37 = some startCon) {σ : AS} {dr : Bool} {b : UInt8} {n : Int} {d : Option Nat} {K : AS → Prop} (hn : n = b.toNat)
    (hk : cont σ d (.v (.bool (decide (¬ (128 ≤ b.toNat ∧ b.toNat < 192))))) K) : vcCall Tryd.prog Γ dr σ 37 [.v (.int .u8 n)] d K := by
  subst hn
  exact vcCall_plain (C := startCon) (i := b) hf rfl rfl rfl rfl (fun _ h => h) rfl hk

theorem opt_cases {α : Type} (x : Option α) : x = none ∨ ∃ a, x = some a := by cases x <;> simp

/-- An answer and an error's number. -/
def res2 (a : AV) (e : Int) : AV := .tup [a, .v (.int .i64 e)]
def countR (l : List UInt8) : AV := match pts l with
  | some cs => res2 (.v (.int .i64 cs.length)) 0
  | none => res2 (.v (.int .i64 0)) 2
theorem countR_plain (l : List UInt8) : (countR l).plain = true := by unfold countR; split <;> rfl

abbrev countCon : Con where
  ι := Str
  args := fun s => [.v (sv s.1)]
  post := fun s r => r = countR s.1
  plain := true
theorem count_good : Rw.Good Tryd.prog 26 countCon := by
  have hΓ : GoodEnv Tryd.prog [(36, validCon), (37, startCon)] := (goodEnv_cons valid_good (goodEnv_cons start_good goodEnv_nil))
  refine good_fn (nn := 30) hΓ Tryd.func26 (by kernel_rfl) rfl (show Tryd.f26.results.toList = [.tmp 2, .tmp 3] from rfl) (fun _ => rfl) (fun _ => rfl) ?_
  rintro ⟨s, hs⟩
  simp only [goRules, coreRules, tiRules, unRules, AS_of_eq, ← decide_not, seval]
  obtain ⟨St, hSt⟩ : ∃ St : { p : List Nat × List Nat // pts s = some (p.1 ++ p.2) } → AS, ∀ p, St p = AS.of 30 [(0, .v (sv s)), (2, .v (.int .i64 p.1.1.length)), (4, .v (.int .i64 (encs p.1.1).length))] [] [] := ⟨_, fun _ => rfl⟩
  refine vc_lab hΓ 1 St (fun p => p.1.2.length) 1 rfl rfl ?_ ?_
  · rintro ⟨⟨pre, post⟩, hp⟩
    simp only at hp
    obtain ⟨hok, hse⟩ := pts_some hp
    rw [hSt]
    have hl := congrArg List.length hse
    rw [encs_app, List.length_append] at hl
    have hpl := encs_le pre
    simp only [goRules, coreRules, tiRules, unRules, AS_of_eq, ← decide_not, seval]
    refine branchP_dec (fun h => ?_) (fun h => ?_)
    · simp only [goRules, coreRules, tiRules, unRules, AS_of_eq, ← decide_not, seval]
      refine ⟨_, rfl, ?_⟩
      simp only [goRules, coreRules, tiRules, unRules, AS_of_eq, ← decide_not, seval]
      have : post = [] := by
        cases post with
        | nil => rfl
        | cons c cs => have := encs_pos (c := c) (cs := cs); omega
      subst this
      unfold countR
      rw [hp, List.append_nil]; rfl
    · cases post with
      | nil => rw [encs_nil, List.length_nil] at hl; omega
      | cons c cs =>
        have hc := hok c (by simp)
        have hw := wid_pos c
        have hcl := enc_len c
        rw [encs_cons, List.length_append, hcl] at hl
        rw [encs_app, encs_cons] at hse
        simp (disch := omega) only [goRules, coreRules, tiRules, unRules, AS_of_eq, ← decide_not, seval, wrap_i64, wrap_i64]
        obtain ⟨St2, hSt2⟩ : ∃ St2 : { j : Nat // 1 ≤ j ∧ j ≤ wid c } → AS, ∀ j, St2 j = AS.of 30 [(0, .v (sv s)), (2, .v (.int .i64 pre.length)), (4, .v (.int .i64 ((encs pre).length + j.1 : Nat)))] [] [] := ⟨_, fun _ => rfl⟩
        refine vc_loop hΓ St2 (fun j => wid c - j.1) ⟨1, by omega⟩ (by rw [hSt2]; refine weak_go [] [] ?_; simp only [goRules, coreRules, tiRules, unRules, AS_of_eq, ← decide_not, seval]; rfl) ?_
        rintro ⟨j, hj1, hj2⟩
        rw [hSt2]
        simp only
        simp only [goRules, coreRules, tiRules, unRules, AS_of_eq, ← decide_not, seval]
        have hlast : ∀ σ : AS, j = wid c → Weak σ (AS.of 30 [(0, .v (sv s)), (2, .v (.int .i64 (pre.length + 1 : Nat))), (4, .v (.int .i64 ((encs pre).length + wid c : Nat)))] [] []) → ∃ y : { p : List Nat × List Nat // pts s = some (p.1 ++ p.2) }, y.1.2.length < (c :: cs).length ∧ Weak σ (St y) := by
          intro σ hj hw
          refine ⟨⟨(pre ++ [c], cs), by simpa using hp⟩, by simp, ?_⟩
          rw [hSt]
          simp only [encs_app, List.length_append, encs_cons, encs_nil, List.append_nil, hcl, List.length_cons, List.length_nil, Nat.zero_add]
          exact hw
        refine guardB_dec (fun h2 => ?_) (fun h2 => ?_)
        · simp (disch := omega) only [goRules, coreRules, tiRules, unRules, AS_of_eq, ← decide_not, seval, wrap_i64, wrap_i64, h2]
          refine ⟨by omega, ?_⟩
          refine call_start (by simp [get_cons]) rfl ?_
          simp only [goRules, coreRules, tiRules, unRules, AS_of_eq, ← decide_not, seval, h2]
          refine branchP_dec (fun h3 => ?_) (fun h3 => ?_)
          · simp (disch := omega) only [goRules, coreRules, tiRules, unRules, AS_of_eq, ← decide_not, seval, wrap_i64, wrap_i64]
            have hj3 : j < wid c := by
              rcases Nat.lt_or_ge j (wid c) with h4 | h4
              · exact h4
              · exfalso
                have hjw : j = wid c := by omega
                cases cs with
                | nil => rw [encs_nil, List.length_nil] at hl; omega
                | cons c2 cs =>
                  have h5 := enc_head (hok c2 (by simp))
                  have h6 : s.getD ((encs pre).length + j) 0 = (enc c2).getD 0 0 := by
                    rw [hse, encs_cons, ← List.append_assoc, hjw, ← hcl, ← List.length_append]
                    exact getD_mid (j := 0) (by rw [enc_len]; exact wid_pos c2)
                  rw [h6] at h3
                  omega
            refine weak_again ⟨j + 1, by omega⟩ (by simp only; omega) ?_
            rw [hSt2]; refine weak_go [] [] ?_
            simp only [goRules, coreRules, tiRules, unRules, AS_of_eq, ← decide_not, seval] <;> ((repeat' apply And.intro) <;> first | rfl | omega | trivial)
          · have hjw : j = wid c := by
              rcases Nat.lt_or_ge j (wid c) with h4 | h4
              · exfalso
                have h5 := enc_cont hc hj1 h4
                have h6 : s.getD ((encs pre).length + j) 0 = (enc c).getD j 0 := by
                  rw [hse]; exact getD_mid (by rw [hcl]; exact h4)
                rw [h6] at h3
                omega
              · omega
            subst hjw
            simp (disch := omega) only [goRules, coreRules, tiRules, unRules, AS_of_eq, ← decide_not, seval, wrap_i64, wrap_i64]
            refine hlast _ rfl ?_
            refine weak_go [] [] ?_
            simp only [goRules, coreRules, tiRules, unRules, AS_of_eq, ← decide_not, seval] <;> ((repeat' apply And.intro) <;> first | rfl | omega | trivial)
        · have hjw : j = wid c := by omega
          subst hjw
          simp (disch := omega) only [goRules, coreRules, tiRules, unRules, AS_of_eq, ← decide_not, seval, wrap_i64, wrap_i64, h2]
          refine hlast _ rfl ?_
          refine weak_go [] [] ?_
          simp only [goRules, coreRules, tiRules, unRules, AS_of_eq, ← decide_not, seval] <;> ((repeat' apply And.intro) <;> first | rfl | omega | trivial)
  · simp only [goRules, coreRules, tiRules, unRules, AS_of_eq, ← decide_not, seval]
    refine call_valid (by simp [get_cons]) hs ?_
    simp only [goRules, coreRules, tiRules, unRules, AS_of_eq, ← decide_not, seval]
    rcases opt_cases (pts s) with hp | ⟨cs, hp⟩
    · simp only [goRules, coreRules, tiRules, unRules, AS_of_eq, ← decide_not, seval, hp, Option.isSome_none]
      unfold countR
      rw [hp]; rfl
    · simp only [goRules, coreRules, tiRules, unRules, AS_of_eq, ← decide_not, seval, hp, Option.isSome_some]
      refine ⟨⟨([], cs), hp⟩, ?_⟩
      rw [hSt]; refine weak_go [] [] ?_
      simp only [goRules, coreRules, tiRules, unRules, AS_of_eq, ← decide_not, seval]
      rfl
end Go.Proofs
end

-- FUt3
section
namespace Go.Proofs
open Go Go.Rw
set_option maxRecDepth 100000
set_option linter.unusedSimpArgs false
set_option linter.unusedVariables false

def nats (l : List Nat) : List AV := ints .i64 (l.map fun (c : Nat) => (c : Int))
theorem call_count {Γ : Env} (hf : Γ.get 26 = some countCon) {σ : AS} {dr : Bool} {l : List UInt8} {d : Option Nat} {K : AS → Prop} (h : l.length ≤ 1099511627776)
    (hk : cont σ d (countR l) K) : vcCall Tryd.prog Γ dr σ 26 [.v (sv l)] d K :=
  vcCall_plain (C := countCon) (i := ⟨l, h⟩) hf rfl rfl rfl rfl (fun _ h => h) (countR_plain l) hk
abbrev I64 := { n : Int // -9223372036854775808 ≤ n ∧ n ≤ 9223372036854775807 }
end Go.Proofs
end

-- FUt4
section
namespace Go.Proofs
open Go Go.Rw
set_option maxRecDepth 100000
set_option linter.unusedSimpArgs false
set_option linter.unusedVariables false

end Go.Proofs
end

-- FUt5
section
namespace Go.Proofs
open Go Go.Rw
set_option maxRecDepth 100000
set_option linter.unusedSimpArgs false
set_option linter.unusedVariables false

theorem drop_ne {l : List UInt8} {i : Nat} (h : i < l.length) : l.drop i ≠ [] := by
  intro e
  have this := congrArg List.length e
  rw [List.length_drop, List.length_nil] at this; omega
def rpointsR (l : List UInt8) : AV := match pts l with
  | some cs => .tup [.sl 0 1 (nats cs), .v (.bool true)]
  | none => .tup [.sl 0 1 [], .v (.bool false)]
def cnt (l : List UInt8) : Nat := match pts l with | some cs => cs.length | none => 0
abbrev roundCon : Con where
  ι := I64 × { n : Int // 1 ≤ n ∧ n ≤ 4611686018427387904 }
  args := fun p => [.v (.int .i64 p.1.1), .v (.int .i64 p.2.1)]
  post := fun p r => r = .v (.int .i64 (p.1.1 % p.2.1))
  plain := true
theorem emod_tmod {k n : Int} (h : 1 ≤ n) : k % n = if k.tmod n < 0 then k.tmod n + n else k.tmod n := by
  have h3 := Int.emod_nonneg k (show n ≠ 0 by omega)
  have h4 := Int.emod_lt_of_pos k (show 0 < n by omega)
  have h5 : k.tmod n = k % n - if 0 ≤ k ∨ n ∣ k then 0 else n.natAbs := Int.tmod_eq_emod
  have h6 : (n.natAbs : Int) = n := by omega
  rw [h5]
  by_cases hc : 0 ≤ k ∨ n ∣ k
  · rw [if_pos hc, if_neg (by omega)]; omega
  · rw [if_neg hc, h6, if_pos (by omega)]; omega
theorem round_good : Rw.Good Tryd.prog 15 roundCon := by
  have hΓ : GoodEnv Tryd.prog [] := goodEnv_nil
  refine good_fn (nn := 14) hΓ Tryd.func15 (by kernel_rfl) rfl (show Tryd.f15.results.toList = [.tmp 4] from rfl) (fun _ => rfl) (fun _ => rfl) ?_
  rintro ⟨⟨k, hk1, hk2⟩, ⟨n, hn1, hn2⟩⟩
  simp only
  have h3 := emod_tmod (k := k) hn1
  have h4 := Int.emod_nonneg k (show n ≠ 0 by omega)
  have h5 := Int.emod_lt_of_pos k (show 0 < n by omega)
  simp (disch := omega) only [goRules, coreRules, tiRules, unRules, AS_of_eq, ← decide_not, seval, wrap_i64, show ¬ n = 0 by omega]
  (try ((with_reducible first | refine branchP_dec (fun q1 => ?_) (fun q1 => ?_) | refine guardB_dec (fun q1 => ?_) (fun q1 => ?_)) <;> simp (disch := omega) only [goRules, coreRules, tiRules, unRules, AS_of_eq, ← decide_not, seval, wrap_i64, q1] <;> (with_reducible first | (refine And.intro ?_ ?_; focus (first | omega | exact mixed1 | kernel_rfl)); (repeat (with_reducible refine And.intro ?_ ?_; focus (first | omega | exact mixed1 | kernel_rfl))); (try simp (disch := omega) only [goRules, coreRules, tiRules, unRules, AS_of_eq, ← decide_not, seval, wrap_i64, q1]) | skip) <;> skip))
  all_goals (rw [h3]; first | rw [if_pos (by assumption)] | rw [if_neg (by assumption)])
theorem call_round {Γ : Env} (hf : Γ.get 15 = some roundCon) {σ : AS} {dr : Bool} {k n : Int} {d : Option Nat} {K : AS → Prop} (h1 : -9223372036854775808 ≤ k ∧ k ≤ 9223372036854775807) (h2 : 1 ≤ n ∧ n ≤ 4611686018427387904)
    (hk : cont σ d (.v (.int .i64 (k % n))) K) : vcCall Tryd.prog Γ dr σ 15 [.v (.int .i64 k), .v (.int .i64 n)] d K :=
  vcCall_plain (C := roundCon) (i := (⟨k, h1⟩, ⟨n, h2⟩)) hf rfl rfl rfl rfl (fun _ h => h) rfl hk

theorem mixed1 : Tryd.prog.follows .mixedOrders = true := by kernel_rfl
end Go.Proofs
end

-- FUt6
section
namespace Go.Proofs
open Go Go.Rw
set_option maxRecDepth 100000
set_option linter.unusedSimpArgs false
set_option linter.unusedVariables false

end Go.Proofs
end

-- FUt7
section
namespace Go.Proofs
open Go Go.Rw
set_option maxRecDepth 100000
set_option linter.unusedSimpArgs false
set_option linter.unusedVariables false

end Go.Proofs
end

-- FUo1
section
namespace Go.Proofs
open Go Go.Rw
set_option maxRecDepth 100000
set_option linter.unusedSimpArgs false
set_option linter.unusedVariables false

abbrev addCon : Con where
  ι := { p : Int × Int // 0 ≤ p.1 ∧ p.1 ≤ 1099511627776 ∧ 0 ≤ p.2 ∧ p.2 ≤ 9223372036854775807 }
  args := fun p => [.v (.int .i64 p.1.1), .v (.int .i64 p.1.2)]
  post := fun p r => r = .v (.int .i64 (addI p.1.1 p.1.2))
  plain := true
theorem add_good : Rw.Good Tryd.prog 69 addCon := by
  have hΓ : GoodEnv Tryd.prog [] := goodEnv_nil
  refine good_fn (nn := 12) hΓ Tryd.func69 (by kernel_rfl) rfl (show Tryd.f69.results.toList = [.tmp 4] from rfl) (fun _ => rfl) (fun _ => rfl) ?_
  rintro ⟨⟨n, m⟩, h1, h2, h3, h4⟩
  simp only at h1 h2 h3 h4 ⊢
  simp (disch := omega) only [goRules, coreRules, tiRules, unRules, AS_of_eq, ← decide_not, seval, wrap_i64]
  (try ((with_reducible first | refine branchP_dec (fun q1 => ?_) (fun q1 => ?_) | refine guardB_dec (fun q1 => ?_) (fun q1 => ?_)) <;> simp (disch := omega) only [goRules, coreRules, tiRules, unRules, AS_of_eq, ← decide_not, seval, wrap_i64, q1] <;> (with_reducible first | (refine And.intro ?_ ?_; focus (first | omega | exact mixed1 | kernel_rfl)); (repeat (with_reducible refine And.intro ?_ ?_; focus (first | omega | exact mixed1 | kernel_rfl))); (try simp (disch := omega) only [goRules, coreRules, tiRules, unRules, AS_of_eq, ← decide_not, seval, wrap_i64, q1]) | skip) <;> skip))
  all_goals (unfold addI; omega)
theorem call_add {Γ : Env} (hf : Γ.get 69 = some addCon) {σ : AS} {dr : Bool} {n m : Int} {d : Option Nat} {K : AS → Prop} (h : 0 ≤ n ∧ n ≤ 1099511627776) (h2 : 0 ≤ m ∧ m ≤ 9223372036854775807)
    (hk : cont σ d (.v (.int .i64 (addI n m))) K) : vcCall Tryd.prog Γ dr σ 69 [.v (.int .i64 n), .v (.int .i64 m)] d K :=
  vcCall_plain (C := addCon) (i := ⟨(n, m), h.1, h.2, h2.1, h2.2⟩) hf rfl rfl rfl rfl (fun _ h => h) rfl hk

abbrev Ed := { l : List Cp // okL l }
theorem comps_er (l : List Cp) : AV.erL (comps l) = comps l := by
  induction l with
  | nil => rfl
  | cons c r ih => show AV.er (cA c) :: AV.erL (comps r) = _; rw [ih]; rfl

abbrev baseCon : Con where
  ι := Ed
  args := fun l => [.sl 0 3 (comps l.1)]
  post := fun l r => r = .v (.int .i64 (baseL l.1))
  plain := true
theorem base_good : Rw.Good Tryd.prog 45 baseCon := by
  have hΓ : GoodEnv Tryd.prog [(69, addCon)] := (goodEnv_cons add_good goodEnv_nil)
  refine good_fn (nn := 26) hΓ Tryd.func45 (by kernel_rfl) rfl (show Tryd.f45.results.toList = [.tmp 2] from rfl) (fun _ => rfl) (fun _ => rfl) ?_
  rintro ⟨l, hl, htot, hc⟩
  simp only [goRules, coreRules, tiRules, unRules, AS_of_eq, ← decide_not, seval, comps_len]
  obtain ⟨St, hSt⟩ : ∃ St : { p : Int × Nat // p.2 ≤ l.length ∧ 0 ≤ p.1 ∧ p.1 ≤ 1099511627776 ∧ baseL l = baseF p.1 (l.drop p.2) } → AS, ∀ p, St p = AS.of 26 [(2, .v (.int .i64 p.1.1)), (5, .sl 0 3 (comps l)), (6, .v (.int .i64 l.length)), (7, .v (.int .i64 p.1.2))] [] [] := ⟨_, fun _ => rfl⟩
  refine vc_loop hΓ St (fun p => l.length - p.1.2) ⟨(0, 0), by omega, by omega, by omega, rfl⟩ (by rw [hSt]; refine weak_go [] [] ?_; simp only [goRules, coreRules, tiRules, unRules, AS_of_eq, ← decide_not, seval] <;> ((repeat' apply And.intro) <;> first | rfl | omega | trivial)) ?_
  rintro ⟨⟨n, i⟩, hi, hn1, hn2, hb⟩
  simp only at hi hn1 hn2 hb
  rw [hSt]
  simp only
  simp only [goRules, coreRules, tiRules, unRules, AS_of_eq, ← decide_not, seval]
  (with_reducible first | refine branchP_dec (fun h => ?_) (fun h => ?_) | refine guardB_dec (fun h => ?_) (fun h => ?_))
  · have hlt : i < l.length := by omega
    have hci := And.intro (hc l[i] (List.getElem_mem hlt)) (okL.text ⟨hl, htot, hc⟩ (List.getElem_mem hlt))
    have e1 := comps_getD l hlt
    rw [List.drop_eq_getElem_cons hlt] at hb
    simp only [baseF] at hb
    generalize l[i] = c at *
    obtain ⟨k, m, t⟩ := c
    simp only at hci hb e1
    have yes : (k = 1 ∨ k = 3) → baseL l = baseF (addI n (max m 0)) (l.drop (i + 1)) := fun h => by rw [hb, if_pos h]
    have no : ¬ (k = 1 ∨ k = 3) → baseL l = baseF n (l.drop (i + 1)) := fun h => by rw [hb, if_neg h]
    have hr := addI_range hn1 (show 0 ≤ max m 0 by omega)
    simp (disch := omega) only [goRules, coreRules, tiRules, unRules, AS_of_eq, ← decide_not, seval, wrap_i64, h, e1, comps_len]
    (repeat (with_reducible refine And.intro ?_ ?_; focus (first | omega | exact mixed1 | kernel_rfl)))
    (try ((with_reducible first | refine branchP_dec (fun q1 => ?_) (fun q1 => ?_) | refine guardB_dec (fun q1 => ?_) (fun q1 => ?_)) <;> simp (disch := omega) only [goRules, coreRules, tiRules, unRules, AS_of_eq, ← decide_not, seval, wrap_i64, q1, max2_int] <;> (with_reducible first | (refine And.intro ?_ ?_; focus (first | omega | exact mixed1 | kernel_rfl)); (repeat (with_reducible refine And.intro ?_ ?_; focus (first | omega | exact mixed1 | kernel_rfl))); (try simp (disch := omega) only [goRules, coreRules, tiRules, unRules, AS_of_eq, ← decide_not, seval, wrap_i64, q1, max2_int]) | skip) <;> (try ((with_reducible first | refine branchP_dec (fun q2 => ?_) (fun q2 => ?_) | refine guardB_dec (fun q2 => ?_) (fun q2 => ?_)) <;> simp (disch := omega) only [goRules, coreRules, tiRules, unRules, AS_of_eq, ← decide_not, seval, wrap_i64, q2, max2_int] <;> (with_reducible first | (refine And.intro ?_ ?_; focus (first | omega | exact mixed1 | kernel_rfl)); (repeat (with_reducible refine And.intro ?_ ?_; focus (first | omega | exact mixed1 | kernel_rfl))); (try simp (disch := omega) only [goRules, coreRules, tiRules, unRules, AS_of_eq, ← decide_not, seval, wrap_i64, q2, max2_int]) | skip) <;> skip))))
    all_goals first
      | (refine call_add (by simp [get_cons]) ⟨hn1, hn2⟩ (by omega) ?_
         simp (disch := omega) only [goRules, coreRules, tiRules, unRules, AS_of_eq, ← decide_not, seval, wrap_i64]
         refine weak_again ⟨(addI n (max m 0), i + 1), by omega, hr.1, hr.2, yes (by omega)⟩ (by simp only; omega) ?_
         rw [hSt]; refine weak_go [] [] ?_
         simp only [goRules, coreRules, tiRules, unRules, AS_of_eq, ← decide_not, seval] <;> ((repeat' apply And.intro) <;> first | rfl | omega | trivial))
      | (refine weak_again ⟨(n, i + 1), by omega, hn1, hn2, no (by omega)⟩ (by simp only; omega) ?_
         rw [hSt]; refine weak_go [] [] ?_
         simp only [goRules, coreRules, tiRules, unRules, AS_of_eq, ← decide_not, seval] <;> ((repeat' apply And.intro) <;> first | rfl | omega | trivial))
      | trace_state
  · simp only [goRules, coreRules, tiRules, unRules, AS_of_eq, ← decide_not, seval, h]
    rw [List.drop_of_length_le (by omega)] at hb
    rw [hb]; rfl
theorem call_base {Γ : Env} (hf : Γ.get 45 = some baseCon) {σ : AS} {dr : Bool} {l : List Cp} {t : Nat} {ys : List AV} {d : Option Nat} {K : AS → Prop} (hy : ys = comps l) (h : okL l)
    (hk : cont σ d (.v (.int .i64 (baseL l))) K) : vcCall Tryd.prog Γ dr σ 45 [.sl t 3 ys] d K := by
  subst hy
  exact vcCall_plain (C := baseCon) (i := ⟨l, h⟩) hf rfl rfl rfl rfl (fun _ h => h) rfl hk

abbrev rcCon : Con where
  ι := Str
  args := fun s => [.v (sv s.1)]
  post := fun s r => r = .v (.int .i64 (lc s.1))
  plain := true
theorem dec2_lc {s : List UInt8} {p : Nat} : dec2 s p = (Lib.decodeL (s.drop p)).2 := by unfold dec2; rw [decodeL_dropL]
theorem rc_good : Rw.Good Tryd.prog 82 rcCon := by
  have hΓ : GoodEnv Tryd.prog [] := goodEnv_nil
  refine good_fn (nn := 10) hΓ Tryd.func82 (by kernel_rfl) rfl (show Tryd.f82.results.toList = [.tmp 2] from rfl) (fun _ => rfl) (fun _ => rfl) ?_
  rintro ⟨s, hs⟩
  simp only [goRules, coreRules, tiRules, unRules, AS_of_eq, ← decide_not, seval]
  have hll := lc_len s
  obtain ⟨St, hSt⟩ : ∃ St : { p : Nat × Nat // p.1 + lc (s.drop p.2) = lc s } → AS, ∀ p, St p = AS.of 10 [(2, .v (.int .i64 p.1.1)), (4, .ptr 0 0)] [.iter ⟨s.toArray⟩ p.1.2] [] := ⟨_, fun _ => rfl⟩
  refine vc_loop hΓ St (fun p => s.length - p.1.2) ⟨(0, 0), by simp⟩ (by rw [hSt]; refine weak_go [0] [] ?_; simp only [goRules, coreRules, tiRules, unRules, AS_of_eq, ← decide_not, seval] <;> ((repeat' apply And.intro) <;> first | rfl | omega | trivial)) ?_
  rintro ⟨⟨n, p⟩, hn⟩
  simp only at hn
  rw [hSt]
  simp only
  simp only [goRules, coreRules, tiRules, unRules, AS_of_eq, ← decide_not, seval]
  by_cases hp : p < s.length
  · rw [nextO_in hp]
    have hw := Lib.decodeL_width (s.drop p)
    rw [lc_step (drop_ne hp), List.drop_drop] at hn
    simp (disch := omega) only [goRules, coreRules, tiRules, unRules, AS_of_eq, ← decide_not, seval, wrap_i64, dec2_lc]
    refine weak_again ⟨(n + 1, p + (Lib.decodeL (s.drop p)).2), by simp only; omega⟩ (by simp only; omega) ?_
    rw [hSt]; refine weak_go [0] [] ?_
    simp only [goRules, coreRules, tiRules, unRules, AS_of_eq, ← decide_not, seval] <;> ((repeat' apply And.intro) <;> first | rfl | omega | trivial)
  · rw [nextO_end hp]
    rw [List.drop_of_length_le (by omega), lc_nil] at hn
    simp only [goRules, coreRules, tiRules, unRules, AS_of_eq, ← decide_not, seval]
    omega
theorem call_rc {Γ : Env} (hf : Γ.get 82 = some rcCon) {σ : AS} {dr : Bool} {l : List UInt8} {d : Option Nat} {K : AS → Prop} (h : l.length ≤ 1099511627776)
    (hk : cont σ d (.v (.int .i64 (lc l))) K) : vcCall Tryd.prog Γ dr σ 82 [.v (sv l)] d K :=
  vcCall_plain (C := rcCon) (i := ⟨l, h⟩) hf rfl rfl rfl rfl (fun _ h => h) rfl hk

abbrev outCon : Con where
  ι := Ed
  args := fun l => [.sl 0 3 (comps l.1)]
  post := fun l r => r = .v (.int .i64 (outL l.1))
  plain := true
theorem out_good : Rw.Good Tryd.prog 68 outCon := by
  have hΓ : GoodEnv Tryd.prog [(69, addCon), (82, rcCon)] := (goodEnv_cons add_good (goodEnv_cons rc_good goodEnv_nil))
  refine good_fn (nn := 29) hΓ Tryd.func68 (by kernel_rfl) rfl (show Tryd.f68.results.toList = [.tmp 2] from rfl) (fun _ => rfl) (fun _ => rfl) ?_
  rintro ⟨l, hl, htot, hc⟩
  simp only [goRules, coreRules, tiRules, unRules, AS_of_eq, ← decide_not, seval, comps_len]
  obtain ⟨St, hSt⟩ : ∃ St : { p : Int × Nat // p.2 ≤ l.length ∧ 0 ≤ p.1 ∧ p.1 ≤ 1099511627776 ∧ outL l = outF p.1 (l.drop p.2) } → AS, ∀ p, St p = AS.of 29 [(2, .v (.int .i64 p.1.1)), (5, .sl 0 3 (comps l)), (6, .v (.int .i64 l.length)), (7, .v (.int .i64 p.1.2))] [] [] := ⟨_, fun _ => rfl⟩
  refine vc_loop hΓ St (fun p => l.length - p.1.2) ⟨(0, 0), by omega, by omega, by omega, rfl⟩ (by rw [hSt]; refine weak_go [] [] ?_; simp only [goRules, coreRules, tiRules, unRules, AS_of_eq, ← decide_not, seval] <;> ((repeat' apply And.intro) <;> first | rfl | omega | trivial)) ?_
  rintro ⟨⟨n, i⟩, hi, hn1, hn2, hb⟩
  simp only at hi hn1 hn2 hb
  rw [hSt]
  simp only
  simp only [goRules, coreRules, tiRules, unRules, AS_of_eq, ← decide_not, seval]
  (with_reducible first | refine branchP_dec (fun h => ?_) (fun h => ?_) | refine guardB_dec (fun h => ?_) (fun h => ?_))
  · have hlt : i < l.length := by omega
    have hci := And.intro (hc l[i] (List.getElem_mem hlt)) (okL.text ⟨hl, htot, hc⟩ (List.getElem_mem hlt))
    have e1 := comps_getD l hlt
    rw [List.drop_eq_getElem_cons hlt] at hb
    simp only [outF] at hb
    generalize l[i] = c at *
    obtain ⟨k, m, t⟩ := c
    simp only at hci hb e1
    have hl1 : k = 1 → outL l = outF (addI n (max m 0)) (l.drop (i + 1)) := fun h => by rw [hb, if_pos h]
    have hl2 : ¬ k = 1 → k = 2 → outL l = outF (addI n (lc t)) (l.drop (i + 1)) := fun h h2 => by rw [hb, if_neg h, if_pos h2]
    have hl3 : ¬ k = 1 → ¬ k = 2 → outL l = outF n (l.drop (i + 1)) := fun h h2 => by rw [hb, if_neg h, if_neg h2]
    have hr := addI_range hn1 (show 0 ≤ max m 0 by omega)
    have hr2 := addI_range hn1 (show 0 ≤ (lc t : Int) by omega)
    have hlt2 := lc_len t
    simp (disch := omega) only [goRules, coreRules, tiRules, unRules, AS_of_eq, ← decide_not, seval, wrap_i64, h, e1, comps_len]
    (repeat (with_reducible refine And.intro ?_ ?_; focus (first | omega | exact mixed1 | kernel_rfl)))
    (try ((with_reducible first | refine branchP_dec (fun q1 => ?_) (fun q1 => ?_) | refine guardB_dec (fun q1 => ?_) (fun q1 => ?_)) <;> simp (disch := omega) only [goRules, coreRules, tiRules, unRules, AS_of_eq, ← decide_not, seval, wrap_i64, q1, max2_int] <;> (with_reducible first | (refine And.intro ?_ ?_; focus (first | omega | exact mixed1 | kernel_rfl)); (repeat (with_reducible refine And.intro ?_ ?_; focus (first | omega | exact mixed1 | kernel_rfl))); (try simp (disch := omega) only [goRules, coreRules, tiRules, unRules, AS_of_eq, ← decide_not, seval, wrap_i64, q1, max2_int]) | skip) <;> (try ((with_reducible first | refine branchP_dec (fun q2 => ?_) (fun q2 => ?_) | refine guardB_dec (fun q2 => ?_) (fun q2 => ?_)) <;> simp (disch := omega) only [goRules, coreRules, tiRules, unRules, AS_of_eq, ← decide_not, seval, wrap_i64, q2, max2_int] <;> (with_reducible first | (refine And.intro ?_ ?_; focus (first | omega | exact mixed1 | kernel_rfl)); (repeat (with_reducible refine And.intro ?_ ?_; focus (first | omega | exact mixed1 | kernel_rfl))); (try simp (disch := omega) only [goRules, coreRules, tiRules, unRules, AS_of_eq, ← decide_not, seval, wrap_i64, q2, max2_int]) | skip) <;> skip))))
    all_goals first
      | (refine call_add (by simp [get_cons]) ⟨hn1, hn2⟩ (by omega) ?_
         simp (disch := omega) only [goRules, coreRules, tiRules, unRules, AS_of_eq, ← decide_not, seval, wrap_i64]
         refine weak_again ⟨(addI n (max m 0), i + 1), by omega, hr.1, hr.2, hl1 (by omega)⟩ (by simp only; omega) ?_
         rw [hSt]; refine weak_go [] [] ?_
         simp only [goRules, coreRules, tiRules, unRules, AS_of_eq, ← decide_not, seval] <;> ((repeat' apply And.intro) <;> first | rfl | omega | trivial))
      | (refine call_rc (by simp [get_cons]) hci.2 ?_
         simp (disch := omega) only [goRules, coreRules, tiRules, unRules, AS_of_eq, ← decide_not, seval, wrap_i64]
         refine call_add (by simp [get_cons]) ⟨hn1, hn2⟩ (by omega) ?_
         simp (disch := omega) only [goRules, coreRules, tiRules, unRules, AS_of_eq, ← decide_not, seval, wrap_i64]
         refine weak_again ⟨(addI n (lc t), i + 1), by omega, hr2.1, hr2.2, hl2 (by omega) (by omega)⟩ (by simp only; omega) ?_
         rw [hSt]; refine weak_go [] [] ?_
         simp only [goRules, coreRules, tiRules, unRules, AS_of_eq, ← decide_not, seval] <;> ((repeat' apply And.intro) <;> first | rfl | omega | trivial))
      | (refine weak_again ⟨(n, i + 1), by omega, hn1, hn2, hl3 (by omega) (by omega)⟩ (by simp only; omega) ?_
         rw [hSt]; refine weak_go [] [] ?_
         simp only [goRules, coreRules, tiRules, unRules, AS_of_eq, ← decide_not, seval] <;> ((repeat' apply And.intro) <;> first | rfl | omega | trivial))
      | trace_state
  · simp only [goRules, coreRules, tiRules, unRules, AS_of_eq, ← decide_not, seval, h]
    rw [List.drop_of_length_le (by omega)] at hb
    rw [hb]; rfl
theorem call_out {Γ : Env} (hf : Γ.get 68 = some outCon) {σ : AS} {dr : Bool} {l : List Cp} {t : Nat} {ys : List AV} {d : Option Nat} {K : AS → Prop} (hy : ys = comps l) (h : okL l)
    (hk : cont σ d (.v (.int .i64 (outL l))) K) : vcCall Tryd.prog Γ dr σ 68 [.sl t 3 ys] d K := by
  subst hy
  exact vcCall_plain (C := outCon) (i := ⟨l, h⟩) hf rfl rfl rfl rfl (fun _ h => h) rfl hk

abbrev partCon (F : Cp → Bool) : Con where
  ι := { c : Cp // c.t.length ≤ 1099511627776 }
  args := fun c => [cA c.1]
  post := fun c r => r = .v (.bool (F c.1))
  plain := true
theorem sound_good : Rw.Good Tryd.prog 81 (partCon sound) := by
  have hΓ : GoodEnv Tryd.prog [(36, validCon)] := (goodEnv_cons valid_good goodEnv_nil)
  refine good_fn (nn := 31) hΓ Tryd.func81 (by kernel_rfl) rfl (show Tryd.f81.results.toList = [.tmp 2] from rfl) (fun _ => rfl) (fun _ => rfl) ?_
  rintro ⟨⟨k, n, t⟩, ht⟩
  simp only at ht
  simp only [goRules, coreRules, tiRules, unRules, AS_of_eq, ← decide_not, seval, cA, sound]
  (try ((with_reducible first | refine branchP_dec (fun q1 => ?_) (fun q1 => ?_) | refine guardB_dec (fun q1 => ?_) (fun q1 => ?_)) <;> simp (disch := omega) only [goRules, coreRules, tiRules, unRules, AS_of_eq, ← decide_not, seval, wrap_i64, q1] <;> (with_reducible first | (refine And.intro ?_ ?_; focus (first | omega | exact mixed1 | kernel_rfl)); (repeat (with_reducible refine And.intro ?_ ?_; focus (first | omega | exact mixed1 | kernel_rfl))); (try simp (disch := omega) only [goRules, coreRules, tiRules, unRules, AS_of_eq, ← decide_not, seval, wrap_i64, q1]) | skip) <;> (try ((with_reducible first | refine branchP_dec (fun q2 => ?_) (fun q2 => ?_) | refine guardB_dec (fun q2 => ?_) (fun q2 => ?_)) <;> simp (disch := omega) only [goRules, coreRules, tiRules, unRules, AS_of_eq, ← decide_not, seval, wrap_i64, q2] <;> (with_reducible first | (refine And.intro ?_ ?_; focus (first | omega | exact mixed1 | kernel_rfl)); (repeat (with_reducible refine And.intro ?_ ?_; focus (first | omega | exact mixed1 | kernel_rfl))); (try simp (disch := omega) only [goRules, coreRules, tiRules, unRules, AS_of_eq, ← decide_not, seval, wrap_i64, q2]) | skip) <;> (try ((with_reducible first | refine branchP_dec (fun q3 => ?_) (fun q3 => ?_) | refine guardB_dec (fun q3 => ?_) (fun q3 => ?_)) <;> simp (disch := omega) only [goRules, coreRules, tiRules, unRules, AS_of_eq, ← decide_not, seval, wrap_i64, q3] <;> (with_reducible first | (refine And.intro ?_ ?_; focus (first | omega | exact mixed1 | kernel_rfl)); (repeat (with_reducible refine And.intro ?_ ?_; focus (first | omega | exact mixed1 | kernel_rfl))); (try simp (disch := omega) only [goRules, coreRules, tiRules, unRules, AS_of_eq, ← decide_not, seval, wrap_i64, q3]) | skip) <;> (try ((with_reducible first | refine branchP_dec (fun q4 => ?_) (fun q4 => ?_) | refine guardB_dec (fun q4 => ?_) (fun q4 => ?_)) <;> simp (disch := omega) only [goRules, coreRules, tiRules, unRules, AS_of_eq, ← decide_not, seval, wrap_i64, q4] <;> (with_reducible first | (refine And.intro ?_ ?_; focus (first | omega | exact mixed1 | kernel_rfl)); (repeat (with_reducible refine And.intro ?_ ?_; focus (first | omega | exact mixed1 | kernel_rfl))); (try simp (disch := omega) only [goRules, coreRules, tiRules, unRules, AS_of_eq, ← decide_not, seval, wrap_i64, q4]) | skip) <;> skip))))))))
  all_goals first
    | done
    | (refine call_valid (by simp [get_cons]) ht ?_
       simp only [goRules, coreRules, tiRules, unRules, AS_of_eq, ← decide_not, seval] <;> simp [*])
    | (simp [*]; done)
    | trace_state
theorem call_sound {Γ : Env} (hf : Γ.get 81 = some (partCon sound)) {σ : AS} {dr : Bool} {c : Cp} {d : Option Nat} {K : AS → Prop} (h : c.t.length ≤ 1099511627776)
    (hk : cont σ d (.v (.bool (sound c))) K) : vcCall Tryd.prog Γ dr σ 81 [.agg [.v (.int .i64 c.k), .v (.int .i64 c.n), .v (sv c.t)]] d K :=
  vcCall_plain (C := partCon sound) (i := ⟨c, h⟩) hf rfl rfl rfl rfl (fun _ h => h) rfl hk
end Go.Proofs
end

-- FUe1
section
namespace Go.Proofs
open Go Go.Rw
set_option maxRecDepth 100000
set_option linter.unusedSimpArgs false
set_option linter.unusedVariables false

/-- What was done with a node. -/
structure On where
  id : Int
  ops : List Cp
  ed : Bool
  rm : Bool
  cr : Bool
  mv : Bool
  par : Int
  nm : List UInt8
  deriving Inhabited, DecidableEq
/-- An act. -/
structure Ac where
  k : Int
  id : Int
  par : Int
  nm : List UInt8
  dir : Bool
  ops : List Cp
  deriving Inhabited, DecidableEq
def oA (x : On) : AV := .agg [.v (.int .i64 x.id), .sl 0 3 (comps x.ops), .v (.bool x.ed), .v (.bool x.rm), .v (.bool x.cr), .v (.bool x.mv), .v (.int .i64 x.par), .v (sv x.nm)]
def aA (x : Ac) : AV := .agg [.v (.int .i64 x.k), .v (.int .i64 x.id), .v (.int .i64 x.par), .v (sv x.nm), .v (.bool x.dir), .sl 0 3 (comps x.ops)]
def ones (l : List On) : List AV := l.map oA
def acts (l : List Ac) : List AV := l.map aA
end Go.Proofs
end

-- FUe2
section
namespace Go.Proofs
open Go Go.Rw
set_option maxRecDepth 100000
set_option linter.unusedSimpArgs false
set_option linter.unusedVariables false

end Go.Proofs
end

-- FUe2b
section
namespace Go.Proofs
open Go Go.Rw
set_option maxRecDepth 100000
set_option linter.unusedSimpArgs false
set_option linter.unusedVariables false

end Go.Proofs
end

-- FUo2
section
namespace Go.Proofs
open Go Go.Rw
set_option maxRecDepth 100000
set_option linter.unusedSimpArgs false
set_option linter.unusedVariables false

abbrev soundCon : Con := partCon sound
/-- The part ahead of a place. -/
def ahead (l : List Cp) (i : Nat) : Option Cp := if i = 0 then none else l[i - 1]?
abbrev normalCon : Con where
  ι := Ed
  args := fun l => [.sl 0 3 (comps l.1)]
  post := fun l r => r = .v (.bool (normalL l.1))
  plain := true
theorem normal_good : Rw.Good Tryd.prog 67 normalCon := by
  have hΓ : GoodEnv Tryd.prog [(81, soundCon)] := (goodEnv_cons sound_good goodEnv_nil)
  refine good_fn (nn := 45) hΓ Tryd.func67 (by kernel_rfl) rfl (show Tryd.f67.results.toList = [.tmp 2] from rfl) (fun _ => rfl) (fun _ => rfl) ?_
  rintro ⟨l, hl, htot, hc⟩
  simp only [goRules, coreRules, tiRules, unRules, AS_of_eq, ← decide_not, seval, comps_len]
  obtain ⟨St, hSt⟩ : ∃ St : { i : Nat // i ≤ l.length ∧ normalL l = normalF (ahead l i) (l.drop i) } → AS, ∀ i, St i = AS.of 45 [(0, .sl 0 3 (comps l)), (5, .sl 0 3 (comps l)), (6, .v (.int .i64 l.length)), (7, .v (.int .i64 i.1))] [] [] := ⟨_, fun _ => rfl⟩
  refine vc_loop hΓ St (fun i => l.length - i.1) ⟨0, by omega, rfl⟩ (by rw [hSt]; refine weak_go [] [] ?_; simp only [goRules, coreRules, tiRules, unRules, AS_of_eq, ← decide_not, seval] <;> ((repeat' apply And.intro) <;> first | rfl | omega | trivial)) ?_
  rintro ⟨i, hi, hb⟩
  rw [hSt]
  simp only
  simp only [goRules, coreRules, tiRules, unRules, AS_of_eq, ← decide_not, seval]
  (with_reducible first | refine branchP_dec (fun h => ?_) (fun h => ?_) | refine guardB_dec (fun h => ?_) (fun h => ?_))
  · have hlt : i < l.length := by omega
    have hci := okL.text ⟨hl, htot, hc⟩ (List.getElem_mem hlt)
    have e1 := comps_getD l hlt
    rw [List.drop_eq_getElem_cons hlt] at hb
    simp only [normalF] at hb
    have hne : ahead l (i + 1) = some l[i] := by simp [ahead, hlt]
    rw [← hne] at hb
    simp (disch := omega) only [goRules, coreRules, tiRules, unRules, AS_of_eq, ← decide_not, seval, wrap_i64, h, e1, comps_len]
    (repeat (with_reducible refine And.intro ?_ ?_; focus (first | omega | exact mixed1 | kernel_rfl)))
    refine call_sound (by simp [get_cons]) hci ?_
    have again : ∀ σ : AS, Weak σ (AS.of 45 [(0, .sl 0 3 (comps l)), (5, .sl 0 3 (comps l)), (6, .v (.int .i64 l.length)), (7, .v (.int .i64 (i + 1 : Nat)))] [] []) → normalL l = normalF (ahead l (i + 1)) (l.drop (i + 1)) → ∀ (x : { i : Nat // i ≤ l.length ∧ normalL l = normalF (ahead l i) (l.drop i) }), x.1 = i → Again St (fun i => l.length - i.1) x σ := fun σ hw hb2 x hx =>
      weak_again ⟨i + 1, by omega, hb2⟩ (by simp only; omega) (by rw [hSt]; exact hw)
    cases hs : sound l[i] with
    | false =>
      simp only [goRules, coreRules, tiRules, unRules, AS_of_eq, ← decide_not, seval, hs]
      rw [hb, hs]; rfl
    | true =>
      rw [hs, Bool.true_and] at hb
      by_cases h0 : i = 0
      · subst h0
        simp only [goRules, coreRules, tiRules, unRules, AS_of_eq, ← decide_not, seval, hs]
        have hb3 : normalL l = normalF (ahead l (0 + 1)) (l.drop (0 + 1)) := by
          rw [hb]; rfl
        refine again _ ?_ hb3 _ rfl
        refine weak_go [] [] ?_
        simp only [goRules, coreRules, tiRules, unRules, AS_of_eq, ← decide_not, seval] <;> ((repeat' apply And.intro) <;> first | rfl | omega | trivial)
      · have hp : ahead l i = some l[i - 1] := by simp [ahead, h0]
        have e2 : (comps l).getD (i - 1) .any = .agg [.v (.int .i64 l[i - 1].k), .v (.int .i64 l[i - 1].n), .v (sv l[i - 1].t)] := comps_getD l (by omega)
        have e3 : ((i : Int) - 1).toNat = i - 1 := by omega
        rw [hp] at hb
        simp only at hb
        simp (disch := omega) only [goRules, coreRules, tiRules, unRules, AS_of_eq, ← decide_not, seval, wrap_i64, hs, show (i : Int) > 0 by omega, comps_len, e3, e2]
        (repeat (with_reducible refine And.intro ?_ ?_; focus (first | omega | exact mixed1 | kernel_rfl)))
        have fol : follows l[i - 1] l[i] = true → normalL l = normalF (ahead l (i + 1)) (l.drop (i + 1)) := fun h => by rw [hb, h, Bool.true_and]
        have nof : follows l[i - 1] l[i] = false → normalL l = false := fun h => by rw [hb, h, Bool.false_and]
        (try ((with_reducible first | refine branchP_dec (fun q1 => ?_) (fun q1 => ?_) | refine guardB_dec (fun q1 => ?_) (fun q1 => ?_)) <;> simp (disch := omega) only [goRules, coreRules, tiRules, unRules, AS_of_eq, ← decide_not, seval, wrap_i64, q1, comps_len, e3, e2] <;> (with_reducible first | (refine And.intro ?_ ?_; focus (first | omega | exact mixed1 | kernel_rfl)); (repeat (with_reducible refine And.intro ?_ ?_; focus (first | omega | exact mixed1 | kernel_rfl))); (try simp (disch := omega) only [goRules, coreRules, tiRules, unRules, AS_of_eq, ← decide_not, seval, wrap_i64, q1, comps_len, e3, e2]) | skip) <;> (try ((with_reducible first | refine branchP_dec (fun q2 => ?_) (fun q2 => ?_) | refine guardB_dec (fun q2 => ?_) (fun q2 => ?_)) <;> simp (disch := omega) only [goRules, coreRules, tiRules, unRules, AS_of_eq, ← decide_not, seval, wrap_i64, q2, comps_len, e3, e2] <;> (with_reducible first | (refine And.intro ?_ ?_; focus (first | omega | exact mixed1 | kernel_rfl)); (repeat (with_reducible refine And.intro ?_ ?_; focus (first | omega | exact mixed1 | kernel_rfl))); (try simp (disch := omega) only [goRules, coreRules, tiRules, unRules, AS_of_eq, ← decide_not, seval, wrap_i64, q2, comps_len, e3, e2]) | skip) <;> (try ((with_reducible first | refine branchP_dec (fun q3 => ?_) (fun q3 => ?_) | refine guardB_dec (fun q3 => ?_) (fun q3 => ?_)) <;> simp (disch := omega) only [goRules, coreRules, tiRules, unRules, AS_of_eq, ← decide_not, seval, wrap_i64, q3, comps_len, e3, e2] <;> (with_reducible first | (refine And.intro ?_ ?_; focus (first | omega | exact mixed1 | kernel_rfl)); (repeat (with_reducible refine And.intro ?_ ?_; focus (first | omega | exact mixed1 | kernel_rfl))); (try simp (disch := omega) only [goRules, coreRules, tiRules, unRules, AS_of_eq, ← decide_not, seval, wrap_i64, q3, comps_len, e3, e2]) | skip) <;> (try ((with_reducible first | refine branchP_dec (fun q4 => ?_) (fun q4 => ?_) | refine guardB_dec (fun q4 => ?_) (fun q4 => ?_)) <;> simp (disch := omega) only [goRules, coreRules, tiRules, unRules, AS_of_eq, ← decide_not, seval, wrap_i64, q4, comps_len, e3, e2] <;> (with_reducible first | (refine And.intro ?_ ?_; focus (first | omega | exact mixed1 | kernel_rfl)); (repeat (with_reducible refine And.intro ?_ ?_; focus (first | omega | exact mixed1 | kernel_rfl))); (try simp (disch := omega) only [goRules, coreRules, tiRules, unRules, AS_of_eq, ← decide_not, seval, wrap_i64, q4, comps_len, e3, e2]) | skip) <;> skip))))))))
        all_goals first
          | (rw [nof (by simp [follows]; omega)])
          | (refine again _ ?_ (fol (by simp [follows]; omega)) _ rfl
             refine weak_go [] [] ?_
             simp only [goRules, coreRules, tiRules, unRules, AS_of_eq, ← decide_not, seval] <;> ((repeat' apply And.intro) <;> first | rfl | omega | trivial))
          | trace_state
  · simp only [goRules, coreRules, tiRules, unRules, AS_of_eq, ← decide_not, seval, h]
    rw [List.drop_of_length_le (by omega)] at hb
    rw [hb]; rfl
theorem call_normal {Γ : Env} (hf : Γ.get 67 = some normalCon) {σ : AS} {dr : Bool} {l : List Cp} {t : Nat} {ys : List AV} {d : Option Nat} {K : AS → Prop} (hy : ys = comps l) (h : okL l)
    (hk : cont σ d (.v (.bool (normalL l))) K) : vcCall Tryd.prog Γ dr σ 67 [.sl t 3 ys] d K := by
  subst hy
  exact vcCall_plain (C := normalCon) (i := ⟨l, h⟩) hf rfl rfl rfl rfl (fun _ h => h) rfl hk
abbrev checkCon : Con where
  ι := Ed
  args := fun l => [.sl 0 3 (comps l.1)]
  post := fun l r => r = .v (.int .i64 (checkI l.1))
  plain := true
theorem check_good : Rw.Good Tryd.prog 44 checkCon := by
  have hΓ : GoodEnv Tryd.prog [(67, normalCon), (45, baseCon), (68, outCon)] := (goodEnv_cons normal_good (goodEnv_cons base_good (goodEnv_cons out_good goodEnv_nil)))
  refine good_fn (nn := 20) hΓ Tryd.func44 (by kernel_rfl) rfl (show Tryd.f44.results.toList = [.tmp 2] from rfl) (fun _ => rfl) (fun _ => rfl) ?_
  rintro ⟨l, hl⟩
  simp only [goRules, coreRules, tiRules, unRules, AS_of_eq, ← decide_not, seval, comps_len]
  have c1 : 100 < (l.length : Int) → checkI l = 3 := fun h => by rw [checkI, if_pos (by omega)]
  have c2 : ¬ 100 < (l.length : Int) → normalL l = false → checkI l = 1 := fun h h2 => by rw [checkI, if_neg (by omega), if_pos h2]
  have c3 : ¬ 100 < (l.length : Int) → normalL l = true → (baseL l > 2000 ∨ outL l > 2000) → checkI l = 3 := fun h h2 h3 => by rw [checkI, if_neg (by omega), if_neg (by rw [h2]; decide), if_pos h3]
  have c4 : ¬ 100 < (l.length : Int) → normalL l = true → ¬ (baseL l > 2000 ∨ outL l > 2000) → checkI l = 0 := fun h h2 h3 => by rw [checkI, if_neg (by omega), if_neg (by rw [h2]; decide), if_neg h3]
  (with_reducible first | refine branchP_dec (fun h => ?_) (fun h => ?_) | refine guardB_dec (fun h => ?_) (fun h => ?_))
  · simp only [goRules, coreRules, tiRules, unRules, AS_of_eq, ← decide_not, seval, h, c1 (by omega)]
  · simp only [goRules, coreRules, tiRules, unRules, AS_of_eq, ← decide_not, seval, h]
    refine call_normal (by simp [get_cons]) rfl hl ?_
    cases hn : normalL l with
    | false => simp only [goRules, coreRules, tiRules, unRules, AS_of_eq, ← decide_not, seval, hn, c2 (by omega) hn]
    | true =>
      simp only [goRules, coreRules, tiRules, unRules, AS_of_eq, ← decide_not, seval, hn]
      refine call_base (by simp [get_cons]) rfl hl ?_
      simp only [goRules, coreRules, tiRules, unRules, AS_of_eq, ← decide_not, seval]
      (with_reducible first | refine branchP_dec (fun h1 => ?_) (fun h1 => ?_) | refine guardB_dec (fun h1 => ?_) (fun h1 => ?_))
      · simp only [goRules, coreRules, tiRules, unRules, AS_of_eq, ← decide_not, seval, h1, c3 (by omega) hn (.inl (by omega))]
      · simp only [goRules, coreRules, tiRules, unRules, AS_of_eq, ← decide_not, seval, h1]
        refine call_out (by simp [get_cons]) rfl hl ?_
        simp only [goRules, coreRules, tiRules, unRules, AS_of_eq, ← decide_not, seval]
        (with_reducible first | refine branchP_dec (fun h2 => ?_) (fun h2 => ?_) | refine guardB_dec (fun h2 => ?_) (fun h2 => ?_))
        · simp only [goRules, coreRules, tiRules, unRules, AS_of_eq, ← decide_not, seval, h2, c3 (by omega) hn (.inr (by omega))]
        · simp only [goRules, coreRules, tiRules, unRules, AS_of_eq, ← decide_not, seval, h2, c4 (by omega) hn (by omega)]
theorem call_check {Γ : Env} (hf : Γ.get 44 = some checkCon) {σ : AS} {dr : Bool} {l : List Cp} {t : Nat} {ys : List AV} {d : Option Nat} {K : AS → Prop} (hy : ys = comps l) (h : okL l)
    (hk : cont σ d (.v (.int .i64 (checkI l))) K) : vcCall Tryd.prog Γ dr σ 44 [.sl t 3 ys] d K := by
  subst hy
  exact vcCall_plain (C := checkCon) (i := ⟨l, h⟩) hf rfl rfl rfl rfl (fun _ h => h) rfl hk
end Go.Proofs
end

-- FUo3
section
namespace Go.Proofs
open Go Go.Rw
set_option maxRecDepth 100000
set_option linter.unusedSimpArgs false
set_option linter.unusedVariables false

end Go.Proofs
end

-- FUo4
section
namespace Go.Proofs
open Go Go.Rw
set_option maxRecDepth 100000
set_option linter.unusedSimpArgs false
set_option linter.unusedVariables false

end Go.Proofs
end

-- FUo5
section
namespace Go.Proofs
open Go Go.Rw
set_option maxRecDepth 100000
set_option linter.unusedSimpArgs false
set_option linter.unusedVariables false

section
variable {P : Program}
theorem calm_part1 {t : TypeId} {cs : Array Value} {off : Nat} {v : Value} {td : TypeDesc} (ht : P.underlying t = some td) (ha : (match td with | .struct _ | .array _ _ => true | _ => false) = false) (hv : cs[off]? = some v) : calm P (part t cs off) = some v := by
  simp only [part, isAgg, underlying, calm_bind, calm_program, Option.bind_some, ht, calm_pure]
  cases td <;> first | (cases ha; done) | (simp [hv, calm_bind])
theorem calm_eqI {d : Nat} {t : TypeId} {k k' : IntKind} {a b : Int} (h : P.underlying t = some (.int k')) : calm P (Op.equalIn (d + 1) t (.int k a) (.int k b)) = some (a == b) := by
  simp [Op.equalIn, calm_bind, underlying, h]
theorem calm_eqS {d : Nat} {t : TypeId} {a b : List UInt8} (h : P.underlying t = some .string) : calm P (Op.equalIn (d + 1) t (.string ⟨a.toArray⟩) (.string ⟨b.toArray⟩)) = some (a == b) := by
  simp [Op.equalIn, calm_bind, underlying, h]
  show (a.toArray == b.toArray) = (a == b)
  simp
end
end Go.Proofs
end

-- FUn1
section
namespace Go.Proofs
open Go Go.Rw
set_option maxRecDepth 100000
set_option linter.unusedSimpArgs false
set_option linter.unusedVariables false

def letterB (c : UInt8) : Bool := decide ((97 ≤ c.toNat ∧ c.toNat ≤ 122) ∨ (48 ≤ c.toNat ∧ c.toNat ≤ 57) ∨ c.toNat = 46 ∨ c.toNat = 45 ∨ c.toNat = 95)
def nameOk (s : List UInt8) : Bool := s.all letterB && decide (1 ≤ s.length ∧ s.length ≤ 20 ∧ s ≠ [46] ∧ s ≠ [46, 46])
theorem bytesA_eq (l : List UInt8) : bytesA l = l.map fun b => .v (.int .u8 b.toNat) := by simp [bytesA, bytesL]
theorem bytesA_len (l : List UInt8) : (bytesA l).length = l.length := by simp [bytesA_eq]
theorem bytesA_getD (l : List UInt8) {i : Nat} (h : i < l.length) : (bytesA l).getD i .any = .v (.int .u8 l[i].toNat) := by simp [bytesA_eq, List.getD_eq_getElem?_getD, h]
abbrev letterCon : Con where
  ι := UInt8
  args := fun b => [.v (.int .u8 b.toNat)]
  post := fun b r => r = .v (.bool (letterB b))
  plain := true
theorem letter_good : Rw.Good Tryd.prog 21 letterCon := by
  have hΓ : GoodEnv Tryd.prog [] := goodEnv_nil
  refine good_fn (nn := 29) hΓ Tryd.func21 (by kernel_rfl) rfl (show Tryd.f21.results.toList = [.tmp 2] from rfl) (fun _ => rfl) (fun _ => rfl) ?_
  intro b
  simp only [goRules, coreRules, tiRules, unRules, AS_of_eq, ← decide_not, seval]
  (try ((with_reducible first | refine branchP_dec (fun q1 => ?_) (fun q1 => ?_) | refine guardB_dec (fun q1 => ?_) (fun q1 => ?_)) <;> simp (disch := omega) only [goRules, coreRules, tiRules, unRules, AS_of_eq, ← decide_not, seval, wrap_i64, q1] <;> (with_reducible first | (refine And.intro ?_ ?_; focus (first | omega | exact mixed1 | kernel_rfl)); (repeat (with_reducible refine And.intro ?_ ?_; focus (first | omega | exact mixed1 | kernel_rfl))); (try simp (disch := omega) only [goRules, coreRules, tiRules, unRules, AS_of_eq, ← decide_not, seval, wrap_i64, q1]) | skip) <;> (try ((with_reducible first | refine branchP_dec (fun q2 => ?_) (fun q2 => ?_) | refine guardB_dec (fun q2 => ?_) (fun q2 => ?_)) <;> simp (disch := omega) only [goRules, coreRules, tiRules, unRules, AS_of_eq, ← decide_not, seval, wrap_i64, q2] <;> (with_reducible first | (refine And.intro ?_ ?_; focus (first | omega | exact mixed1 | kernel_rfl)); (repeat (with_reducible refine And.intro ?_ ?_; focus (first | omega | exact mixed1 | kernel_rfl))); (try simp (disch := omega) only [goRules, coreRules, tiRules, unRules, AS_of_eq, ← decide_not, seval, wrap_i64, q2]) | skip) <;> (try ((with_reducible first | refine branchP_dec (fun q3 => ?_) (fun q3 => ?_) | refine guardB_dec (fun q3 => ?_) (fun q3 => ?_)) <;> simp (disch := omega) only [goRules, coreRules, tiRules, unRules, AS_of_eq, ← decide_not, seval, wrap_i64, q3] <;> (with_reducible first | (refine And.intro ?_ ?_; focus (first | omega | exact mixed1 | kernel_rfl)); (repeat (with_reducible refine And.intro ?_ ?_; focus (first | omega | exact mixed1 | kernel_rfl))); (try simp (disch := omega) only [goRules, coreRules, tiRules, unRules, AS_of_eq, ← decide_not, seval, wrap_i64, q3]) | skip) <;> (try ((with_reducible first | refine branchP_dec (fun q4 => ?_) (fun q4 => ?_) | refine guardB_dec (fun q4 => ?_) (fun q4 => ?_)) <;> simp (disch := omega) only [goRules, coreRules, tiRules, unRules, AS_of_eq, ← decide_not, seval, wrap_i64, q4] <;> (with_reducible first | (refine And.intro ?_ ?_; focus (first | omega | exact mixed1 | kernel_rfl)); (repeat (with_reducible refine And.intro ?_ ?_; focus (first | omega | exact mixed1 | kernel_rfl))); (try simp (disch := omega) only [goRules, coreRules, tiRules, unRules, AS_of_eq, ← decide_not, seval, wrap_i64, q4]) | skip) <;> (try ((with_reducible first | refine branchP_dec (fun q5 => ?_) (fun q5 => ?_) | refine guardB_dec (fun q5 => ?_) (fun q5 => ?_)) <;> simp (disch := omega) only [goRules, coreRules, tiRules, unRules, AS_of_eq, ← decide_not, seval, wrap_i64, q5] <;> (with_reducible first | (refine And.intro ?_ ?_; focus (first | omega | exact mixed1 | kernel_rfl)); (repeat (with_reducible refine And.intro ?_ ?_; focus (first | omega | exact mixed1 | kernel_rfl))); (try simp (disch := omega) only [goRules, coreRules, tiRules, unRules, AS_of_eq, ← decide_not, seval, wrap_i64, q5]) | skip) <;> (try ((with_reducible first | refine branchP_dec (fun q6 => ?_) (fun q6 => ?_) | refine guardB_dec (fun q6 => ?_) (fun q6 => ?_)) <;> simp (disch := omega) only [goRules, coreRules, tiRules, unRules, AS_of_eq, ← decide_not, seval, wrap_i64, q6] <;> (with_reducible first | (refine And.intro ?_ ?_; focus (first | omega | exact mixed1 | kernel_rfl)); (repeat (with_reducible refine And.intro ?_ ?_; focus (first | omega | exact mixed1 | kernel_rfl))); (try simp (disch := omega) only [goRules, coreRules, tiRules, unRules, AS_of_eq, ← decide_not, seval, wrap_i64, q6]) | skip) <;> (try ((with_reducible first | refine branchP_dec (fun q7 => ?_) (fun q7 => ?_) | refine guardB_dec (fun q7 => ?_) (fun q7 => ?_)) <;> simp (disch := omega) only [goRules, coreRules, tiRules, unRules, AS_of_eq, ← decide_not, seval, wrap_i64, q7] <;> (with_reducible first | (refine And.intro ?_ ?_; focus (first | omega | exact mixed1 | kernel_rfl)); (repeat (with_reducible refine And.intro ?_ ?_; focus (first | omega | exact mixed1 | kernel_rfl))); (try simp (disch := omega) only [goRules, coreRules, tiRules, unRules, AS_of_eq, ← decide_not, seval, wrap_i64, q7]) | skip) <;> skip))))))))))))))
  all_goals (unfold letterB; rw [Bool.eq_iff_iff]; simp only [decide_eq_true_eq, Bool.false_eq_true, true_iff, false_iff, iff_true, iff_false]; omega)
theorem call_letter {Γ : Env} (hf : Γ.get 21 = some letterCon) {σ : AS} {dr : Bool} {b : UInt8} {n : Int} {d : Option Nat} {K : AS → Prop} (hn : n = b.toNat)
    (hk : cont σ d (.v (.bool (letterB b))) K) : vcCall Tryd.prog Γ dr σ 21 [.v (.int .u8 n)] d K := by
  subst hn
  exact vcCall_plain (C := letterCon) (i := b) hf rfl rfl rfl rfl (fun _ h => h) rfl hk
abbrev nameCon : Con where
  ι := Str
  args := fun s => [.v (sv s.1)]
  post := fun s r => r = .v (.bool (nameOk s.1))
  plain := true
theorem name_good : Rw.Good Tryd.prog 10 nameCon := by
  have hΓ : GoodEnv Tryd.prog [(21, letterCon)] := (goodEnv_cons letter_good goodEnv_nil)
  refine good_fn (nn := 32) hΓ Tryd.func10 (by kernel_rfl) rfl (show Tryd.f10.results.toList = [.tmp 2] from rfl) (fun _ => rfl) (fun _ => rfl) ?_
  rintro ⟨s, hs⟩
  simp only [goRules, coreRules, tiRules, unRules, AS_of_eq, ← decide_not, seval, bytesA_len]
  (repeat (with_reducible refine And.intro ?_ ?_; focus (first | omega | exact mixed1 | kernel_rfl)))
  obtain ⟨St, hSt⟩ : ∃ St : { i : Nat // i ≤ s.length ∧ (s.take i).all letterB = true } → AS, ∀ i, St i = AS.of 32 [(0, .v (sv s)), (6, .sl 0 1 (bytesA s)), (7, .v (.int .i64 s.length)), (8, .v (.int .i64 i.1))] [] [] := ⟨_, fun _ => rfl⟩
  refine vc_loop hΓ St (fun i => s.length - i.1) ⟨0, by omega, by simp⟩ (by rw [hSt]; refine weak_go [] [] ?_; simp only [goRules, coreRules, tiRules, unRules, AS_of_eq, ← decide_not, seval] <;> ((repeat' apply And.intro) <;> first | rfl | omega | trivial)) ?_
  rintro ⟨i, hi, ha⟩
  rw [hSt]
  simp only
  simp only [goRules, coreRules, tiRules, unRules, AS_of_eq, ← decide_not, seval, bytesA_len]
  (with_reducible first | refine branchP_dec (fun h => ?_) (fun h => ?_) | refine guardB_dec (fun h => ?_) (fun h => ?_))
  · have hlt : i < s.length := by omega
    have e1 := bytesA_getD s hlt
    have e2 : (s.take (i + 1)).all letterB = letterB s[i] := by rw [List.take_succ_eq_append_getElem hlt, List.all_append, ha]; simp
    have e3 : letterB s[i] = false → nameOk s = false := fun hc => by
      have : s.all letterB = false := List.all_eq_false.2 ⟨s[i], List.getElem_mem hlt, by simp [hc]⟩
      rw [nameOk, this]; rfl
    generalize s[i] = c at *
    simp only [goRules, coreRules, tiRules, unRules, AS_of_eq, ← decide_not, seval, h, e1, bytesA_len]
    (repeat (with_reducible refine And.intro ?_ ?_; focus (first | omega | exact mixed1 | kernel_rfl)))
    refine call_letter (by simp [get_cons]) rfl ?_
    cases hc : letterB c
    · simp only [goRules, coreRules, tiRules, unRules, AS_of_eq, ← decide_not, seval, hc]
      rw [e3 hc]
    · rw [hc] at e2
      simp only [goRules, coreRules, tiRules, unRules, AS_of_eq, ← decide_not, seval, hc, wrap_i64 (n := (i : Int) + 1) (by omega) (by omega)]
      refine weak_again ⟨i + 1, by omega, e2⟩ (by simp only; omega) ?_
      rw [hSt]; refine weak_go [] [] ?_
      simp only [goRules, coreRules, tiRules, unRules, AS_of_eq, ← decide_not, seval] <;> ((repeat' apply And.intro) <;> first | rfl | omega | trivial)
  · rw [List.take_of_length_le (by omega)] at ha
    have e0 : nameOk s = decide (1 ≤ s.length ∧ s.length ≤ 20 ∧ s ≠ [46] ∧ s ≠ [46, 46]) := by rw [nameOk, ha]; rfl
    simp only [goRules, coreRules, tiRules, unRules, AS_of_eq, ← decide_not, seval, h, e0]
    (try ((with_reducible first | refine branchP_dec (fun q1 => ?_) (fun q1 => ?_) | refine guardB_dec (fun q1 => ?_) (fun q1 => ?_)) <;> simp (disch := omega) only [goRules, coreRules, tiRules, unRules, AS_of_eq, ← decide_not, seval, wrap_i64, q1] <;> (with_reducible first | (refine And.intro ?_ ?_; focus (first | omega | exact mixed1 | kernel_rfl)); (repeat (with_reducible refine And.intro ?_ ?_; focus (first | omega | exact mixed1 | kernel_rfl))); (try simp (disch := omega) only [goRules, coreRules, tiRules, unRules, AS_of_eq, ← decide_not, seval, wrap_i64, q1]) | skip) <;> (try ((with_reducible first | refine branchP_dec (fun q2 => ?_) (fun q2 => ?_) | refine guardB_dec (fun q2 => ?_) (fun q2 => ?_)) <;> simp (disch := omega) only [goRules, coreRules, tiRules, unRules, AS_of_eq, ← decide_not, seval, wrap_i64, q2] <;> (with_reducible first | (refine And.intro ?_ ?_; focus (first | omega | exact mixed1 | kernel_rfl)); (repeat (with_reducible refine And.intro ?_ ?_; focus (first | omega | exact mixed1 | kernel_rfl))); (try simp (disch := omega) only [goRules, coreRules, tiRules, unRules, AS_of_eq, ← decide_not, seval, wrap_i64, q2]) | skip) <;> (try ((with_reducible first | refine branchP_dec (fun q3 => ?_) (fun q3 => ?_) | refine guardB_dec (fun q3 => ?_) (fun q3 => ?_)) <;> simp (disch := omega) only [goRules, coreRules, tiRules, unRules, AS_of_eq, ← decide_not, seval, wrap_i64, q3] <;> (with_reducible first | (refine And.intro ?_ ?_; focus (first | omega | exact mixed1 | kernel_rfl)); (repeat (with_reducible refine And.intro ?_ ?_; focus (first | omega | exact mixed1 | kernel_rfl))); (try simp (disch := omega) only [goRules, coreRules, tiRules, unRules, AS_of_eq, ← decide_not, seval, wrap_i64, q3]) | skip) <;> (try ((with_reducible first | refine branchP_dec (fun q4 => ?_) (fun q4 => ?_) | refine guardB_dec (fun q4 => ?_) (fun q4 => ?_)) <;> simp (disch := omega) only [goRules, coreRules, tiRules, unRules, AS_of_eq, ← decide_not, seval, wrap_i64, q4] <;> (with_reducible first | (refine And.intro ?_ ?_; focus (first | omega | exact mixed1 | kernel_rfl)); (repeat (with_reducible refine And.intro ?_ ?_; focus (first | omega | exact mixed1 | kernel_rfl))); (try simp (disch := omega) only [goRules, coreRules, tiRules, unRules, AS_of_eq, ← decide_not, seval, wrap_i64, q4]) | skip) <;> skip))))))))
    all_goals (rw [e0, Bool.eq_iff_iff]; simp only [decide_eq_true_eq, Bool.false_eq_true, false_iff, ne_eq])
    all_goals first
      | exact ⟨fun h5 => ⟨by omega, by omega, by assumption, h5⟩, fun h5 => h5.2.2.2⟩
      | (rintro ⟨h5, h6, h7, h8⟩; first | omega | contradiction)
theorem call_name {Γ : Env} {f : Nat} (hf : Γ.get f = some nameCon) {σ : AS} {dr : Bool} {s : List UInt8} {d : Option Nat} {K : AS → Prop} (hs : s.length ≤ 1099511627776)
    (hk : cont σ d (.v (.bool (nameOk s))) K) : vcCall Tryd.prog Γ dr σ f [.v (sv s)] d K :=
  vcCall_plain (C := nameCon) (i := ⟨s, hs⟩) hf rfl rfl rfl rfl (fun _ h => h) rfl hk
end Go.Proofs
end

-- FUn2
section
namespace Go.Proofs
open Go Go.Rw
set_option maxRecDepth 100000
set_option linter.unusedSimpArgs false
set_option linter.unusedVariables false

def plainA (a : Ac) : Ac :=
  if a.k = 1 then ⟨1, a.id, a.par, a.nm, a.dir, []⟩ else if a.k = 2 then ⟨2, a.id, 0, [], false, []⟩ else if a.k = 3 then ⟨3, a.id, a.par, a.nm, false, []⟩
  else if a.k = 4 then ⟨4, a.id, 0, [], false, a.ops⟩ else ⟨a.k, 0, 0, [], false, []⟩
end Go.Proofs
end

-- FUn3
section
namespace Go.Proofs
open Go Go.Rw
set_option maxRecDepth 100000
set_option linter.unusedSimpArgs false
set_option linter.unusedVariables false

def badA (a : Ac) : Bool := decide (a.k < 1 ∨ a.k > 4 ∨ ¬ a = plainA a ∨ a.id < 1 ∨ a.id > 1099511627776 ∨ a.par < 0 ∨ a.par > 1099511627776 ∨ ((a.k = 1 ∨ a.k = 3) ∧ nameOk a.nm = false))
def oneI (a : Ac) : Int := if badA a then 1 else if a.k = 4 then checkI a.ops else 0
abbrev okA (a : Ac) : Prop := okL a.ops ∧ a.nm.length ≤ 1099511627776
end Go.Proofs
end

-- FUo6
section
namespace Go.Proofs
open Go Go.Rw
set_option maxRecDepth 100000
set_option linter.unusedSimpArgs false
set_option linter.unusedVariables false

def ofBad (n a b : Int) (t : List UInt8) : Prop := a < 0 ∨ b < a ∨ n < b ∨ pts t = none
instance (n a b : Int) (t : List UInt8) : Decidable (ofBad n a b t) := by unfold ofBad; exact inferInstance
end Go.Proofs
end

-- FUo7
section
namespace Go.Proofs
open Go Go.Rw
set_option maxRecDepth 100000
set_option linter.unusedSimpArgs false
set_option linter.unusedVariables false

end Go.Proofs
end

-- FUo8
section
namespace Go.Proofs
open Go Go.Rw
set_option maxRecDepth 100000
set_option linter.unusedSimpArgs false
set_option linter.unusedVariables false

end Go.Proofs
end

-- FUo9
section
namespace Go.Proofs
open Go Go.Rw
set_option maxRecDepth 100000
set_option linter.unusedSimpArgs false
set_option linter.unusedVariables false

/-- Whether a part of the kind k may stand behind one of the kind q; 0: none. -/
def fol (q k : Int) : Bool := !(decide (q = k) || (decide (q = 3) && decide (k = 2)))
/-- A part as a normal form has it. -/
def neat (c : Cp) : Bool := if c.k = 2 then decide (c.n = 0) && decide (c.t ≠ []) else (decide (c.k = 1) || decide (c.k = 3)) && decide (0 < c.n) && decide (c.n ≤ 1099511627776) && decide (c.t = [])
def shape : Int → List Cp → Bool
  | _, [] => true
  | q, c :: r => neat c && fol q c.k && shape c.k r
end Go.Proofs
end

-- FUo10
section
namespace Go.Proofs
open Go Go.Rw
set_option maxRecDepth 100000
set_option linter.unusedSimpArgs false
set_option linter.unusedVariables false

/-- The numbers of all parts together. -/
def tn : List Cp → Int
  | [] => 0
  | c :: r => max c.n 0 + tn r
def sumN : Int → List Cp → Int
  | s, [] => s
  | s, c :: r => sumN (addI s (max c.n 0)) r
theorem tn_pos : ∀ l : List Cp, 0 ≤ tn l
  | [] => by simp [tn]
  | c :: r => by simp only [tn]; have := tn_pos r; omega
theorem sumN_eq : ∀ (l : List Cp) {s : Int}, (0 ≤ s ∧ s ≤ 1099511627776) → sumN s l = min (s + tn l) 1099511627776
  | [], s, h => by simp only [sumN, tn]; omega
  | c :: r, s, h => by
    have h2 := addI_range h.1 (show 0 ≤ max c.n 0 by omega)
    have := tn_pos r
    simp only [sumN, tn]
    rw [sumN_eq r h2]
    unfold addI
    omega
/-- Whether all texts are. -/
def allV (l : List Cp) : Bool := l.all fun c => (pts c.t).isSome
theorem addI_z {x : Int} (h : x ≤ 1099511627776) : addI x 0 = x := by unfold addI; omega
end Go.Proofs
end

-- FAp0
section
namespace Go.Proofs
open Go Go.Rw
set_option linter.unusedSimpArgs false
set_option linter.unusedVariables false

def cpts (t : List UInt8) : List Nat := (pts t).getD []
theorem cpts_some {t : List UInt8} {cs : List Nat} (h : pts t = some cs) : cpts t = cs := by unfold cpts; rw [h]; rfl
theorem cpts_nil : cpts [] = [] := rfl
theorem cpts_enc {cs : List Nat} (h : ∀ c ∈ cs, okc c) : cpts (encs cs) = cs := cpts_some (pts_enc h)
theorem isSome_cpts {t : List UInt8} (h : (pts t).isSome = true) : pts t = some (cpts t) := by
  obtain ⟨cs, hc⟩ := Option.isSome_iff_exists.1 h
  rw [hc, cpts_some hc]
theorem encs_cpts {t : List UInt8} (h : (pts t).isSome = true) : encs (cpts t) = t ∧ ∀ c ∈ cpts t, okc c := by
  obtain ⟨h1, h2⟩ := pts_some (isSome_cpts h)
  exact ⟨h2.symm, h1⟩
theorem lc_cpts {t : List UInt8} (h : (pts t).isSome = true) : lc t = (cpts t).length := by
  obtain ⟨e1, o1⟩ := encs_cpts h
  conv => lhs; rw [← e1]
  exact lc_encs _ o1
theorem okc_take {cs : List Nat} (h : ∀ c ∈ cs, okc c) (n : Nat) : ∀ c ∈ cs.take n, okc c := fun c hc => h c (List.mem_of_mem_take hc)
theorem okc_drop {cs : List Nat} (h : ∀ c ∈ cs, okc c) (n : Nat) : ∀ c ∈ cs.drop n, okc c := fun c hc => h c (List.mem_of_mem_drop hc)
theorem encs_len_le {cs : List Nat} : (encs cs).length ≤ 4 * cs.length := by
  induction cs with
  | nil => simp [encs_nil]
  | cons c cs ih => rw [encs_cons_len, List.length_cons]; have := wid_le c; omega

/-- A text's code points, behind an edit. -/
def doL : List Nat → List Cp → List Nat
  | _, [] => []
  | cs, c :: r => if someC c = false then doL cs r else if c.k = 2 then cpts c.t ++ doL cs r else if c.k = 3 then doL (cs.drop c.n.toNat) r else cs.take c.n.toNat ++ doL (cs.drop c.n.toNat) r
theorem do_ins {cs : List Nat} {c : Cp} {r : List Cp} (h : someC c = true) (h2 : c.k = 2) : doL cs (c :: r) = cpts c.t ++ doL cs r := by rw [doL, if_neg (by rw [h]; decide), if_pos h2]
theorem do_del {cs : List Nat} {c : Cp} {r : List Cp} (h : someC c = true) (h2 : c.k = 3) : doL cs (c :: r) = doL (cs.drop c.n.toNat) r := by rw [doL, if_neg (by rw [h]; decide), if_neg (by omega), if_pos h2]
theorem do_ret {cs : List Nat} {c : Cp} {r : List Cp} (h : someC c = true) (h2 : ¬ c.k = 2) (h3 : ¬ c.k = 3) : doL cs (c :: r) = cs.take c.n.toNat ++ doL (cs.drop c.n.toNat) r := by rw [doL, if_neg (by rw [h]; decide), if_neg h2, if_neg h3]

/-- Of what length an edit is. -/
def fit (cs : List Nat) (l : List Cp) : Prop := (∀ c ∈ l, sound c = true) ∧ (cs.length : Int) = tn l
theorem sound_cases {c : Cp} (h : sound c = true) : (c.k = 2 ∧ c.n = 0 ∧ c.t ≠ [] ∧ (pts c.t).isSome = true) ∨ ((c.k = 1 ∨ c.k = 3) ∧ 0 < c.n ∧ c.t = []) := by
  unfold sound at h
  split at h
  · rename_i h2
    simp at h
    exact .inl ⟨h2, h.1.1, h.1.2, h.2⟩
  · split at h
    · rename_i h13
      simp at h
      exact .inr ⟨h13, h.1, h.2⟩
    · cases h
theorem sound_some {c : Cp} (h : sound c = true) : someC c = true := by
  unfold someC
  rcases sound_cases h with ⟨h2, _, h3, _⟩ | ⟨h13, h4, _⟩
  · rw [if_pos h2]; simp [h3]
  · rw [if_neg (by omega)]
    rcases h13 with h | h <;> simp [h, h4]
theorem fit_cons {cs : List Nat} {c : Cp} {r : List Cp} (h : fit cs (c :: r)) : sound c = true ∧ 0 ≤ c.n ∧ c.n.toNat ≤ cs.length ∧ fit (cs.drop c.n.toNat) r := by
  obtain ⟨h1, h2⟩ := h
  have hs := h1 c (by simp)
  have hp := tn_pos r
  have hn : 0 ≤ c.n := by rcases sound_cases hs with ⟨_, h, _⟩ | ⟨_, h, _⟩ <;> omega
  simp only [tn] at h2
  exact ⟨hs, hn, by omega, fun x hx => h1 x (by simp [hx]), by rw [List.length_drop]; omega⟩
theorem sumN_base : ∀ (l : List Cp) (m : Int), (0 ≤ m ∧ m ≤ 1099511627776) → (∀ c ∈ l, sound c = true) → baseF m l = sumN m l
  | [], _, _, _ => rfl
  | c :: r, m, hm, h => by
    have hr := fun x hx => h x (List.mem_cons_of_mem c hx)
    have hs := sound_cases (h c (by simp))
    simp only [baseF, sumN]
    by_cases h13 : c.k = 1 ∨ c.k = 3
    · rw [if_pos h13]
      exact sumN_base r _ (addI_range hm.1 (by omega)) hr
    · rw [if_neg h13]
      rcases hs with ⟨_, h0, _⟩ | ⟨h, _⟩
      · rw [h0, show max (0 : Int) 0 = 0 from rfl, addI_z hm.2]
        exact sumN_base r m hm hr
      · exact absurd h h13
theorem normal_sound : ∀ (l : List Cp) (p : Option Cp), normalF p l = true → ∀ c ∈ l, sound c = true
  | [], _, _, c, hc => by cases hc
  | c :: r, p, h, x, hx => by
    simp only [normalF, Bool.and_eq_true] at h
    rcases List.mem_cons.1 hx with rfl | hx
    · exact h.1.1
    · exact normal_sound r (some c) h.2 x hx
theorem check_cases {l : List Cp} (h : checkI l = 0) : l.length ≤ 100 ∧ normalL l = true ∧ (∀ c ∈ l, sound c = true) ∧ baseL l = tn l ∧ tn l ≤ 2000 ∧ outL l ≤ 2000 := by
  unfold checkI at h
  split at h
  · cases h
  · split at h
    · cases h
    · split at h
      · cases h
      · rename_i h1 h2 h3
        have h4 : normalL l = true := by simpa using h2
        have h5 := normal_sound l none h4
        have h6 : baseL l = min (0 + tn l) 1099511627776 := by
          unfold baseL
          rw [sumN_base l 0 (by omega) h5, sumN_eq l (by omega)]
        have h7 := tn_pos l
        exact ⟨by omega, h4, h5, by omega, by omega, by omega⟩
theorem fit_check {l : List Cp} (h : checkI l = 0) {cs : List Nat} (hb : (cs.length : Int) = baseL l) : fit cs l := by
  obtain ⟨_, _, h1, h2, _, _⟩ := check_cases h
  exact ⟨h1, by rw [hb, h2]⟩
theorem out_do : ∀ (l : List Cp) (cs : List Nat) (m : Int), 0 ≤ m → fit cs l → outF m l ≤ 2000 → outF m l = m + (doL cs l).length
  | [], _, m, _, _, _ => by simp [outF, doL]
  | c :: r, cs, m, hm, hf, ho => by
    obtain ⟨hs, hn, hle, hf2⟩ := fit_cons hf
    have hso := sound_some hs
    simp only [outF] at ho ⊢
    have mono : ∀ (l : List Cp) (m : Int), 0 ≤ m → m ≤ 1099511627776 → m ≤ outF m l := by
      intro l
      induction l with
      | nil => intro m _ _; simp [outF]
      | cons c r ih =>
        intro m h1 h2
        simp only [outF]
        split
        · have h3 := addI_range h1 (show 0 ≤ max c.n 0 by omega)
          have h4 := ih _ h3.1 h3.2
          have : m ≤ addI m (max c.n 0) := by unfold addI; omega
          omega
        · split
          · have h3 := addI_range h1 (show 0 ≤ (lc c.t : Int) by omega)
            have h4 := ih _ h3.1 h3.2
            have : m ≤ addI m (lc c.t) := by unfold addI; omega
            omega
          · exact ih m h1 h2
    rcases sound_cases hs with ⟨h2, h0, _, hv⟩ | ⟨h13, hp, _⟩
    · rw [if_neg (by omega), if_pos h2] at ho ⊢
      have hb := addI_range hm (show 0 ≤ (lc c.t : Int) by omega)
      have hm2 := mono r _ hb.1 hb.2
      have hm3 : addI m (lc c.t) ≤ 2000 := by omega
      have e : addI m (lc c.t) = m + lc c.t := by unfold addI at hm3 ⊢; omega
      rw [e] at ho ⊢
      rw [h0] at hf2
      have := out_do r cs (m + lc c.t) (by omega) (by simpa using hf2) ho
      rw [this, do_ins hso h2, List.length_append, lc_cpts hv]; omega
    · by_cases h1 : c.k = 1
      · rw [if_pos h1] at ho ⊢
        have hb := addI_range hm (show 0 ≤ max c.n 0 by omega)
        have hm2 := mono r _ hb.1 hb.2
        have hm3 : addI m (max c.n 0) ≤ 2000 := by omega
        have e : addI m (max c.n 0) = m + c.n := by unfold addI at hm3 ⊢; omega
        rw [e] at ho ⊢
        have := out_do r _ (m + c.n) (by omega) hf2 ho
        rw [this, do_ret hso (by omega) (by omega), List.length_append, List.length_take]; omega
      · rw [if_neg h1, if_neg (by omega)] at ho ⊢
        have := out_do r _ m hm hf2 ho
        rw [this, do_del hso (by omega)]
theorem do_okc : ∀ (l : List Cp) (cs : List Nat), (∀ c ∈ cs, okc c) → allV l = true → ∀ c ∈ doL cs l, okc c
  | [], _, _, _, c, h => by cases h
  | c :: r, cs, hc, hv, x, hx => by
    simp only [allV, List.all_cons, Bool.and_eq_true] at hv
    rw [doL] at hx
    split at hx
    · exact do_okc r cs hc hv.2 x hx
    · split at hx
      · rcases List.mem_append.1 hx with h | h
        · exact (encs_cpts hv.1).2 x h
        · exact do_okc r cs hc hv.2 x h
      · split at hx
        · exact do_okc r _ (okc_drop hc _) hv.2 x hx
        · rcases List.mem_append.1 hx with h | h
          · exact okc_take hc _ x h
          · exact do_okc r _ (okc_drop hc _) hv.2 x h
theorem sound_texts {l : List Cp} (h : ∀ c ∈ l, sound c = true) : allV l = true := by
  unfold allV
  rw [List.all_eq_true]
  intro c hc
  rcases sound_cases (h c hc) with ⟨_, _, _, hv⟩ | ⟨_, _, ht⟩
  · exact hv
  · rw [ht, pts_nil]; rfl

/-- A part that is done. -/
structure Sp where
  c : Cp
  was : List UInt8
  puts : List UInt8
def stepsL : List Nat → List Cp → List Sp
  | _, [] => []
  | cs, c :: r => ⟨c, if c.k = 2 then [] else encs (cs.take c.n.toNat), if c.k = 2 then c.t else if c.k = 3 then [] else encs (cs.take c.n.toNat)⟩ :: stepsL (cs.drop c.n.toNat) r
theorem steps_len : ∀ (l : List Cp) (cs : List Nat), (stepsL cs l).length = l.length
  | [], _ => rfl
  | c :: r, cs => by rw [stepsL, List.length_cons, steps_len r, List.length_cons]
theorem steps_puts : ∀ (l : List Cp) (cs : List Nat), fit cs l → (stepsL cs l).flatMap Sp.puts = encs (doL cs l)
  | [], _, _ => rfl
  | c :: r, cs, h => by
    obtain ⟨hs, hn, hle, hf⟩ := fit_cons h
    have hso := sound_some hs
    rw [stepsL, List.flatMap_cons, steps_puts r _ hf]
    simp only
    rcases sound_cases hs with ⟨h2, h0, _, hv⟩ | ⟨h13, hp, _⟩
    · rw [if_pos h2, do_ins hso h2, encs_app, (encs_cpts hv).1, h0]; rfl
    · rw [if_neg (by omega)]
      by_cases h3 : c.k = 3
      · rw [if_pos h3, do_del hso h3]; rfl
      · rw [if_neg h3, do_ret hso (by omega) h3, encs_app]
/-- What undoes a part. -/
def undoS (x : Sp) : Cp := if x.c.k = 2 then ⟨3, (cpts x.puts).length, []⟩ else if x.c.k = 3 then ⟨2, 0, x.was⟩ else x.c
def undoL (cs : List Nat) (l : List Cp) : List Cp := (stepsL cs l).map undoS
/-- Why an edit of a text is refused. -/
def errI (s : List UInt8) (l : List Cp) : Int := if checkI l = 0 then (match pts s with | none => 2 | some cs => if (cs.length : Int) = baseL l then 0 else 11) else checkI l
theorem err_zero {s : List UInt8} {l : List Cp} (h : errI s l = 0) : checkI l = 0 ∧ pts s = some (cpts s) ∧ ((cpts s).length : Int) = baseL l ∧ fit (cpts s) l := by
  unfold errI at h
  split at h
  · rename_i hc
    split at h
    · cases h
    · rename_i cs hp
      split at h
      · rename_i hb
        rw [cpts_some hp]
        exact ⟨hc, hp, hb, fit_check hc hb⟩
      · cases h
  · rename_i hc; exact absurd h hc
def stp (s : List UInt8) (l : List Cp) : List Sp := if errI s l = 0 then stepsL (cpts s) l else []
def doneB (s : List UInt8) (l : List Cp) : List UInt8 := if errI s l = 0 then encs (doL (cpts s) l) else []
def undone (s : List UInt8) (l : List Cp) : List Cp := if errI s l = 0 then nf (undoL (cpts s) l) else []

end Go.Proofs
end
