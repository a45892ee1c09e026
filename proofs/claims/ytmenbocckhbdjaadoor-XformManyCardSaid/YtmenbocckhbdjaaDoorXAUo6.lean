/-
  An edit of a place; what does nothing; the law's own readiness.
-/
import Derived.Test.YtmenbocckhbdjaaDoorXAUo5
set_option linter.unusedSimpArgs false
set_option linter.unusedVariables false
set_option linter.defProp false

-- AUo6
section
namespace Go.Proofs
open Go Go.Rw
open _root_.Nat renaming reduceAdd → N0, reduceSub → N1, reduceMul → N2, reduceLT → N3, reduceLeDiff → N4, reduceEqDiff → N5
open _root_.Int renaming reduceNeg → Z0, reduceAdd → Z1, reduceSub → Z2, reduceMul → Z3, reduceGT → Z4, reduceGE → Z5, reduceLT → Z6, reduceLE → Z7, reduceEq → Z8, reduceNe → Z9, reduceToNat → Z10, cast_ofNat_Int → Zc
set_option maxRecDepth 100000
set_option linter.unusedSimpArgs false
set_option linter.unusedVariables false

def ofL (n a b : Int) (t : List UInt8) : List Cp := nf [⟨1, a, []⟩, ⟨2, 0, t⟩, ⟨3, b - a, []⟩, ⟨1, n - b, []⟩]
def ofBad (n a b : Int) (t : List UInt8) : Prop := a < 0 ∨ b < a ∨ n < b ∨ pts t = none
instance (n a b : Int) (t : List UInt8) : Decidable (ofBad n a b t) := by unfold ofBad; exact inferInstance
def ofR (n a b : Int) (t : List UInt8) : AV := if ofBad n a b t then res2 (.sl 0 3 []) 1 else res2 (.sl 0 3 (comps (ofL n a b t))) 0
theorem ofR_er (n a b : Int) (t : List UInt8) : (ofR n a b t).er = ofR n a b t := by unfold ofR; split <;> rfl
abbrev ofCon : Con where
  ι := I64 × I64 × I64 × Str
  args := fun p => [.v (.int .i64 p.1.1), .v (.int .i64 p.2.1.1), .v (.int .i64 p.2.2.1.1), .v (sv p.2.2.2.1)]
  post := fun p r => r = ofR p.1.1 p.2.1.1 p.2.2.1.1 p.2.2.2.1
theorem call_of {Γ : Env} {f : Nat} (hf : Γ.get f = some ofCon) {σ : AS} {dr : Bool} {n a b : Int} {l : List UInt8} {d : Option Nat} {K : AS → Prop} (hn : -9223372036854775808 ≤ n ∧ n ≤ 9223372036854775807) (ha : -9223372036854775808 ≤ a ∧ a ≤ 9223372036854775807) (hb : -9223372036854775808 ≤ b ∧ b ≤ 9223372036854775807) (h : l.length ≤ 1099511627776)
    (hk : cont σ d (ofR n a b l) K) : vcCall Tryd.prog Γ dr σ f [.v (.int .i64 n), .v (.int .i64 a), .v (.int .i64 b), .v (sv l)] d K :=
  vcCall_fn (C := ofCon) (i := (⟨n, hn⟩, ⟨a, ha⟩, ⟨b, hb⟩, ⟨l, h⟩)) (r := ofR n a b l) hf rfl rfl rfl rfl (fun _ h => h) (by rw [ofR_er]; exact hk)
theorem comps_four (a b c d : Cp) : [cA a, cA b, cA c, cA d] = comps [a, b, c, d] := rfl
theorem of_good : Rw.Good Tryd.prog 49 ofCon := by
  have hΓ : GoodEnv Tryd.prog [(55, validCon), (62, normCon)] := (goodEnv_cons valid_good (goodEnv_cons norm_good goodEnv_nil))
  refine good_fn (nn := 41) hΓ Tryd.func49 (by kernel_rfl) rfl (show Tryd.f49.results.toList = [.tmp 8, .tmp 9] from rfl) (fun _ => rfl) (fun _ => rfl) ?_
  rintro ⟨⟨n, hn⟩, ⟨a, ha⟩, ⟨b, hb⟩, ⟨t, ht⟩⟩
  simp only [goRules, coreRules, tiRules, unRules, AS_of_eq, ← decide_not, N0, N1, N2, N3, N4, N5, Z0, Z1, Z2, Z3, Z4, Z5, Z6, Z7, Z8, Z9, Z10, Zc, ↓reduceIte, reduceCtorEq]
  have bad : ofBad n a b t → ofR n a b t = res2 (.sl 0 3 []) 1 := fun h => by rw [ofR, if_pos h]
  have fine : ¬ ofBad n a b t → ofR n a b t = res2 (.sl 0 3 (comps (ofL n a b t))) 0 := fun h => by rw [ofR, if_neg h]
  by_cases h1 : a < 0
  · simp only [goRules, coreRules, tiRules, unRules, AS_of_eq, ← decide_not, N0, N1, N2, N3, N4, N5, Z0, Z1, Z2, Z3, Z4, Z5, Z6, Z7, Z8, Z9, Z10, Zc, ↓reduceIte, reduceCtorEq, h1, bad (.inl h1)]
    rfl
  by_cases h2 : b < a
  · simp only [goRules, coreRules, tiRules, unRules, AS_of_eq, ← decide_not, N0, N1, N2, N3, N4, N5, Z0, Z1, Z2, Z3, Z4, Z5, Z6, Z7, Z8, Z9, Z10, Zc, ↓reduceIte, reduceCtorEq, h1, h2, bad (.inr (.inl h2))]
    rfl
  by_cases h3 : n < b
  · simp only [goRules, coreRules, tiRules, unRules, AS_of_eq, ← decide_not, N0, N1, N2, N3, N4, N5, Z0, Z1, Z2, Z3, Z4, Z5, Z6, Z7, Z8, Z9, Z10, Zc, ↓reduceIte, reduceCtorEq, h1, h2, h3, bad (.inr (.inr (.inl h3)))]
    rfl
  simp only [goRules, coreRules, tiRules, unRules, AS_of_eq, ← decide_not, N0, N1, N2, N3, N4, N5, Z0, Z1, Z2, Z3, Z4, Z5, Z6, Z7, Z8, Z9, Z10, Zc, ↓reduceIte, reduceCtorEq, h1, h2, h3]
  refine call_valid (by simp [get_cons]) ht ?_
  rcases opt_cases (pts t) with hp | ⟨cs, hp⟩
  · simp only [goRules, coreRules, tiRules, unRules, AS_of_eq, ← decide_not, N0, N1, N2, N3, N4, N5, Z0, Z1, Z2, Z3, Z4, Z5, Z6, Z7, Z8, Z9, Z10, Zc, ↓reduceIte, reduceCtorEq, hp, Option.isSome_none, bad (.inr (.inr (.inr hp)))]
    rfl
  · have hf := fine (by rintro (h | h | h | h) <;> first | exact absurd h (by omega) | (rw [hp] at h; cases h))
    simp (disch := omega) only [goRules, coreRules, tiRules, unRules, AS_of_eq, ← decide_not, N0, N1, N2, N3, N4, N5, Z0, Z1, Z2, Z3, Z4, Z5, Z6, Z7, Z8, Z9, Z10, Zc, ↓reduceIte, reduceCtorEq, wrap_i64, hp, Option.isSome_some, List.map_cons, List.map_nil]
    refine call_norm (by simp [get_cons]) (by omega) (l := [⟨1, a, []⟩, ⟨2, 0, t⟩, ⟨3, b - a, []⟩, ⟨1, n - b, []⟩]) rfl ⟨by simp, by simp [tot]; omega, by simp; omega⟩ ?_
    simp only [goRules, coreRules, tiRules, unRules, AS_of_eq, ← decide_not, N0, N1, N2, N3, N4, N5, Z0, Z1, Z2, Z3, Z4, Z5, Z6, Z7, Z8, Z9, Z10, Zc, ↓reduceIte, reduceCtorEq]
    rw [hf]; rfl
theorem rof_good : Rw.Good Tryd.prog 64 ofCon := by
  have hΓ : GoodEnv Tryd.prog [(26, validCon), (63, normCon)] := (goodEnv_cons rvalid_good (goodEnv_cons rnorm_good goodEnv_nil))
  refine good_fn (nn := 41) hΓ Tryd.func64 (by kernel_rfl) rfl (show Tryd.f64.results.toList = [.tmp 8, .tmp 9] from rfl) (fun _ => rfl) (fun _ => rfl) ?_
  rintro ⟨⟨n, hn⟩, ⟨a, ha⟩, ⟨b, hb⟩, ⟨t, ht⟩⟩
  simp only [goRules, coreRules, tiRules, unRules, AS_of_eq, ← decide_not, N0, N1, N2, N3, N4, N5, Z0, Z1, Z2, Z3, Z4, Z5, Z6, Z7, Z8, Z9, Z10, Zc, ↓reduceIte, reduceCtorEq]
  have bad : ofBad n a b t → ofR n a b t = res2 (.sl 0 3 []) 1 := fun h => by rw [ofR, if_pos h]
  have fine : ¬ ofBad n a b t → ofR n a b t = res2 (.sl 0 3 (comps (ofL n a b t))) 0 := fun h => by rw [ofR, if_neg h]
  by_cases h1 : a < 0
  · simp only [goRules, coreRules, tiRules, unRules, AS_of_eq, ← decide_not, N0, N1, N2, N3, N4, N5, Z0, Z1, Z2, Z3, Z4, Z5, Z6, Z7, Z8, Z9, Z10, Zc, ↓reduceIte, reduceCtorEq, h1, bad (.inl h1)]
    rfl
  by_cases h2 : b < a
  · simp only [goRules, coreRules, tiRules, unRules, AS_of_eq, ← decide_not, N0, N1, N2, N3, N4, N5, Z0, Z1, Z2, Z3, Z4, Z5, Z6, Z7, Z8, Z9, Z10, Zc, ↓reduceIte, reduceCtorEq, h1, h2, bad (.inr (.inl h2))]
    rfl
  by_cases h3 : n < b
  · simp only [goRules, coreRules, tiRules, unRules, AS_of_eq, ← decide_not, N0, N1, N2, N3, N4, N5, Z0, Z1, Z2, Z3, Z4, Z5, Z6, Z7, Z8, Z9, Z10, Zc, ↓reduceIte, reduceCtorEq, h1, h2, h3, bad (.inr (.inr (.inl h3)))]
    rfl
  simp only [goRules, coreRules, tiRules, unRules, AS_of_eq, ← decide_not, N0, N1, N2, N3, N4, N5, Z0, Z1, Z2, Z3, Z4, Z5, Z6, Z7, Z8, Z9, Z10, Zc, ↓reduceIte, reduceCtorEq, h1, h2, h3]
  refine call_rvalid (by simp [get_cons]) ht ?_
  rcases opt_cases (pts t) with hp | ⟨cs, hp⟩
  · simp only [goRules, coreRules, tiRules, unRules, AS_of_eq, ← decide_not, N0, N1, N2, N3, N4, N5, Z0, Z1, Z2, Z3, Z4, Z5, Z6, Z7, Z8, Z9, Z10, Zc, ↓reduceIte, reduceCtorEq, hp, Option.isSome_none, bad (.inr (.inr (.inr hp)))]
    rfl
  · have hf := fine (by rintro (h | h | h | h) <;> first | exact absurd h (by omega) | (rw [hp] at h; cases h))
    simp (disch := omega) only [goRules, coreRules, tiRules, unRules, AS_of_eq, ← decide_not, N0, N1, N2, N3, N4, N5, Z0, Z1, Z2, Z3, Z4, Z5, Z6, Z7, Z8, Z9, Z10, Zc, ↓reduceIte, reduceCtorEq, wrap_i64, hp, Option.isSome_some, List.map_cons, List.map_nil]
    refine call_norm (by simp [get_cons]) (by omega) (l := [⟨1, a, []⟩, ⟨2, 0, t⟩, ⟨3, b - a, []⟩, ⟨1, n - b, []⟩]) rfl ⟨by simp, by simp [tot]; omega, by simp; omega⟩ ?_
    simp only [goRules, coreRules, tiRules, unRules, AS_of_eq, ← decide_not, N0, N1, N2, N3, N4, N5, Z0, Z1, Z2, Z3, Z4, Z5, Z6, Z7, Z8, Z9, Z10, Zc, ↓reduceIte, reduceCtorEq]
    rw [hf]; rfl

def keepL (n : Int) : List Cp := if n < 1 then [] else [⟨1, n, []⟩]
abbrev keepCon : Con where
  ι := I64
  args := fun n => [.v (.int .i64 n.1)]
  post := fun n r => r = .sl 0 3 (comps (keepL n.1))
theorem keep_good : Rw.Good Tryd.prog 40 keepCon := by
  have hΓ : GoodEnv Tryd.prog [] := goodEnv_nil
  refine good_fn (nn := 8) hΓ Tryd.func40 (by kernel_rfl) rfl (show Tryd.f40.results.toList = [.tmp 2] from rfl) (fun _ => rfl) (fun _ => rfl) ?_
  rintro ⟨n, hn⟩
  simp only [goRules, coreRules, tiRules, unRules, AS_of_eq, ← decide_not, N0, N1, N2, N3, N4, N5, Z0, Z1, Z2, Z3, Z4, Z5, Z6, Z7, Z8, Z9, Z10, Zc, ↓reduceIte, reduceCtorEq]
  by_cases h : n < 1
  · simp only [goRules, coreRules, tiRules, unRules, AS_of_eq, ← decide_not, N0, N1, N2, N3, N4, N5, Z0, Z1, Z2, Z3, Z4, Z5, Z6, Z7, Z8, Z9, Z10, Zc, ↓reduceIte, reduceCtorEq, h, keepL]
    rfl
  · simp only [goRules, coreRules, tiRules, unRules, AS_of_eq, ← decide_not, N0, N1, N2, N3, N4, N5, Z0, Z1, Z2, Z3, Z4, Z5, Z6, Z7, Z8, Z9, Z10, Zc, ↓reduceIte, reduceCtorEq, h, keepL, List.map_cons, List.map_nil]
    rfl
theorem call_keep {Γ : Env} (hf : Γ.get 40 = some keepCon) {σ : AS} {dr : Bool} {n : Int} {d : Option Nat} {K : AS → Prop} (hn : -9223372036854775808 ≤ n ∧ n ≤ 9223372036854775807)
    (hk : cont σ d (.sl 0 3 (comps (keepL n))) K) : vcCall Tryd.prog Γ dr σ 40 [.v (.int .i64 n)] d K :=
  vcCall_fn (C := keepCon) (i := ⟨n, hn⟩) (r := .sl 0 3 (comps (keepL n))) hf rfl rfl rfl rfl (fun _ h => h) hk

def busy (c : Cp) : Bool := decide (c.k = 2) || decide (c.k = 3)
theorem busy_good : Rw.Good Tryd.prog 57 (partCon busy) := by
  have hΓ : GoodEnv Tryd.prog [] := goodEnv_nil
  refine good_fn (nn := 11) hΓ Tryd.func57 (by kernel_rfl) rfl (show Tryd.f57.results.toList = [.tmp 2] from rfl) (fun _ => rfl) (fun _ => rfl) ?_
  rintro ⟨⟨k, n, t⟩, ht⟩
  simp only at ht
  simp only [goRules, coreRules, tiRules, unRules, AS_of_eq, ← decide_not, N0, N1, N2, N3, N4, N5, Z0, Z1, Z2, Z3, Z4, Z5, Z6, Z7, Z8, Z9, Z10, Zc, ↓reduceIte, reduceCtorEq, cA, busy]
  (with_reducible first | refine branchP_dec (fun h => ?_) (fun h => ?_) | refine guardB_dec (fun h => ?_) (fun h => ?_))
  · simp only [goRules, coreRules, tiRules, unRules, AS_of_eq, ← decide_not, N0, N1, N2, N3, N4, N5, Z0, Z1, Z2, Z3, Z4, Z5, Z6, Z7, Z8, Z9, Z10, Zc, ↓reduceIte, reduceCtorEq, h]
  · simp only [goRules, coreRules, tiRules, unRules, AS_of_eq, ← decide_not, N0, N1, N2, N3, N4, N5, Z0, Z1, Z2, Z3, Z4, Z5, Z6, Z7, Z8, Z9, Z10, Zc, ↓reduceIte, reduceCtorEq, h]
theorem call_busy {Γ : Env} (hf : Γ.get 57 = some (partCon busy)) {σ : AS} {dr : Bool} {c : Cp} {d : Option Nat} {K : AS → Prop} (h : c.t.length ≤ 1099511627776)
    (hk : cont σ d (.v (.bool (busy c))) K) : vcCall Tryd.prog Γ dr σ 57 [.agg [.v (.int .i64 c.k), .v (.int .i64 c.n), .v (sv c.t)]] d K :=
  vcCall_plain (C := partCon busy) (i := ⟨c, h⟩) hf rfl rfl rfl rfl (fun _ h => h) rfl hk
def idxF : Int → List Cp → Int
  | _, [] => -1
  | i, c :: r => if busy c then i else idxF (i + 1) r
theorem idxF_any : ∀ (l : List Cp) (i : Int), 0 ≤ i → decide (idxF i l ≥ 0) = l.any busy
  | [], i, _ => by simp [idxF]
  | c :: r, i, hi => by
    simp only [idxF, List.any_cons]
    split
    · rename_i h
      simp [h, hi]
    · rename_i h
      rw [idxF_any r (i + 1) (by omega)]
      simp [h]
theorem idxF_range : ∀ (l : List Cp) (i : Int), 0 ≤ i → -1 ≤ idxF i l ∧ idxF i l ≤ i + l.length
  | [], i, _ => by simp [idxF]; omega
  | c :: r, i, hi => by
    simp only [idxF, List.length_cons]
    split
    · omega
    · have := idxF_range r (i + 1) (by omega)
      omega
abbrev busyCon : Con := partCon busy
abbrev idxCon : Con where
  ι := Ed
  args := fun l => [.sl 0 3 (comps l.1), .fn 57 []]
  post := fun l r => r = .v (.int .i64 (idxF 0 l.1))
  plain := true
theorem idx_good : Rw.Good Tryd.prog 81 idxCon := by
  have hΓ : GoodEnv Tryd.prog [(57, busyCon)] := (goodEnv_cons busy_good goodEnv_nil)
  refine good_fn (nn := 19) hΓ Tryd.func81 (by kernel_rfl) rfl (show Tryd.f81.results.toList = [.tmp 4] from rfl) (fun _ => rfl) (fun _ => rfl) ?_
  rintro ⟨l, hl, htot, hc⟩
  simp only [goRules, coreRules, tiRules, unRules, AS_of_eq, ← decide_not, N0, N1, N2, N3, N4, N5, Z0, Z1, Z2, Z3, Z4, Z5, Z6, Z7, Z8, Z9, Z10, Zc, ↓reduceIte, reduceCtorEq, comps_len]
  obtain ⟨St, hSt⟩ : ∃ St : { i : Nat // i ≤ l.length ∧ idxF 0 l = idxF i (l.drop i) } → AS, ∀ i, St i = AS.of 19 [(0, .sl 0 3 (comps l)), (1, .fn 57 []), (7, .v (.int .i64 l.length)), (8, .v (.int .i64 i.1))] [] [] := ⟨_, fun _ => rfl⟩
  refine vc_loop hΓ St (fun i => l.length - i.1) ⟨0, by omega, rfl⟩ (by rw [hSt]; refine weak_go [] [] ?_; simp only [goRules, coreRules, tiRules, unRules, AS_of_eq, ← decide_not, N0, N1, N2, N3, N4, N5, Z0, Z1, Z2, Z3, Z4, Z5, Z6, Z7, Z8, Z9, Z10, Zc, ↓reduceIte, reduceCtorEq] <;> ((repeat' apply And.intro) <;> first | rfl | omega | trivial)) ?_
  rintro ⟨i, hi, hb⟩
  rw [hSt]
  simp only
  simp only [goRules, coreRules, tiRules, unRules, AS_of_eq, ← decide_not, N0, N1, N2, N3, N4, N5, Z0, Z1, Z2, Z3, Z4, Z5, Z6, Z7, Z8, Z9, Z10, Zc, ↓reduceIte, reduceCtorEq]
  (with_reducible first | refine branchP_dec (fun h => ?_) (fun h => ?_) | refine guardB_dec (fun h => ?_) (fun h => ?_))
  · have hlt : i < l.length := by omega
    have hci := okL.text ⟨hl, htot, hc⟩ (List.getElem_mem hlt)
    have e1 := comps_getD l hlt
    rw [List.drop_eq_getElem_cons hlt, idxF] at hb
    simp (disch := omega) only [goRules, coreRules, tiRules, unRules, AS_of_eq, ← decide_not, N0, N1, N2, N3, N4, N5, Z0, Z1, Z2, Z3, Z4, Z5, Z6, Z7, Z8, Z9, Z10, Zc, ↓reduceIte, reduceCtorEq, wrap_i64, h, e1, comps_len]
    (repeat (with_reducible refine And.intro ?_ ?_; focus (first | omega | exact mixed1 | kernel_rfl)))
    refine call_busy (by simp [get_cons]) hci ?_
    cases hs : busy l[i] with
    | true =>
      simp only [goRules, coreRules, tiRules, unRules, AS_of_eq, ← decide_not, N0, N1, N2, N3, N4, N5, Z0, Z1, Z2, Z3, Z4, Z5, Z6, Z7, Z8, Z9, Z10, Zc, ↓reduceIte, reduceCtorEq, hs]
      rw [hb, hs]; rfl
    | false =>
      rw [hs] at hb
      simp (disch := omega) only [goRules, coreRules, tiRules, unRules, AS_of_eq, ← decide_not, N0, N1, N2, N3, N4, N5, Z0, Z1, Z2, Z3, Z4, Z5, Z6, Z7, Z8, Z9, Z10, Zc, ↓reduceIte, reduceCtorEq, wrap_i64, hs]
      refine weak_again ⟨i + 1, by omega, by rw [hb]; rfl⟩ (by simp only; omega) ?_
      rw [hSt]; refine weak_go [] [] ?_
      simp only [goRules, coreRules, tiRules, unRules, AS_of_eq, ← decide_not, N0, N1, N2, N3, N4, N5, Z0, Z1, Z2, Z3, Z4, Z5, Z6, Z7, Z8, Z9, Z10, Zc, ↓reduceIte, reduceCtorEq] <;> ((repeat' apply And.intro) <;> first | rfl | omega | trivial)
  · simp only [goRules, coreRules, tiRules, unRules, AS_of_eq, ← decide_not, N0, N1, N2, N3, N4, N5, Z0, Z1, Z2, Z3, Z4, Z5, Z6, Z7, Z8, Z9, Z10, Zc, ↓reduceIte, reduceCtorEq, h]
    rw [List.drop_of_length_le (by omega)] at hb
    rw [hb]; rfl
abbrev contCon : Con where
  ι := Ed
  args := fun l => [.sl 0 3 (comps l.1), .fn 57 []]
  post := fun l r => r = .v (.bool (l.1.any busy))
  plain := true
theorem cont_good : Rw.Good Tryd.prog 56 contCon := by
  have hΓ : GoodEnv Tryd.prog [(81, idxCon)] := (goodEnv_cons idx_good goodEnv_nil)
  refine good_fn (nn := 9) hΓ Tryd.func56 (by kernel_rfl) rfl (show Tryd.f56.results.toList = [.tmp 4] from rfl) (fun _ => rfl) (fun _ => rfl) ?_
  rintro ⟨l, hl⟩
  simp only [goRules, coreRules, tiRules, unRules, AS_of_eq, ← decide_not, N0, N1, N2, N3, N4, N5, Z0, Z1, Z2, Z3, Z4, Z5, Z6, Z7, Z8, Z9, Z10, Zc, ↓reduceIte, reduceCtorEq]
  refine vcCall_plain (C := idxCon) (i := ⟨l, hl⟩) (r := .v (.int .i64 (idxF 0 l))) (by simp [get_cons]) rfl rfl rfl rfl (fun _ h => h) rfl ?_
  simp only [goRules, coreRules, tiRules, unRules, AS_of_eq, ← decide_not, N0, N1, N2, N3, N4, N5, Z0, Z1, Z2, Z3, Z4, Z5, Z6, Z7, Z8, Z9, Z10, Zc, ↓reduceIte, reduceCtorEq, idxF_any l 0 (by omega)]
abbrev idleCon : Con where
  ι := Ed
  args := fun l => [.sl 0 3 (comps l.1)]
  post := fun l r => r = .v (.bool (!l.1.any busy))
  plain := true
theorem idle_good : Rw.Good Tryd.prog 27 idleCon := by
  have hΓ : GoodEnv Tryd.prog [(56, contCon)] := (goodEnv_cons cont_good goodEnv_nil)
  refine good_fn (nn := 6) hΓ Tryd.func27 (by kernel_rfl) rfl (show Tryd.f27.results.toList = [.tmp 2] from rfl) (fun _ => rfl) (fun _ => rfl) ?_
  rintro ⟨l, hl⟩
  simp only [goRules, coreRules, tiRules, unRules, AS_of_eq, ← decide_not, N0, N1, N2, N3, N4, N5, Z0, Z1, Z2, Z3, Z4, Z5, Z6, Z7, Z8, Z9, Z10, Zc, ↓reduceIte, reduceCtorEq]
  refine vcCall_plain (C := contCon) (i := ⟨l, hl⟩) (r := .v (.bool (l.any busy))) (by simp [get_cons]) rfl rfl rfl rfl (fun _ h => h) rfl ?_
  simp only [goRules, coreRules, tiRules, unRules, AS_of_eq, ← decide_not, N0, N1, N2, N3, N4, N5, Z0, Z1, Z2, Z3, Z4, Z5, Z6, Z7, Z8, Z9, Z10, Zc, ↓reduceIte, reduceCtorEq]
theorem call_idle {Γ : Env} (hf : Γ.get 27 = some idleCon) {σ : AS} {dr : Bool} {l : List Cp} {t : Nat} {ys : List AV} {d : Option Nat} {K : AS → Prop} (hy : ys = comps l) (h : okL l)
    (hk : cont σ d (.v (.bool (!l.any busy))) K) : vcCall Tryd.prog Γ dr σ 27 [.sl t 3 ys] d K := by
  subst hy
  exact vcCall_plain (C := idleCon) (i := ⟨l, h⟩) hf rfl rfl rfl rfl (fun _ h => h) rfl hk
end Go.Proofs
end
