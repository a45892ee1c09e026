/-
  An edit of a place; what does nothing; the law's own readiness.
-/
import Derived.Test.YtknbfkmgoijncaaDoorXBUo5
set_option linter.unusedSimpArgs false
set_option linter.unusedVariables false
set_option linter.defProp false

-- BUo6
section
namespace Go.Proofs
open Go Go.Rw
open _root_.Nat renaming reduceAdd → N0, reduceSub → N1, reduceMul → N2, reduceLT → N3, reduceLeDiff → N4, reduceEqDiff → N5
open _root_.Int renaming reduceNeg → Z0, reduceAdd → Z1, reduceSub → Z2, reduceMul → Z3, reduceGT → Z4, reduceGE → Z5, reduceLT → Z6, reduceLE → Z7, reduceEq → Z8, reduceNe → Z9, reduceToNat → Z10, cast_ofNat_Int → Zc
set_option maxRecDepth 100000
set_option linter.unusedSimpArgs false
set_option linter.unusedVariables false

def ofL (n a b : Int) (t : List UInt8) : List Cp := nf [⟨1, a, []⟩, ⟨2, 0, t⟩, ⟨3, b - a, []⟩, ⟨1, n - b, []⟩]
def ofBad (n a b : Int) (t : List UInt8) : Prop := a < 0 ∨ b < a ∨ n < b ∨ pts t = none
instance (n a b : Int) (t : List UInt8) : Decidable (ofBad n a b t) := by unfold ofBad; exact inferInstance
def ofR (n a b : Int) (t : List UInt8) : AV := if ofBad n a b t then res2 (.sl 0 3 []) 1 else res2 (.sl 0 3 (comps (ofL n a b t))) 0
theorem ofR_er (n a b : Int) (t : List UInt8) : (ofR n a b t).er = ofR n a b t := by unfold ofR; split <;> rfl
abbrev ofCon : Con where
  ι := I64 × I64 × I64 × Str
  args := fun p => [.v (.int .i64 p.1.1), .v (.int .i64 p.2.1.1), .v (.int .i64 p.2.2.1.1), .v (sv p.2.2.2.1)]
  post := fun p r => r = ofR p.1.1 p.2.1.1 p.2.2.1.1 p.2.2.2.1
theorem call_of {Γ : Env} {f : Nat} (hf : Γ.get f = some ofCon) {σ : AS} {dr : Bool} {n a b : Int} {l : List UInt8} {d : Option Nat} {K : AS → Prop} (hn : -9223372036854775808 ≤ n ∧ n ≤ 9223372036854775807) (ha : -9223372036854775808 ≤ a ∧ a ≤ 9223372036854775807) (hb : -9223372036854775808 ≤ b ∧ b ≤ 9223372036854775807) (h : l.length ≤ 1099511627776)
    (hk : cont σ d (ofR n a b l) K) : vcCall Tryd.prog Γ dr σ f [.v (.int .i64 n), .v (.int .i64 a), .v (.int .i64 b), .v (sv l)] d K :=
  vcCall_fn (C := ofCon) (i := (⟨n, hn⟩, ⟨a, ha⟩, ⟨b, hb⟩, ⟨l, h⟩)) (r := ofR n a b l) hf rfl rfl rfl rfl (fun _ h => h) (by rw [ofR_er]; exact hk)
theorem comps_four (a b c d : Cp) : [cA a, cA b, cA c, cA d] = comps [a, b, c, d] := rfl
theorem of_good : Rw.Good Tryd.prog 36 ofCon := by
  have hΓ : GoodEnv Tryd.prog [(51, validCon), (52, normCon)] := (goodEnv_cons valid_good (goodEnv_cons norm_good goodEnv_nil))
  refine good_fn (nn := 41) hΓ Tryd.func36 (by kernel_rfl) rfl (show Tryd.f36.results.toList = [.tmp 8, .tmp 9] from rfl) (fun _ => rfl) (fun _ => rfl) ?_
  rintro ⟨⟨n, hn⟩, ⟨a, ha⟩, ⟨b, hb⟩, ⟨t, ht⟩⟩
  simp only [goRules, coreRules, tiRules, unRules, AS_of_eq, ← decide_not, N0, N1, N2, N3, N4, N5, Z0, Z1, Z2, Z3, Z4, Z5, Z6, Z7, Z8, Z9, Z10, Zc, ↓reduceIte, reduceCtorEq]
  have bad : ofBad n a b t → ofR n a b t = res2 (.sl 0 3 []) 1 := fun h => by rw [ofR, if_pos h]
  have fine : ¬ ofBad n a b t → ofR n a b t = res2 (.sl 0 3 (comps (ofL n a b t))) 0 := fun h => by rw [ofR, if_neg h]
  by_cases h1 : a < 0
  · simp only [goRules, coreRules, tiRules, unRules, AS_of_eq, ← decide_not, N0, N1, N2, N3, N4, N5, Z0, Z1, Z2, Z3, Z4, Z5, Z6, Z7, Z8, Z9, Z10, Zc, ↓reduceIte, reduceCtorEq, h1, bad (.inl h1)]
    rfl
  by_cases h2 : b < a
  · simp only [goRules, coreRules, tiRules, unRules, AS_of_eq, ← decide_not, N0, N1, N2, N3, N4, N5, Z0, Z1, Z2, Z3, Z4, Z5, Z6, Z7, Z8, Z9, Z10, Zc, ↓reduceIte, reduceCtorEq, h1, h2, bad (.inr (.inl h2))]
    rfl
  by_cases h3 : n < b
  · simp only [goRules, coreRules, tiRules, unRules, AS_of_eq, ← decide_not, N0, N1, N2, N3, N4, N5, Z0, Z1, Z2, Z3, Z4, Z5, Z6, Z7, Z8, Z9, Z10, Zc, ↓reduceIte, reduceCtorEq, h1, h2, h3, bad (.inr (.inr (.inl h3)))]
    rfl
  simp only [goRules, coreRules, tiRules, unRules, AS_of_eq, ← decide_not, N0, N1, N2, N3, N4, N5, Z0, Z1, Z2, Z3, Z4, Z5, Z6, Z7, Z8, Z9, Z10, Zc, ↓reduceIte, reduceCtorEq, h1, h2, h3]
  refine call_valid (by simp [get_cons]) ht ?_
  rcases opt_cases (pts t) with hp | ⟨cs, hp⟩
  · simp only [goRules, coreRules, tiRules, unRules, AS_of_eq, ← decide_not, N0, N1, N2, N3, N4, N5, Z0, Z1, Z2, Z3, Z4, Z5, Z6, Z7, Z8, Z9, Z10, Zc, ↓reduceIte, reduceCtorEq, hp, Option.isSome_none, bad (.inr (.inr (.inr hp)))]
    rfl
  · have hf := fine (by rintro (h | h | h | h) <;> first | exact absurd h (by omega) | (rw [hp] at h; cases h))
    simp (disch := omega) only [goRules, coreRules, tiRules, unRules, AS_of_eq, ← decide_not, N0, N1, N2, N3, N4, N5, Z0, Z1, Z2, Z3, Z4, Z5, Z6, Z7, Z8, Z9, Z10, Zc, ↓reduceIte, reduceCtorEq, wrap_i64, hp, Option.isSome_some, List.map_cons, List.map_nil]
    refine call_norm (by simp [get_cons]) (by omega) (l := [⟨1, a, []⟩, ⟨2, 0, t⟩, ⟨3, b - a, []⟩, ⟨1, n - b, []⟩]) rfl ⟨by simp, by simp [tot]; omega, by simp; omega⟩ ?_
    simp only [goRules, coreRules, tiRules, unRules, AS_of_eq, ← decide_not, N0, N1, N2, N3, N4, N5, Z0, Z1, Z2, Z3, Z4, Z5, Z6, Z7, Z8, Z9, Z10, Zc, ↓reduceIte, reduceCtorEq]
    rw [hf]; rfl
def keepL (n : Int) : List Cp := if n < 1 then [] else [⟨1, n, []⟩]
abbrev keepCon : Con where
  ι := I64
  args := fun n => [.v (.int .i64 n.1)]
  post := fun n r => r = .sl 0 3 (comps (keepL n.1))
def busy (c : Cp) : Bool := decide (c.k = 2) || decide (c.k = 3)
def idxF : Int → List Cp → Int
  | _, [] => -1
  | i, c :: r => if busy c then i else idxF (i + 1) r
theorem idxF_any : ∀ (l : List Cp) (i : Int), 0 ≤ i → decide (idxF i l ≥ 0) = l.any busy
  | [], i, _ => by simp [idxF]
  | c :: r, i, hi => by
    simp only [idxF, List.any_cons]
    split
    · rename_i h
      simp [h, hi]
    · rename_i h
      rw [idxF_any r (i + 1) (by omega)]
      simp [h]
theorem idxF_range : ∀ (l : List Cp) (i : Int), 0 ≤ i → -1 ≤ idxF i l ∧ idxF i l ≤ i + l.length
  | [], i, _ => by simp [idxF]; omega
  | c :: r, i, hi => by
    simp only [idxF, List.length_cons]
    split
    · omega
    · have := idxF_range r (i + 1) (by omega)
      omega
abbrev busyCon : Con := partCon busy
abbrev idleCon : Con where
  ι := Ed
  args := fun l => [.sl 0 3 (comps l.1)]
  post := fun l r => r = .v (.bool (!l.1.any busy))
  plain := true
end Go.Proofs
end
