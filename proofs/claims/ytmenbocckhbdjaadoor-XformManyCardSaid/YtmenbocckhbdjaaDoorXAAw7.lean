/-
  Keep, All: the program's, the document's.
-/
import Derived.Test.YtmenbocckhbdjaaDoorXAAw6
set_option linter.unusedSimpArgs false
set_option linter.unusedVariables false
set_option linter.defProp false

-- AAw7
section
namespace Go.Proofs
open Go Go.Rw
open _root_.Nat renaming reduceAdd → N0, reduceSub → N1, reduceMul → N2, reduceLT → N3, reduceLeDiff → N4, reduceEqDiff → N5
open _root_.Int renaming reduceNeg → Z0, reduceAdd → Z1, reduceSub → Z2, reduceMul → Z3, reduceGT → Z4, reduceGE → Z5, reduceLT → Z6, reduceLE → Z7, reduceEq → Z8, reduceNe → Z9, reduceToNat → Z10, cast_ofNat_Int → Zc
set_option maxRecDepth 100000
set_option linter.unusedSimpArgs false
set_option linter.unusedVariables false

theorem rkeep_good : Rw.Good Tryd.prog 75 keepCon := by
  have hΓ : GoodEnv Tryd.prog [] := goodEnv_nil
  refine good_fn (nn := 8) hΓ Tryd.func75 (by kernel_rfl) rfl (show Tryd.f75.results.toList = [.tmp 2] from rfl) (fun _ => rfl) (fun _ => rfl) ?_
  rintro ⟨n, hn⟩
  simp only [goRules, coreRules, tiRules, unRules, AS_of_eq, ← decide_not, N0, N1, N2, N3, N4, N5, Z0, Z1, Z2, Z3, Z4, Z5, Z6, Z7, Z8, Z9, Z10, Zc, ↓reduceIte, reduceCtorEq]
  by_cases h : n < 1
  · simp only [goRules, coreRules, tiRules, unRules, AS_of_eq, ← decide_not, N0, N1, N2, N3, N4, N5, Z0, Z1, Z2, Z3, Z4, Z5, Z6, Z7, Z8, Z9, Z10, Zc, ↓reduceIte, reduceCtorEq, h]
    rw [keepL, if_pos h]; rfl
  · simp only [goRules, coreRules, tiRules, unRules, AS_of_eq, ← decide_not, N0, N1, N2, N3, N4, N5, Z0, Z1, Z2, Z3, Z4, Z5, Z6, Z7, Z8, Z9, Z10, Zc, ↓reduceIte, reduceCtorEq, h, List.map_cons, List.map_nil]
    try (repeat (with_reducible refine And.intro ?_ ?_; focus (first | omega | exact mixed1 | kernel_rfl)))
    rw [keepL, if_neg h]; rfl
theorem call_rkeep {Γ : Env} (hf : Γ.get 75 = some keepCon) {σ : AS} {dr : Bool} {n : Int} {d : Option Nat} {K : AS → Prop} (hn : -9223372036854775808 ≤ n ∧ n ≤ 9223372036854775807)
    (hk : cont σ d (.sl 0 3 (comps (keepL n))) K) : vcCall Tryd.prog Γ dr σ 75 [.v (.int .i64 n)] d K :=
  vcCall_fn (C := keepCon) (i := ⟨n, hn⟩) (r := .sl 0 3 (comps (keepL n))) hf rfl rfl rfl rfl (fun _ h => h) hk
theorem twoR_er (a b : List Cp) : (twoR a b).er = twoR a b := by
  unfold twoR
  split <;> simp [res2, AV.er, AV.erL]
theorem call_two {Γ : Env} {f : Nat} (hf : Γ.get f = some twoCon) {σ : AS} {dr : Bool} {a b : List Cp} {ys zs : List AV} {d : Option Nat} {K : AS → Prop} (hy : ys = comps a) (hz : zs = comps b) (oa : okL a) (ob : okL b)
    (hk : cont σ d (twoR a b) K) : vcCall Tryd.prog Γ dr σ f [.sl 0 3 ys, .sl 0 3 zs] d K := by
  subst hy hz
  exact vcCall_fn (C := twoCon) (i := (⟨a, oa⟩, ⟨b, ob⟩)) (r := twoR a b) hf rfl rfl rfl rfl (fun _ h => h) (by rw [twoR_er]; exact hk)
/-- Edits, one behind the other. -/
def allS : List Cp → List (List Cp) → List Cp × Int
  | out, [] => (out, 0)
  | out, x :: r => if twoE out x = 0 then allS (twoN out x) r else ([], twoE out x)
def edits (l : List (List Cp)) : List AV := l.map fun x => .sl 0 3 (comps x)
theorem edits_len (l : List (List Cp)) : (edits l).length = l.length := by simp [edits]
theorem edits_getD (l : List (List Cp)) {i : Nat} (h : i < l.length) : (edits l).getD i .any = .sl 0 3 (comps l[i]) := by
  simp [edits, List.getD_eq_getElem?_getD, h]
abbrev Eds := { l : List (List Cp) // l.length ≤ 1099511627776 ∧ ∀ x ∈ l, okL x }
abbrev allCon : Con where
  ι := I64 × Eds
  args := fun p => [.v (.int .i64 p.1.1), .sl 0 1 (edits p.2.1)]
  post := fun p r => r = res2 (.sl 0 3 (comps (allS (keepL p.1.1) p.2.1).1)) (allS (keepL p.1.1) p.2.1).2
theorem okL_nf {l : List Cp} (h : okL l) (hb : l.length ≤ 100000) : okL (nf l) := by
  obtain ⟨h1, h2, h3⟩ := nfF_ok l 0 [] 0 (by omega) (by omega)
  have h4 := h.2.1
  rw [List.length_nil] at h2
  unfold nf
  exact ⟨by omega, by omega, fun c hc => by have := h3 c hc; omega⟩
theorem two_rawlen {a b : List Cp} (h1 : checkI a = 0) (h2 : checkI b = 0) (o1 : okL a) (o2 : okL b) : (twoF ((unL a).length + (unL b).length) (a, 0) (b, 0)).length ≤ 100000 := by
  obtain ⟨r1, r2, r3⟩ := two_raw h1 h2 o1 o2
  have := (okL_units r2).1
  rw [r1] at this
  have := twoU_len (unL a) (unL b)
  have := (out_units h1).2.2
  have := (out_units h2).2.2
  omega
theorem okL_two {a b : List Cp} (h : twoE a b = 0) (oa : okL a) (ob : okL b) : okL (twoN a b) := by
  obtain ⟨h1, h2, _⟩ := twoE_zero h
  exact okL_nf (two_raw h1 h2 oa ob).2.2 (two_rawlen h1 h2 oa ob)
theorem okL_keep {n : Int} (hn : -9223372036854775808 ≤ n ∧ n ≤ 9223372036854775807) : okL (keepL n) := by
  unfold keepL
  split
  · exact ⟨by simp, by simp [tot], by simp⟩
  · exact ⟨by simp, by simp [tot], by simpa using hn⟩
theorem all_good : Rw.Good Tryd.prog 38 allCon := by
  have hΓ : GoodEnv Tryd.prog [(40, keepCon), (36, twoCon)] := (goodEnv_cons keep_good (goodEnv_cons two_good goodEnv_nil))
  refine good_fn (nn := 27) hΓ Tryd.func38 (by kernel_rfl) rfl (show Tryd.f38.results.toList = [.tmp 4, .tmp 5] from rfl) (fun _ => rfl) (fun _ => rfl) ?_
  rintro ⟨⟨n, hn⟩, ⟨l, hl, hok⟩⟩
  simp only [goRules, coreRules, tiRules, unRules, AS_of_eq, ← decide_not, N0, N1, N2, N3, N4, N5, Z0, Z1, Z2, Z3, Z4, Z5, Z6, Z7, Z8, Z9, Z10, Zc, ↓reduceIte, reduceCtorEq, edits_len]
  refine call_keep (by simp [get_cons]) hn ?_
  simp only [goRules, coreRules, tiRules, unRules, AS_of_eq, ← decide_not, N0, N1, N2, N3, N4, N5, Z0, Z1, Z2, Z3, Z4, Z5, Z6, Z7, Z8, Z9, Z10, Zc, ↓reduceIte, reduceCtorEq, edits_len]
  obtain ⟨St, hSt⟩ : ∃ St : { p : List Cp × Nat // p.2 ≤ l.length ∧ okL p.1 ∧ allS p.1 (l.drop p.2) = allS (keepL n) l } → AS, ∀ p, St p = AS.of 27 [(4, .sl 0 3 (comps p.1.1)), (10, .sl 0 1 (edits l)), (11, .v (.int .i64 l.length)), (12, .v (.int .i64 p.1.2))] [] [] := ⟨_, fun _ => rfl⟩
  refine vc_loop hΓ St (fun p => l.length - p.1.2) ⟨(keepL n, 0), by simp, okL_keep hn, rfl⟩ (by rw [hSt]; refine weak_go [] [] ?_; simp only [goRules, coreRules, tiRules, unRules, AS_of_eq, ← decide_not, N0, N1, N2, N3, N4, N5, Z0, Z1, Z2, Z3, Z4, Z5, Z6, Z7, Z8, Z9, Z10, Zc, ↓reduceIte, reduceCtorEq] <;> ((repeat' apply And.intro) <;> first | rfl | omega | trivial)) ?_
  rintro ⟨⟨out, i⟩, hi, ho, hs⟩
  simp only at hi ho hs
  rw [hSt]
  simp only
  simp only [goRules, coreRules, tiRules, unRules, AS_of_eq, ← decide_not, N0, N1, N2, N3, N4, N5, Z0, Z1, Z2, Z3, Z4, Z5, Z6, Z7, Z8, Z9, Z10, Zc, ↓reduceIte, reduceCtorEq, edits_len]
  (with_reducible first | refine branchP_dec (fun h => ?_) (fun h => ?_) | refine guardB_dec (fun h => ?_) (fun h => ?_))
  · have hlt : i < l.length := by omega
    have e1 := edits_getD l hlt
    have ox := hok _ (List.getElem_mem hlt)
    rw [List.drop_eq_getElem_cons hlt, allS] at hs
    generalize l[i] = x at *
    simp (disch := omega) only [goRules, coreRules, tiRules, unRules, AS_of_eq, ← decide_not, N0, N1, N2, N3, N4, N5, Z0, Z1, Z2, Z3, Z4, Z5, Z6, Z7, Z8, Z9, Z10, Zc, ↓reduceIte, reduceCtorEq, wrap_i64, h, e1, edits_len]
    (repeat (with_reducible refine And.intro ?_ ?_; focus (first | omega | exact mixed1 | kernel_rfl)))
    refine call_two (by simp [get_cons]) rfl rfl ho ox ?_
    unfold twoR
    by_cases he : twoE out x = 0
    · rw [if_pos he] at hs ⊢
      simp only [goRules, coreRules, tiRules, unRules, AS_of_eq, ← decide_not, N0, N1, N2, N3, N4, N5, Z0, Z1, Z2, Z3, Z4, Z5, Z6, Z7, Z8, Z9, Z10, Zc, ↓reduceIte, reduceCtorEq, res2, wrap_i64 (n := (i : Int) + 1) (by omega) (by omega)]
      refine weak_again ⟨(twoN out x, i + 1), by simp only; omega, okL_two he ho ox, hs⟩ (by simp only; omega) ?_
      rw [hSt]; refine weak_go [] [] ?_
      simp only [goRules, coreRules, tiRules, unRules, AS_of_eq, ← decide_not, N0, N1, N2, N3, N4, N5, Z0, Z1, Z2, Z3, Z4, Z5, Z6, Z7, Z8, Z9, Z10, Zc, ↓reduceIte, reduceCtorEq] <;> ((repeat' apply And.intro) <;> first | rfl | omega | trivial)
    · rw [if_neg he] at hs ⊢
      simp only [goRules, coreRules, tiRules, unRules, AS_of_eq, ← decide_not, N0, N1, N2, N3, N4, N5, Z0, Z1, Z2, Z3, Z4, Z5, Z6, Z7, Z8, Z9, Z10, Zc, ↓reduceIte, reduceCtorEq, res2, he]
      rw [← hs]; rfl
  · rw [List.drop_of_length_le (by omega), allS] at hs
    simp only [goRules, coreRules, tiRules, unRules, AS_of_eq, ← decide_not, N0, N1, N2, N3, N4, N5, Z0, Z1, Z2, Z3, Z4, Z5, Z6, Z7, Z8, Z9, Z10, Zc, ↓reduceIte, reduceCtorEq, h]
    rw [← hs]; rfl
theorem rall_good : Rw.Good Tryd.prog 39 allCon := by
  have hΓ : GoodEnv Tryd.prog [(75, keepCon), (37, twoCon)] := (goodEnv_cons rkeep_good (goodEnv_cons rtwo_good goodEnv_nil))
  refine good_fn (nn := 32) hΓ Tryd.func39 (by kernel_rfl) rfl (show Tryd.f39.results.toList = [.tmp 4, .tmp 5] from rfl) (fun _ => rfl) (fun _ => rfl) ?_
  rintro ⟨⟨n, hn⟩, ⟨l, hl, hok⟩⟩
  simp only [goRules, coreRules, tiRules, unRules, AS_of_eq, ← decide_not, N0, N1, N2, N3, N4, N5, Z0, Z1, Z2, Z3, Z4, Z5, Z6, Z7, Z8, Z9, Z10, Zc, ↓reduceIte, reduceCtorEq, edits_len]
  refine call_rkeep (by simp [get_cons]) hn ?_
  simp only [goRules, coreRules, tiRules, unRules, AS_of_eq, ← decide_not, N0, N1, N2, N3, N4, N5, Z0, Z1, Z2, Z3, Z4, Z5, Z6, Z7, Z8, Z9, Z10, Zc, ↓reduceIte, reduceCtorEq, edits_len]
  obtain ⟨St, hSt⟩ : ∃ St : { p : List Cp × Nat // p.2 ≤ l.length ∧ okL p.1 ∧ allS p.1 (l.drop p.2) = allS (keepL n) l } → AS, ∀ p, St p = AS.of 32 [(1, .sl 0 1 (edits l)), (6, .sl 0 3 (comps p.1.1)), (7, .v (.int .i64 p.1.2))] [] [] := ⟨_, fun _ => rfl⟩
  refine vc_loop hΓ St (fun p => l.length - p.1.2) ⟨(keepL n, 0), by simp, okL_keep hn, rfl⟩ (by rw [hSt]; refine weak_go [] [] ?_; simp only [goRules, coreRules, tiRules, unRules, AS_of_eq, ← decide_not, N0, N1, N2, N3, N4, N5, Z0, Z1, Z2, Z3, Z4, Z5, Z6, Z7, Z8, Z9, Z10, Zc, ↓reduceIte, reduceCtorEq] <;> ((repeat' apply And.intro) <;> first | rfl | omega | trivial)) ?_
  rintro ⟨⟨out, i⟩, hi, ho, hs⟩
  simp only at hi ho hs
  rw [hSt]
  simp only
  simp only [goRules, coreRules, tiRules, unRules, AS_of_eq, ← decide_not, N0, N1, N2, N3, N4, N5, Z0, Z1, Z2, Z3, Z4, Z5, Z6, Z7, Z8, Z9, Z10, Zc, ↓reduceIte, reduceCtorEq, edits_len]
  (with_reducible first | refine branchP_dec (fun h => ?_) (fun h => ?_) | refine guardB_dec (fun h => ?_) (fun h => ?_))
  · have hlt : i < l.length := by omega
    have e1 := edits_getD l hlt
    have ox := hok _ (List.getElem_mem hlt)
    rw [List.drop_eq_getElem_cons hlt, allS] at hs
    generalize l[i] = x at *
    simp (disch := omega) only [goRules, coreRules, tiRules, unRules, AS_of_eq, ← decide_not, N0, N1, N2, N3, N4, N5, Z0, Z1, Z2, Z3, Z4, Z5, Z6, Z7, Z8, Z9, Z10, Zc, ↓reduceIte, reduceCtorEq, wrap_i64, h, e1, edits_len]
    (repeat (with_reducible refine And.intro ?_ ?_; focus (first | omega | exact mixed1 | kernel_rfl)))
    refine call_two (by simp [get_cons]) rfl rfl ho ox ?_
    unfold twoR
    by_cases he : twoE out x = 0
    · rw [if_pos he] at hs ⊢
      simp only [goRules, coreRules, tiRules, unRules, AS_of_eq, ← decide_not, N0, N1, N2, N3, N4, N5, Z0, Z1, Z2, Z3, Z4, Z5, Z6, Z7, Z8, Z9, Z10, Zc, ↓reduceIte, reduceCtorEq, res2, wrap_i64 (n := (i : Int) + 1) (by omega) (by omega)]
      refine weak_again ⟨(twoN out x, i + 1), by simp only; omega, okL_two he ho ox, hs⟩ (by simp only; omega) ?_
      rw [hSt]; refine weak_go [] [] ?_
      simp only [goRules, coreRules, tiRules, unRules, AS_of_eq, ← decide_not, N0, N1, N2, N3, N4, N5, Z0, Z1, Z2, Z3, Z4, Z5, Z6, Z7, Z8, Z9, Z10, Zc, ↓reduceIte, reduceCtorEq] <;> ((repeat' apply And.intro) <;> first | rfl | omega | trivial)
    · rw [if_neg he] at hs ⊢
      simp only [goRules, coreRules, tiRules, unRules, AS_of_eq, ← decide_not, N0, N1, N2, N3, N4, N5, Z0, Z1, Z2, Z3, Z4, Z5, Z6, Z7, Z8, Z9, Z10, Zc, ↓reduceIte, reduceCtorEq, res2, he]
      rw [← hs]; rfl
  · rw [List.drop_of_length_le (by omega), allS] at hs
    simp only [goRules, coreRules, tiRules, unRules, AS_of_eq, ← decide_not, N0, N1, N2, N3, N4, N5, Z0, Z1, Z2, Z3, Z4, Z5, Z6, Z7, Z8, Z9, Z10, Zc, ↓reduceIte, reduceCtorEq, h]
    rw [← hs]; rfl
theorem call_all {Γ : Env} {f : Nat} (hf : Γ.get f = some allCon) {σ : AS} {dr : Bool} {n : Int} {l : List (List Cp)} {tg : Nat} {ys : List AV} {d : Option Nat} {K : AS → Prop} (htg : tg ≤ 1) (hy : ys = edits l) (hn : -9223372036854775808 ≤ n ∧ n ≤ 9223372036854775807) (hl : l.length ≤ 1099511627776) (ho : ∀ x ∈ l, okL x)
    (hk : cont σ d (res2 (.sl 0 3 (comps (allS (keepL n) l).1)) (allS (keepL n) l).2) K) : vcCall Tryd.prog Γ dr σ f [.v (.int .i64 n), .sl tg 1 ys] d K := by
  subst hy
  have ht : tg = 0 ∨ tg = 1 := by omega
  rcases ht with rfl | rfl
  · refine vcCall_fn (C := allCon) (i := (⟨n, hn⟩, ⟨l, hl, ho⟩)) (r := res2 (.sl 0 3 (comps (allS (keepL n) l).1)) (allS (keepL n) l).2) hf rfl rfl rfl rfl (fun _ h => h) ?_
    exact hk
  · refine vcCall_fn (C := allCon) (i := (⟨n, hn⟩, ⟨l, hl, ho⟩)) (r := res2 (.sl 0 3 (comps (allS (keepL n) l).1)) (allS (keepL n) l).2) hf rfl rfl rfl rfl (fun _ h => h) ?_
    exact hk
end Go.Proofs
end
