/-
  Both, Many; XformAsks answers true.
-/
import Derived.Test.YtmenbocckhbdjaaDoorXAAx3
import Derived.Test.YtmenbocckhbdjaaDoorXAAx5
import Derived.Test.YtmenbocckhbdjaaDoorXAAw8
set_option linter.unusedSimpArgs false
set_option linter.unusedVariables false
set_option linter.defProp false

-- AAx7
section
namespace Go.Proofs
open Go Go.Rw
open _root_.Nat renaming reduceAdd → N0, reduceSub → N1, reduceMul → N2, reduceLT → N3, reduceLeDiff → N4, reduceEqDiff → N5
open _root_.Int renaming reduceNeg → Z0, reduceAdd → Z1, reduceSub → Z2, reduceMul → Z3, reduceGT → Z4, reduceGE → Z5, reduceLT → Z6, reduceLE → Z7, reduceEq → Z8, reduceNe → Z9, reduceToNat → Z10, cast_ofNat_Int → Zc
set_option maxRecDepth 100000
set_option linter.unusedSimpArgs false
set_option linter.unusedVariables false

abbrev cloneCon : Con where
  ι := Ed
  args := fun l => [.sl 0 3 (comps l.1)]
  post := fun l r => r = .sl 0 3 (comps l.1)
theorem clone_good : Rw.Good Tryd.prog 77 cloneCon := by
  have hΓ : GoodEnv Tryd.prog [] := goodEnv_nil
  refine good_fn (nn := 8) hΓ Tryd.func77 (by kernel_rfl) rfl (show Tryd.f77.results.toList = [.tmp 2] from rfl) (fun _ => rfl) (fun _ => rfl) ?_
  rintro ⟨l, ol⟩
  have hl := ol.1
  simp only [goRules, coreRules, tiRules, unRules, AS_of_eq, ← decide_not, N0, N1, N2, N3, N4, N5, Z0, Z1, Z2, Z3, Z4, Z5, Z6, Z7, Z8, Z9, Z10, Zc, ↓reduceIte, reduceCtorEq, comps_len]
  refine ⟨fun h => ?_, fun _ => ?_⟩
  · have he : l = [] := by
      rcases h with h | h
      · cases h
      · cases l with
        | nil => rfl
        | cons c l => cases h
    subst he
    simp only [goRules, coreRules, tiRules, unRules, AS_of_eq, ← decide_not, N0, N1, N2, N3, N4, N5, Z0, Z1, Z2, Z3, Z4, Z5, Z6, Z7, Z8, Z9, Z10, Zc, ↓reduceIte, reduceCtorEq, comps_nil]
  · simp only [goRules, coreRules, tiRules, unRules, AS_of_eq, ← decide_not, N0, N1, N2, N3, N4, N5, Z0, Z1, Z2, Z3, Z4, Z5, Z6, Z7, Z8, Z9, Z10, Zc, ↓reduceIte, reduceCtorEq, comps_len, List.length_nil]
    try (repeat (with_reducible refine And.intro ?_ ?_; focus (first | omega | exact mixed1 | kernel_rfl)))
    ((repeat' apply And.intro) <;> first | rfl | omega | trivial)
theorem call_clone {Γ : Env} (hf : Γ.get 77 = some cloneCon) {σ : AS} {dr : Bool} {a : List Cp} {ys : List AV} {d : Option Nat} {K : AS → Prop} (hy : ys = comps a) (oa : okL a)
    (hk : cont σ d (.sl 0 3 (comps a)) K) : vcCall Tryd.prog Γ dr σ 77 [.sl 0 3 ys] d K := by
  subst hy
  exact vcCall_fn (C := cloneCon) (i := ⟨a, oa⟩) (r := .sl 0 3 (comps a)) hf rfl rfl rfl rfl (fun _ h => h) hk
/-- An edit behind a row of them. -/
def manyS (f : Bool) : List Cp → List (List Cp) → List Cp × Int
  | out, [] => (out, 0)
  | out, x :: r => if ovE out x = 0 then manyS f (ovN f out x) r else ([], ovE out x)
abbrev manyCon : Con where
  ι := Ed × Eds × Bool
  args := fun p => [.sl 0 3 (comps p.1.1), .sl 0 1 (edits p.2.1.1), .v (.bool p.2.2)]
  post := fun p r => r = res2 (.sl 0 3 (comps (manyS p.2.2 p.1.1 p.2.1.1).1)) (manyS p.2.2 p.1.1 p.2.1.1).2
theorem many_good : Rw.Good Tryd.prog 46 manyCon := by
  have hΓ : GoodEnv Tryd.prog [(77, cloneCon), (43, overCon)] := (goodEnv_cons clone_good (goodEnv_cons over_good goodEnv_nil))
  refine good_fn (nn := 30) hΓ Tryd.func46 (by kernel_rfl) rfl (show Tryd.f46.results.toList = [.tmp 6, .tmp 7] from rfl) (fun _ => rfl) (fun _ => rfl) ?_
  rintro ⟨⟨a, oa⟩, ⟨l, hl, hok⟩, f⟩
  simp only [goRules, coreRules, tiRules, unRules, AS_of_eq, ← decide_not, N0, N1, N2, N3, N4, N5, Z0, Z1, Z2, Z3, Z4, Z5, Z6, Z7, Z8, Z9, Z10, Zc, ↓reduceIte, reduceCtorEq, edits_len]
  refine call_clone (by simp [get_cons]) rfl oa ?_
  simp only [goRules, coreRules, tiRules, unRules, AS_of_eq, ← decide_not, N0, N1, N2, N3, N4, N5, Z0, Z1, Z2, Z3, Z4, Z5, Z6, Z7, Z8, Z9, Z10, Zc, ↓reduceIte, reduceCtorEq, edits_len]
  obtain ⟨St, hSt⟩ : ∃ St : { p : List Cp × Nat // p.2 ≤ l.length ∧ okL p.1 ∧ manyS f p.1 (l.drop p.2) = manyS f a l } → AS, ∀ p, St p = AS.of 30 [(2, .v (.bool f)), (6, .sl 0 3 (comps p.1.1)), (12, .sl 0 1 (edits l)), (13, .v (.int .i64 l.length)), (14, .v (.int .i64 p.1.2))] [] [] := ⟨_, fun _ => rfl⟩
  refine vc_loop hΓ St (fun p => l.length - p.1.2) ⟨(a, 0), by simp, oa, rfl⟩ (by rw [hSt]; refine weak_go [] [] ?_; simp only [goRules, coreRules, tiRules, unRules, AS_of_eq, ← decide_not, N0, N1, N2, N3, N4, N5, Z0, Z1, Z2, Z3, Z4, Z5, Z6, Z7, Z8, Z9, Z10, Zc, ↓reduceIte, reduceCtorEq] <;> ((repeat' apply And.intro) <;> first | rfl | omega | trivial)) ?_
  rintro ⟨⟨out, i⟩, hi, ho, hs⟩
  simp only at hi ho hs
  rw [hSt]
  simp only
  simp only [goRules, coreRules, tiRules, unRules, AS_of_eq, ← decide_not, N0, N1, N2, N3, N4, N5, Z0, Z1, Z2, Z3, Z4, Z5, Z6, Z7, Z8, Z9, Z10, Zc, ↓reduceIte, reduceCtorEq, edits_len]
  (with_reducible first | refine branchP_dec (fun h => ?_) (fun h => ?_) | refine guardB_dec (fun h => ?_) (fun h => ?_))
  · have hlt : i < l.length := by omega
    have e1 := edits_getD l hlt
    have ox := hok _ (List.getElem_mem hlt)
    rw [List.drop_eq_getElem_cons hlt, manyS] at hs
    generalize l[i] = x at *
    simp (disch := omega) only [goRules, coreRules, tiRules, unRules, AS_of_eq, ← decide_not, N0, N1, N2, N3, N4, N5, Z0, Z1, Z2, Z3, Z4, Z5, Z6, Z7, Z8, Z9, Z10, Zc, ↓reduceIte, reduceCtorEq, wrap_i64, h, e1, edits_len]
    (repeat (with_reducible refine And.intro ?_ ?_; focus (first | omega | exact mixed1 | kernel_rfl)))
    refine call_over (by simp [get_cons]) rfl rfl ho ox ?_
    by_cases he : ovE out x = 0
    · rw [if_pos he] at hs
      simp only [goRules, coreRules, tiRules, unRules, AS_of_eq, ← decide_not, N0, N1, N2, N3, N4, N5, Z0, Z1, Z2, Z3, Z4, Z5, Z6, Z7, Z8, Z9, Z10, Zc, ↓reduceIte, reduceCtorEq, ovR_zero he, res2, wrap_i64 (n := (i : Int) + 1) (by omega) (by omega)]
      refine weak_again ⟨(ovN f out x, i + 1), by simp only; omega, (ov_facts f he ho ox).2.2.2, hs⟩ (by simp only; omega) ?_
      rw [hSt]; refine weak_go [] [] ?_
      simp only [goRules, coreRules, tiRules, unRules, AS_of_eq, ← decide_not, N0, N1, N2, N3, N4, N5, Z0, Z1, Z2, Z3, Z4, Z5, Z6, Z7, Z8, Z9, Z10, Zc, ↓reduceIte, reduceCtorEq] <;> ((repeat' apply And.intro) <;> first | rfl | omega | trivial)
    · rw [if_neg he] at hs
      simp only [goRules, coreRules, tiRules, unRules, AS_of_eq, ← decide_not, N0, N1, N2, N3, N4, N5, Z0, Z1, Z2, Z3, Z4, Z5, Z6, Z7, Z8, Z9, Z10, Zc, ↓reduceIte, reduceCtorEq, ovR_err he, res2, he]
      rw [← hs]; rfl
  · rw [List.drop_of_length_le (by omega), manyS] at hs
    simp only [goRules, coreRules, tiRules, unRules, AS_of_eq, ← decide_not, N0, N1, N2, N3, N4, N5, Z0, Z1, Z2, Z3, Z4, Z5, Z6, Z7, Z8, Z9, Z10, Zc, ↓reduceIte, reduceCtorEq, h]
    rw [← hs]; rfl
theorem call_many {Γ : Env} {f : Nat} (hf : Γ.get f = some manyCon) {σ : AS} {dr : Bool} {a : List Cp} {l : List (List Cp)} {fi : Bool} {ys zs : List AV} {d : Option Nat} {K : AS → Prop} (hz : zs = comps a) (hy : ys = edits l) (oa : okL a) (hl : l.length ≤ 1099511627776) (ho : ∀ x ∈ l, okL x)
    (hk : cont σ d (res2 (.sl 0 3 (comps (manyS fi a l).1)) (manyS fi a l).2) K) : vcCall Tryd.prog Γ dr σ f [.sl 0 3 zs, .sl 0 1 ys, .v (.bool fi)] d K := by
  subst hy hz
  exact vcCall_fn (C := manyCon) (i := (⟨a, oa⟩, ⟨l, hl, ho⟩, fi)) (r := res2 (.sl 0 3 (comps (manyS fi a l).1)) (manyS fi a l).2) hf rfl rfl rfl rfl (fun _ h => h) hk
def bothR (a b : List Cp) : AV := if ovE a b = 0 then .tup [.sl 0 3 (comps (ovN true a b)), .sl 0 3 (comps (ovN false b a)), .v (.int .i64 0)] else .tup [.sl 0 3 [], .sl 0 3 [], .v (.int .i64 (ovE a b))]
abbrev bothCon : Con where
  ι := Ed × Ed
  args := fun p => [.sl 0 3 (comps p.1.1), .sl 0 3 (comps p.2.1)]
  post := fun p r => r = bothR p.1.1 p.2.1
theorem both_good : Rw.Good Tryd.prog 45 bothCon := by
  have hΓ : GoodEnv Tryd.prog [(43, overCon)] := (goodEnv_cons over_good goodEnv_nil)
  refine good_fn (nn := 24) hΓ Tryd.func45 (by kernel_rfl) rfl (show Tryd.f45.results.toList = [.tmp 4, .tmp 5, .tmp 6] from rfl) (fun _ => rfl) (fun _ => rfl) ?_
  rintro ⟨⟨a, oa⟩, ⟨b, ob⟩⟩
  simp only [goRules, coreRules, tiRules, unRules, AS_of_eq, ← decide_not, N0, N1, N2, N3, N4, N5, Z0, Z1, Z2, Z3, Z4, Z5, Z6, Z7, Z8, Z9, Z10, Zc, ↓reduceIte, reduceCtorEq]
  refine call_over (by simp [get_cons]) rfl rfl oa ob ?_
  by_cases he : ovE a b = 0
  · have he2 := ovE_comm he
    simp only [goRules, coreRules, tiRules, unRules, AS_of_eq, ← decide_not, N0, N1, N2, N3, N4, N5, Z0, Z1, Z2, Z3, Z4, Z5, Z6, Z7, Z8, Z9, Z10, Zc, ↓reduceIte, reduceCtorEq, ovR_zero he, res2]
    refine call_over (by simp [get_cons]) rfl rfl ob oa ?_
    simp only [goRules, coreRules, tiRules, unRules, AS_of_eq, ← decide_not, N0, N1, N2, N3, N4, N5, Z0, Z1, Z2, Z3, Z4, Z5, Z6, Z7, Z8, Z9, Z10, Zc, ↓reduceIte, reduceCtorEq, ovR_zero he2, res2]
    unfold bothR
    rw [if_pos he]
  · simp only [goRules, coreRules, tiRules, unRules, AS_of_eq, ← decide_not, N0, N1, N2, N3, N4, N5, Z0, Z1, Z2, Z3, Z4, Z5, Z6, Z7, Z8, Z9, Z10, Zc, ↓reduceIte, reduceCtorEq, ovR_err he, res2, he]
    unfold bothR
    rw [if_neg he]
theorem call_both {Γ : Env} {f : Nat} (hf : Γ.get f = some bothCon) {σ : AS} {dr : Bool} {a b : List Cp} {ys zs : List AV} {d : Option Nat} {K : AS → Prop} (hy : ys = comps a) (hz : zs = comps b) (oa : okL a) (ob : okL b)
    (hk : cont σ d (bothR a b) K) : vcCall Tryd.prog Γ dr σ f [.sl 0 3 ys, .sl 0 3 zs] d K := by
  subst hy hz
  refine vcCall_fn (C := bothCon) (i := (⟨a, oa⟩, ⟨b, ob⟩)) (r := bothR a b) hf rfl rfl rfl rfl (fun _ h => h) ?_
  rw [show (bothR a b).er = bothR a b by unfold bothR; split <;> simp [AV.er, AV.erL]]
  exact hk
abbrev asks10Con : Con where
  ι := Given × Given × Bool × GivenE
  args := fun p => [.sl 0 3 (comps p.1.1), .sl 0 3 (comps p.2.1.1), .v (.bool p.2.2.1), .sl 0 1 (edits p.2.2.2.1)]
  post := fun _ r => r = .v (.bool true)
  plain := true
/-- The document's row. -/
theorem many_err : ∀ (f : Bool) (r : List (List Cp)) (out : List Cp), okL out → (∀ y ∈ r, okL y) → (manyS f out r).2 = 0 → okL (manyS f out r).1
  | f, [], out, ho, _, _ => ho
  | f, x :: r, out, ho, h, he => by
    rw [manyS] at he ⊢
    by_cases h1 : ovE out x = 0
    · rw [if_pos h1] at he ⊢
      exact many_err f r _ (ov_facts f h1 ho (h x (by simp))).2.2.2 (fun y hy => h y (by simp [hy])) he
    · rw [if_neg h1] at he
      exact absurd he h1
theorem ov_len (f : Bool) {a b : List Cp} (he : ovE a b = 0) (oa : okL a) (ob : okL b) : (ovN f a b).length ≤ 4000000 := by
  obtain ⟨l, e, h1, h2, h3, h4, h5, h6⟩ := ov_small f oa ob
  rw [← h5 he]; exact h3
theorem many_len : ∀ (f : Bool) (r : List (List Cp)) (out : List Cp), okL out → out.length ≤ 4000000 → (∀ y ∈ r, okL y) → (manyS f out r).1.length ≤ 4000000
  | f, [], out, ho, hl, _ => hl
  | f, x :: r, out, ho, hl, h => by
    rw [manyS]
    by_cases h1 : ovE out x = 0
    · rw [if_pos h1]
      exact many_len f r _ (ov_facts f h1 ho (h x (by simp))).2.2.2 (ov_len f h1 ho (h x (by simp))) (fun y hy => h y (by simp [hy]))
    · rw [if_neg h1]; simp
theorem asks10_good : Rw.Good Tryd.prog 11 asks10Con := by
  have hΓ : GoodEnv Tryd.prog [(42, trueCon), (16, weighCon), (43, overCon), (44, overCon), (45, bothCon), (46, manyCon), (32, sameCon)] := (goodEnv_cons awake10_good (goodEnv_cons weigh_good (goodEnv_cons over_good (goodEnv_cons rover_good (goodEnv_cons both_good (goodEnv_cons many_good (goodEnv_cons rsame_good goodEnv_nil)))))))
  refine good_fn (nn := 155) hΓ Tryd.func11 (by kernel_rfl) rfl (show Tryd.f11.results.toList = [.tmp 8] from rfl) (fun _ => rfl) (fun _ => rfl) ?_
  rintro ⟨⟨a, ha, hca⟩, ⟨b, hb, hcb⟩, f, ⟨l, hl, hcl⟩⟩
  simp only [goRules, coreRules, tiRules, unRules, AS_of_eq, ← decide_not, N0, N1, N2, N3, N4, N5, Z0, Z1, Z2, Z3, Z4, Z5, Z6, Z7, Z8, Z9, Z10, Zc, ↓reduceIte, reduceCtorEq]
  refine call_weigh (by simp [get_cons]) rfl ha (fun c h => (hca c h).2) (by omega) ?_
  simp only [goRules, coreRules, tiRules, unRules, AS_of_eq, ← decide_not, N0, N1, N2, N3, N4, N5, Z0, Z1, Z2, Z3, Z4, Z5, Z6, Z7, Z8, Z9, Z10, Zc, ↓reduceIte, reduceCtorEq]
  by_cases h1 : compsF 2000 0 a > 2000
  · simp only [goRules, coreRules, tiRules, unRules, AS_of_eq, ← decide_not, N0, N1, N2, N3, N4, N5, Z0, Z1, Z2, Z3, Z4, Z5, Z6, Z7, Z8, Z9, Z10, Zc, ↓reduceIte, reduceCtorEq, h1]
    refine call_awake10 (by simp [get_cons]) ?_
    simp only [goRules, coreRules, tiRules, unRules, AS_of_eq, ← decide_not, N0, N1, N2, N3, N4, N5, Z0, Z1, Z2, Z3, Z4, Z5, Z6, Z7, Z8, Z9, Z10, Zc, ↓reduceIte, reduceCtorEq]
  simp only [goRules, coreRules, tiRules, unRules, AS_of_eq, ← decide_not, N0, N1, N2, N3, N4, N5, Z0, Z1, Z2, Z3, Z4, Z5, Z6, Z7, Z8, Z9, Z10, Zc, ↓reduceIte, reduceCtorEq, h1]
  refine call_weigh (by simp [get_cons]) rfl hb (fun c h => (hcb c h).2) (by omega) ?_
  by_cases h2 : compsF 2000 0 b > 2000
  · simp only [goRules, coreRules, tiRules, unRules, AS_of_eq, ← decide_not, N0, N1, N2, N3, N4, N5, Z0, Z1, Z2, Z3, Z4, Z5, Z6, Z7, Z8, Z9, Z10, Zc, ↓reduceIte, reduceCtorEq, h2]
    refine call_awake10 (by simp [get_cons]) ?_
    simp only [goRules, coreRules, tiRules, unRules, AS_of_eq, ← decide_not, N0, N1, N2, N3, N4, N5, Z0, Z1, Z2, Z3, Z4, Z5, Z6, Z7, Z8, Z9, Z10, Zc, ↓reduceIte, reduceCtorEq]
  simp only [goRules, coreRules, tiRules, unRules, AS_of_eq, ← decide_not, N0, N1, N2, N3, N4, N5, Z0, Z1, Z2, Z3, Z4, Z5, Z6, Z7, Z8, Z9, Z10, Zc, ↓reduceIte, reduceCtorEq, h2, edits_len]
  by_cases h3 : (l.length : Int) > 6
  · simp only [goRules, coreRules, tiRules, unRules, AS_of_eq, ← decide_not, N0, N1, N2, N3, N4, N5, Z0, Z1, Z2, Z3, Z4, Z5, Z6, Z7, Z8, Z9, Z10, Zc, ↓reduceIte, reduceCtorEq, h3]
    refine call_awake10 (by simp [get_cons]) ?_
    simp only [goRules, coreRules, tiRules, unRules, AS_of_eq, ← decide_not, N0, N1, N2, N3, N4, N5, Z0, Z1, Z2, Z3, Z4, Z5, Z6, Z7, Z8, Z9, Z10, Zc, ↓reduceIte, reduceCtorEq]
  simp only [goRules, coreRules, tiRules, unRules, AS_of_eq, ← decide_not, N0, N1, N2, N3, N4, N5, Z0, Z1, Z2, Z3, Z4, Z5, Z6, Z7, Z8, Z9, Z10, Zc, ↓reduceIte, reduceCtorEq, h3]
  obtain ⟨oa, hwa⟩ := weigh_ok (by omega) hca (show compsF 2000 0 a ≤ 2000 by omega)
  obtain ⟨ob, hwb⟩ := weigh_ok (by omega) hcb (show compsF 2000 0 b ≤ 2000 by omega)
  obtain ⟨St, hSt⟩ : ∃ St : { i : Nat // i ≤ l.length ∧ ∀ x ∈ l.take i, okL x } → AS, ∀ i, St i = AS.of 155 [(0, .sl 0 3 (comps a)), (1, .sl 0 3 (comps b)), (2, .v (.bool f)), (3, .sl 0 1 (edits l)), (9, .v (.int .i64 i.1))] [] [] := ⟨_, fun _ => rfl⟩
  refine vc_loop hΓ St (fun i => l.length - i.1) ⟨0, by simp, by simp⟩ (by rw [hSt]; refine weak_go [] [] ?_; simp only [goRules, coreRules, tiRules, unRules, AS_of_eq, ← decide_not, N0, N1, N2, N3, N4, N5, Z0, Z1, Z2, Z3, Z4, Z5, Z6, Z7, Z8, Z9, Z10, Zc, ↓reduceIte, reduceCtorEq] <;> ((repeat' apply And.intro) <;> first | rfl | omega | trivial)) ?_
  rintro ⟨i, hi, hdone⟩
  rw [hSt]
  simp only
  simp only [goRules, coreRules, tiRules, unRules, AS_of_eq, ← decide_not, N0, N1, N2, N3, N4, N5, Z0, Z1, Z2, Z3, Z4, Z5, Z6, Z7, Z8, Z9, Z10, Zc, ↓reduceIte, reduceCtorEq, edits_len]
  (with_reducible first | refine branchP_dec (fun h => ?_) (fun h => ?_) | refine guardB_dec (fun h => ?_) (fun h => ?_))
  · have hlt : i < l.length := by omega
    have e1 := edits_getD l hlt
    obtain ⟨gx1, gx2⟩ := hcl _ (List.getElem_mem hlt)
    have etk := List.take_succ_eq_append_getElem hlt
    generalize l[i] = x at *
    simp (disch := omega) only [goRules, coreRules, tiRules, unRules, AS_of_eq, ← decide_not, N0, N1, N2, N3, N4, N5, Z0, Z1, Z2, Z3, Z4, Z5, Z6, Z7, Z8, Z9, Z10, Zc, ↓reduceIte, reduceCtorEq, wrap_i64, h, e1, edits_len]
    (repeat (with_reducible refine And.intro ?_ ?_; focus (first | omega | exact mixed1 | kernel_rfl)))
    refine call_weigh (by simp [get_cons]) rfl gx1 (fun c h => (gx2 c h).2) (by omega) ?_
    by_cases h4 : compsF 1000 0 x > 1000
    · simp only [goRules, coreRules, tiRules, unRules, AS_of_eq, ← decide_not, N0, N1, N2, N3, N4, N5, Z0, Z1, Z2, Z3, Z4, Z5, Z6, Z7, Z8, Z9, Z10, Zc, ↓reduceIte, reduceCtorEq, h4]
      refine call_awake10 (by simp [get_cons]) ?_
      simp only [goRules, coreRules, tiRules, unRules, AS_of_eq, ← decide_not, N0, N1, N2, N3, N4, N5, Z0, Z1, Z2, Z3, Z4, Z5, Z6, Z7, Z8, Z9, Z10, Zc, ↓reduceIte, reduceCtorEq]
    · have ox := (weigh_ok (by omega) gx2 (show compsF 1000 0 x ≤ 1000 by omega)).1
      simp only [goRules, coreRules, tiRules, unRules, AS_of_eq, ← decide_not, N0, N1, N2, N3, N4, N5, Z0, Z1, Z2, Z3, Z4, Z5, Z6, Z7, Z8, Z9, Z10, Zc, ↓reduceIte, reduceCtorEq, h4, wrap_i64 (n := (i : Int) + 1) (by omega) (by omega)]
      refine weak_again ⟨i + 1, by omega, fun y hy => ?_⟩ (by simp only; omega) ?_
      · rw [etk] at hy
        rcases List.mem_append.1 hy with hy | hy
        · exact hdone y hy
        · rw [List.mem_singleton.1 hy]; exact ox
      · rw [hSt]; refine weak_go [] [] ?_
        simp only [goRules, coreRules, tiRules, unRules, AS_of_eq, ← decide_not, N0, N1, N2, N3, N4, N5, Z0, Z1, Z2, Z3, Z4, Z5, Z6, Z7, Z8, Z9, Z10, Zc, ↓reduceIte, reduceCtorEq] <;> ((repeat' apply And.intro) <;> first | rfl | omega | trivial)
  rw [List.take_of_length_le (by omega)] at hdone
  simp only [goRules, coreRules, tiRules, unRules, AS_of_eq, ← decide_not, N0, N1, N2, N3, N4, N5, Z0, Z1, Z2, Z3, Z4, Z5, Z6, Z7, Z8, Z9, Z10, Zc, ↓reduceIte, reduceCtorEq, h]
  refine call_over (by simp [get_cons]) rfl rfl oa ob ?_
  obtain ⟨x1, e1, v1, v2, v3, v4, v5, v6⟩ := ov_small f oa ob
  obtain ⟨x2, e2, t1, t2, t3, t4, t5, t6⟩ := ov_small true oa ob
  obtain ⟨x3, e3, s1, s2, s3, s4, s5, s6⟩ := ov_small false ob oa
  have hb3 : bothR a b = .tup [.sl 0 3 (comps (if ovE a b = 0 then x2 else [])), .sl 0 3 (comps (if ovE a b = 0 then x3 else [])), .v (.int .i64 e2)] := by
    unfold bothR
    by_cases he : ovE a b = 0
    · rw [if_pos he, if_pos he, if_pos he, t5 he, s5 (ovE_comm he), t2, he]
    · rw [if_neg he, if_neg he, if_neg he, t2]; rfl
  have hx2 : (if ovE a b = 0 then x2 else []) = x2 := by
    by_cases he : ovE a b = 0
    · rw [if_pos he]
    · rw [if_neg he, t6 he]
  simp only [goRules, coreRules, tiRules, unRules, AS_of_eq, ← decide_not, N0, N1, N2, N3, N4, N5, Z0, Z1, Z2, Z3, Z4, Z5, Z6, Z7, Z8, Z9, Z10, Zc, ↓reduceIte, reduceCtorEq, v1, res2]
  refine call_over (by simp [get_cons]) rfl rfl oa ob ?_
  simp only [goRules, coreRules, tiRules, unRules, AS_of_eq, ← decide_not, N0, N1, N2, N3, N4, N5, Z0, Z1, Z2, Z3, Z4, Z5, Z6, Z7, Z8, Z9, Z10, Zc, ↓reduceIte, reduceCtorEq, v1, res2]
  refine call_both (by simp [get_cons]) rfl rfl oa ob ?_
  simp only [goRules, coreRules, tiRules, unRules, AS_of_eq, ← decide_not, N0, N1, N2, N3, N4, N5, Z0, Z1, Z2, Z3, Z4, Z5, Z6, Z7, Z8, Z9, Z10, Zc, ↓reduceIte, reduceCtorEq, hb3]
  refine call_over (by simp [get_cons]) rfl rfl oa ob ?_
  simp only [goRules, coreRules, tiRules, unRules, AS_of_eq, ← decide_not, N0, N1, N2, N3, N4, N5, Z0, Z1, Z2, Z3, Z4, Z5, Z6, Z7, Z8, Z9, Z10, Zc, ↓reduceIte, reduceCtorEq, t1, res2]
  refine call_over (by simp [get_cons]) rfl rfl ob oa ?_
  simp only [goRules, coreRules, tiRules, unRules, AS_of_eq, ← decide_not, N0, N1, N2, N3, N4, N5, Z0, Z1, Z2, Z3, Z4, Z5, Z6, Z7, Z8, Z9, Z10, Zc, ↓reduceIte, reduceCtorEq, s1, res2]
  have hx3 : (if ovE a b = 0 then x3 else []) = x3 := by
    by_cases he : ovE a b = 0
    · rw [if_pos he]
    · rw [if_neg he, s6 (fun h => he (ovE_comm h))]
  rw [hx2, hx3]
  refine call_same (by simp [get_cons]) rfl rfl (by omega) (by omega) ?_
  simp only [goRules, coreRules, tiRules, unRules, AS_of_eq, ← decide_not, N0, N1, N2, N3, N4, N5, Z0, Z1, Z2, Z3, Z4, Z5, Z6, Z7, Z8, Z9, Z10, Zc, ↓reduceIte, reduceCtorEq]
  refine call_same (by simp [get_cons]) rfl rfl (by omega) (by omega) ?_
  simp only [goRules, coreRules, tiRules, unRules, AS_of_eq, ← decide_not, N0, N1, N2, N3, N4, N5, Z0, Z1, Z2, Z3, Z4, Z5, Z6, Z7, Z8, Z9, Z10, Zc, ↓reduceIte, reduceCtorEq]
  refine call_same (by simp [get_cons]) rfl rfl (by omega) (by omega) ?_
  simp only [goRules, coreRules, tiRules, unRules, AS_of_eq, ← decide_not, N0, N1, N2, N3, N4, N5, Z0, Z1, Z2, Z3, Z4, Z5, Z6, Z7, Z8, Z9, Z10, Zc, ↓reduceIte, reduceCtorEq, v2, t2]
  refine call_many (by simp [get_cons]) rfl rfl oa (by omega) hdone ?_
  simp only [goRules, coreRules, tiRules, unRules, AS_of_eq, ← decide_not, N0, N1, N2, N3, N4, N5, Z0, Z1, Z2, Z3, Z4, Z5, Z6, Z7, Z8, Z9, Z10, Zc, ↓reduceIte, reduceCtorEq, res2]
  clear hSt St
  generalize hM : manyS f a l = M
  obtain ⟨m, me⟩ := M
  have hml : m.length ≤ 4000000 := by have := many_len f l a oa (by omega) hdone; rw [hM] at this; exact this
  simp only [goRules, coreRules, tiRules, unRules, AS_of_eq, ← decide_not, N0, N1, N2, N3, N4, N5, Z0, Z1, Z2, Z3, Z4, Z5, Z6, Z7, Z8, Z9, Z10, Zc, ↓reduceIte, reduceCtorEq]
  obtain ⟨St, hSt⟩ : ∃ St : { p : List Cp × Int × Nat // p.2.2 ≤ l.length ∧ okL p.1 ∧ p.1.length ≤ 4000000 ∧ (p.2.1 = 0 → manyS f p.1 (l.drop p.2.2) = (m, me)) ∧ (p.2.1 ≠ 0 → me = p.2.1) } → AS, ∀ p, St p = AS.of 155 [(2, .v (.bool f)), (3, .sl 0 1 (edits l)), (21, .sl 0 3 (comps m)), (22, .v (.int .i64 me)), (23, .sl 0 3 (comps p.1.1)), (24, .v (.int .i64 p.1.2.1)), (25, .v (.int .i64 p.1.2.2))] [] [] := ⟨_, fun _ => rfl⟩
  refine vc_loop hΓ St (fun p => l.length - p.1.2.2) ⟨(a, 0, 0), by simp, oa, by simp only; omega, fun _ => hM, fun h => absurd rfl h⟩ (by rw [hSt]; refine weak_go [] [] ?_; simp only [goRules, coreRules, tiRules, unRules, AS_of_eq, ← decide_not, N0, N1, N2, N3, N4, N5, Z0, Z1, Z2, Z3, Z4, Z5, Z6, Z7, Z8, Z9, Z10, Zc, ↓reduceIte, reduceCtorEq] <;> ((repeat' apply And.intro) <;> first | rfl | omega | trivial)) ?_
  rintro ⟨⟨out, e, k⟩, hk, ho, hol, hs, hs2⟩
  simp only at hk ho hol hs hs2
  rw [hSt]
  simp only
  simp only [goRules, coreRules, tiRules, unRules, AS_of_eq, ← decide_not, N0, N1, N2, N3, N4, N5, Z0, Z1, Z2, Z3, Z4, Z5, Z6, Z7, Z8, Z9, Z10, Zc, ↓reduceIte, reduceCtorEq, edits_len]
  by_cases h4 : (k : Int) < l.length
  · by_cases h5 : e = 0
    · have hlt : k < l.length := by omega
      have e1 := edits_getD l hlt
      have ox := hdone _ (List.getElem_mem hlt)
      have hs := hs h5
      rw [List.drop_eq_getElem_cons hlt, manyS] at hs
      generalize l[k] = x at *
      simp (disch := omega) only [goRules, coreRules, tiRules, unRules, AS_of_eq, ← decide_not, N0, N1, N2, N3, N4, N5, Z0, Z1, Z2, Z3, Z4, Z5, Z6, Z7, Z8, Z9, Z10, Zc, ↓reduceIte, reduceCtorEq, wrap_i64, h4, h5, e1, edits_len]
      (repeat (with_reducible refine And.intro ?_ ?_; focus (first | omega | exact mixed1 | kernel_rfl)))
      refine call_over (by simp [get_cons]) rfl rfl ho ox ?_
      obtain ⟨x4, e4, w1, w2, w3, w4, w5, w6⟩ := ov_small f ho ox
      simp only [goRules, coreRules, tiRules, unRules, AS_of_eq, ← decide_not, N0, N1, N2, N3, N4, N5, Z0, Z1, Z2, Z3, Z4, Z5, Z6, Z7, Z8, Z9, Z10, Zc, ↓reduceIte, reduceCtorEq, w1, res2, wrap_i64 (n := (k : Int) + 1) (by omega) (by omega)]
      refine weak_again ⟨(x4, e4, k + 1), by simp only; omega, w4, w3, fun h => ?_, fun h => ?_⟩ (by simp only; omega) ?_
      · simp only at h ⊢
        rw [w2] at h
        rw [if_pos h] at hs
        rw [w5 h]; exact hs
      · simp only at h ⊢
        rw [w2] at h
        rw [if_neg h] at hs
        rw [w2]; exact (congrArg Prod.snd hs).symm
      · rw [hSt]; refine weak_go [] [] ?_
        simp only [goRules, coreRules, tiRules, unRules, AS_of_eq, ← decide_not, N0, N1, N2, N3, N4, N5, Z0, Z1, Z2, Z3, Z4, Z5, Z6, Z7, Z8, Z9, Z10, Zc, ↓reduceIte, reduceCtorEq] <;> ((repeat' apply And.intro) <;> first | rfl | omega | trivial)
    · have hme := hs2 h5
      subst hme
      simp only [goRules, coreRules, tiRules, unRules, AS_of_eq, ← decide_not, N0, N1, N2, N3, N4, N5, Z0, Z1, Z2, Z3, Z4, Z5, Z6, Z7, Z8, Z9, Z10, Zc, ↓reduceIte, reduceCtorEq, h4, h5]
      refine call_awake10 (by simp [get_cons]) ?_
      simp only [goRules, coreRules, tiRules, unRules, AS_of_eq, ← decide_not, N0, N1, N2, N3, N4, N5, Z0, Z1, Z2, Z3, Z4, Z5, Z6, Z7, Z8, Z9, Z10, Zc, ↓reduceIte, reduceCtorEq, h5]
  · by_cases h5 : e = 0
    · have hs := hs h5
      rw [List.drop_of_length_le (by omega), manyS] at hs
      obtain ⟨rfl, rfl⟩ := Prod.mk.inj hs
      simp only [goRules, coreRules, tiRules, unRules, AS_of_eq, ← decide_not, N0, N1, N2, N3, N4, N5, Z0, Z1, Z2, Z3, Z4, Z5, Z6, Z7, Z8, Z9, Z10, Zc, ↓reduceIte, reduceCtorEq, h4, h5]
      refine call_same (by simp [get_cons]) rfl rfl (by omega) (by omega) ?_
      simp only [goRules, coreRules, tiRules, unRules, AS_of_eq, ← decide_not, N0, N1, N2, N3, N4, N5, Z0, Z1, Z2, Z3, Z4, Z5, Z6, Z7, Z8, Z9, Z10, Zc, ↓reduceIte, reduceCtorEq]
      refine call_awake10 (by simp [get_cons]) ?_
      simp only [goRules, coreRules, tiRules, unRules, AS_of_eq, ← decide_not, N0, N1, N2, N3, N4, N5, Z0, Z1, Z2, Z3, Z4, Z5, Z6, Z7, Z8, Z9, Z10, Zc, ↓reduceIte, reduceCtorEq, h5]
    · have hme := hs2 h5
      subst hme
      simp only [goRules, coreRules, tiRules, unRules, AS_of_eq, ← decide_not, N0, N1, N2, N3, N4, N5, Z0, Z1, Z2, Z3, Z4, Z5, Z6, Z7, Z8, Z9, Z10, Zc, ↓reduceIte, reduceCtorEq, h4, h5]
      refine call_awake10 (by simp [get_cons]) ?_
      simp only [goRules, coreRules, tiRules, unRules, AS_of_eq, ← decide_not, N0, N1, N2, N3, N4, N5, Z0, Z1, Z2, Z3, Z4, Z5, Z6, Z7, Z8, Z9, Z10, Zc, ↓reduceIte, reduceCtorEq, h5]
end Go.Proofs
end
