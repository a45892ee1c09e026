/-
  ComposeAsks answers true.
-/
import Derived.Test.YtmenbocckhbdjaaDoorXAAw7
set_option linter.unusedSimpArgs false
set_option linter.unusedVariables false
set_option linter.defProp false

-- AAw8
section
namespace Go.Proofs
open Go Go.Rw
open _root_.Nat renaming reduceAdd → N0, reduceSub → N1, reduceMul → N2, reduceLT → N3, reduceLeDiff → N4, reduceEqDiff → N5
open _root_.Int renaming reduceNeg → Z0, reduceAdd → Z1, reduceSub → Z2, reduceMul → Z3, reduceGT → Z4, reduceGE → Z5, reduceLT → Z6, reduceLE → Z7, reduceEq → Z8, reduceNe → Z9, reduceToNat → Z10, cast_ofNat_Int → Zc
set_option maxRecDepth 100000
set_option linter.unusedSimpArgs false
set_option linter.unusedVariables false

theorem call_two_t {Γ : Env} {f : Nat} (hf : Γ.get f = some twoCon) {n : Nat} {t : Nat → AV} {hd : Nat → Nat → AV} {nh nl : Nat} {h : Nat → Option AO} {fm : Nat → Nat} {lv : Nat → Option (Nat × Nat)} {mu : Bool} {a b : List Cp} {t1 t2 : Nat} {ys zs : List AV} {d : Option Nat} {K : AS → Prop} (h1 : 2 ≤ t1) (h2 : 2 ≤ t2) (hy : ys = comps a) (hz : zs = comps b) (oa : okL a) (ob : okL b)
    (hk : cont ⟨n, t, hd, ⟨nh, h, nl, fm, kill fm [t1, t2] lv, mu⟩⟩ d (twoR a b) K) : vcCall Tryd.prog Γ false ⟨n, t, hd, ⟨nh, h, nl, fm, lv, mu⟩⟩ f [.sl t1 3 ys, .sl t2 3 zs] d K := by
  subst hy hz
  refine vcCall_none (C := twoCon) (i := (⟨a, oa⟩, ⟨b, ob⟩)) hf rfl rfl rfl rfl (ts := [t1, t2]) ?_ ?_
  · simp [AV.tagsL, AV.tags, h1, h2]
  · rintro r rfl
    rw [twoR_er]
    exact hk
theorem two_a : twoE [⟨2, 0, [97]⟩] [⟨3, 1, []⟩] = 0 ∧ twoN [⟨2, 0, [97]⟩] [⟨3, 1, []⟩] = [] := by decide +kernel
theorem two_b : twoE [⟨1, 2, []⟩] [⟨1, 3, []⟩] = 11 := by decide +kernel
theorem awake9_good : Rw.Good Tryd.prog 35 trueCon := by
  have hΓ : GoodEnv Tryd.prog [(36, twoCon), (40, keepCon), (38, allCon), (33, sameCon)] := (goodEnv_cons two_good (goodEnv_cons keep_good (goodEnv_cons all_good (goodEnv_cons same_good goodEnv_nil))))
  refine good_fn (nn := 45) hΓ Tryd.func35 (by kernel_rfl) rfl (show Tryd.f35.results.toList = [.tmp 0] from rfl) (fun _ => rfl) (fun _ => rfl) ?_
  intro _
  simp only [goRules, coreRules, tiRules, unRules, AS_of_eq, ← decide_not, N0, N1, N2, N3, N4, N5, Z0, Z1, Z2, Z3, Z4, Z5, Z6, Z7, Z8, Z9, Z10, Zc, ↓reduceIte, reduceCtorEq, List.map_cons, List.map_nil]
  refine call_two_t (by simp [get_cons]) (by omega) (by omega) (a := [⟨2, 0, [97]⟩]) (b := [⟨3, 1, []⟩]) rfl rfl ⟨by decide, by decide, by simp⟩ ⟨by decide, by decide, by simp⟩ ?_
  simp only [goRules, coreRules, tiRules, unRules, AS_of_eq, ← decide_not, N0, N1, N2, N3, N4, N5, Z0, Z1, Z2, Z3, Z4, Z5, Z6, Z7, Z8, Z9, Z10, Zc, ↓reduceIte, reduceCtorEq, twoR, two_a.1, two_a.2, res2]
  refine call_keep (by simp [get_cons]) (by omega) ?_
  simp only [goRules, coreRules, tiRules, unRules, AS_of_eq, ← decide_not, N0, N1, N2, N3, N4, N5, Z0, Z1, Z2, Z3, Z4, Z5, Z6, Z7, Z8, Z9, Z10, Zc, ↓reduceIte, reduceCtorEq, show keepL 2 = [⟨1, 2, []⟩] from rfl]
  refine call_keep (by simp [get_cons]) (by omega) ?_
  simp only [goRules, coreRules, tiRules, unRules, AS_of_eq, ← decide_not, N0, N1, N2, N3, N4, N5, Z0, Z1, Z2, Z3, Z4, Z5, Z6, Z7, Z8, Z9, Z10, Zc, ↓reduceIte, reduceCtorEq, show keepL 3 = [⟨1, 3, []⟩] from rfl]
  refine call_two (by simp [get_cons]) (a := [⟨1, 2, []⟩]) (b := [⟨1, 3, []⟩]) rfl rfl ⟨by decide, by decide, by simp⟩ ⟨by decide, by decide, by simp⟩ ?_
  simp only [goRules, coreRules, tiRules, unRules, AS_of_eq, ← decide_not, N0, N1, N2, N3, N4, N5, Z0, Z1, Z2, Z3, Z4, Z5, Z6, Z7, Z8, Z9, Z10, Zc, ↓reduceIte, reduceCtorEq, twoR, two_b, res2]
  refine call_all (by simp [get_cons]) (by omega) (l := []) rfl (by omega) (by simp) (by simp) ?_
  simp only [goRules, coreRules, tiRules, unRules, AS_of_eq, ← decide_not, N0, N1, N2, N3, N4, N5, Z0, Z1, Z2, Z3, Z4, Z5, Z6, Z7, Z8, Z9, Z10, Zc, ↓reduceIte, reduceCtorEq, allS, show keepL 2 = [⟨1, 2, []⟩] from rfl, res2, comps_len, List.length_nil]
  refine call_keep (by simp [get_cons]) (by omega) ?_
  simp only [goRules, coreRules, tiRules, unRules, AS_of_eq, ← decide_not, N0, N1, N2, N3, N4, N5, Z0, Z1, Z2, Z3, Z4, Z5, Z6, Z7, Z8, Z9, Z10, Zc, ↓reduceIte, reduceCtorEq, show keepL 2 = [⟨1, 2, []⟩] from rfl, comps_len, List.length_nil]
  refine call_same (by simp [get_cons]) (x := [⟨1, 2, []⟩]) (y := [⟨1, 2, []⟩]) rfl rfl (by simp) (by simp) ?_
  simp only [goRules, coreRules, tiRules, unRules, AS_of_eq, ← decide_not, N0, N1, N2, N3, N4, N5, Z0, Z1, Z2, Z3, Z4, Z5, Z6, Z7, Z8, Z9, Z10, Zc, ↓reduceIte, reduceCtorEq, comps_len, List.length_nil]
theorem call_awake9 {Γ : Env} (hf : Γ.get 35 = some trueCon) {σ : AS} {dr : Bool} {d : Option Nat} {K : AS → Prop}
    (hk : cont σ d (.v (.bool true)) K) : vcCall Tryd.prog Γ dr σ 35 [] d K :=
  vcCall_plain (C := trueCon) (i := ()) hf rfl rfl rfl rfl (fun _ h => h) rfl hk
def givenP (l : List Cp) : Prop := l.length ≤ 9223372036854775807 ∧ ∀ c ∈ l, (-9223372036854775808 ≤ c.n ∧ c.n ≤ 9223372036854775807) ∧ c.t.length ≤ 9223372036854775807
abbrev GivenE := { l : List (List Cp) // l.length ≤ 9223372036854775807 ∧ ∀ x ∈ l, givenP x }
abbrev asks9Con : Con where
  ι := Given × Given × Num × GivenE
  args := fun p => [.sl 0 3 (comps p.1.1), .sl 0 3 (comps p.2.1.1), .v (.int .i64 p.2.2.1.1), .sl 0 1 (edits p.2.2.2.1)]
  post := fun _ r => r = .v (.bool true)
  plain := true
theorem two_small {a b : List Cp} (oa : okL a) (ob : okL b) : ∃ (l : List Cp) (e : Int), twoR a b = res2 (.sl 0 3 (comps l)) e ∧ l.length ≤ 4000000 ∧ okL l := by
  unfold twoR
  by_cases he : twoE a b = 0
  · rw [if_pos he]
    obtain ⟨h1, h2, _⟩ := twoE_zero he
    have := two_rawlen h1 h2 oa ob
    have h3 := (nfF_ok (twoF ((unL a).length + (unL b).length) (a, 0) (b, 0)) 0 [] 0 (by omega) (by omega)).1
    exact ⟨_, _, rfl, by unfold twoN nf; omega, okL_two he oa ob⟩
  · rw [if_neg he]
    exact ⟨[], _, rfl, by simp, by simp, by simp [tot], by simp⟩
theorem all_small : ∀ (l : List (List Cp)) (out : List Cp), okL out → out.length ≤ 4000000 → (∀ x ∈ l, okL x) → (allS out l).1.length ≤ 4000000 ∧ okL (allS out l).1
  | [], out, ho, hl, _ => ⟨hl, ho⟩
  | x :: r, out, ho, hl, h => by
    rw [allS]
    split
    · rename_i he
      have ox := h x (by simp)
      obtain ⟨h1, h2, _⟩ := twoE_zero he
      have := two_rawlen h1 h2 ho ox
      have h3 := (nfF_ok (twoF ((unL out).length + (unL x).length) (out, 0) (x, 0)) 0 [] 0 (by omega) (by omega)).1
      exact all_small r _ (okL_two he ho ox) (by unfold twoN nf; omega) (fun y hy => h y (by simp [hy]))
    · exact ⟨by simp, by simp, by simp [tot], by simp⟩
theorem keep_len (n : Int) : (keepL n).length ≤ 1 := by unfold keepL; split <;> simp
theorem asks9_good : Rw.Good Tryd.prog 7 asks9Con := by
  have hΓ : GoodEnv Tryd.prog [(35, trueCon), (16, weighCon), (36, twoCon), (37, twoCon), (38, allCon), (39, allCon), (32, sameCon)] := (goodEnv_cons awake9_good (goodEnv_cons weigh_good (goodEnv_cons two_good (goodEnv_cons rtwo_good (goodEnv_cons all_good (goodEnv_cons rall_good (goodEnv_cons rsame_good goodEnv_nil)))))))
  refine good_fn (nn := 90) hΓ Tryd.func7 (by kernel_rfl) rfl (show Tryd.f7.results.toList = [.tmp 8] from rfl) (fun _ => rfl) (fun _ => rfl) ?_
  rintro ⟨⟨a, ha, hca⟩, ⟨b, hb, hcb⟩, ⟨n, hn⟩, ⟨l, hl, hcl⟩⟩
  simp only [goRules, coreRules, tiRules, unRules, AS_of_eq, ← decide_not, N0, N1, N2, N3, N4, N5, Z0, Z1, Z2, Z3, Z4, Z5, Z6, Z7, Z8, Z9, Z10, Zc, ↓reduceIte, reduceCtorEq]
  refine call_weigh (by simp [get_cons]) rfl ha (fun c h => (hca c h).2) (by omega) ?_
  simp only [goRules, coreRules, tiRules, unRules, AS_of_eq, ← decide_not, N0, N1, N2, N3, N4, N5, Z0, Z1, Z2, Z3, Z4, Z5, Z6, Z7, Z8, Z9, Z10, Zc, ↓reduceIte, reduceCtorEq]
  by_cases h1 : compsF 2000 0 a > 2000
  · simp only [goRules, coreRules, tiRules, unRules, AS_of_eq, ← decide_not, N0, N1, N2, N3, N4, N5, Z0, Z1, Z2, Z3, Z4, Z5, Z6, Z7, Z8, Z9, Z10, Zc, ↓reduceIte, reduceCtorEq, h1]
    refine call_awake9 (by simp [get_cons]) ?_
    simp only [goRules, coreRules, tiRules, unRules, AS_of_eq, ← decide_not, N0, N1, N2, N3, N4, N5, Z0, Z1, Z2, Z3, Z4, Z5, Z6, Z7, Z8, Z9, Z10, Zc, ↓reduceIte, reduceCtorEq]
  simp only [goRules, coreRules, tiRules, unRules, AS_of_eq, ← decide_not, N0, N1, N2, N3, N4, N5, Z0, Z1, Z2, Z3, Z4, Z5, Z6, Z7, Z8, Z9, Z10, Zc, ↓reduceIte, reduceCtorEq, h1]
  refine call_weigh (by simp [get_cons]) rfl hb (fun c h => (hcb c h).2) (by omega) ?_
  by_cases h2 : compsF 2000 0 b > 2000
  · simp only [goRules, coreRules, tiRules, unRules, AS_of_eq, ← decide_not, N0, N1, N2, N3, N4, N5, Z0, Z1, Z2, Z3, Z4, Z5, Z6, Z7, Z8, Z9, Z10, Zc, ↓reduceIte, reduceCtorEq, h2]
    refine call_awake9 (by simp [get_cons]) ?_
    simp only [goRules, coreRules, tiRules, unRules, AS_of_eq, ← decide_not, N0, N1, N2, N3, N4, N5, Z0, Z1, Z2, Z3, Z4, Z5, Z6, Z7, Z8, Z9, Z10, Zc, ↓reduceIte, reduceCtorEq]
  simp only [goRules, coreRules, tiRules, unRules, AS_of_eq, ← decide_not, N0, N1, N2, N3, N4, N5, Z0, Z1, Z2, Z3, Z4, Z5, Z6, Z7, Z8, Z9, Z10, Zc, ↓reduceIte, reduceCtorEq, h2, edits_len]
  by_cases h3 : (l.length : Int) > 6
  · simp only [goRules, coreRules, tiRules, unRules, AS_of_eq, ← decide_not, N0, N1, N2, N3, N4, N5, Z0, Z1, Z2, Z3, Z4, Z5, Z6, Z7, Z8, Z9, Z10, Zc, ↓reduceIte, reduceCtorEq, h3]
    refine call_awake9 (by simp [get_cons]) ?_
    simp only [goRules, coreRules, tiRules, unRules, AS_of_eq, ← decide_not, N0, N1, N2, N3, N4, N5, Z0, Z1, Z2, Z3, Z4, Z5, Z6, Z7, Z8, Z9, Z10, Zc, ↓reduceIte, reduceCtorEq]
  simp only [goRules, coreRules, tiRules, unRules, AS_of_eq, ← decide_not, N0, N1, N2, N3, N4, N5, Z0, Z1, Z2, Z3, Z4, Z5, Z6, Z7, Z8, Z9, Z10, Zc, ↓reduceIte, reduceCtorEq, h3]
  obtain ⟨oa, hwa⟩ := weigh_ok (by omega) hca (show compsF 2000 0 a ≤ 2000 by omega)
  obtain ⟨ob, hwb⟩ := weigh_ok (by omega) hcb (show compsF 2000 0 b ≤ 2000 by omega)
  obtain ⟨St, hSt⟩ : ∃ St : { i : Nat // i ≤ l.length ∧ ∀ x ∈ l.take i, okL x } → AS, ∀ i, St i = AS.of 90 [(0, .sl 0 3 (comps a)), (1, .sl 0 3 (comps b)), (2, .v (.int .i64 n)), (3, .sl 0 1 (edits l)), (9, .v (.int .i64 i.1))] [] [] := ⟨_, fun _ => rfl⟩
  refine vc_loop hΓ St (fun i => l.length - i.1) ⟨0, by simp, by simp⟩ (by rw [hSt]; refine weak_go [] [] ?_; simp only [goRules, coreRules, tiRules, unRules, AS_of_eq, ← decide_not, N0, N1, N2, N3, N4, N5, Z0, Z1, Z2, Z3, Z4, Z5, Z6, Z7, Z8, Z9, Z10, Zc, ↓reduceIte, reduceCtorEq] <;> ((repeat' apply And.intro) <;> first | rfl | omega | trivial)) ?_
  rintro ⟨i, hi, hdone⟩
  rw [hSt]
  simp only
  simp only [goRules, coreRules, tiRules, unRules, AS_of_eq, ← decide_not, N0, N1, N2, N3, N4, N5, Z0, Z1, Z2, Z3, Z4, Z5, Z6, Z7, Z8, Z9, Z10, Zc, ↓reduceIte, reduceCtorEq, edits_len]
  (with_reducible first | refine branchP_dec (fun h => ?_) (fun h => ?_) | refine guardB_dec (fun h => ?_) (fun h => ?_))
  · have hlt : i < l.length := by omega
    have e1 := edits_getD l hlt
    obtain ⟨gx1, gx2⟩ := hcl _ (List.getElem_mem hlt)
    have etk := List.take_succ_eq_append_getElem hlt
    generalize l[i] = x at *
    simp (disch := omega) only [goRules, coreRules, tiRules, unRules, AS_of_eq, ← decide_not, N0, N1, N2, N3, N4, N5, Z0, Z1, Z2, Z3, Z4, Z5, Z6, Z7, Z8, Z9, Z10, Zc, ↓reduceIte, reduceCtorEq, wrap_i64, h, e1, edits_len]
    (repeat (with_reducible refine And.intro ?_ ?_; focus (first | omega | exact mixed1 | kernel_rfl)))
    refine call_weigh (by simp [get_cons]) rfl gx1 (fun c h => (gx2 c h).2) (by omega) ?_
    by_cases h4 : compsF 1000 0 x > 1000
    · simp only [goRules, coreRules, tiRules, unRules, AS_of_eq, ← decide_not, N0, N1, N2, N3, N4, N5, Z0, Z1, Z2, Z3, Z4, Z5, Z6, Z7, Z8, Z9, Z10, Zc, ↓reduceIte, reduceCtorEq, h4]
      refine call_awake9 (by simp [get_cons]) ?_
      simp only [goRules, coreRules, tiRules, unRules, AS_of_eq, ← decide_not, N0, N1, N2, N3, N4, N5, Z0, Z1, Z2, Z3, Z4, Z5, Z6, Z7, Z8, Z9, Z10, Zc, ↓reduceIte, reduceCtorEq]
    · have ox := (weigh_ok (by omega) gx2 (show compsF 1000 0 x ≤ 1000 by omega)).1
      simp only [goRules, coreRules, tiRules, unRules, AS_of_eq, ← decide_not, N0, N1, N2, N3, N4, N5, Z0, Z1, Z2, Z3, Z4, Z5, Z6, Z7, Z8, Z9, Z10, Zc, ↓reduceIte, reduceCtorEq, h4, wrap_i64 (n := (i : Int) + 1) (by omega) (by omega)]
      refine weak_again ⟨i + 1, by omega, fun y hy => ?_⟩ (by simp only; omega) ?_
      · rw [etk] at hy
        rcases List.mem_append.1 hy with hy | hy
        · exact hdone y hy
        · rw [List.mem_singleton.1 hy]; exact ox
      · rw [hSt]; refine weak_go [] [] ?_
        simp only [goRules, coreRules, tiRules, unRules, AS_of_eq, ← decide_not, N0, N1, N2, N3, N4, N5, Z0, Z1, Z2, Z3, Z4, Z5, Z6, Z7, Z8, Z9, Z10, Zc, ↓reduceIte, reduceCtorEq] <;> ((repeat' apply And.intro) <;> first | rfl | omega | trivial)
  rw [List.take_of_length_le (by omega)] at hdone
  obtain ⟨lt, et, ht, hts, _⟩ := two_small oa ob
  have hal := all_small l (keepL n) (okL_keep hn) (by have := keep_len n; omega) hdone
  simp only [goRules, coreRules, tiRules, unRules, AS_of_eq, ← decide_not, N0, N1, N2, N3, N4, N5, Z0, Z1, Z2, Z3, Z4, Z5, Z6, Z7, Z8, Z9, Z10, Zc, ↓reduceIte, reduceCtorEq, h]
  refine call_two (by simp [get_cons]) rfl rfl oa ob ?_
  simp only [goRules, coreRules, tiRules, unRules, AS_of_eq, ← decide_not, N0, N1, N2, N3, N4, N5, Z0, Z1, Z2, Z3, Z4, Z5, Z6, Z7, Z8, Z9, Z10, Zc, ↓reduceIte, reduceCtorEq, ht, res2]
  refine call_two (by simp [get_cons]) rfl rfl oa ob ?_
  simp only [goRules, coreRules, tiRules, unRules, AS_of_eq, ← decide_not, N0, N1, N2, N3, N4, N5, Z0, Z1, Z2, Z3, Z4, Z5, Z6, Z7, Z8, Z9, Z10, Zc, ↓reduceIte, reduceCtorEq, ht, res2]
  refine call_all (by simp [get_cons]) (by omega) rfl hn (by omega) hdone ?_
  simp only [goRules, coreRules, tiRules, unRules, AS_of_eq, ← decide_not, N0, N1, N2, N3, N4, N5, Z0, Z1, Z2, Z3, Z4, Z5, Z6, Z7, Z8, Z9, Z10, Zc, ↓reduceIte, reduceCtorEq, res2]
  refine call_all (by simp [get_cons]) (by omega) rfl hn (by omega) hdone ?_
  simp only [goRules, coreRules, tiRules, unRules, AS_of_eq, ← decide_not, N0, N1, N2, N3, N4, N5, Z0, Z1, Z2, Z3, Z4, Z5, Z6, Z7, Z8, Z9, Z10, Zc, ↓reduceIte, reduceCtorEq, res2]
  refine call_same (by simp [get_cons]) rfl rfl (by omega) (by omega) ?_
  simp only [goRules, coreRules, tiRules, unRules, AS_of_eq, ← decide_not, N0, N1, N2, N3, N4, N5, Z0, Z1, Z2, Z3, Z4, Z5, Z6, Z7, Z8, Z9, Z10, Zc, ↓reduceIte, reduceCtorEq]
  refine call_same (by simp [get_cons]) rfl rfl (by have := hal.1; omega) (by have := hal.1; omega) ?_
  simp only [goRules, coreRules, tiRules, unRules, AS_of_eq, ← decide_not, N0, N1, N2, N3, N4, N5, Z0, Z1, Z2, Z3, Z4, Z5, Z6, Z7, Z8, Z9, Z10, Zc, ↓reduceIte, reduceCtorEq]
  refine call_awake9 (by simp [get_cons]) ?_
  simp only [goRules, coreRules, tiRules, unRules, AS_of_eq, ← decide_not, N0, N1, N2, N3, N4, N5, Z0, Z1, Z2, Z3, Z4, Z5, Z6, Z7, Z8, Z9, Z10, Zc, ↓reduceIte, reduceCtorEq]
end Go.Proofs
end
