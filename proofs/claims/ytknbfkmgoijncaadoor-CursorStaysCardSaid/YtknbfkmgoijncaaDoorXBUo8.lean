/-
  Sums, held; how much an edit takes.
-/
import Derived.Test.YtknbfkmgoijncaaDoorXBUo7
set_option linter.unusedSimpArgs false
set_option linter.unusedVariables false
set_option linter.defProp false

-- BUo8
section
namespace Go.Proofs
open Go Go.Rw
open _root_.Nat renaming reduceAdd → N0, reduceSub → N1, reduceMul → N2, reduceLT → N3, reduceLeDiff → N4, reduceEqDiff → N5
open _root_.Int renaming reduceNeg → Z0, reduceAdd → Z1, reduceSub → Z2, reduceMul → Z3, reduceGT → Z4, reduceGE → Z5, reduceLT → Z6, reduceLE → Z7, reduceEq → Z8, reduceNe → Z9, reduceToNat → Z10, cast_ofNat_Int → Zc
set_option maxRecDepth 100000
set_option linter.unusedSimpArgs false
set_option linter.unusedVariables false

/-- A sum, held at the most. -/
def sumF (x : Int) (ys : List Int) : Int := ys.foldl addI x
theorem sumF_top : ∀ (ys : List Int), (∀ y ∈ ys, 0 ≤ y) → sumF 1099511627776 ys = 1099511627776
  | [], _ => rfl
  | y :: ys, h => by
    show sumF (addI 1099511627776 y) ys = _
    have := h y (by simp)
    rw [show addI 1099511627776 y = 1099511627776 by unfold addI; omega, sumF_top ys fun z hz => h z (by simp [hz])]
abbrev Sm := { p : Int × List Int // (0 ≤ p.1 ∧ p.1 ≤ 1099511627776) ∧ (∀ y ∈ p.2, 0 ≤ y ∧ y ≤ 9223372036854775807) ∧ p.2.length ≤ 9223372036854775807 }
abbrev sumCon : Con where
  ι := Sm
  args := fun p => [.v (.int .i64 p.1.1), .sl 0 1 (ints .i64 p.1.2)]
  post := fun p r => r = .v (.int .i64 (sumF p.1.1 p.1.2))
  plain := true
theorem sum_good : Rw.Good Tryd.prog 42 sumCon := by
  have hΓ : GoodEnv Tryd.prog [] := goodEnv_nil
  refine good_fn (nn := 30) hΓ Tryd.func42 (by kernel_rfl) rfl (show Tryd.f42.results.toList = [.tmp 4] from rfl) (fun _ => rfl) (fun _ => rfl) ?_
  rintro ⟨⟨x, ys⟩, hx, hy, hl⟩
  simp only at hx hy hl
  simp only [goRules, coreRules, tiRules, unRules, AS_of_eq, ← decide_not, N0, N1, N2, N3, N4, N5, Z0, Z1, Z2, Z3, Z4, Z5, Z6, Z7, Z8, Z9, Z10, Zc, ↓reduceIte, reduceCtorEq, ints_length]
  obtain ⟨St, hSt⟩ : ∃ St : { p : Int × Nat // p.2 ≤ ys.length ∧ (0 ≤ p.1 ∧ p.1 ≤ 1099511627776) ∧ sumF x ys = sumF p.1 (ys.drop p.2) } → AS, ∀ p, St p = AS.of 30 [(0, .v (.int .i64 p.1.1)), (1, .sl 0 1 (ints .i64 ys)), (5, .v (.int .i64 p.1.2))] [] [] := ⟨_, fun _ => rfl⟩
  refine vc_loop hΓ St (fun p => ys.length - p.1.2) ⟨(x, 0), by omega, hx, rfl⟩ (by rw [hSt]; refine weak_go [] [] ?_; simp only [goRules, coreRules, tiRules, unRules, AS_of_eq, ← decide_not, N0, N1, N2, N3, N4, N5, Z0, Z1, Z2, Z3, Z4, Z5, Z6, Z7, Z8, Z9, Z10, Zc, ↓reduceIte, reduceCtorEq] <;> ((repeat' apply And.intro) <;> first | rfl | omega | trivial)) ?_
  rintro ⟨⟨s, i⟩, hi, hs, hb⟩
  simp only at hi hs hb
  rw [hSt]
  simp only
  simp only [goRules, coreRules, tiRules, unRules, AS_of_eq, ← decide_not, N0, N1, N2, N3, N4, N5, Z0, Z1, Z2, Z3, Z4, Z5, Z6, Z7, Z8, Z9, Z10, Zc, ↓reduceIte, reduceCtorEq, ints_length]
  (with_reducible first | refine branchP_dec (fun h => ?_) (fun h => ?_) | refine guardB_dec (fun h => ?_) (fun h => ?_))
  · have hlt : i < ys.length := by omega
    have hyi := hy ys[i] (List.getElem_mem hlt)
    have hge : ∀ y ∈ ys.drop i, 0 ≤ y := fun y hm => (hy y (List.mem_of_mem_drop hm)).1
    rw [List.drop_eq_getElem_cons hlt] at hb hge
    have e1 : (ints .i64 ys).getD i .any = .v (.int .i64 ys[i]) := by simp [ints, List.getD_eq_getElem?_getD, hlt]
    have hs2 : ¬ s > 1099511627776 := by omega
    have early : ys[i] > 1099511627776 - s → sumF x ys = 1099511627776 := fun h => by
      rw [hb]
      show sumF (addI s ys[i]) _ = _
      rw [show addI s ys[i] = 1099511627776 by unfold addI; omega, sumF_top _ fun z hz => hge z (List.mem_cons_of_mem _ hz)]
    generalize ys[i] = y at *
    simp (disch := omega) only [goRules, coreRules, tiRules, unRules, AS_of_eq, ← decide_not, N0, N1, N2, N3, N4, N5, Z0, Z1, Z2, Z3, Z4, Z5, Z6, Z7, Z8, Z9, Z10, Zc, ↓reduceIte, reduceCtorEq, wrap_i64, h, hs2, e1, ints_length]
    (repeat (with_reducible refine And.intro ?_ ?_; focus (first | omega | exact mixed1 | kernel_rfl)))
    (with_reducible first | refine branchP_dec (fun h2 => ?_) (fun h2 => ?_) | refine guardB_dec (fun h2 => ?_) (fun h2 => ?_))
    · simp (disch := omega) only [goRules, coreRules, tiRules, unRules, AS_of_eq, ← decide_not, N0, N1, N2, N3, N4, N5, Z0, Z1, Z2, Z3, Z4, Z5, Z6, Z7, Z8, Z9, Z10, Zc, ↓reduceIte, reduceCtorEq, wrap_i64, h2, e1, ints_length]
      rw [early h2]
    · simp (disch := omega) only [goRules, coreRules, tiRules, unRules, AS_of_eq, ← decide_not, N0, N1, N2, N3, N4, N5, Z0, Z1, Z2, Z3, Z4, Z5, Z6, Z7, Z8, Z9, Z10, Zc, ↓reduceIte, reduceCtorEq, wrap_i64, h2, e1, ints_length]
      (repeat (with_reducible refine And.intro ?_ ?_; focus (first | omega | exact mixed1 | kernel_rfl)))
      have hr : addI s y = s + y := addI_eq (by omega)
      refine weak_again ⟨(s + y, i + 1), by simp only; omega, by simp only; omega, by rw [hb, ← hr]; rfl⟩ (by simp only; omega) ?_
      rw [hSt]; refine weak_go [] [] ?_
      simp only [goRules, coreRules, tiRules, unRules, AS_of_eq, ← decide_not, N0, N1, N2, N3, N4, N5, Z0, Z1, Z2, Z3, Z4, Z5, Z6, Z7, Z8, Z9, Z10, Zc, ↓reduceIte, reduceCtorEq] <;> ((repeat' apply And.intro) <;> first | rfl | omega | trivial)
  · simp only [goRules, coreRules, tiRules, unRules, AS_of_eq, ← decide_not, N0, N1, N2, N3, N4, N5, Z0, Z1, Z2, Z3, Z4, Z5, Z6, Z7, Z8, Z9, Z10, Zc, ↓reduceIte, reduceCtorEq, h]
    rw [List.drop_of_length_le (by omega)] at hb
    rw [hb]; rfl
theorem call_sum {Γ : Env} (hf : Γ.get 42 = some sumCon) {σ : AS} {dr : Bool} {x : Int} {y : List Int} {t : Nat} {ys : List AV} {d : Option Nat} {K : AS → Prop} (hy : ys = ints .i64 y) (h1 : 0 ≤ x ∧ x ≤ 1099511627776) (h2 : ∀ z ∈ y, 0 ≤ z ∧ z ≤ 9223372036854775807) (h3 : y.length ≤ 9223372036854775807)
    (hk : cont σ d (.v (.int .i64 (sumF x y))) K) : vcCall Tryd.prog Γ dr σ 42 [.v (.int .i64 x), .sl t 1 ys] d K := by
  subst hy
  exact vcCall_plain (C := sumCon) (i := ⟨(x, y), h1, h2, h3⟩) hf rfl rfl rfl rfl (fun _ h => h) rfl hk
theorem sumF_range : ∀ (ys : List Int) {x : Int}, (0 ≤ x ∧ x ≤ 1099511627776) → (∀ y ∈ ys, 0 ≤ y) → x ≤ sumF x ys ∧ sumF x ys ≤ 1099511627776
  | [], x, h, _ => by simp [sumF]; omega
  | y :: ys, x, h, hy => by
    have h1 := hy y (by simp)
    have h2 := addI_range h.1 h1
    have h3 : x ≤ addI x y := by unfold addI; omega
    have h4 := sumF_range ys h2 fun z hz => hy z (by simp [hz])
    show x ≤ sumF (addI x y) ys ∧ sumF (addI x y) ys ≤ _
    omega

/-- How much an edit takes, up to a bound. -/
def compsF (m : Int) : Int → List Cp → Int
  | s, [] => s
  | s, c :: r => if s ≤ m then compsF m (sumF s [c.t.length, 2]) r else s
theorem compsF_le {m : Int} (hm : m < 1099511627776) : ∀ (l : List Cp) {s : Int}, 0 ≤ s → compsF m s l ≤ m → s + tot l + 2 * l.length ≤ m
  | [], s, _, h => by simp only [compsF] at h; simp [tot]; exact h
  | c :: r, s, hs, h => by
    simp only [compsF] at h
    split at h
    · rename_i h1
      have e : sumF s [(c.t.length : Int), 2] = addI (addI s c.t.length) 2 := rfl
      have h2 : 0 ≤ addI (addI s c.t.length) 2 := by unfold addI; omega
      rw [e] at h
      have h3 := compsF_le hm r h2 h
      simp only [tot, List.length_cons]
      have h4 : addI (addI s c.t.length) 2 ≤ m := by omega
      have h5 : addI (addI s c.t.length) 2 = s + c.t.length + 2 := by unfold addI at h4 ⊢; omega
      omega
    · omega
abbrev Wide := { l : List Cp // l.length ≤ 9223372036854775807 ∧ ∀ c ∈ l, c.t.length ≤ 9223372036854775807 }
abbrev compsCon : Con where
  ι := Wide
  args := fun l => [.sl 0 3 (comps l.1), .v (.int .i64 3000)]
  post := fun l r => r = .v (.int .i64 (compsF 3000 0 l.1))
  plain := true
theorem comps_good : Rw.Good Tryd.prog 23 compsCon := by
  have hΓ : GoodEnv Tryd.prog [(42, sumCon)] := (goodEnv_cons sum_good goodEnv_nil)
  refine good_fn (nn := 28) hΓ Tryd.func23 (by kernel_rfl) rfl (show Tryd.f23.results.toList = [.tmp 4] from rfl) (fun _ => rfl) (fun _ => rfl) ?_
  rintro ⟨l, hl, hc⟩
  simp only [goRules, coreRules, tiRules, unRules, AS_of_eq, ← decide_not, N0, N1, N2, N3, N4, N5, Z0, Z1, Z2, Z3, Z4, Z5, Z6, Z7, Z8, Z9, Z10, Zc, ↓reduceIte, reduceCtorEq, comps_len]
  obtain ⟨St, hSt⟩ : ∃ St : { p : Int × Nat // p.2 ≤ l.length ∧ (0 ≤ p.1 ∧ p.1 ≤ 1099511627776) ∧ compsF 3000 0 l = compsF 3000 p.1 (l.drop p.2) } → AS, ∀ p, St p = AS.of 28 [(0, .sl 0 3 (comps l)), (1, .v (.int .i64 3000)), (5, .v (.int .i64 p.1.1)), (6, .v (.int .i64 p.1.2))] [] [] := ⟨_, fun _ => rfl⟩
  refine vc_loop hΓ St (fun p => l.length - p.1.2) ⟨(0, 0), by omega, by simp only; omega, rfl⟩ (by rw [hSt]; refine weak_go [] [] ?_; simp only [goRules, coreRules, tiRules, unRules, AS_of_eq, ← decide_not, N0, N1, N2, N3, N4, N5, Z0, Z1, Z2, Z3, Z4, Z5, Z6, Z7, Z8, Z9, Z10, Zc, ↓reduceIte, reduceCtorEq] <;> ((repeat' apply And.intro) <;> first | rfl | omega | trivial)) ?_
  rintro ⟨⟨s, i⟩, hi, hs, hb⟩
  simp only at hi hs hb
  rw [hSt]
  simp only
  simp only [goRules, coreRules, tiRules, unRules, AS_of_eq, ← decide_not, N0, N1, N2, N3, N4, N5, Z0, Z1, Z2, Z3, Z4, Z5, Z6, Z7, Z8, Z9, Z10, Zc, ↓reduceIte, reduceCtorEq, comps_len]
  (with_reducible first | refine branchP_dec (fun h => ?_) (fun h => ?_) | refine guardB_dec (fun h => ?_) (fun h => ?_))
  · have hlt : i < l.length := by omega
    have hci := hc l[i] (List.getElem_mem hlt)
    have e1 := comps_getD l hlt
    rw [List.drop_eq_getElem_cons hlt, compsF] at hb
    generalize l[i] = c at *
    obtain ⟨k, n, t⟩ := c
    simp only at hci hb e1
    simp (disch := omega) only [goRules, coreRules, tiRules, unRules, AS_of_eq, ← decide_not, N0, N1, N2, N3, N4, N5, Z0, Z1, Z2, Z3, Z4, Z5, Z6, Z7, Z8, Z9, Z10, Zc, ↓reduceIte, reduceCtorEq, wrap_i64, h]
    (with_reducible first | refine branchP_dec (fun h2 => ?_) (fun h2 => ?_) | refine guardB_dec (fun h2 => ?_) (fun h2 => ?_))
    · simp (disch := omega) only [goRules, coreRules, tiRules, unRules, AS_of_eq, ← decide_not, N0, N1, N2, N3, N4, N5, Z0, Z1, Z2, Z3, Z4, Z5, Z6, Z7, Z8, Z9, Z10, Zc, ↓reduceIte, reduceCtorEq, wrap_i64, h2, e1, comps_len]
      (repeat (with_reducible refine And.intro ?_ ?_; focus (first | omega | exact mixed1 | kernel_rfl)))
      refine call_sum (by simp [get_cons]) (y := [(t.length : Int), 2]) rfl hs (by simp; omega) (by simp) ?_
      simp (disch := omega) only [goRules, coreRules, tiRules, unRules, AS_of_eq, ← decide_not, N0, N1, N2, N3, N4, N5, Z0, Z1, Z2, Z3, Z4, Z5, Z6, Z7, Z8, Z9, Z10, Zc, ↓reduceIte, reduceCtorEq, wrap_i64]
      rw [if_pos h2] at hb
      have hr := sumF_range [(t.length : Int), 2] hs (by simp)
      refine weak_again ⟨(sumF s [(t.length : Int), 2], i + 1), by simp only; omega, by simp only; omega, hb⟩ (by simp only; omega) ?_
      rw [hSt]; refine weak_go [] [] ?_
      simp only [goRules, coreRules, tiRules, unRules, AS_of_eq, ← decide_not, N0, N1, N2, N3, N4, N5, Z0, Z1, Z2, Z3, Z4, Z5, Z6, Z7, Z8, Z9, Z10, Zc, ↓reduceIte, reduceCtorEq] <;> ((repeat' apply And.intro) <;> first | rfl | omega | trivial)
    · simp (disch := omega) only [goRules, coreRules, tiRules, unRules, AS_of_eq, ← decide_not, N0, N1, N2, N3, N4, N5, Z0, Z1, Z2, Z3, Z4, Z5, Z6, Z7, Z8, Z9, Z10, Zc, ↓reduceIte, reduceCtorEq, wrap_i64, h2]
      rw [hb, if_neg h2]
  · simp only [goRules, coreRules, tiRules, unRules, AS_of_eq, ← decide_not, N0, N1, N2, N3, N4, N5, Z0, Z1, Z2, Z3, Z4, Z5, Z6, Z7, Z8, Z9, Z10, Zc, ↓reduceIte, reduceCtorEq, h]
    rw [List.drop_of_length_le (by omega)] at hb
    rw [hb]; rfl
theorem call_comps {Γ : Env} (hf : Γ.get 23 = some compsCon) {σ : AS} {dr : Bool} {l : List Cp} {t : Nat} {ys : List AV} {d : Option Nat} {K : AS → Prop} (hy : ys = comps l) (h1 : l.length ≤ 9223372036854775807) (h2 : ∀ c ∈ l, c.t.length ≤ 9223372036854775807)
    (hk : cont σ d (.v (.int .i64 (compsF 3000 0 l))) K) : vcCall Tryd.prog Γ dr σ 23 [.sl t 3 ys, .v (.int .i64 3000)] d K := by
  subst hy
  exact vcCall_plain (C := compsCon) (i := ⟨l, h1, h2⟩) hf rfl rfl rfl rfl (fun _ h => h) rfl hk
end Go.Proofs
end
