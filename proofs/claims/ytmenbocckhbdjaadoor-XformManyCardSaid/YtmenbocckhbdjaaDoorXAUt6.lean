/-
  The reference's offsets and pieces.
-/
import Derived.Test.YtmenbocckhbdjaaDoorXAUt5
set_option linter.unusedSimpArgs false
set_option linter.unusedVariables false
set_option linter.defProp false

-- AUt6
section
namespace Go.Proofs
open Go Go.Rw
open _root_.Nat renaming reduceAdd → N0, reduceSub → N1, reduceMul → N2, reduceLT → N3, reduceLeDiff → N4, reduceEqDiff → N5
open _root_.Int renaming reduceNeg → Z0, reduceAdd → Z1, reduceSub → Z2, reduceMul → Z3, reduceGT → Z4, reduceGE → Z5, reduceLT → Z6, reduceLE → Z7, reduceEq → Z8, reduceNe → Z9, reduceToNat → Z10, cast_ofNat_Int → Zc
set_option maxRecDepth 100000
set_option linter.unusedSimpArgs false
set_option linter.unusedVariables false

/-- How many bytes the first n code points have; of bytes that are none, one. -/
def roffF : Nat → List UInt8 → Int → Nat
  | 0, _, _ => 0
  | f + 1, l, n => if n ≤ 0 ∨ l = [] then 0 else max (pnt l).2 1 + roffF f (l.drop (max (pnt l).2 1)) (n - 1)
def roff (l : List UInt8) (n : Int) : Nat := roffF l.length l n
theorem roffF_fuel : ∀ (f g : Nat) (l : List UInt8) (n : Int), l.length ≤ f → l.length ≤ g → roffF f l n = roffF g l n
  | 0, 0, _, _, _, _ => rfl
  | 0, g + 1, l, n, h, _ => by
    have : l = [] := List.eq_nil_of_length_eq_zero (by omega)
    subst this; simp [roffF]
  | f + 1, 0, l, n, _, h => by
    have : l = [] := List.eq_nil_of_length_eq_zero (by omega)
    subst this; simp [roffF]
  | f + 1, g + 1, l, n, h1, h2 => by
    simp only [roffF]
    split
    · rfl
    · rename_i hc
      rw [not_or] at hc
      have : 0 < l.length := List.length_pos_iff.2 hc.2
      rw [roffF_fuel f g _ _ (by rw [List.length_drop]; omega) (by rw [List.length_drop]; omega)]
theorem roff_stop {l : List UInt8} {n : Int} (h : n ≤ 0 ∨ l = []) : roff l n = 0 := by
  unfold roff
  cases hl : l.length with
  | zero => rfl
  | succ f => simp only [roffF]; rw [if_pos h]
theorem roff_step {l : List UInt8} {n : Int} (h1 : ¬ n ≤ 0) (h2 : l ≠ []) : roff l n = max (pnt l).2 1 + roff (l.drop (max (pnt l).2 1)) (n - 1) := by
  unfold roff
  have hpos : 0 < l.length := List.length_pos_iff.2 h2
  obtain ⟨f, hf⟩ : ∃ f, l.length = f + 1 := ⟨l.length - 1, by omega⟩
  rw [hf]
  simp only [roffF]
  rw [if_neg (by rw [not_or]; exact ⟨h1, h2⟩), roffF_fuel f _ _ _ (by rw [List.length_drop]; omega) (Nat.le_refl _)]
theorem roff_le : ∀ (f : Nat) (l : List UInt8) (n : Int), l.length ≤ f → roff l n ≤ l.length
  | 0, l, n, h => by
    have : l = [] := List.eq_nil_of_length_eq_zero (by omega)
    rw [roff_stop (.inr this)]; omega
  | f + 1, l, n, h => by
    by_cases hc : n ≤ 0 ∨ l = []
    · rw [roff_stop hc]; omega
    · rw [not_or] at hc
      have h1 := pnt_len hc.2
      have h2 : 0 < l.length := List.length_pos_iff.2 hc.2
      rw [roff_step hc.1 hc.2]
      have := roff_le f (l.drop (max (pnt l).2 1)) (n - 1) (by rw [List.length_drop]; omega)
      rw [List.length_drop] at this
      omega
theorem roff_encs : ∀ (cs : List Nat) (n : Int), (∀ c ∈ cs, okc c) → roff (encs cs) n = (encs (cs.take n.toNat)).length
  | [], n, _ => by rw [roff_stop (.inr (show encs [] = [] from rfl))]; simp [encs]
  | c :: cs, n, h => by
    by_cases hn : n ≤ 0
    · rw [roff_stop (.inl hn), show n.toNat = 0 by omega]; rfl
    · have hc := h c (by simp)
      have hw := wid_pos c
      have hne : encs (c :: cs) ≠ [] := by
        intro e
        have h2 := congrArg List.length e
        rw [encs_cons_len, List.length_nil] at h2; omega
      rw [roff_step hn hne, encs_cons, pnt_enc hc]
      simp only
      rw [Nat.max_eq_left hw, show (enc c ++ encs cs).drop (wid c) = encs cs by rw [← enc_len c, List.drop_left], roff_encs cs _ (fun x hx => h x (by simp [hx])), show n.toNat = (n - 1).toNat + 1 by omega, List.take_succ_cons, encs_cons_len]

abbrev roffCon : Con where
  ι := Str × I64
  args := fun p => [.v (sv p.1.1), .v (.int .i64 p.2.1)]
  post := fun p r => r = .v (.int .i64 (roff p.1.1 p.2.1))
  plain := true
theorem roff_good : Rw.Good Tryd.prog 84 roffCon := by
  have hΓ : GoodEnv Tryd.prog [(54, pntCon)] := (goodEnv_cons point_good goodEnv_nil)
  refine good_fn (nn := 29) hΓ Tryd.func84 (by kernel_rfl) rfl (show Tryd.f84.results.toList = [.tmp 4] from rfl) (fun _ => rfl) (fun _ => rfl) ?_
  rintro ⟨⟨s, hs⟩, ⟨n, hn1, hn2⟩⟩
  simp only
  simp only [goRules, coreRules, tiRules, unRules, AS_of_eq, ← decide_not, N0, N1, N2, N3, N4, N5, Z0, Z1, Z2, Z3, Z4, Z5, Z6, Z7, Z8, Z9, Z10, Zc, ↓reduceIte, reduceCtorEq]
  obtain ⟨St, hSt⟩ : ∃ St : { p : Int × Nat // -9223372036854775808 ≤ p.1 ∧ p.1 ≤ 9223372036854775807 ∧ p.2 ≤ s.length ∧ roff s n = p.2 + roff (s.drop p.2) p.1 } → AS, ∀ p, St p = AS.of 29 [(0, .v (sv s)), (1, .v (.int .i64 p.1.1)), (5, .v (.int .i64 p.1.2))] [] [] := ⟨_, fun _ => rfl⟩
  refine vc_loop hΓ St (fun p => s.length - p.1.2) ⟨(n, 0), hn1, hn2, by omega, by simp⟩ (by rw [hSt]; refine weak_go [] [] ?_; simp only [goRules, coreRules, tiRules, unRules, AS_of_eq, ← decide_not, N0, N1, N2, N3, N4, N5, Z0, Z1, Z2, Z3, Z4, Z5, Z6, Z7, Z8, Z9, Z10, Zc, ↓reduceIte, reduceCtorEq] <;> ((repeat' apply And.intro) <;> first | rfl | omega | trivial)) ?_
  rintro ⟨⟨m, i⟩, hm1, hm2, hi, hr⟩
  simp only at hm1 hm2 hi hr
  rw [hSt]
  simp only
  simp only [goRules, coreRules, tiRules, unRules, AS_of_eq, ← decide_not, N0, N1, N2, N3, N4, N5, Z0, Z1, Z2, Z3, Z4, Z5, Z6, Z7, Z8, Z9, Z10, Zc, ↓reduceIte, reduceCtorEq]
  (try ((with_reducible first | refine branchP_dec (fun q1 => ?_) (fun q1 => ?_) | refine guardB_dec (fun q1 => ?_) (fun q1 => ?_)) <;> simp (disch := omega) only [goRules, coreRules, tiRules, unRules, AS_of_eq, ← decide_not, N0, N1, N2, N3, N4, N5, Z0, Z1, Z2, Z3, Z4, Z5, Z6, Z7, Z8, Z9, Z10, Zc, ↓reduceIte, reduceCtorEq, wrap_i64, q1] <;> (with_reducible first | (refine And.intro ?_ ?_; focus (first | omega | exact mixed1 | kernel_rfl)); (repeat (with_reducible refine And.intro ?_ ?_; focus (first | omega | exact mixed1 | kernel_rfl))); (try simp (disch := omega) only [goRules, coreRules, tiRules, unRules, AS_of_eq, ← decide_not, N0, N1, N2, N3, N4, N5, Z0, Z1, Z2, Z3, Z4, Z5, Z6, Z7, Z8, Z9, Z10, Zc, ↓reduceIte, reduceCtorEq, wrap_i64, q1]) | skip) <;> (try ((with_reducible first | refine branchP_dec (fun q2 => ?_) (fun q2 => ?_) | refine guardB_dec (fun q2 => ?_) (fun q2 => ?_)) <;> simp (disch := omega) only [goRules, coreRules, tiRules, unRules, AS_of_eq, ← decide_not, N0, N1, N2, N3, N4, N5, Z0, Z1, Z2, Z3, Z4, Z5, Z6, Z7, Z8, Z9, Z10, Zc, ↓reduceIte, reduceCtorEq, wrap_i64, q2] <;> (with_reducible first | (refine And.intro ?_ ?_; focus (first | omega | exact mixed1 | kernel_rfl)); (repeat (with_reducible refine And.intro ?_ ?_; focus (first | omega | exact mixed1 | kernel_rfl))); (try simp (disch := omega) only [goRules, coreRules, tiRules, unRules, AS_of_eq, ← decide_not, N0, N1, N2, N3, N4, N5, Z0, Z1, Z2, Z3, Z4, Z5, Z6, Z7, Z8, Z9, Z10, Zc, ↓reduceIte, reduceCtorEq, wrap_i64, q2]) | skip) <;> skip))))
  · have hlt : i < s.length := by omega
    refine call_point (by simp [get_cons]) hs hlt ?_
    have hne := drop_ne hlt
    have hsm := pnt_small (s.drop i)
    have hpl := pnt_len hne
    rw [List.length_drop] at hpl
    rw [roff_step (by omega) hne, List.drop_drop] at hr
    unfold pntR
    generalize hq : pnt (s.drop i) = q at *
    obtain ⟨c, k⟩ := q
    simp only at hsm hpl hr
    have e1 : max (k : Int) 1 = ((max k 1 : Nat) : Int) := by omega
    simp (disch := omega) only [goRules, coreRules, tiRules, unRules, AS_of_eq, ← decide_not, N0, N1, N2, N3, N4, N5, Z0, Z1, Z2, Z3, Z4, Z5, Z6, Z7, Z8, Z9, Z10, Zc, ↓reduceIte, reduceCtorEq, wrap_i64, min2_int, max2_int, e1]
    refine weak_again ⟨(m - 1, i + max k 1), by omega, by omega, by omega, by show roff s n = (i + max k 1) + roff (s.drop (i + max k 1)) (m - 1); omega⟩ (by simp only; omega) ?_
    rw [hSt]; refine weak_go [] [] ?_
    simp only [goRules, coreRules, tiRules, unRules, AS_of_eq, ← decide_not, N0, N1, N2, N3, N4, N5, Z0, Z1, Z2, Z3, Z4, Z5, Z6, Z7, Z8, Z9, Z10, Zc, ↓reduceIte, reduceCtorEq] <;> ((repeat' apply And.intro) <;> first | rfl | omega | trivial)
  all_goals
    first
    | rw [roff_stop (l := s.drop i) (n := m) (.inl (by omega))] at hr
    | rw [roff_stop (l := s.drop i) (n := m) (.inr (List.drop_of_length_le (by omega)))] at hr
    omega
theorem call_roff {Γ : Env} (hf : Γ.get 84 = some roffCon) {σ : AS} {dr : Bool} {l : List UInt8} {n : Int} {d : Option Nat} {K : AS → Prop} (h : l.length ≤ 1099511627776) (h1 : -9223372036854775808 ≤ n ∧ n ≤ 9223372036854775807)
    (hk : cont σ d (.v (.int .i64 (roff l n))) K) : vcCall Tryd.prog Γ dr σ 84 [.v (sv l), .v (.int .i64 n)] d K :=
  vcCall_plain (C := roffCon) (i := (⟨l, h⟩, ⟨n, h1⟩)) hf rfl rfl rfl rfl (fun _ h => h) rfl hk

/-- A piece, within a text. -/
abbrev rsliceCon : Con where
  ι := { p : List Nat × Int × Int // (∀ c ∈ p.1, okc c) ∧ (encs p.1).length ≤ 1099511627776 ∧ 0 ≤ p.2.1 ∧ p.2.1 ≤ p.2.2 ∧ p.2.2 ≤ p.1.length }
  args := fun p => [.v (sv (encs p.1.1)), .v (.int .i64 p.1.2.1), .v (.int .i64 p.1.2.2)]
  post := fun p r => r = .v (sv (encs ((p.1.1.drop p.1.2.1.toNat).take (p.1.2.2.toNat - p.1.2.1.toNat))))
  plain := true
theorem rslice_good : Rw.Good Tryd.prog 60 rsliceCon := by
  have hΓ : GoodEnv Tryd.prog [(84, roffCon)] := (goodEnv_cons roff_good goodEnv_nil)
  refine good_fn (nn := 15) hΓ Tryd.func60 (by kernel_rfl) rfl (show Tryd.f60.results.toList = [.tmp 6] from rfl) (fun _ => rfl) (fun _ => rfl) ?_
  rintro ⟨⟨cs, a, b⟩, hok, hl, h1, h2, h3⟩
  simp only at hok hl h1 h2 h3 ⊢
  have hcl := encs_le cs
  simp only [goRules, coreRules, tiRules, unRules, AS_of_eq, ← decide_not, N0, N1, N2, N3, N4, N5, Z0, Z1, Z2, Z3, Z4, Z5, Z6, Z7, Z8, Z9, Z10, Zc, ↓reduceIte, reduceCtorEq]
  refine call_roff (by simp [get_cons]) hl (by omega) ?_
  simp only [goRules, coreRules, tiRules, unRules, AS_of_eq, ← decide_not, N0, N1, N2, N3, N4, N5, Z0, Z1, Z2, Z3, Z4, Z5, Z6, Z7, Z8, Z9, Z10, Zc, ↓reduceIte, reduceCtorEq]
  refine call_roff (by simp [get_cons]) hl (by omega) ?_
  rw [roff_encs cs a hok, roff_encs cs b hok]
  have hl1 := encs_take_le cs b.toNat
  have hl2 := encs_take_mono cs (a := a.toNat) (b := b.toNat) (by omega)
  simp only [goRules, coreRules, tiRules, unRules, AS_of_eq, ← decide_not, N0, N1, N2, N3, N4, N5, Z0, Z1, Z2, Z3, Z4, Z5, Z6, Z7, Z8, Z9, Z10, Zc, ↓reduceIte, reduceCtorEq]
  (repeat (with_reducible refine And.intro ?_ ?_; focus (first | omega | exact mixed1 | kernel_rfl)))
  rw [encs_slice cs (by omega)]
theorem call_rslice {Γ : Env} (hf : Γ.get 60 = some rsliceCon) {σ : AS} {dr : Bool} {cs : List Nat} {a b : Int} {d : Option Nat} {K : AS → Prop} (h1 : ∀ c ∈ cs, okc c) (h2 : (encs cs).length ≤ 1099511627776) (h3 : 0 ≤ a ∧ a ≤ b ∧ b ≤ cs.length)
    (hk : cont σ d (.v (sv (encs ((cs.drop a.toNat).take (b.toNat - a.toNat))))) K) : vcCall Tryd.prog Γ dr σ 60 [.v (sv (encs cs)), .v (.int .i64 a), .v (.int .i64 b)] d K :=
  vcCall_plain (C := rsliceCon) (i := ⟨(cs, a, b), h1, h2, h3.1, h3.2.1, h3.2.2⟩) hf rfl rfl rfl rfl (fun _ h => h) rfl hk
end Go.Proofs
end
