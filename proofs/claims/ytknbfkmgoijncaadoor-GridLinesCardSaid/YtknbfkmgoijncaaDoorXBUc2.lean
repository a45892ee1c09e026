/-
  Where a place goes through an edit. Plain. cursor.goes, cursor.Through, the document's Through. The document's Through; what the document fixes of chapter 11.
-/
import Derived.Test.YtknbfkmgoijncaaDoorXBUc1
import Derived.Test.YtknbfkmgoijncaaDoorXBAx1
import Derived.Test.YtknbfkmgoijncaaDoorXBAq0
import Derived.Test.YtknbfkmgoijncaaDoorXBUo1
import Derived.Test.YtknbfkmgoijncaaDoorXBAp0
set_option linter.unusedSimpArgs false
set_option linter.unusedVariables false
set_option linter.defProp false

-- BUc2
section
namespace Go.Proofs
open Go Go.Rw
set_option maxRecDepth 100000
set_option linter.unusedSimpArgs false
set_option linter.unusedVariables false

def goesI (p a : Int) (c : Cp) (af : Bool) : Int := if c.k = 3 ∧ p > a then -(min c.n (p - a)) else if c.k ≠ 2 ∨ p < a ∨ (p = a ∧ af = false) then 0 else outL [c]
def gsum (p : Int) (af : Bool) : Int → List Cp → Int
  | _, [] => 0
  | a, c :: r => goesI p a c af + gsum p af (a + c.n) r
def thF (p : Int) (af : Bool) : Int → Int → List Cp → Int
  | _, n, [] => n
  | o, n, c :: r => if c.k = 1 then thF p af (o + c.n) (n + min (max (p - o) 0) c.n) r else if c.k = 3 then thF p af (o + c.n) n r else if c.k = 2 then thF p af o (if o < p ∨ (o = p ∧ af = true) then n + (cpts c.t).length else n) r else thF p af o n r
/-- How long what it makes is. -/
def oN : List Cp → Int
  | [] => 0
  | c :: r => (if c.k = 1 then c.n else if c.k = 2 then ((cpts c.t).length : Int) else 0) + oN r
theorem oN_units : ∀ l : List Cp, (∀ c ∈ l, sound c = true) → oN l = oU (unL l)
  | [], _ => rfl
  | c :: r, h => by
    have ih := oN_units r (fun x hx => h x (by simp [hx]))
    simp only [oN, unL, oU_app, ih]
    rcases sound_cases (h c (by simp)) with ⟨h2, _⟩ | ⟨h1 | h3, h0, _⟩
    · have e1 : oU (unP c) = (cpts c.t).length := by unfold unP; rw [if_pos h2, oU_i]
      rw [e1, if_neg (show ¬ c.k = 1 by omega), if_pos h2]; omega
    · have e1 : oU (unP c) = c.n.toNat := by unfold unP; rw [if_neg (show ¬ c.k = 2 by omega), if_pos h1, oU_r]
      rw [e1, if_pos h1]; omega
    · have e1 : oU (unP c) = 0 := by unfold unP; rw [if_neg (show ¬ c.k = 2 by omega), if_neg (show ¬ c.k = 1 by omega), if_pos h3, oU_d]
      rw [e1, if_neg (show ¬ c.k = 1 by omega), if_neg (show ¬ c.k = 2 by omega)]; omega
theorem oN_pos : ∀ l : List Cp, (∀ c ∈ l, sound c = true) → 0 ≤ oN l := fun l h => by rw [oN_units l h]; omega
theorem thF_cons (p : Int) (af : Bool) (o n : Int) {c : Cp} {r : List Cp} (h : sound c = true) : thF p af o n (c :: r) = if c.k = 1 then thF p af (o + c.n) (n + min (max (p - o) 0) c.n) r else if c.k = 3 then thF p af (o + c.n) n r else thF p af o (if o < p ∨ (o = p ∧ af = true) then n + (cpts c.t).length else n) r := by
  rw [thF]
  rcases sound_k h with h1 | h1 | h1 <;> simp [h1]
theorem oN_cons {c : Cp} {r : List Cp} (h : sound c = true) : oN (c :: r) = (if c.k = 1 then c.n else if c.k = 2 then ((cpts c.t).length : Int) else 0) + oN r := rfl
theorem goesI_ins {p a : Int} {c : Cp} {af : Bool} (h : sound c = true) (h2 : c.k = 2) (hb : (cpts c.t).length ≤ 1000000) : goesI p a c af = if a < p ∨ (a = p ∧ af = true) then ((cpts c.t).length : Int) else 0 := by
  unfold goesI
  rw [if_neg (by omega)]
  rcases sound_cases h with ⟨_, h0, hne, hv⟩ | ⟨h1, _⟩
  · have ho : outL [c] = (cpts c.t).length := by
      unfold outL outF outF addI
      rw [if_neg (by omega), if_pos h2, lc_cpts hv]; omega
    by_cases hc : a < p ∨ (a = p ∧ af = true)
    · rw [if_pos hc, if_neg, ho]
      rintro (h3 | h3 | ⟨h3, h4⟩)
      · exact h3 h2
      · omega
      · rcases hc with hc | ⟨_, hc⟩
        · omega
        · rw [hc] at h4; cases h4
    · rw [if_neg hc, if_pos]
      by_cases h3 : p < a
      · exact .inr (.inl h3)
      · have h4 : p = a := by omega
        refine .inr (.inr ⟨h4, ?_⟩)
        cases af with
        | false => rfl
        | true => exact absurd (.inr ⟨h4.symm, rfl⟩) hc
  · omega
/-- The document's way, and by how much a place goes. -/
theorem th_goes (p : Int) (af : Bool) : ∀ (l : List Cp) (o n : Int), (∀ c ∈ l, sound c = true) → tot l ≤ 1000000 → thF p af o n l = n + min (max (p - o) 0) (tn l) + gsum p af o l
  | [], o, n, _, _ => by simp only [thF, tn, gsum]; omega
  | c :: r, o, n, h, ht => by
    simp only [tot] at ht
    have hr : ∀ x ∈ r, sound x = true := fun x hx => h x (by simp [hx])
    have hs := h c (by simp)
    have hp := tn_pos r
    have hcl := cpts_len c.t
    rw [thF_cons p af o n hs]
    simp only [tn, gsum]
    rcases sound_cases hs with ⟨h2, h0, _⟩ | ⟨h1 | h3, h0, _⟩
    · rw [goesI_ins hs h2 (by omega)]
      simp only [h2, h0, Int.reduceEq, if_true, if_false, Int.add_zero]
      rw [th_goes p af r _ _ hr (by omega)]
      split <;> omega
    · have hg : goesI p o c af = 0 := by
        unfold goesI
        rw [if_neg (by omega), if_pos (.inl (by omega))]
      rw [hg]
      simp only [h1, Int.reduceEq, if_true, if_false]
      rw [th_goes p af r _ _ hr (by omega)]
      omega
    · have hg : goesI p o c af = -(min c.n (max (p - o) 0)) := by
        unfold goesI
        by_cases hp : p > o
        · rw [if_pos ⟨h3, hp⟩]; omega
        · rw [if_neg (fun h => hp h.2), if_pos (.inl (by omega))]; omega
      rw [hg]
      simp only [h3, Int.reduceEq, if_true, if_false]
      rw [th_goes p af r _ _ hr (by omega)]
      omega
theorem th_mono (af : Bool) : ∀ (l : List Cp) (p q o n m : Int), (∀ c ∈ l, sound c = true) → p ≤ q → n ≤ m → thF p af o n l ≤ thF q af o m l
  | [], p, q, o, n, m, _, _, h => h
  | c :: r, p, q, o, n, m, h, hpq, hnm => by
    have hr : ∀ x ∈ r, sound x = true := fun x hx => h x (by simp [hx])
    simp only [thF]
    split
    · exact th_mono af r p q _ _ _ hr hpq (by omega)
    · split
      · exact th_mono af r p q _ _ _ hr hpq hnm
      · split
        · refine th_mono af r p q _ _ _ hr hpq ?_
          by_cases h1 : o < p ∨ (o = p ∧ af = true)
          · rw [if_pos h1, if_pos]
            · omega
            · rcases h1 with h1 | ⟨h1, h2⟩
              · exact .inl (by omega)
              · by_cases h3 : o < q
                · exact .inl h3
                · exact .inr ⟨by omega, h2⟩
          · rw [if_neg h1]; split <;> omega
        · exact th_mono af r p q _ _ _ hr hpq hnm
theorem th_le (af : Bool) : ∀ (l : List Cp) (p o n : Int), (∀ c ∈ l, sound c = true) → n ≤ thF p af o n l ∧ thF p af o n l ≤ n + oN l
  | [], p, o, n, _ => by simp [thF, oN]
  | c :: r, p, o, n, h => by
    have hr : ∀ x ∈ r, sound x = true := fun x hx => h x (by simp [hx])
    have e := thF_cons p af o n (r := r) (h c (by simp))
    have e2 := oN_cons (r := r) (h c (by simp))
    rw [e, e2]
    rcases sound_cases (h c (by simp)) with ⟨h2, h0, _⟩ | ⟨h1 | h3, h0, _⟩
    · simp only [h2, Int.reduceEq, if_true, if_false]
      have h6 := th_le af r p o (n + ((cpts c.t).length : Int)) hr
      have h7 := th_le af r p o n hr
      by_cases h5 : o < p ∨ (o = p ∧ af = true)
      · rw [if_pos h5]; omega
      · rw [if_neg h5]; omega
    · simp only [h1, Int.reduceEq, if_true, if_false]
      have := th_le af r p (o + c.n) (n + min (max (p - o) 0) c.n) hr
      omega
    · simp only [h3, Int.reduceEq, if_true, if_false]
      have := th_le af r p (o + c.n) n hr
      omega
/-- The first place, before what is put in there, stays. -/
theorem th_first : ∀ (l : List Cp) (p o n : Int), (∀ c ∈ l, sound c = true) → p ≤ o → thF p false o n l = n
  | [], p, o, n, _, _ => rfl
  | c :: r, p, o, n, h, hp => by
    have hr : ∀ x ∈ r, sound x = true := fun x hx => h x (by simp [hx])
    rw [thF_cons p false o n (h c (by simp))]
    rcases sound_cases (h c (by simp)) with ⟨h2, h0, _⟩ | ⟨h1 | h3, h0, _⟩
    · simp only [h2, Int.reduceEq, if_true, if_false]
      rw [if_neg (show ¬ (o < p ∨ (o = p ∧ false = true)) by simp; omega)]
      exact th_first r p o n hr hp
    · simp only [h1, Int.reduceEq, if_true, if_false]
      rw [th_first r p _ _ hr (by omega)]; omega
    · simp only [h3, Int.reduceEq, if_true, if_false]
      rw [th_first r p _ _ hr (by omega)]
/-- The last one, behind what is put in there, goes to the end. -/
theorem th_last : ∀ (l : List Cp) (p o n : Int), (∀ c ∈ l, sound c = true) → o + tn l ≤ p → thF p true o n l = n + oN l
  | [], p, o, n, _, _ => by simp [thF, oN]
  | c :: r, p, o, n, h, hp => by
    have hr : ∀ x ∈ r, sound x = true := fun x hx => h x (by simp [hx])
    have ht := tn_pos r
    rw [thF_cons p true o n (h c (by simp)), oN_cons (h c (by simp))]
    simp only [tn] at hp
    rcases sound_cases (h c (by simp)) with ⟨h2, h0, _⟩ | ⟨h1 | h3, h0, _⟩
    · simp only [h2, Int.reduceEq, if_true, if_false]
      rw [if_pos (show o < p ∨ (o = p ∧ True) by simp; omega), th_last r p o _ hr (by omega)]; omega
    · simp only [h1, Int.reduceEq, if_true, if_false]
      rw [th_last r p _ _ hr (by omega)]; omega
    · simp only [h3, Int.reduceEq, if_true, if_false]
      rw [th_last r p _ _ hr (by omega)]; omega
/-- A place, through an edit. -/
def thr (p : Int) (l : List Cp) (af : Bool) : Int := thF p af 0 0 l
theorem thr_facts {p : Int} {l : List Cp} {af : Bool} (h : checkI l = 0) (ht : tot l ≤ 1000000) (hp : 0 ≤ p) (hb : p ≤ baseL l) : thr p l af = p + gsum p af 0 l ∧ 0 ≤ thr p l af ∧ thr p l af ≤ outL l ∧ outL l = oN l := by
  obtain ⟨c1, c2, c3, c4, c5, c6⟩ := check_cases h
  have ho : outL l = oN l := by rw [oN_units l c3]; exact (out_units h).1
  have h1 := th_le af l p 0 0 c3
  have h2 := th_goes p af l 0 0 c3 ht
  unfold thr
  rw [ho]
  refine ⟨?_, h1.1, by omega, rfl⟩
  rw [h2]
  have : gsum p af 0 l = gsum p af 0 l := rfl
  generalize gsum p af 0 l = g at *
  omega
theorem goesI_bound {p a : Int} {c : Cp} {af : Bool} (h : sound c = true) (hb : (cpts c.t).length ≤ 1000000) (hn : c.n ≤ 1000000) : -1000000 ≤ goesI p a c af ∧ goesI p a c af ≤ 1000000 := by
  rcases sound_cases h with ⟨h2, h0, _⟩ | ⟨h1 | h3, h0, _⟩
  · rw [goesI_ins h h2 hb]; split <;> omega
  · unfold goesI
    rw [if_neg (by omega), if_pos (.inl (by omega))]; omega
  · unfold goesI
    by_cases hp : p > a
    · rw [if_pos ⟨h3, hp⟩]; omega
    · rw [if_neg (fun h => hp h.2), if_pos (.inl (by omega))]; omega
end Go.Proofs
end

-- BUc3
section
namespace Go.Proofs
open Go Go.Rw
open _root_.Nat renaming reduceAdd → N0, reduceSub → N1, reduceMul → N2, reduceLT → N3, reduceLeDiff → N4, reduceEqDiff → N5
open _root_.Int renaming reduceNeg → Z0, reduceAdd → Z1, reduceSub → Z2, reduceMul → Z3, reduceGT → Z4, reduceGE → Z5, reduceLT → Z6, reduceLE → Z7, reduceEq → Z8, reduceNe → Z9, reduceToNat → Z10, cast_ofNat_Int → Zc
set_option maxRecDepth 100000
set_option linter.unusedSimpArgs false
set_option linter.unusedVariables false

theorem cx1 : Value.complex .f64 0 4607182418800017408 = .complex .f64 (qf 0) (qf 4) := by rw [show qf 4 = 4607182418800017408 from by decide +kernel, qf_zero]
theorem cplx_some {x y : Nat} : cplxO (some x) (some y) = some (.v (.complex .f64 x y)) := rfl
abbrev goesCon : Con where
  ι := { q : Int × Int × Cp × Bool // (0 ≤ q.1 ∧ q.1 ≤ 1099511627776) ∧ (0 ≤ q.2.1 ∧ q.2.1 ≤ 1099511627776) ∧ okL [q.2.2.1] ∧ 0 ≤ q.2.2.1.n }
  args := fun q => [.v (.int .i64 q.1.1), .v (.int .i64 q.1.2.1), cA q.1.2.2.1, .v (.bool q.1.2.2.2)]
  post := fun q r => r = .v (.int .i64 (goesI q.1.1 q.1.2.1 q.1.2.2.1 q.1.2.2.2))
  plain := true
theorem goes_good : Rw.Good Tryd.prog 44 goesCon := by
  have hΓ : GoodEnv Tryd.prog [(32, outCon)] := (goodEnv_cons out_good goodEnv_nil)
  refine good_fn (nn := 46) hΓ Tryd.func44 (by kernel_rfl) rfl (show Tryd.f44.results.toList = [.tmp 8] from rfl) (fun _ => rfl) (fun _ => rfl) ?_
  rintro ⟨⟨p, a, c, af⟩, hp, ha, ok, h0⟩
  simp only at hp ha ok h0
  have hn := ok.2.2 c (by simp)
  have hcA : cA c = .agg [.v (.int .i64 c.k), .v (.int .i64 c.n), .v (sv c.t)] := rfl
  have hcs : [cA c] = comps [c] := rfl
  simp only [goRules, coreRules, tiRules, unRules, AS_of_eq, ← decide_not, N0, N1, N2, N3, N4, N5, Z0, Z1, Z2, Z3, Z4, Z5, Z6, Z7, Z8, Z9, Z10, Zc, ↓reduceIte, reduceCtorEq, hcA]
  by_cases k1 : c.k = 3
  · by_cases k2 : p > a
    · simp only [goRules, coreRules, tiRules, unRules, AS_of_eq, ← decide_not, N0, N1, N2, N3, N4, N5, Z0, Z1, Z2, Z3, Z4, Z5, Z6, Z7, Z8, Z9, Z10, Zc, ↓reduceIte, reduceCtorEq, k1, k2, min2_int, wrap_i64 (n := p - a) (by omega) (by omega)]
      rw [wrap_i64 (by omega) (by omega), goesI, if_pos ⟨k1, k2⟩]; omega
    · simp only [goRules, coreRules, tiRules, unRules, AS_of_eq, ← decide_not, N0, N1, N2, N3, N4, N5, Z0, Z1, Z2, Z3, Z4, Z5, Z6, Z7, Z8, Z9, Z10, Zc, ↓reduceIte, reduceCtorEq, k1, k2]
      rw [goesI, if_neg (fun h => k2 h.2), if_pos (.inl (by omega))]
  · simp only [goRules, coreRules, tiRules, unRules, AS_of_eq, ← decide_not, N0, N1, N2, N3, N4, N5, Z0, Z1, Z2, Z3, Z4, Z5, Z6, Z7, Z8, Z9, Z10, Zc, ↓reduceIte, reduceCtorEq, k1]
    by_cases k2 : c.k = 2
    · have hg : goesI p a c af = if p < a ∨ (p = a ∧ af = false) then 0 else outL [c] := by
        unfold goesI
        rw [if_neg (fun h => k1 h.1)]
        simp [k2]
      by_cases k3 : p < a
      · simp only [goRules, coreRules, tiRules, unRules, AS_of_eq, ← decide_not, N0, N1, N2, N3, N4, N5, Z0, Z1, Z2, Z3, Z4, Z5, Z6, Z7, Z8, Z9, Z10, Zc, ↓reduceIte, reduceCtorEq, k1, k2, k3]
        rw [hg, if_pos (.inl k3)]
      · by_cases k4 : p = a
        · subst k4
          cases af with
          | true =>
            simp only [goRules, coreRules, tiRules, unRules, AS_of_eq, ← decide_not, N0, N1, N2, N3, N4, N5, Z0, Z1, Z2, Z3, Z4, Z5, Z6, Z7, Z8, Z9, Z10, Zc, ↓reduceIte, reduceCtorEq, k1, k2, Int.lt_irrefl, List.map_cons, List.map_nil]
            refine call_out (l := [c]) (by simp [get_cons]) (by simp [comps, cA, k2]) ok ?_
            simp only [goRules, coreRules, tiRules, unRules, AS_of_eq, ← decide_not, N0, N1, N2, N3, N4, N5, Z0, Z1, Z2, Z3, Z4, Z5, Z6, Z7, Z8, Z9, Z10, Zc, ↓reduceIte, reduceCtorEq]
            rw [hg, if_neg (by simp)]
          | false =>
            simp only [goRules, coreRules, tiRules, unRules, AS_of_eq, ← decide_not, N0, N1, N2, N3, N4, N5, Z0, Z1, Z2, Z3, Z4, Z5, Z6, Z7, Z8, Z9, Z10, Zc, ↓reduceIte, reduceCtorEq, k1, k2, Int.lt_irrefl]
            rw [hg, if_pos (.inr ⟨rfl, rfl⟩)]
        · simp only [goRules, coreRules, tiRules, unRules, AS_of_eq, ← decide_not, N0, N1, N2, N3, N4, N5, Z0, Z1, Z2, Z3, Z4, Z5, Z6, Z7, Z8, Z9, Z10, Zc, ↓reduceIte, reduceCtorEq, k1, k2, k3, k4, List.map_cons, List.map_nil]
          refine call_out (l := [c]) (by simp [get_cons]) (by simp [comps, cA, k2]) ok ?_
          simp only [goRules, coreRules, tiRules, unRules, AS_of_eq, ← decide_not, N0, N1, N2, N3, N4, N5, Z0, Z1, Z2, Z3, Z4, Z5, Z6, Z7, Z8, Z9, Z10, Zc, ↓reduceIte, reduceCtorEq]
          rw [hg, if_neg (by omega)]
    · simp only [goRules, coreRules, tiRules, unRules, AS_of_eq, ← decide_not, N0, N1, N2, N3, N4, N5, Z0, Z1, Z2, Z3, Z4, Z5, Z6, Z7, Z8, Z9, Z10, Zc, ↓reduceIte, reduceCtorEq, k1, k2]
      unfold goesI
      rw [if_neg (fun h => k1 h.1), if_pos (.inl k2)]
theorem call_goes {Γ : Env} (hf : Γ.get 44 = some goesCon) {σ : AS} {dr : Bool} {p a : Int} {c : Cp} {af : Bool} {x : AV} {d : Option Nat} {K : AS → Prop} (hx : x = cA c) (h : (0 ≤ p ∧ p ≤ 1099511627776) ∧ (0 ≤ a ∧ a ≤ 1099511627776) ∧ okL [c] ∧ 0 ≤ c.n)
    (hk : cont σ d (.v (.int .i64 (goesI p a c af))) K) : vcCall Tryd.prog Γ dr σ 44 [.v (.int .i64 p), .v (.int .i64 a), x, .v (.bool af)] d K := by
  subst hx
  exact vcCall_plain (C := goesCon) (i := ⟨(p, a, c, af), h⟩) hf rfl rfl rfl rfl (fun _ h => h) rfl hk
def thrI (z w : Int) (l : List Cp) : Int := if checkI l ≠ 0 then checkI l else if ¬ selOk z w then 1 else if z / 4 ≤ baseL l ∧ w / 4 ≤ baseL l then 0 else 11
def thrR (z w : Int) (l : List Cp) (af : Bool) : AV := if thrI z w l = 0 then .tup [cq (4 * thr (z / 4) l af) (4 * thr (w / 4) l af), .v (.int .i64 0)] else .tup [cq 0 0, .v (.int .i64 (thrI z w l))]
theorem thrR_plain (z w : Int) (l : List Cp) (af : Bool) : (thrR z w l af).plain = true := by unfold thrR; split <;> rfl
theorem thrI_zero {z w : Int} {l : List Cp} (h : thrI z w l = 0) : checkI l = 0 ∧ selOk z w ∧ z / 4 ≤ baseL l ∧ w / 4 ≤ baseL l := by
  unfold thrI at h
  split at h
  · exact absurd h (by assumption)
  · split at h
    · cases h
    · split at h
      · rename_i h1 h2 h3
        exact ⟨Decidable.not_not.1 h1, Decidable.not_not.1 h2, h3⟩
      · cases h
abbrev thrCon : Con where
  ι := Sel × { l : List Cp // okL l ∧ tot l ≤ 1000000 } × Bool
  args := fun p => [cq p.1.1.1 p.1.1.2, .sl 0 3 (comps p.2.1.1), .v (.bool p.2.2)]
  post := fun p r => r = thrR p.1.1.1 p.1.1.2 p.2.1.1 p.2.2
  plain := true
theorem through_good : Rw.Good Tryd.prog 26 thrCon := by
  have hΓ : GoodEnv Tryd.prog [(43, checkCon), (37, baseCon), (29, placesCon), (34, withinCon), (44, goesCon)] := (goodEnv_cons check_good (goodEnv_cons base_good (goodEnv_cons places_good (goodEnv_cons within_good (goodEnv_cons goes_good goodEnv_nil)))))
  refine good_fn (nn := 69) hΓ Tryd.func26 (by kernel_rfl) rfl (show Tryd.f26.results.toList = [.tmp 6, .tmp 7] from rfl) (fun _ => rfl) (fun _ => rfl) ?_
  rintro ⟨⟨⟨z, w⟩, hz, hw⟩, ⟨l, ol, htl⟩, af⟩
  simp only at hz hw htl
  simp only [cq]
  simp only [goRules, coreRules, tiRules, unRules, AS_of_eq, ← decide_not, N0, N1, N2, N3, N4, N5, Z0, Z1, Z2, Z3, Z4, Z5, Z6, Z7, Z8, Z9, Z10, Zc, ↓reduceIte, reduceCtorEq, cx0]
  refine call_check (by simp [get_cons]) rfl ol ?_
  simp only [goRules, coreRules, tiRules, unRules, AS_of_eq, ← decide_not, N0, N1, N2, N3, N4, N5, Z0, Z1, Z2, Z3, Z4, Z5, Z6, Z7, Z8, Z9, Z10, Zc, ↓reduceIte, reduceCtorEq]
  refine call_places (by simp [get_cons]) hz hw ?_
  by_cases k1 : checkI l = 0
  case neg =>
    by_cases k2 : selOk z w
    · simp only [goRules, coreRules, tiRules, unRules, AS_of_eq, ← decide_not, N0, N1, N2, N3, N4, N5, Z0, Z1, Z2, Z3, Z4, Z5, Z6, Z7, Z8, Z9, Z10, Zc, ↓reduceIte, reduceCtorEq, selR, k1, k2, cx0]
      have : thrI z w l = checkI l := by unfold thrI; rw [if_pos k1]
      rw [thrR, this, if_neg k1]; rfl
    · simp only [goRules, coreRules, tiRules, unRules, AS_of_eq, ← decide_not, N0, N1, N2, N3, N4, N5, Z0, Z1, Z2, Z3, Z4, Z5, Z6, Z7, Z8, Z9, Z10, Zc, ↓reduceIte, reduceCtorEq, selR, k1, k2, cx0]
      have : thrI z w l = checkI l := by unfold thrI; rw [if_pos k1]
      rw [thrR, this, if_neg k1]; rfl
  by_cases k2 : selOk z w
  case neg =>
    simp only [goRules, coreRules, tiRules, unRules, AS_of_eq, ← decide_not, N0, N1, N2, N3, N4, N5, Z0, Z1, Z2, Z3, Z4, Z5, Z6, Z7, Z8, Z9, Z10, Zc, ↓reduceIte, reduceCtorEq, selR, k1, k2, cx0]
    have : thrI z w l = 1 := by unfold thrI; rw [if_neg (fun h => h k1), if_pos k2]
    rw [thrR, this]; rfl
  simp only [goRules, coreRules, tiRules, unRules, AS_of_eq, ← decide_not, N0, N1, N2, N3, N4, N5, Z0, Z1, Z2, Z3, Z4, Z5, Z6, Z7, Z8, Z9, Z10, Zc, ↓reduceIte, reduceCtorEq, selR, k1, k2, cx0]
  refine call_base (by simp [get_cons]) rfl ol ?_
  simp only [goRules, coreRules, tiRules, unRules, AS_of_eq, ← decide_not, N0, N1, N2, N3, N4, N5, Z0, Z1, Z2, Z3, Z4, Z5, Z6, Z7, Z8, Z9, Z10, Zc, ↓reduceIte, reduceCtorEq]
  have hcc := check_cases k1
  have htn := tn_pos l
  refine call_within (by simp [get_cons]) hz hw (by omega) ?_
  by_cases k3 : z / 4 ≤ baseL l ∧ w / 4 ≤ baseL l
  case neg =>
    simp only [goRules, coreRules, tiRules, unRules, AS_of_eq, ← decide_not, N0, N1, N2, N3, N4, N5, Z0, Z1, Z2, Z3, Z4, Z5, Z6, Z7, Z8, Z9, Z10, Zc, ↓reduceIte, reduceCtorEq, k2, k3, cx0]
    have : thrI z w l = 11 := by unfold thrI; rw [if_neg (fun h => h k1), if_neg (fun h => h k2), if_neg k3]
    rw [thrR, this]; rfl
  simp only [goRules, coreRules, tiRules, unRules, AS_of_eq, ← decide_not, N0, N1, N2, N3, N4, N5, Z0, Z1, Z2, Z3, Z4, Z5, Z6, Z7, Z8, Z9, Z10, Zc, ↓reduceIte, reduceCtorEq, k2, k3, cx0, comps_len]
  obtain ⟨⟨z1, z2, z3⟩, ⟨w1, w2, w3⟩⟩ := id k2
  generalize hp : z / 4 = p at *
  generalize hq : w / 4 = q at *
  obtain ⟨St, hSt⟩ : ∃ St : { x : Int × Int × Int × Nat // x.2.2.2 ≤ l.length ∧ 0 ≤ x.1 ∧ x.1 + tn (l.drop x.2.2.2) = tn l ∧ x.2.1 + gsum p af x.1 (l.drop x.2.2.2) = gsum p af 0 l ∧ x.2.2.1 + gsum q af x.1 (l.drop x.2.2.2) = gsum q af 0 l ∧ (-1000000 * (x.2.2.2 : Int) ≤ x.2.1 ∧ x.2.1 ≤ 1000000 * (x.2.2.2 : Int)) ∧ (-1000000 * (x.2.2.2 : Int) ≤ x.2.2.1 ∧ x.2.2.1 ≤ 1000000 * (x.2.2.2 : Int)) } → AS, ∀ x, St x = AS.of 69 [(0, .v (.complex .f64 (qf z) (qf w))), (2, .v (.bool af)), (9, .v (.int .i64 p)), (10, .v (.int .i64 q)), (12, .v (.int .i64 x.1.1)), (13, .v (.complex .f64 (qf (4 * x.1.2.1)) (qf (4 * x.1.2.2.1)))), (37, .sl 0 3 (comps l)), (38, .v (.int .i64 l.length)), (39, .v (.int .i64 x.1.2.2.2))] [] [] := ⟨_, fun _ => rfl⟩
  refine vc_loop hΓ St (fun x => l.length - x.1.2.2.2) ⟨(0, 0, 0, 0), by simp, by simp, by simp, by simp, by simp, by simp, by simp⟩ (by rw [hSt]; refine weak_go [] [] ?_; simp only [goRules, coreRules, tiRules, unRules, AS_of_eq, ← decide_not, N0, N1, N2, N3, N4, N5, Z0, Z1, Z2, Z3, Z4, Z5, Z6, Z7, Z8, Z9, Z10, Zc, ↓reduceIte, reduceCtorEq, Int.mul_zero] <;> ((repeat' apply And.intro) <;> first | rfl | omega | trivial)) ?_
  rintro ⟨⟨at', B, C, i⟩, hi, hat, htt, hB, hC, hBb, hCb⟩
  simp only at hi hat htt hB hC hBb hCb
  rw [hSt]
  simp only
  simp only [goRules, coreRules, tiRules, unRules, AS_of_eq, ← decide_not, N0, N1, N2, N3, N4, N5, Z0, Z1, Z2, Z3, Z4, Z5, Z6, Z7, Z8, Z9, Z10, Zc, ↓reduceIte, reduceCtorEq, comps_len]
  (with_reducible first | refine branchP_dec (fun h => ?_) (fun h => ?_) | refine guardB_dec (fun h => ?_) (fun h => ?_))
  · have hlt : i < l.length := by omega
    have e1 := comps_getD l hlt
    have hs := hcc.2.2.1 _ (List.getElem_mem hlt)
    have hcn := ol.2.2 _ (List.getElem_mem hlt)
    have htm := tot_mem (List.getElem_mem hlt)
    have htp := tn_pos (l.drop (i + 1))
    rw [List.drop_eq_getElem_cons hlt] at htt hB hC
    simp only [tn, gsum] at htt hB hC
    generalize l[i] = c at *
    have hc0 : 0 ≤ c.n := by rcases sound_cases hs with ⟨_, h0, _⟩ | ⟨_, h0, _⟩ <;> omega
    have hcl := cpts_len c.t
    have hcok : okL [c] := ⟨by simp, by simp [tot]; omega, by simpa using hcn⟩
    have g1 := goesI_bound (p := p) (a := at') (af := af) hs (by omega) (by omega)
    have g2 := goesI_bound (p := q) (a := at') (af := af) hs (by omega) (by omega)
    simp (disch := omega) only [goRules, coreRules, tiRules, unRules, AS_of_eq, ← decide_not, N0, N1, N2, N3, N4, N5, Z0, Z1, Z2, Z3, Z4, Z5, Z6, Z7, Z8, Z9, Z10, Zc, ↓reduceIte, reduceCtorEq, wrap_i64, h, e1, comps_len]
    (repeat (with_reducible refine And.intro ?_ ?_; focus (first | omega | exact mixed1 | kernel_rfl)))
    refine call_goes (by simp [get_cons]) rfl ⟨by omega, by omega, hcok, hc0⟩ ?_
    simp only [goRules, coreRules, tiRules, unRules, AS_of_eq, ← decide_not, N0, N1, N2, N3, N4, N5, Z0, Z1, Z2, Z3, Z4, Z5, Z6, Z7, Z8, Z9, Z10, Zc, ↓reduceIte, reduceCtorEq]
    refine call_goes (by simp [get_cons]) rfl ⟨by omega, by omega, hcok, hc0⟩ ?_
    generalize goesI p at' c af = G at *
    generalize goesI q at' c af = H at *
    simp only [goRules, coreRules, tiRules, unRules, AS_of_eq, ← decide_not, N0, N1, N2, N3, N4, N5, Z0, Z1, Z2, Z3, Z4, Z5, Z6, Z7, Z8, Z9, Z10, Zc, ↓reduceIte, reduceCtorEq, cx1, fl0, cplx_some, near_qf (n := G) (by omega) (by omega), near_qf (n := H) (by omega) (by omega), binq_imul (z := 4 * H) (by omega) (by omega), show FloatKind.f64.format.add (qf (4 * G)) (nzW (4 * H)) = some (qf (4 * G)) from add_nz (by omega), show FloatKind.f64.format.add 0 (qf (4 * H)) = some (qf (4 * H)) from (by have := qf_add (z := 0) (y := 4 * H) (by decide) (by omega) (by omega); rw [Int.zero_add, qf_zero] at this; exact this), show FloatKind.f64.format.add (qf (4 * B)) (qf (4 * G)) = some (qf (4 * (B + G))) from (by rw [Int.mul_add]; exact qf_add (by omega) (by omega) (by omega)), show FloatKind.f64.format.add (qf (4 * C)) (qf (4 * H)) = some (qf (4 * (C + H))) from (by rw [Int.mul_add]; exact qf_add (by omega) (by omega) (by omega)), wrap_i64 (n := at' + c.n) (by omega) (by omega), wrap_i64 (n := (i : Int) + 1) (by omega) (by omega)]
    (repeat (with_reducible refine And.intro ?_ ?_; focus (first | omega | exact mixed1 | kernel_rfl)))
    refine weak_again ⟨(at' + c.n, B + G, C + H, i + 1), by simp only; omega, by simp only; omega, by simp only; omega, by simp only; omega, by simp only; omega, by simp only; omega, by simp only; omega⟩ (by simp only; omega) ?_
    rw [hSt]; refine weak_go [] [] ?_
    simp only [goRules, coreRules, tiRules, unRules, AS_of_eq, ← decide_not, N0, N1, N2, N3, N4, N5, Z0, Z1, Z2, Z3, Z4, Z5, Z6, Z7, Z8, Z9, Z10, Zc, ↓reduceIte, reduceCtorEq] <;> ((repeat' apply And.intro) <;> first | rfl | omega | trivial)
  · rw [List.drop_of_length_le (by omega)] at hB hC
    simp only [gsum, Int.add_zero] at hB hC
    obtain ⟨t1, t2, t3, t4⟩ := thr_facts (af := af) k1 htl (show 0 ≤ p by omega) k3.1
    obtain ⟨t5, t6, t7, t8⟩ := thr_facts (af := af) k1 htl (show 0 ≤ q by omega) k3.2
    have hI : thrI z w l = 0 := by unfold thrI; rw [if_neg (fun h => h k1), if_neg (fun h => h k2), if_pos (by rw [hp, hq]; exact k3)]
    simp only [goRules, coreRules, tiRules, unRules, AS_of_eq, ← decide_not, N0, N1, N2, N3, N4, N5, Z0, Z1, Z2, Z3, Z4, Z5, Z6, Z7, Z8, Z9, Z10, Zc, ↓reduceIte, reduceCtorEq, h, cplx_some, show FloatKind.f64.format.add (qf z) (qf (4 * B)) = some (qf (z + 4 * B)) from qf_add (by omega) (by omega) (by omega), show FloatKind.f64.format.add (qf w) (qf (4 * C)) = some (qf (w + 4 * C)) from qf_add (by omega) (by omega) (by omega)]
    rw [thrR, hI, if_pos rfl, hp, hq, t1, t5, cq, show z + 4 * B = 4 * (p + gsum p af 0 l) by omega, show w + 4 * C = 4 * (q + gsum q af 0 l) by omega]
end Go.Proofs
end

-- BUc4
section
namespace Go.Proofs
open Go Go.Rw
open _root_.Nat renaming reduceAdd → N0, reduceSub → N1, reduceMul → N2, reduceLT → N3, reduceLeDiff → N4, reduceEqDiff → N5
open _root_.Int renaming reduceNeg → Z0, reduceAdd → Z1, reduceSub → Z2, reduceMul → Z3, reduceGT → Z4, reduceGE → Z5, reduceLT → Z6, reduceLE → Z7, reduceEq → Z8, reduceNe → Z9, reduceToNat → Z10, cast_ofNat_Int → Zc
set_option maxRecDepth 100000
set_option linter.unusedSimpArgs false
set_option linter.unusedVariables false

theorem call_through {Γ : Env} (hf : Γ.get 26 = some thrCon) {σ : AS} {dr : Bool} {z w : Int} {l : List Cp} {af : Bool} {t : Nat} {ys : List AV} {d : Option Nat} {K : AS → Prop} (hz : -2251799813685248 < z ∧ z < 2251799813685248) (hw : -2251799813685248 < w ∧ w < 2251799813685248) (hy : ys = comps l) (ol : okL l) (ht : tot l ≤ 1000000)
    (hk : cont σ d (thrR z w l af) K) : vcCall Tryd.prog Γ dr σ 26 [.v (.complex .f64 (qf z) (qf w)), .sl t 3 ys, .v (.bool af)] d K := by
  subst hy
  exact vcCall_plain (C := thrCon) (i := (⟨(z, w), hz, hw⟩, ⟨l, ol, ht⟩, af)) hf rfl rfl rfl rfl (fun _ h => h) (thrR_plain _ _ _ _) hk
abbrev rthrCon : Con where
  ι := { q : Int × List Cp × Bool // (0 ≤ q.1 ∧ q.1 ≤ 1099511627776) ∧ okL q.2.1 ∧ checkI q.2.1 = 0 }
  args := fun q => [.v (.int .i64 q.1.1), .sl 0 3 (comps q.1.2.1), .v (.bool q.1.2.2)]
  post := fun q r => r = .v (.int .i64 (thr q.1.1 q.1.2.1 q.1.2.2))
  plain := true
theorem rthrough_good : Rw.Good Tryd.prog 31 rthrCon := by
  have hΓ : GoodEnv Tryd.prog [(13, rcountCon)] := (goodEnv_cons rcount_good goodEnv_nil)
  refine good_fn (nn := 73) hΓ Tryd.func31 (by kernel_rfl) rfl (show Tryd.f31.results.toList = [.tmp 6] from rfl) (fun _ => rfl) (fun _ => rfl) ?_
  rintro ⟨⟨p, l, af⟩, hp, ol, hc⟩
  simp only at hp ol hc
  have hcc := check_cases hc
  simp only [goRules, coreRules, tiRules, unRules, AS_of_eq, ← decide_not, N0, N1, N2, N3, N4, N5, Z0, Z1, Z2, Z3, Z4, Z5, Z6, Z7, Z8, Z9, Z10, Zc, ↓reduceIte, reduceCtorEq]
  obtain ⟨St, hSt⟩ : ∃ St : { x : Int × Int × Nat // x.2.2 ≤ l.length ∧ 0 ≤ x.1 ∧ x.1 + tn (l.drop x.2.2) = tn l ∧ thF p af x.1 x.2.1 (l.drop x.2.2) = thr p l af ∧ 0 ≤ x.2.1 ∧ x.2.1 + oN (l.drop x.2.2) ≤ 100000 } → AS, ∀ x, St x = AS.of 73 [(0, .v (.int .i64 p)), (1, .sl 0 3 (comps l)), (2, .v (.bool af)), (7, .v (.int .i64 x.1.1)), (8, .v (.int .i64 x.1.2.1)), (9, .v (.int .i64 x.1.2.2))] [] [] := ⟨_, fun _ => rfl⟩
  refine vc_loop hΓ St (fun x => l.length - x.1.2.2) ⟨(0, 0, 0), by simp, by simp, by simp, rfl, by simp, by rw [List.drop_zero, oN_units l hcc.2.2.1]; have := (out_units hc).1; simp only; omega⟩ (by rw [hSt]; refine weak_go [] [] ?_; simp only [goRules, coreRules, tiRules, unRules, AS_of_eq, ← decide_not, N0, N1, N2, N3, N4, N5, Z0, Z1, Z2, Z3, Z4, Z5, Z6, Z7, Z8, Z9, Z10, Zc, ↓reduceIte, reduceCtorEq] <;> ((repeat' apply And.intro) <;> first | rfl | omega | trivial)) ?_
  rintro ⟨⟨o, n, i⟩, hi, ho, htt, hth, hn0, hn1⟩
  simp only at hi ho htt hth hn0 hn1
  rw [hSt]
  simp only
  simp only [goRules, coreRules, tiRules, unRules, AS_of_eq, ← decide_not, N0, N1, N2, N3, N4, N5, Z0, Z1, Z2, Z3, Z4, Z5, Z6, Z7, Z8, Z9, Z10, Zc, ↓reduceIte, reduceCtorEq, comps_len]
  (with_reducible first | refine branchP_dec (fun h => ?_) (fun h => ?_) | refine guardB_dec (fun h => ?_) (fun h => ?_))
  · have hlt : i < l.length := by omega
    have e1 := comps_getD l hlt
    have hs := hcc.2.2.1 _ (List.getElem_mem hlt)
    have htm := tot_mem (List.getElem_mem hlt)
    have hto := ol.2.1
    have htp := tn_pos (l.drop (i + 1))
    have hop := oN_pos (l.drop (i + 1)) (fun c hc' => hcc.2.2.1 c (List.mem_of_mem_drop hc'))
    rw [List.drop_eq_getElem_cons hlt] at htt hth hn1
    rw [thF_cons p af o n hs] at hth
    rw [oN_cons hs] at hn1
    simp only [tn] at htt
    generalize l[i] = c at *
    have hcl := cpts_len c.t
    rcases sound_cases hs with ⟨h2, h0, _, hv⟩ | ⟨h1 | h3, h0, _⟩
    · simp only [h2, Int.reduceEq, if_true, if_false] at hth hn1
      have hmax : max c.n 0 = 0 := by omega
      rw [hmax] at htt
      simp (disch := omega) only [goRules, coreRules, tiRules, unRules, AS_of_eq, ← decide_not, N0, N1, N2, N3, N4, N5, Z0, Z1, Z2, Z3, Z4, Z5, Z6, Z7, Z8, Z9, Z10, Zc, ↓reduceIte, reduceCtorEq, wrap_i64, h, h2, e1, comps_len]
      (repeat (with_reducible refine And.intro ?_ ?_; focus (first | omega | exact mixed1 | kernel_rfl)))
      by_cases h5 : o < p
      · rw [if_pos (.inl h5)] at hth
        simp (disch := omega) only [goRules, coreRules, tiRules, unRules, AS_of_eq, ← decide_not, N0, N1, N2, N3, N4, N5, Z0, Z1, Z2, Z3, Z4, Z5, Z6, Z7, Z8, Z9, Z10, Zc, ↓reduceIte, reduceCtorEq, wrap_i64, h, h2, h5, e1, comps_len]
        (repeat (with_reducible refine And.intro ?_ ?_; focus (first | omega | exact mixed1 | kernel_rfl)))
        refine call_rcount (by simp [get_cons]) (by omega) ?_
        rw [cnt_cpts]
        simp only [goRules, coreRules, tiRules, unRules, AS_of_eq, ← decide_not, N0, N1, N2, N3, N4, N5, Z0, Z1, Z2, Z3, Z4, Z5, Z6, Z7, Z8, Z9, Z10, Zc, ↓reduceIte, reduceCtorEq, wrap_i64 (n := n + ((cpts c.t).length : Nat)) (by omega) (by omega), wrap_i64 (n := (i : Int) + 1) (by omega) (by omega)]
        refine weak_again ⟨(o, n + (cpts c.t).length, i + 1), by simp only; omega, ho, by simp only; omega, hth, by simp only; omega, by simp only; omega⟩ (by simp only; omega) ?_
        rw [hSt]; refine weak_go [] [] ?_
        simp only [goRules, coreRules, tiRules, unRules, AS_of_eq, ← decide_not, N0, N1, N2, N3, N4, N5, Z0, Z1, Z2, Z3, Z4, Z5, Z6, Z7, Z8, Z9, Z10, Zc, ↓reduceIte, reduceCtorEq] <;> ((repeat' apply And.intro) <;> first | rfl | omega | trivial)
      · by_cases h6 : o = p
        · cases af with
          | true =>
            rw [if_pos (.inr ⟨h6, rfl⟩)] at hth
            simp (disch := omega) only [goRules, coreRules, tiRules, unRules, AS_of_eq, ← decide_not, N0, N1, N2, N3, N4, N5, Z0, Z1, Z2, Z3, Z4, Z5, Z6, Z7, Z8, Z9, Z10, Zc, ↓reduceIte, reduceCtorEq, wrap_i64, h, h2, h5, eq_true h6, e1, comps_len]
            (repeat (with_reducible refine And.intro ?_ ?_; focus (first | omega | exact mixed1 | kernel_rfl)))
            refine call_rcount (by simp [get_cons]) (by omega) ?_
            rw [cnt_cpts]
            simp only [goRules, coreRules, tiRules, unRules, AS_of_eq, ← decide_not, N0, N1, N2, N3, N4, N5, Z0, Z1, Z2, Z3, Z4, Z5, Z6, Z7, Z8, Z9, Z10, Zc, ↓reduceIte, reduceCtorEq, wrap_i64 (n := n + ((cpts c.t).length : Nat)) (by omega) (by omega), wrap_i64 (n := (i : Int) + 1) (by omega) (by omega)]
            refine weak_again ⟨(o, n + (cpts c.t).length, i + 1), by simp only; omega, ho, by simp only; omega, hth, by simp only; omega, by simp only; omega⟩ (by simp only; omega) ?_
            rw [hSt]; refine weak_go [] [] ?_
            simp only [goRules, coreRules, tiRules, unRules, AS_of_eq, ← decide_not, N0, N1, N2, N3, N4, N5, Z0, Z1, Z2, Z3, Z4, Z5, Z6, Z7, Z8, Z9, Z10, Zc, ↓reduceIte, reduceCtorEq] <;> ((repeat' apply And.intro) <;> first | rfl | omega | trivial)
          | false =>
            rw [if_neg (by simp; omega)] at hth
            simp (disch := omega) only [goRules, coreRules, tiRules, unRules, AS_of_eq, ← decide_not, N0, N1, N2, N3, N4, N5, Z0, Z1, Z2, Z3, Z4, Z5, Z6, Z7, Z8, Z9, Z10, Zc, ↓reduceIte, reduceCtorEq, wrap_i64, h, h2, h5, eq_true h6, e1, comps_len]
            (repeat (with_reducible refine And.intro ?_ ?_; focus (first | omega | exact mixed1 | kernel_rfl)))
            refine weak_again ⟨(o, n, i + 1), by simp only; omega, ho, by simp only; omega, hth, by simp only; omega, by simp only; omega⟩ (by simp only; omega) ?_
            rw [hSt]; refine weak_go [] [] ?_
            simp only [goRules, coreRules, tiRules, unRules, AS_of_eq, ← decide_not, N0, N1, N2, N3, N4, N5, Z0, Z1, Z2, Z3, Z4, Z5, Z6, Z7, Z8, Z9, Z10, Zc, ↓reduceIte, reduceCtorEq] <;> ((repeat' apply And.intro) <;> first | rfl | omega | trivial)
        · rw [if_neg (by rintro (h | ⟨h, _⟩) <;> omega)] at hth
          simp (disch := omega) only [goRules, coreRules, tiRules, unRules, AS_of_eq, ← decide_not, N0, N1, N2, N3, N4, N5, Z0, Z1, Z2, Z3, Z4, Z5, Z6, Z7, Z8, Z9, Z10, Zc, ↓reduceIte, reduceCtorEq, wrap_i64, h, h2, h5, eq_false h6, e1, comps_len]
          (repeat (with_reducible refine And.intro ?_ ?_; focus (first | omega | exact mixed1 | kernel_rfl)))
          refine weak_again ⟨(o, n, i + 1), by simp only; omega, ho, by simp only; omega, hth, by simp only; omega, by simp only; omega⟩ (by simp only; omega) ?_
          rw [hSt]; refine weak_go [] [] ?_
          simp only [goRules, coreRules, tiRules, unRules, AS_of_eq, ← decide_not, N0, N1, N2, N3, N4, N5, Z0, Z1, Z2, Z3, Z4, Z5, Z6, Z7, Z8, Z9, Z10, Zc, ↓reduceIte, reduceCtorEq] <;> ((repeat' apply And.intro) <;> first | rfl | omega | trivial)
    · simp only [h1, Int.reduceEq, if_true, if_false] at hth hn1
      simp (disch := omega) only [goRules, coreRules, tiRules, unRules, AS_of_eq, ← decide_not, N0, N1, N2, N3, N4, N5, Z0, Z1, Z2, Z3, Z4, Z5, Z6, Z7, Z8, Z9, Z10, Zc, ↓reduceIte, reduceCtorEq, wrap_i64, h, h1, e1, comps_len, max2_int, min2_int]
      (repeat (with_reducible refine And.intro ?_ ?_; focus (first | omega | exact mixed1 | kernel_rfl)))
      refine weak_again ⟨(o + c.n, n + min (max (p - o) 0) c.n, i + 1), by simp only; omega, by simp only; omega, by simp only; omega, hth, by simp only; omega, by simp only; omega⟩ (by simp only; omega) ?_
      rw [hSt]; refine weak_go [] [] ?_
      simp only [goRules, coreRules, tiRules, unRules, AS_of_eq, ← decide_not, N0, N1, N2, N3, N4, N5, Z0, Z1, Z2, Z3, Z4, Z5, Z6, Z7, Z8, Z9, Z10, Zc, ↓reduceIte, reduceCtorEq] <;> ((repeat' apply And.intro) <;> first | rfl | omega | trivial)
    · simp only [h3, Int.reduceEq, if_true, if_false] at hth hn1
      simp (disch := omega) only [goRules, coreRules, tiRules, unRules, AS_of_eq, ← decide_not, N0, N1, N2, N3, N4, N5, Z0, Z1, Z2, Z3, Z4, Z5, Z6, Z7, Z8, Z9, Z10, Zc, ↓reduceIte, reduceCtorEq, wrap_i64, h, h3, e1, comps_len]
      (repeat (with_reducible refine And.intro ?_ ?_; focus (first | omega | exact mixed1 | kernel_rfl)))
      refine weak_again ⟨(o + c.n, n, i + 1), by simp only; omega, by simp only; omega, by simp only; omega, hth, by simp only; omega, by simp only; omega⟩ (by simp only; omega) ?_
      rw [hSt]; refine weak_go [] [] ?_
      simp only [goRules, coreRules, tiRules, unRules, AS_of_eq, ← decide_not, N0, N1, N2, N3, N4, N5, Z0, Z1, Z2, Z3, Z4, Z5, Z6, Z7, Z8, Z9, Z10, Zc, ↓reduceIte, reduceCtorEq] <;> ((repeat' apply And.intro) <;> first | rfl | omega | trivial)
  · rw [List.drop_of_length_le (by omega), thF] at hth
    simp only [goRules, coreRules, tiRules, unRules, AS_of_eq, ← decide_not, N0, N1, N2, N3, N4, N5, Z0, Z1, Z2, Z3, Z4, Z5, Z6, Z7, Z8, Z9, Z10, Zc, ↓reduceIte, reduceCtorEq, h, hth]
theorem call_rthr {Γ : Env} (hf : Γ.get 31 = some rthrCon) {σ : AS} {dr : Bool} {p : Int} {l : List Cp} {af : Bool} {t : Nat} {ys : List AV} {d : Option Nat} {K : AS → Prop} (hp : 0 ≤ p ∧ p ≤ 1099511627776) (hy : ys = comps l) (ol : okL l) (hc : checkI l = 0)
    (hk : cont σ d (.v (.int .i64 (thr p l af))) K) : vcCall Tryd.prog Γ dr σ 31 [.v (.int .i64 p), .sl t 3 ys, .v (.bool af)] d K := by
  subst hy
  exact vcCall_plain (C := rthrCon) (i := ⟨(p, l, af), hp, ol, hc⟩) hf rfl rfl rfl rfl (fun _ h => h) rfl hk
theorem ordq {z w : Int} (h1 : -4503599627370496 < z) (h2 : z < 4503599627370496) (h3 : -4503599627370496 < w) (h4 : w < 4503599627370496) : (FloatKind.f64.format.order (qf z) (qf w) == some Ordering.eq) = decide (z = w) := by rw [ord_qf h1 h2 h3 h4, cmp_eq]
theorem aw11 : thrI 8 8 [⟨2, 0, [97, 98]⟩, ⟨1, 3, []⟩] = 0 ∧ thr 2 [⟨2, 0, [97, 98]⟩, ⟨1, 3, []⟩] false = 4 := by decide +kernel
theorem cxh : Value.complex .f64 4602678819172646912 4607182418800017408 = .complex .f64 (qf 2) (qf 4) := by rw [show qf 4 = 4607182418800017408 from by decide +kernel, show qf 2 = 4602678819172646912 from by decide +kernel]
theorem cx2 : Value.complex .f64 4611686018427387904 4611686018427387904 = .complex .f64 (qf 8) (qf 8) := by rw [show qf 8 = 4611686018427387904 from by decide +kernel]
theorem awake11_good : Rw.Good Tryd.prog 24 trueCon := by
  have hΓ : GoodEnv Tryd.prog [(25, ofcCon), (29, placesCon), (26, thrCon)] := (goodEnv_cons ofc_good (goodEnv_cons places_good (goodEnv_cons through_good goodEnv_nil)))
  refine good_fn (nn := 69) hΓ Tryd.func24 (by kernel_rfl) rfl (show Tryd.f24.results.toList = [.tmp 0] from rfl) (fun _ => rfl) (fun _ => rfl) ?_
  intro _
  simp only [goRules, coreRules, tiRules, unRules, AS_of_eq, ← decide_not, N0, N1, N2, N3, N4, N5, Z0, Z1, Z2, Z3, Z4, Z5, Z6, Z7, Z8, Z9, Z10, Zc, ↓reduceIte, reduceCtorEq]
  refine call_ofc (by simp [get_cons]) (by omega) (by omega) ?_
  simp only [goRules, coreRules, tiRules, unRules, AS_of_eq, ← decide_not, N0, N1, N2, N3, N4, N5, Z0, Z1, Z2, Z3, Z4, Z5, Z6, Z7, Z8, Z9, Z10, Zc, ↓reduceIte, reduceCtorEq, ofcR, show ofcOk 2 2 from ⟨by decide, by decide, by decide, by decide⟩, cq]
  refine call_ofc (by simp [get_cons]) (by omega) (by omega) ?_
  simp only [goRules, coreRules, tiRules, unRules, AS_of_eq, ← decide_not, N0, N1, N2, N3, N4, N5, Z0, Z1, Z2, Z3, Z4, Z5, Z6, Z7, Z8, Z9, Z10, Zc, ↓reduceIte, reduceCtorEq, ofcR, show ¬ ofcOk (-1) 0 from by unfold ofcOk; omega, cq, List.map_cons, List.map_nil]
  refine call_through (l := [⟨2, 0, [97, 98]⟩, ⟨1, 3, []⟩]) (by simp [get_cons]) (by omega) (by omega) rfl ⟨by decide, by decide, by simp⟩ (by decide) ?_
  simp only [goRules, coreRules, tiRules, unRules, AS_of_eq, ← decide_not, N0, N1, N2, N3, N4, N5, Z0, Z1, Z2, Z3, Z4, Z5, Z6, Z7, Z8, Z9, Z10, Zc, ↓reduceIte, reduceCtorEq, thrR, aw11.1, aw11.2, cq, show (8 : Int) / 4 = 2 from rfl]
  refine call_places (by simp [get_cons]) (by omega) (by omega) ?_
  simp only [goRules, coreRules, tiRules, unRules, AS_of_eq, ← decide_not, N0, N1, N2, N3, N4, N5, Z0, Z1, Z2, Z3, Z4, Z5, Z6, Z7, Z8, Z9, Z10, Zc, ↓reduceIte, reduceCtorEq, selR, show selOk 16 16 from by unfold selOk plOk; omega, cxh, show (16 : Int) / 4 = 4 from rfl]
  refine call_places (by simp [get_cons]) (by omega) (by omega) ?_
  simp only [goRules, coreRules, tiRules, unRules, AS_of_eq, ← decide_not, N0, N1, N2, N3, N4, N5, Z0, Z1, Z2, Z3, Z4, Z5, Z6, Z7, Z8, Z9, Z10, Zc, ↓reduceIte, reduceCtorEq, selR, show ¬ selOk 2 4 from by unfold selOk plOk; omega, cx2]
  rw [ordq (by omega) (by omega) (by omega) (by omega)]
  rfl
theorem call_awake11 {Γ : Env} (hf : Γ.get 24 = some trueCon) {σ : AS} {dr : Bool} {d : Option Nat} {K : AS → Prop}
    (hk : cont σ d (.v (.bool true)) K) : vcCall Tryd.prog Γ dr σ 24 [] d K :=
  vcCall_plain (C := trueCon) (i := ()) hf rfl rfl rfl rfl (fun _ h => h) rfl hk
end Go.Proofs
end
