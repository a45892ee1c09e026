/-
  Where a place goes through an edit. Plain.
-/
import Derived.Test.YtknbfkmgoijncaaDoorXBUc1
import Derived.Test.YtknbfkmgoijncaaDoorXBAx4
set_option linter.unusedSimpArgs false
set_option linter.unusedVariables false
set_option linter.defProp false

-- BUc2
section
namespace Go.Proofs
open Go Go.Rw
set_option maxRecDepth 100000
set_option linter.unusedSimpArgs false
set_option linter.unusedVariables false

def goesI (p a : Int) (c : Cp) (af : Bool) : Int := if c.k = 3 ∧ p > a then -(min c.n (p - a)) else if c.k ≠ 2 ∨ p < a ∨ (p = a ∧ af = false) then 0 else outL [c]
def gsum (p : Int) (af : Bool) : Int → List Cp → Int
  | _, [] => 0
  | a, c :: r => goesI p a c af + gsum p af (a + c.n) r
def thF (p : Int) (af : Bool) : Int → Int → List Cp → Int
  | _, n, [] => n
  | o, n, c :: r => if c.k = 1 then thF p af (o + c.n) (n + min (max (p - o) 0) c.n) r else if c.k = 3 then thF p af (o + c.n) n r else if c.k = 2 then thF p af o (if o < p ∨ (o = p ∧ af = true) then n + (cpts c.t).length else n) r else thF p af o n r
/-- How long what it makes is. -/
def oN : List Cp → Int
  | [] => 0
  | c :: r => (if c.k = 1 then c.n else if c.k = 2 then ((cpts c.t).length : Int) else 0) + oN r
theorem oN_units : ∀ l : List Cp, (∀ c ∈ l, sound c = true) → oN l = oU (unL l)
  | [], _ => rfl
  | c :: r, h => by
    have ih := oN_units r (fun x hx => h x (by simp [hx]))
    simp only [oN, unL, oU_app, ih]
    rcases sound_cases (h c (by simp)) with ⟨h2, _⟩ | ⟨h1 | h3, h0, _⟩
    · have e1 : oU (unP c) = (cpts c.t).length := by unfold unP; rw [if_pos h2, oU_i]
      rw [e1, if_neg (show ¬ c.k = 1 by omega), if_pos h2]; omega
    · have e1 : oU (unP c) = c.n.toNat := by unfold unP; rw [if_neg (show ¬ c.k = 2 by omega), if_pos h1, oU_r]
      rw [e1, if_pos h1]; omega
    · have e1 : oU (unP c) = 0 := by unfold unP; rw [if_neg (show ¬ c.k = 2 by omega), if_neg (show ¬ c.k = 1 by omega), if_pos h3, oU_d]
      rw [e1, if_neg (show ¬ c.k = 1 by omega), if_neg (show ¬ c.k = 2 by omega)]; omega
theorem oN_pos : ∀ l : List Cp, (∀ c ∈ l, sound c = true) → 0 ≤ oN l := fun l h => by rw [oN_units l h]; omega
theorem thF_cons (p : Int) (af : Bool) (o n : Int) {c : Cp} {r : List Cp} (h : sound c = true) : thF p af o n (c :: r) = if c.k = 1 then thF p af (o + c.n) (n + min (max (p - o) 0) c.n) r else if c.k = 3 then thF p af (o + c.n) n r else thF p af o (if o < p ∨ (o = p ∧ af = true) then n + (cpts c.t).length else n) r := by
  rw [thF]
  rcases sound_k h with h1 | h1 | h1 <;> simp [h1]
theorem oN_cons {c : Cp} {r : List Cp} (h : sound c = true) : oN (c :: r) = (if c.k = 1 then c.n else if c.k = 2 then ((cpts c.t).length : Int) else 0) + oN r := rfl
theorem goesI_ins {p a : Int} {c : Cp} {af : Bool} (h : sound c = true) (h2 : c.k = 2) (hb : (cpts c.t).length ≤ 1000000) : goesI p a c af = if a < p ∨ (a = p ∧ af = true) then ((cpts c.t).length : Int) else 0 := by
  unfold goesI
  rw [if_neg (by omega)]
  rcases sound_cases h with ⟨_, h0, hne, hv⟩ | ⟨h1, _⟩
  · have ho : outL [c] = (cpts c.t).length := by
      unfold outL outF outF addI
      rw [if_neg (by omega), if_pos h2, lc_cpts hv]; omega
    by_cases hc : a < p ∨ (a = p ∧ af = true)
    · rw [if_pos hc, if_neg, ho]
      rintro (h3 | h3 | ⟨h3, h4⟩)
      · exact h3 h2
      · omega
      · rcases hc with hc | ⟨_, hc⟩
        · omega
        · rw [hc] at h4; cases h4
    · rw [if_neg hc, if_pos]
      by_cases h3 : p < a
      · exact .inr (.inl h3)
      · have h4 : p = a := by omega
        refine .inr (.inr ⟨h4, ?_⟩)
        cases af with
        | false => rfl
        | true => exact absurd (.inr ⟨h4.symm, rfl⟩) hc
  · omega
/-- The document's way, and by how much a place goes. -/
theorem th_goes (p : Int) (af : Bool) : ∀ (l : List Cp) (o n : Int), (∀ c ∈ l, sound c = true) → tot l ≤ 1000000 → thF p af o n l = n + min (max (p - o) 0) (tn l) + gsum p af o l
  | [], o, n, _, _ => by simp only [thF, tn, gsum]; omega
  | c :: r, o, n, h, ht => by
    simp only [tot] at ht
    have hr : ∀ x ∈ r, sound x = true := fun x hx => h x (by simp [hx])
    have hs := h c (by simp)
    have hp := tn_pos r
    have hcl := cpts_len c.t
    rw [thF_cons p af o n hs]
    simp only [tn, gsum]
    rcases sound_cases hs with ⟨h2, h0, _⟩ | ⟨h1 | h3, h0, _⟩
    · rw [goesI_ins hs h2 (by omega)]
      simp only [h2, h0, Int.reduceEq, if_true, if_false, Int.add_zero]
      rw [th_goes p af r _ _ hr (by omega)]
      split <;> omega
    · have hg : goesI p o c af = 0 := by
        unfold goesI
        rw [if_neg (by omega), if_pos (.inl (by omega))]
      rw [hg]
      simp only [h1, Int.reduceEq, if_true, if_false]
      rw [th_goes p af r _ _ hr (by omega)]
      omega
    · have hg : goesI p o c af = -(min c.n (max (p - o) 0)) := by
        unfold goesI
        by_cases hp : p > o
        · rw [if_pos ⟨h3, hp⟩]; omega
        · rw [if_neg (fun h => hp h.2), if_pos (.inl (by omega))]; omega
      rw [hg]
      simp only [h3, Int.reduceEq, if_true, if_false]
      rw [th_goes p af r _ _ hr (by omega)]
      omega
theorem th_mono (af : Bool) : ∀ (l : List Cp) (p q o n m : Int), (∀ c ∈ l, sound c = true) → p ≤ q → n ≤ m → thF p af o n l ≤ thF q af o m l
  | [], p, q, o, n, m, _, _, h => h
  | c :: r, p, q, o, n, m, h, hpq, hnm => by
    have hr : ∀ x ∈ r, sound x = true := fun x hx => h x (by simp [hx])
    simp only [thF]
    split
    · exact th_mono af r p q _ _ _ hr hpq (by omega)
    · split
      · exact th_mono af r p q _ _ _ hr hpq hnm
      · split
        · refine th_mono af r p q _ _ _ hr hpq ?_
          by_cases h1 : o < p ∨ (o = p ∧ af = true)
          · rw [if_pos h1, if_pos]
            · omega
            · rcases h1 with h1 | ⟨h1, h2⟩
              · exact .inl (by omega)
              · by_cases h3 : o < q
                · exact .inl h3
                · exact .inr ⟨by omega, h2⟩
          · rw [if_neg h1]; split <;> omega
        · exact th_mono af r p q _ _ _ hr hpq hnm
theorem th_le (af : Bool) : ∀ (l : List Cp) (p o n : Int), (∀ c ∈ l, sound c = true) → n ≤ thF p af o n l ∧ thF p af o n l ≤ n + oN l
  | [], p, o, n, _ => by simp [thF, oN]
  | c :: r, p, o, n, h => by
    have hr : ∀ x ∈ r, sound x = true := fun x hx => h x (by simp [hx])
    have e := thF_cons p af o n (r := r) (h c (by simp))
    have e2 := oN_cons (r := r) (h c (by simp))
    rw [e, e2]
    rcases sound_cases (h c (by simp)) with ⟨h2, h0, _⟩ | ⟨h1 | h3, h0, _⟩
    · simp only [h2, Int.reduceEq, if_true, if_false]
      have h6 := th_le af r p o (n + ((cpts c.t).length : Int)) hr
      have h7 := th_le af r p o n hr
      by_cases h5 : o < p ∨ (o = p ∧ af = true)
      · rw [if_pos h5]; omega
      · rw [if_neg h5]; omega
    · simp only [h1, Int.reduceEq, if_true, if_false]
      have := th_le af r p (o + c.n) (n + min (max (p - o) 0) c.n) hr
      omega
    · simp only [h3, Int.reduceEq, if_true, if_false]
      have := th_le af r p (o + c.n) n hr
      omega
/-- The first place, before what is put in there, stays. -/
theorem th_first : ∀ (l : List Cp) (p o n : Int), (∀ c ∈ l, sound c = true) → p ≤ o → thF p false o n l = n
  | [], p, o, n, _, _ => rfl
  | c :: r, p, o, n, h, hp => by
    have hr : ∀ x ∈ r, sound x = true := fun x hx => h x (by simp [hx])
    rw [thF_cons p false o n (h c (by simp))]
    rcases sound_cases (h c (by simp)) with ⟨h2, h0, _⟩ | ⟨h1 | h3, h0, _⟩
    · simp only [h2, Int.reduceEq, if_true, if_false]
      rw [if_neg (show ¬ (o < p ∨ (o = p ∧ false = true)) by simp; omega)]
      exact th_first r p o n hr hp
    · simp only [h1, Int.reduceEq, if_true, if_false]
      rw [th_first r p _ _ hr (by omega)]; omega
    · simp only [h3, Int.reduceEq, if_true, if_false]
      rw [th_first r p _ _ hr (by omega)]
/-- The last one, behind what is put in there, goes to the end. -/
theorem th_last : ∀ (l : List Cp) (p o n : Int), (∀ c ∈ l, sound c = true) → o + tn l ≤ p → thF p true o n l = n + oN l
  | [], p, o, n, _, _ => by simp [thF, oN]
  | c :: r, p, o, n, h, hp => by
    have hr : ∀ x ∈ r, sound x = true := fun x hx => h x (by simp [hx])
    have ht := tn_pos r
    rw [thF_cons p true o n (h c (by simp)), oN_cons (h c (by simp))]
    simp only [tn] at hp
    rcases sound_cases (h c (by simp)) with ⟨h2, h0, _⟩ | ⟨h1 | h3, h0, _⟩
    · simp only [h2, Int.reduceEq, if_true, if_false]
      rw [if_pos (show o < p ∨ (o = p ∧ True) by simp; omega), th_last r p o _ hr (by omega)]; omega
    · simp only [h1, Int.reduceEq, if_true, if_false]
      rw [th_last r p _ _ hr (by omega)]; omega
    · simp only [h3, Int.reduceEq, if_true, if_false]
      rw [th_last r p _ _ hr (by omega)]; omega
/-- A place, through an edit. -/
def thr (p : Int) (l : List Cp) (af : Bool) : Int := thF p af 0 0 l
theorem thr_facts {p : Int} {l : List Cp} {af : Bool} (h : checkI l = 0) (ht : tot l ≤ 1000000) (hp : 0 ≤ p) (hb : p ≤ baseL l) : thr p l af = p + gsum p af 0 l ∧ 0 ≤ thr p l af ∧ thr p l af ≤ outL l ∧ outL l = oN l := by
  obtain ⟨c1, c2, c3, c4, c5, c6⟩ := check_cases h
  have ho : outL l = oN l := by rw [oN_units l c3]; exact (out_units h).1
  have h1 := th_le af l p 0 0 c3
  have h2 := th_goes p af l 0 0 c3 ht
  unfold thr
  rw [ho]
  refine ⟨?_, h1.1, by omega, rfl⟩
  rw [h2]
  have : gsum p af 0 l = gsum p af 0 l := rfl
  generalize gsum p af 0 l = g at *
  omega
theorem goesI_bound {p a : Int} {c : Cp} {af : Bool} (h : sound c = true) (hb : (cpts c.t).length ≤ 1000000) (hn : c.n ≤ 1000000) : -1000000 ≤ goesI p a c af ∧ goesI p a c af ≤ 1000000 := by
  rcases sound_cases h with ⟨h2, h0, _⟩ | ⟨h1 | h3, h0, _⟩
  · rw [goesI_ins h h2 hb]; split <;> omega
  · unfold goesI
    rw [if_neg (by omega), if_pos (.inl (by omega))]; omega
  · unfold goesI
    by_cases hp : p > a
    · rw [if_pos ⟨h3, hp⟩]; omega
    · rw [if_neg (fun h => hp h.2), if_pos (.inl (by omega))]; omega
end Go.Proofs
end
