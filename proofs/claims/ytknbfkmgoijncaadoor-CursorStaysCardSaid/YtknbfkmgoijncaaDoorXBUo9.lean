/-
  Laws of the normal form.
-/
import Derived.Test.YtknbfkmgoijncaaDoorXBUo8
set_option linter.unusedSimpArgs false
set_option linter.unusedVariables false
set_option linter.defProp false

-- BUo9
section
namespace Go.Proofs
open Go Go.Rw
set_option maxRecDepth 100000
set_option linter.unusedSimpArgs false
set_option linter.unusedVariables false

/-- Whether a part of the kind k may stand behind one of the kind q; 0: none. -/
def fol (q k : Int) : Bool := !(decide (q = k) || (decide (q = 3) && decide (k = 2)))
/-- A part as a normal form has it. -/
def neat (c : Cp) : Bool := if c.k = 2 then decide (c.n = 0) && decide (c.t ≠ []) else (decide (c.k = 1) || decide (c.k = 3)) && decide (0 < c.n) && decide (c.n ≤ 1099511627776) && decide (c.t = [])
def shape : Int → List Cp → Bool
  | _, [] => true
  | q, c :: r => neat c && fol q c.k && shape c.k r
/-- The kind of the last part of what was gathered. -/
def lastK (k : Int) (t : List UInt8) (g : Int) : Int := if g > 0 then 3 else if t ≠ [] then 2 else if k > 0 then 1 else 0
theorem neat_some {c : Cp} (h : neat c = true) : someC c = true := by
  unfold neat at h
  unfold someC
  split
  · rename_i h2
    rw [if_pos h2] at h
    simp at h ⊢; exact h.2
  · rename_i h2
    rw [if_neg h2] at h
    simp at h ⊢; omega
theorem putL_nil : putL 0 [] 0 = [] := rfl
theorem putL_g {k : Int} {t : List UInt8} {g : Int} (hg : g > 0) : putL k t g = putL k t 0 ++ [⟨3, g, []⟩] := by
  unfold putL
  rw [if_pos hg, if_neg (by omega : ¬ (0 : Int) > 0), List.append_nil, List.append_assoc]
theorem putL_t {k : Int} {t : List UInt8} (ht : t ≠ []) : putL k t 0 = putL k [] 0 ++ [⟨2, 0, t⟩] := by
  unfold putL
  simp [ht]
/-- Nothing is made of a normal form. -/
theorem nf_shape : ∀ (l : List Cp) (k : Int) (t : List UInt8) (g : Int), (0 ≤ k ∧ k ≤ 1099511627776) → (0 ≤ g ∧ g ≤ 1099511627776) → shape (lastK k t g) l = true → nfF k t g l = putL k t g ++ l
  | [], k, t, g, _, _, _ => by rw [nfF, List.append_nil]
  | c :: r, k, t, g, hk, hg, h => by
    simp only [shape, Bool.and_eq_true] at h
    obtain ⟨⟨hn, hf⟩, hr⟩ := h
    have hs := neat_some hn
    obtain ⟨ck, cn, ct⟩ := c
    unfold neat at hn
    simp only at hn hf hr
    by_cases h2 : ck = 2
    · subst h2
      simp at hn
      obtain ⟨rfl, hct⟩ := hn
      have hl : g = 0 ∧ t = [] := by
        unfold lastK fol at hf
        by_cases h3 : g > 0
        · simp [h3] at hf
        · by_cases h4 : t = []
          · exact ⟨by omega, h4⟩
          · simp [h3, h4] at hf
      obtain ⟨rfl, rfl⟩ := hl
      rw [nf_text hs rfl, List.nil_append, nf_shape r k ct 0 hk hg (by simpa [lastK, hct] using hr), putL_t hct, List.append_assoc]; rfl
    · rw [if_neg h2] at hn
      simp at hn
      obtain ⟨⟨⟨h13, hpos⟩, hmax⟩, rfl⟩ := hn
      rcases h13 with rfl | rfl
      · by_cases h4 : t ≠ [] ∨ g > 0
        · rw [nf_put hs (by simp) (by simp) h4, addI_eq (by simp only; omega), Int.zero_add, nf_shape r cn [] 0 ⟨by omega, hmax⟩ (by omega) (by simpa [lastK, hpos] using hr)]
          simp [putL, hpos]
        · have h5 : t = [] := Classical.byContradiction fun h => h4 (.inl h)
          have h6 : g = 0 := by
            have : ¬ g > 0 := fun h => h4 (.inr h)
            omega
          subst h5; subst h6
          have h7 : k = 0 := by
            unfold lastK fol at hf
            by_cases h8 : k > 0
            · simp [h8] at hf
            · omega
          subst h7
          rw [nf_keep hs (by simp) (by simp) h4, addI_eq (by simp only; omega), Int.zero_add, nf_shape r cn [] 0 ⟨by omega, hmax⟩ (by omega) (by simpa [lastK, hpos] using hr)]
          simp [putL, hpos]
      · have h6 : g = 0 := by
          unfold lastK fol at hf
          by_cases h3 : g > 0
          · simp [h3] at hf
          · omega
        subst h6
        rw [nf_gone hs rfl, addI_eq (by simp only; omega), Int.zero_add, nf_shape r k t cn hk ⟨by omega, hmax⟩ (by simpa [lastK, hpos] using hr), putL_g hpos, List.append_assoc]; rfl
theorem nf_id {l : List Cp} (h : shape 0 l = true) : nf l = l := by
  unfold nf
  rw [nf_shape l 0 [] 0 (by omega) (by omega) (by simpa [lastK] using h)]; rfl
/-- The kind of the last part behind a part of the kind q. -/
def lastQ (q k : Int) (t : List UInt8) (g : Int) : Int := if g > 0 then 3 else if t ≠ [] then 2 else if k > 0 then 1 else q
theorem shape_app : ∀ (a b : List Cp) (q q2 : Int), shape q a = true → (∀ c ∈ a.getLast?, c.k = q2) → (a = [] → q = q2) → shape q2 b = true → shape q (a ++ b) = true
  | [], b, q, q2, _, _, h, hb => by rw [h rfl]; exact hb
  | [c], b, q, q2, ha, hl, _, hb => by
    simp only [shape, Bool.and_true, List.cons_append, List.nil_append] at ha ⊢
    have := hl c (by simp)
    rw [this, hb, ← this, ha]; rfl
  | c :: d :: a, b, q, q2, ha, hl, _, hb => by
    simp only [shape, List.cons_append] at ha ⊢
    rw [Bool.and_eq_true] at ha ⊢
    have := shape_app (d :: a) b c.k q2 (by simpa only [shape] using ha.2) (fun x hx => hl x (by simpa using hx)) (fun h => by cases h) hb
    exact ⟨ha.1, by simpa only [List.cons_append, shape] using this⟩
theorem shape_putL {q k g : Int} {t : List UInt8} (hk : k ≤ 1099511627776) (hg : g ≤ 1099511627776) (hq : q = 0 ∨ ((q = 2 ∨ q = 3) ∧ k > 0)) : shape q (putL k t g) = true := by
  unfold putL
  by_cases h1 : k > 0 <;> by_cases h2 : t = [] <;> by_cases h3 : g > 0
  all_goals
    simp only [h1, h2, h3, if_true, if_false, ne_eq, not_true_eq_false, not_false_eq_true, List.nil_append, List.append_nil, List.cons_append, shape, neat, fol, Bool.and_true]
    try (rcases hq with rfl | ⟨rfl | rfl, h4⟩ <;> simp [h2] <;> omega)
theorem last_putL {k g : Int} {t : List UInt8} (h : t ≠ [] ∨ g > 0) : (∀ c ∈ (putL k t g).getLast?, c.k = (if g > 0 then 3 else 2)) ∧ putL k t g ≠ [] := by
  by_cases h3 : g > 0
  · rw [putL_g h3, if_pos h3]
    simp
  · have h2 : t ≠ [] := by
      rcases h with h | h
      · exact h
      · exact absurd h h3
    have e : putL k t g = putL k t 0 := by unfold putL; rw [if_neg h3, if_neg (by omega : ¬ (0 : Int) > 0)]
    rw [e, putL_t h2, if_neg h3]
    simp
theorem shape_nf : ∀ (l : List Cp) (q k : Int) (t : List UInt8) (g : Int), (0 ≤ k ∧ k ≤ 1099511627776) → (0 ≤ g ∧ g ≤ 1099511627776) → (q = 0 ∨ ((q = 2 ∨ q = 3) ∧ k > 0)) → shape q (nfF k t g l) = true
  | [], q, k, t, g, hk, hg, hq => by rw [nfF]; exact shape_putL hk.2 hg.2 hq
  | c :: r, q, k, t, g, hk, hg, hq => by
    by_cases hs : someC c = false
    · rw [nf_no hs]; exact shape_nf r q k t g hk hg hq
    · have hs : someC c = true := by simpa using hs
      by_cases h2 : c.k = 2
      · rw [nf_text hs h2]; exact shape_nf r q k _ g hk hg hq
      · have hp := some_pos hs h2
        by_cases h3 : c.k = 3
        · rw [nf_gone hs h3]; exact shape_nf r q k t _ hk (addI_range hg.1 (by omega)) hq
        · by_cases h4 : t ≠ [] ∨ g > 0
          · rw [nf_put hs h2 h3 h4]
            obtain ⟨h5, h6⟩ := last_putL (k := k) h4
            refine shape_app _ _ q _ (shape_putL hk.2 hg.2 hq) h5 (fun h => absurd h h6) (shape_nf r _ _ [] 0 (addI_range (by omega) (by omega)) (by omega) (.inr ⟨by split <;> simp, by unfold addI; omega⟩))
          · rw [nf_keep hs h2 h3 h4]
            refine shape_nf r q _ t g (addI_range hk.1 (by omega)) hg ?_
            rcases hq with h | ⟨h, h7⟩
            · exact .inl h
            · exact .inr ⟨h, by unfold addI; omega⟩
theorem nf_nf (l : List Cp) : nf (nf l) = nf l := nf_id (shape_nf l 0 0 [] 0 (by omega) (by omega) (.inl rfl))
theorem baseF_le : ∀ (l : List Cp) (m : Int), 0 ≤ m → m ≤ 1099511627776 → m ≤ baseF m l
  | [], m, _, _ => by simp [baseF]
  | c :: r, m, h, h2 => by
    simp only [baseF]
    split
    · have h3 := addI_range h (show 0 ≤ max c.n 0 by omega)
      have := baseF_le r _ h3.1 h3.2
      have h4 : m ≤ addI m (max c.n 0) := by unfold addI; omega
      omega
    · exact baseF_le r m h h2
theorem shape_normal : ∀ (l : List Cp) (p : Option Cp) (m : Int), 0 ≤ m → m ≤ 1099511627776 → normalF p l = true → baseF m l ≤ 2000 → shape (match p with | none => 0 | some c => c.k) l = true
  | [], _, _, _, _, _, _ => rfl
  | c :: r, p, m, hm, hm2, h, hb => by
    simp only [normalF, Bool.and_eq_true] at h
    obtain ⟨⟨hs, hf⟩, hr⟩ := h
    simp only [baseF] at hb
    have hb2 : (c.k = 1 ∨ c.k = 3) → c.n ≤ 2000 := fun hc => by
      rw [if_pos hc] at hb
      have h3 := addI_range hm (show 0 ≤ max c.n 0 by omega)
      have := baseF_le r _ h3.1 h3.2
      have h5 : addI m (max c.n 0) ≤ 2000 := by omega
      unfold addI at h5
      omega
    have hrest : ∃ m2, (0 ≤ m2 ∧ m2 ≤ 1099511627776) ∧ baseF m2 r ≤ 2000 := by
      split at hb
      · exact ⟨_, addI_range hm (by omega), hb⟩
      · exact ⟨m, ⟨hm, hm2⟩, hb⟩
    obtain ⟨m2, h6, h7⟩ := hrest
    have ih := shape_normal r (some c) m2 h6.1 h6.2 hr h7
    simp only [shape, Bool.and_eq_true]
    refine ⟨⟨?_, ?_⟩, ih⟩
    · unfold sound at hs
      unfold neat
      split
      · rename_i h2
        rw [if_pos h2] at hs
        simp at hs ⊢
        exact ⟨hs.1.1, hs.1.2⟩
      · rename_i h2
        rw [if_neg h2] at hs
        split at hs
        · rename_i h13
          simp at hs ⊢
          have := hb2 h13
          exact ⟨⟨⟨h13, by omega⟩, by omega⟩, hs.2⟩
        · cases hs
    · cases p with
      | none =>
        unfold sound at hs
        unfold fol
        simp
        intro h0
        rw [← h0] at hs
        simp at hs
      | some q => exact hf
theorem nf_check {l : List Cp} (h : checkI l = 0) : nf l = l := by
  unfold checkI at h
  split at h
  · cases h
  · split at h
    · cases h
    · split at h
      · cases h
      · rename_i h1 h2 h3
        have h4 : normalL l = true := by simpa using h2
        exact nf_id (shape_normal l none 0 (by omega) (by omega) h4 (by unfold baseL at h3; omega))
end Go.Proofs
end
