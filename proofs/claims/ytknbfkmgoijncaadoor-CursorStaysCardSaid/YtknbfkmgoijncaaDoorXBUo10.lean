/-
  What the normal form keeps.
-/
import Derived.Test.YtknbfkmgoijncaaDoorXBUo9
set_option linter.unusedSimpArgs false
set_option linter.unusedVariables false
set_option linter.defProp false

-- BUo10
section
namespace Go.Proofs
open Go Go.Rw
set_option maxRecDepth 100000
set_option linter.unusedSimpArgs false
set_option linter.unusedVariables false

/-- The numbers of all parts together. -/
def tn : List Cp → Int
  | [] => 0
  | c :: r => max c.n 0 + tn r
def sumN : Int → List Cp → Int
  | s, [] => s
  | s, c :: r => sumN (addI s (max c.n 0)) r
theorem tn_pos : ∀ l : List Cp, 0 ≤ tn l
  | [] => by simp [tn]
  | c :: r => by simp only [tn]; have := tn_pos r; omega
theorem sumN_eq : ∀ (l : List Cp) {s : Int}, (0 ≤ s ∧ s ≤ 1099511627776) → sumN s l = min (s + tn l) 1099511627776
  | [], s, h => by simp only [sumN, tn]; omega
  | c :: r, s, h => by
    have h2 := addI_range h.1 (show 0 ≤ max c.n 0 by omega)
    have := tn_pos r
    simp only [sumN, tn]
    rw [sumN_eq r h2]
    unfold addI
    omega
/-- Whether all texts are. -/
def allV (l : List Cp) : Bool := l.all fun c => (pts c.t).isSome
theorem addI_z {x : Int} (h : x ≤ 1099511627776) : addI x 0 = x := by unfold addI; omega
theorem base_nf : ∀ (l : List Cp) (m k : Int) (t : List UInt8) (g : Int), 0 ≤ m → 0 ≤ k → 0 ≤ g → m + k + g + tn l ≤ 1099511627776 → baseF m (nfF k t g l) = baseF (m + k + g) l
  | [], m, k, t, g, hm, hk, hg, h => by
    simp only [tn] at h
    rw [nfF, baseF_putL hk hg (by omega)]; rfl
  | c :: r, m, k, t, g, hm, hk, hg, h => by
    have htn := tn_pos r
    simp only [tn] at h
    by_cases hs : someC c = false
    · rw [nf_no hs, base_nf r m k t g hm hk hg (by omega)]
      simp only [baseF]
      split
      · rename_i h13
        have : c.n ≤ 0 := by
          unfold someC at hs
          rw [if_neg (by omega)] at hs
          simp at hs
          exact hs (by omega)
        rw [show max c.n 0 = 0 by omega, addI_z (by omega)]
      · rfl
    · have hs : someC c = true := by simpa using hs
      by_cases h2 : c.k = 2
      · rw [nf_text hs h2, base_nf r m k _ g hm hk hg (by omega)]
        simp only [baseF]
        rw [if_neg (by omega)]
      · have hp := some_pos hs h2
        have h13 : c.k = 1 ∨ c.k = 3 := by
          unfold someC at hs
          rw [if_neg h2] at hs
          simp at hs
          exact hs.1
        have e : baseF (m + k + g) (c :: r) = baseF (m + k + g + c.n) r := by
          simp only [baseF]
          rw [if_pos h13, show max c.n 0 = c.n by omega, addI_eq (by omega)]
        rw [e]
        by_cases h3 : c.k = 3
        · rw [nf_gone hs h3, addI_eq (by omega), base_nf r m k t _ hm hk (by omega) (by omega), show m + k + (g + c.n) = m + k + g + c.n by omega]
        · by_cases h4 : t ≠ [] ∨ g > 0
          · rw [nf_put hs h2 h3 h4, addI_eq (by omega), baseF_app, baseF_putL hk hg (by omega), base_nf r (m + k + g) (0 + c.n) [] 0 (by omega) (by omega) (by omega) (by omega), show m + k + g + (0 + c.n) + 0 = m + k + g + c.n by omega]
          · rw [nf_keep hs h2 h3 h4, addI_eq (by omega), base_nf r m (k + c.n) t g hm (by omega) hg (by omega), show m + (k + c.n) + g = m + k + g + c.n by omega]
theorem pts_app {s t : List UInt8} (h1 : (pts s).isSome = true) (h2 : (pts t).isSome = true) : lc (s ++ t) = lc s + lc t ∧ (pts (s ++ t)).isSome = true := by
  obtain ⟨a, ha⟩ := Option.isSome_iff_exists.1 h1
  obtain ⟨b, hb⟩ := Option.isSome_iff_exists.1 h2
  obtain ⟨oa, rfl⟩ := pts_some ha
  obtain ⟨ob, rfl⟩ := pts_some hb
  have oab : ∀ c ∈ a ++ b, okc c := fun c hc => by
    rcases List.mem_append.1 hc with h | h
    · exact oa c h
    · exact ob c h
  rw [← encs_app, lc_encs _ oab, lc_encs _ oa, lc_encs _ ob, pts_enc oab, List.length_append]
  exact ⟨rfl, rfl⟩
theorem out_nf : ∀ (l : List Cp) (m k : Int) (t : List UInt8) (g : Int), 0 ≤ m → 0 ≤ k → (pts t).isSome = true → allV l = true → m + k + t.length + tn l + tot l ≤ 1099511627776 → outF m (nfF k t g l) = outF (m + k + lc t) l
  | [], m, k, t, g, hm, hk, ht, hv, h => by
    have := lc_len t
    simp only [tn, tot] at h
    rw [nfF, outF_putL hk (by omega)]; rfl
  | c :: r, m, k, t, g, hm, hk, ht, hv, h => by
    have htn := tn_pos r
    have hlt := lc_len t
    have hlc := lc_len c.t
    simp only [tn, tot] at h
    simp only [allV, List.all_cons, Bool.and_eq_true] at hv
    obtain ⟨hvc, hvr⟩ := hv
    by_cases hs : someC c = false
    · rw [nf_no hs, out_nf r m k t g hm hk ht hvr (by omega)]
      simp only [outF]
      split
      · rename_i h1
        have : c.n ≤ 0 := by
          unfold someC at hs
          rw [if_neg (by omega)] at hs
          simp at hs
          exact hs (by omega)
        rw [show max c.n 0 = 0 by omega, addI_z (by omega)]
      · split
        · rename_i h2
          have : c.t = [] := by
            unfold someC at hs
            rw [if_pos h2] at hs
            simpa using hs
          rw [this, lc_nil, show ((0 : Nat) : Int) = 0 from rfl, addI_z (by omega)]
        · rfl
    · have hs : someC c = true := by simpa using hs
      by_cases h2 : c.k = 2
      · obtain ⟨e1, e2⟩ := pts_app ht hvc
        rw [nf_text hs h2, out_nf r m k _ g hm hk e2 hvr (by rw [List.length_append]; omega), e1]
        simp only [outF]
        rw [if_neg (by omega), if_pos h2, addI_eq (by omega), show m + k + ((lc t + lc c.t : Nat) : Int) = m + k + lc t + lc c.t by omega]
      · have hp := some_pos hs h2
        by_cases h3 : c.k = 3
        · rw [nf_gone hs h3, out_nf r m k t _ hm hk ht hvr (by omega)]
          simp only [outF]
          rw [if_neg (by omega), if_neg h2]
        · have h1 : c.k = 1 := by
            unfold someC at hs
            rw [if_neg h2] at hs
            simp at hs
            omega
          have e : outF (m + k + lc t) (c :: r) = outF (m + k + lc t + c.n) r := by
            simp only [outF]
            rw [if_pos h1, show max c.n 0 = c.n by omega, addI_eq (by omega)]
          rw [e]
          by_cases h4 : t ≠ [] ∨ g > 0
          · rw [nf_put hs h2 h3 h4, addI_eq (by omega), outF_app, outF_putL hk (by omega), out_nf r (m + k + lc t) (0 + c.n) [] 0 (by omega) (by omega) (by rw [pts_nil]; rfl) hvr (by simp only [List.length_nil]; omega), lc_nil, show m + k + (lc t : Int) + (0 + c.n) + ((0 : Nat) : Int) = m + k + lc t + c.n by omega]
          · rw [nf_keep hs h2 h3 h4, addI_eq (by omega), out_nf r m (k + c.n) t g hm (by omega) ht hvr (by omega), show m + (k + c.n) + (lc t : Int) = m + k + lc t + c.n by omega]
theorem putL_texts {k g : Int} {t : List UInt8} (ht : (pts t).isSome = true) : allV (putL k t g) = true := by
  have h0 : (pts []).isSome = true := by rw [pts_nil]; rfl
  unfold putL allV
  repeat' split
  all_goals simp [h0, ht]
theorem nf_texts : ∀ (l : List Cp) (k : Int) (t : List UInt8) (g : Int), (pts t).isSome = true → allV l = true → allV (nfF k t g l) = true
  | [], k, t, g, ht, _ => by rw [nfF]; exact putL_texts ht
  | c :: r, k, t, g, ht, hv => by
    simp only [allV, List.all_cons, Bool.and_eq_true] at hv
    obtain ⟨hvc, hvr⟩ := hv
    have h0 : (pts []).isSome = true := by rw [pts_nil]; rfl
    rw [nfF]
    repeat' split
    · exact nf_texts r k t g ht hvr
    · exact nf_texts r k _ g (pts_app ht hvc).2 hvr
    · exact nf_texts r k t _ ht hvr
    · unfold allV
      rw [List.all_append, Bool.and_eq_true]
      exact ⟨putL_texts ht, nf_texts r _ [] 0 h0 hvr⟩
    · exact nf_texts r _ t g ht hvr
theorem normal_shape : ∀ (l : List Cp) (p : Option Cp), shape (match p with | none => 0 | some c => c.k) l = true → allV l = true → normalF p l = true
  | [], _, _, _ => rfl
  | c :: r, p, h, hv => by
    simp only [shape, Bool.and_eq_true] at h
    simp only [allV, List.all_cons, Bool.and_eq_true] at hv
    simp only [normalF, Bool.and_eq_true]
    refine ⟨⟨?_, ?_⟩, normal_shape r (some c) h.2 hv.2⟩
    · have hn := h.1.1
      unfold neat at hn
      unfold sound
      split
      · rename_i h2
        rw [if_pos h2] at hn
        simp at hn
        simp [hn, hv.1]
      · rename_i h2
        rw [if_neg h2] at hn
        simp at hn
        rw [if_pos hn.1.1.1]
        simp [hn.2]; omega
    · cases p with
      | none => rfl
      | some q => exact h.1.2
theorem nf_normal {l : List Cp} (h : allV l = true) : normalL (nf l) = true :=
  normal_shape _ none (shape_nf l 0 0 [] 0 (by omega) (by omega) (.inl rfl)) (nf_texts l 0 [] 0 (by rw [pts_nil]; rfl) h)
theorem nf_base {l : List Cp} (h : sumN 0 l < 1073741824) : baseL (nf l) = baseL l := by
  rw [sumN_eq l (by omega)] at h
  have := base_nf l 0 0 [] 0 (by omega) (by omega) (by omega) (by omega)
  exact this
theorem nf_out {l : List Cp} (h : sumN 0 l < 1073741824) (hv : allV l = true) (ht : tot l ≤ 3000) : outL (nf l) = outL l := by
  rw [sumN_eq l (by omega)] at h
  have := out_nf l 0 0 [] 0 (by omega) (by omega) (by rw [pts_nil]; rfl) hv (by simp only [List.length_nil]; omega)
  exact this
theorem nf_okL {l : List Cp} (h : okL l) (h2 : l.length ≤ 1500) : okL (nf l) := by
  have h1 := nfF_ok l 0 [] 0 (by omega) (by omega)
  have h3 := h.2.1
  simp only [List.length_nil] at h1
  exact ⟨by unfold nf; omega, by unfold nf; omega, fun c hc => by have := h1.2.2 c hc; omega⟩
end Go.Proofs
end
