/-
  OpOf answers true.
-/
import Derived.Test.YtknbfkmgoijncaaDoorXBUo6
set_option linter.unusedSimpArgs false
set_option linter.unusedVariables false
set_option linter.defProp false

-- BUo7
section
namespace Go.Proofs
open Go Go.Rw
set_option maxRecDepth 100000
set_option linter.unusedSimpArgs false
set_option linter.unusedVariables false

theorem nf_a : nf [⟨3, 1, []⟩, ⟨2, 0, [97]⟩] = [⟨2, 0, [97]⟩, ⟨3, 1, []⟩] := by decide +kernel
theorem okL_a : okL [⟨2, 0, [97]⟩, ⟨3, 1, []⟩] := ⟨by decide, by decide, by simp⟩
theorem pts_x : pts [120] = some [120] := by decide +kernel
theorem of_a : ofR 3 2 1 [] = res2 (.sl 0 3 []) 1 := by rw [ofR, if_pos (.inr (.inl (by omega)))]
theorem of_b : ofR 3 1 2 [120] = res2 (.sl 0 3 (comps [⟨1, 1, []⟩, ⟨2, 0, [120]⟩, ⟨3, 1, []⟩, ⟨1, 1, []⟩])) 0 := by
  rw [ofR, if_neg (by rintro (h | h | h | h) <;> first | exact absurd h (by omega) | (rw [pts_x] at h; cases h)), show ofL 3 1 2 [120] = [⟨1, 1, []⟩, ⟨2, 0, [120]⟩, ⟨3, 1, []⟩, ⟨1, 1, []⟩] by decide +kernel]
theorem check_a : checkI [⟨2, 0, [97]⟩, ⟨3, 1, []⟩] = 0 := by decide +kernel
theorem base_b : baseL [⟨1, 1, []⟩, ⟨2, 0, [120]⟩, ⟨3, 1, []⟩, ⟨1, 1, []⟩] = 3 := by decide +kernel
theorem out_b : outL [⟨1, 1, []⟩, ⟨2, 0, [120]⟩, ⟨3, 1, []⟩, ⟨1, 1, []⟩] = 3 := by decide +kernel
theorem check_c : checkI [⟨9, 0, []⟩] = 1 := by decide +kernel
theorem addI_eq {n m : Int} (h1 : n + m ≤ 1099511627776) : addI n m = n + m := by unfold addI; omega
theorem step_keep {a : Int} {r : List Cp} (ha : 0 ≤ a ∧ a ≤ 1099511627776) : nfF 0 [] 0 (⟨1, a, []⟩ :: r) = nfF a [] 0 r := by
  by_cases h : a > 0
  · rw [nf_keep (by simp [someC, h]) (by simp) (by simp) (by simp), addI_eq (by simp; omega)]
    simp
  · obtain rfl : a = 0 := by omega
    rw [nf_no (by simp [someC])]
theorem step_text {k : Int} {t : List UInt8} {r : List Cp} : nfF k [] 0 (⟨2, 0, t⟩ :: r) = nfF k t 0 r := by
  by_cases h : t = []
  · subst h
    rw [nf_no (by simp [someC])]
  · rw [nf_text (by simp [someC, h]) rfl, List.nil_append]
theorem step_gone {k d : Int} {t : List UInt8} {r : List Cp} (hd : 0 ≤ d ∧ d ≤ 1099511627776) : nfF k t 0 (⟨3, d, []⟩ :: r) = nfF k t d r := by
  by_cases h : d > 0
  · rw [nf_gone (by simp [someC, h]) rfl, addI_eq (by simp only; omega)]
    simp
  · obtain rfl : d = 0 := by omega
    rw [nf_no (by simp [someC])]
theorem ofL_cases {n a b : Int} {t : List UInt8} (ha : 0 ≤ a) (hb : a ≤ b) (hn : b ≤ n) (h : n ≤ 1000) :
    (n = b ∧ ofL n a b t = putL a t (b - a)) ∨ (b < n ∧ (t ≠ [] ∨ b - a > 0) ∧ ofL n a b t = putL a t (b - a) ++ putL (n - b) [] 0) ∨ (b < n ∧ t = [] ∧ b = a ∧ ofL n a b t = putL n [] 0) := by
  have e : ofL n a b t = nfF a t (b - a) [⟨1, n - b, []⟩] := by
    unfold ofL nf
    rw [step_keep (by omega), step_text, step_gone (by omega)]
  by_cases h1 : n = b
  · refine .inl ⟨h1, ?_⟩
    rw [e, nf_no (by simp [someC]; omega), nfF]
  · by_cases h2 : t ≠ [] ∨ b - a > 0
    · refine .inr (.inl ⟨by omega, h2, ?_⟩)
      rw [e, nf_put (by simp [someC]; omega) (by simp) (by simp) h2, nfF, addI_eq (by simp only; omega)]
      simp
    · have h3 : t = [] := Classical.byContradiction fun h => h2 (.inl h)
      have h4 : ¬ b - a > 0 := fun h => h2 (.inr h)
      refine .inr (.inr ⟨by omega, h3, by omega, ?_⟩)
      rw [e, nf_keep (by simp [someC]; omega) (by simp) (by simp) h2, nfF, addI_eq (by simp only; omega), h3, show b - a = 0 by omega, show a + (n - b) = n by omega]
theorem baseF_app : ∀ (x y : List Cp) (n : Int), baseF n (x ++ y) = baseF (baseF n x) y
  | [], _, _ => rfl
  | c :: x, y, n => by simp only [List.cons_append, baseF]; exact baseF_app x y _
theorem outF_app : ∀ (x y : List Cp) (n : Int), outF n (x ++ y) = outF (outF n x) y
  | [], _, _ => rfl
  | c :: x, y, n => by simp only [List.cons_append, outF]; exact outF_app x y _
theorem baseF_putL {m k g : Int} {t : List UInt8} (hk : 0 ≤ k) (hg : 0 ≤ g) (h : m + k + g ≤ 1099511627776) : baseF m (putL k t g) = m + k + g := by
  have e1 : baseF m (if k > 0 then [⟨1, k, []⟩] else []) = m + k := by
    split
    · simp only [baseF, true_or, if_true, addI]; omega
    · simp only [baseF]; omega
  have e2 : baseF (m + k) (if t ≠ [] then [⟨2, 0, t⟩] else []) = m + k := by
    split
    · simp [baseF]
    · rfl
  have e3 : baseF (m + k) (if g > 0 then [⟨3, g, []⟩] else []) = m + k + g := by
    split
    · simp only [baseF, or_true, if_true, addI]; omega
    · simp only [baseF]; omega
  rw [putL, baseF_app, e1, baseF_app, e2, e3]
theorem outF_putL {m k g : Int} {t : List UInt8} (hk : 0 ≤ k) (h : m + k + lc t ≤ 1099511627776) : outF m (putL k t g) = m + k + lc t := by
  have e1 : outF m (if k > 0 then [⟨1, k, []⟩] else []) = m + k := by
    split
    · simp only [outF, if_true, addI]; omega
    · simp only [outF]; omega
  have e2 : outF (m + k) (if t ≠ [] then [⟨2, 0, t⟩] else []) = m + k + lc t := by
    split
    · simp [outF, addI]; omega
    · rename_i h
      have : t = [] := Classical.byContradiction fun h2 => h h2
      subst this
      simp [outF, lc_nil]
  have e3 : outF (m + k + lc t) (if g > 0 then [⟨3, g, []⟩] else []) = m + k + lc t := by
    split
    · simp [outF]
    · rfl
  rw [putL, outF_app, e1, outF_app, e2, e3]
theorem normal_putL {k g e : Int} {t : List UInt8} (hs : (pts t).isSome = true) (h : e > 0 → t ≠ [] ∨ g > 0) : normalL (putL k t g ++ (if e > 0 then [⟨1, e, []⟩] else [])) = true := by
  unfold putL normalL
  by_cases h1 : k > 0
  · by_cases h2 : t = []
    · by_cases h3 : g > 0
      · by_cases h4 : e > 0
        · simp only [h1, h2, h3, h4, if_true, if_false, ne_eq, not_true_eq_false, not_false_eq_true, List.nil_append, List.append_nil, List.cons_append]
          simp [normalF, sound, follows]; omega
        · simp only [h1, h2, h3, h4, if_true, if_false, ne_eq, not_true_eq_false, not_false_eq_true, List.nil_append, List.append_nil, List.cons_append]
          simp [normalF, sound, follows]; omega
      · have h4 : ¬ e > 0 := fun he => by rcases h he with h | h <;> contradiction
        simp only [h1, h2, h3, h4, if_true, if_false, ne_eq, not_true_eq_false, not_false_eq_true, List.nil_append, List.append_nil, List.cons_append]
        simp [normalF, sound, follows]; omega
    · by_cases h3 : g > 0 <;> by_cases h4 : e > 0 <;> (simp only [h1, h2, h3, h4, if_true, if_false, ne_eq, not_true_eq_false, not_false_eq_true, List.nil_append, List.append_nil, List.cons_append]; simp [normalF, sound, follows, hs, h2]; omega)
  · by_cases h2 : t = []
    · by_cases h3 : g > 0
      · by_cases h4 : e > 0
        · simp only [h1, h2, h3, h4, if_true, if_false, ne_eq, not_true_eq_false, not_false_eq_true, List.nil_append, List.append_nil, List.cons_append]
          simp [normalF, sound, follows]; omega
        · simp only [h1, h2, h3, h4, if_true, if_false, ne_eq, not_true_eq_false, not_false_eq_true, List.nil_append, List.append_nil, List.cons_append]
          simp [normalF, sound, follows]; omega
      · have h4 : ¬ e > 0 := fun he => by rcases h he with h | h <;> contradiction
        simp only [h1, h2, h3, h4, if_true, if_false, ne_eq, not_true_eq_false, not_false_eq_true, List.nil_append, List.append_nil, List.cons_append]
        simp [normalF]
    · by_cases h3 : g > 0 <;> by_cases h4 : e > 0 <;> (simp only [h1, h2, h3, h4, if_true, if_false, ne_eq, not_true_eq_false, not_false_eq_true, List.nil_append, List.append_nil, List.cons_append]; simp [normalF, sound, follows, hs, h2]; try omega)
theorem check_of {l : List Cp} (h1 : l.length ≤ 100) (h2 : normalL l = true) (h3 : baseL l ≤ 2000) (h4 : outL l ≤ 2000) : checkI l = 0 := by
  rw [checkI, if_neg (by omega), if_neg (by rw [h2]; decide), if_neg (by omega)]
theorem put_one (e : Int) : putL e [] 0 = if e > 0 then [⟨1, e, []⟩] else [] := by unfold putL; split <;> rfl
theorem of_law {n a b : Int} {t : List UInt8} {cs : List Nat} (ha : 0 ≤ a) (hb : a ≤ b) (hn : b ≤ n) (h : n ≤ 1000) (ht : pts t = some cs) (hl : t.length ≤ 300) :
    checkI (ofL n a b t) = 0 ∧ baseL (ofL n a b t) = n ∧ outL (ofL n a b t) = n - (b - a) + cs.length := by
  obtain ⟨hok, rfl⟩ := pts_some ht
  have hlc := lc_encs cs hok
  have hcl := encs_le cs
  have hnil : encs cs = [] → cs.length = 0 := fun h => by
    cases cs with
    | nil => rfl
    | cons c cs => have := encs_pos (c := c) (cs := cs); rw [h] at this; simp at this
  generalize encs cs = t at *
  have hsome : (pts t).isSome = true := by rw [ht]; rfl
  have hp := putL_len a t (b - a)
  have hq := putL_len (n - b) [] 0
  have hr := putL_len n [] 0
  rcases ofL_cases (t := t) ha hb hn h with ⟨h5, e⟩ | ⟨h5, h6, e⟩ | ⟨h5, h6, h7, e⟩
  · rw [e]
    have b1 : baseL (putL a t (b - a)) = n := by rw [baseL, baseF_putL ha (by omega) (by omega)]; omega
    have o1 : outL (putL a t (b - a)) = n - (b - a) + cs.length := by rw [outL, outF_putL ha (by omega)]; omega
    have nn := normal_putL (k := a) (g := b - a) (e := 0) hsome (by omega)
    rw [if_neg (by omega), List.append_nil] at nn
    exact ⟨check_of (by omega) nn (by omega) (by omega), b1, o1⟩
  · rw [e]
    have b1 : baseL (putL a t (b - a) ++ putL (n - b) [] 0) = n := by rw [baseL, baseF_app, baseF_putL ha (by omega) (by omega), baseF_putL (by omega) (by omega) (by omega)]; omega
    have o1 : outL (putL a t (b - a) ++ putL (n - b) [] 0) = n - (b - a) + cs.length := by rw [outL, outF_app, outF_putL ha (by omega), outF_putL (by omega) (by rw [lc_nil]; omega), lc_nil]; omega
    have nn := normal_putL (k := a) (g := b - a) (e := n - b) hsome (fun _ => h6)
    rw [← put_one] at nn
    exact ⟨check_of (by rw [List.length_append]; omega) nn (by omega) (by omega), b1, o1⟩
  · rw [e]
    have hc := hnil h6
    have b1 : baseL (putL n [] 0) = n := by rw [baseL, baseF_putL (by omega) (by omega) (by omega)]; omega
    have o1 : outL (putL n [] 0) = n - (b - a) + cs.length := by rw [outL, outF_putL (by omega) (by rw [lc_nil]; omega), lc_nil]; omega
    have nn := normal_putL (k := n) (t := []) (g := 0) (e := 0) (by rw [pts_nil]; rfl) (by omega)
    rw [if_neg (by omega), List.append_nil] at nn
    exact ⟨check_of (by omega) nn (by omega) (by omega), b1, o1⟩
theorem ofL_ok {n a b : Int} {t : List UInt8} (ha : 0 ≤ a ∧ a ≤ 9223372036854775807) (hb : a ≤ b) (hn : b ≤ n ∧ n ≤ 9223372036854775807) (ht : t.length ≤ 1099511627776) : okL (ofL n a b t) := by
  have h := nfF_ok [⟨1, a, []⟩, ⟨2, 0, t⟩, ⟨3, b - a, []⟩, ⟨1, n - b, []⟩] 0 [] 0 (by omega) (by omega)
  simp only [tot, List.length_cons, List.length_nil] at h
  exact ⟨by unfold ofL nf; omega, by unfold ofL nf; omega, fun c hc => by have := h.2.2 c hc; omega⟩
abbrev StrW := { l : List UInt8 // l.length ≤ 9223372036854775807 }
abbrev opofCon : Con where
  ι := I64 × I64 × I64 × StrW
  args := fun p => [.v (.int .i64 p.1.1), .v (.int .i64 p.2.1.1), .v (.int .i64 p.2.2.1.1), .v (sv p.2.2.2.1)]
  post := fun _ r => r = .v (.bool true)
  plain := true
theorem cnt_pts {t : List UInt8} {cs : List Nat} (h : pts t = some cs) : cnt t = cs.length := by unfold cnt; rw [h]
end Go.Proofs
end
