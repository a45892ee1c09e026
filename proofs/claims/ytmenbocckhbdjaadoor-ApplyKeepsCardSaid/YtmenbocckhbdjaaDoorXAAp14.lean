/-
  What a found edit keeps. Plain.
-/
import Derived.Test.YtmenbocckhbdjaaDoorXAAp13
set_option linter.unusedSimpArgs false
set_option linter.unusedVariables false
set_option linter.defProp false

-- AAp14
section
namespace Go.Proofs
open Go Go.Rw
set_option maxRecDepth 100000
set_option linter.unusedSimpArgs false
set_option linter.unusedVariables false

theorem pts_head : ∀ (hc : List Nat) (r : List UInt8) (x : List Nat), (∀ c ∈ hc, okc c) → pts (encs hc ++ r) = some x → ∃ rc, x = hc ++ rc ∧ pts r = some rc
  | [], r, x, _, h => ⟨x, rfl, h⟩
  | c :: hc, r, x, ho, h => by
    have h0 := ho c (by simp)
    have hw := wid_pos c
    have hne : encs (c :: hc) ++ r ≠ [] := by
      intro e
      have := congrArg List.length e
      rw [List.length_append, encs_cons_len, List.length_nil] at this; omega
    rw [pts_step hne, encs_cons, List.append_assoc, pnt_enc h0, if_neg (by omega)] at h
    simp only at h
    rw [show (enc c ++ (encs hc ++ r)).drop (wid c) = encs hc ++ r by rw [← enc_len c, List.drop_left]] at h
    cases hp : pts (encs hc ++ r) with
    | none => rw [hp] at h; cases h
    | some z =>
      rw [hp] at h
      simp only [Option.map_some, Option.some.injEq] at h
      obtain ⟨rc, h1, h2⟩ := pts_head hc r z (fun x hx => ho x (by simp [hx])) hp
      exact ⟨rc, by rw [← h, h1]; rfl, h2⟩
theorem pts_tail : ∀ (z : List Nat) (a : List UInt8) (tc : List Nat), (∀ c ∈ z, okc c) → (∀ c ∈ tc, okc c) → a ++ encs tc = encs z → ∃ ac, a = encs ac ∧ z = ac ++ tc ∧ ∀ c ∈ ac, okc c
  | z, [], tc, hz, ht, h => by
    rw [List.nil_append] at h
    have h1 := pts_enc ht
    rw [h, pts_enc hz] at h1
    exact ⟨[], rfl, by simpa using h1, by simp⟩
  | [], x :: a, tc, _, _, h => by simp [encs_nil] at h
  | c :: z, x :: a, tc, hz, ht, h => by
    have h0 := hz c (by simp)
    have hw := wid_pos c
    rw [encs_cons] at h
    by_cases hl : wid c ≤ (x :: a).length
    · have e1 : x :: a = enc c ++ (x :: a).drop (wid c) := by
        have := congrArg (List.take (wid c)) h
        rw [List.take_append_of_le_length hl, ← enc_len c, List.take_left] at this
        rw [← enc_len c]
        conv => lhs; rw [← List.take_append_drop (enc c).length (x :: a), this]
      have h2 : (x :: a).drop (wid c) ++ encs tc = encs z := by
        have h4 := h
        rw [e1, List.append_assoc] at h4
        exact List.append_cancel_left h4
      have hlt : ((x :: a).drop (wid c)).length < (x :: a).length := by rw [List.length_drop, List.length_cons]; omega
      obtain ⟨ac, h3, h4, h5⟩ := pts_tail z ((x :: a).drop (wid c)) tc (fun y hy => hz y (by simp [hy])) ht h2
      refine ⟨c :: ac, by rw [encs_cons, ← h3]; exact e1, by rw [h4]; rfl, fun y hy => ?_⟩
      rcases List.mem_cons.1 hy with rfl | hy
      · exact h0
      · exact h5 y hy
    · exfalso
      have hlen := congrArg List.length h
      rw [List.length_append, List.length_append, enc_len] at hlen
      cases tc with
      | nil => rw [encs_nil, List.length_nil] at hlen; omega
      | cons d tc =>
        have h1 := congrArg (fun l => l.getD (x :: a).length 0) h
        simp only [List.getD_eq_getElem?_getD] at h1
        rw [List.getElem?_append_right (Nat.le_refl _), Nat.sub_self, List.getElem?_append_left (by rw [enc_len]; omega)] at h1
        have h2 := enc_cont h0 (j := (x :: a).length) (by simp) (by omega)
        have h3 := enc_head (ht d (by simp))
        have h4 : (encs (d :: tc)).getD 0 0 = (enc d).getD 0 0 := by
          rw [encs_cons]
          simp only [List.getD_eq_getElem?_getD]
          rw [List.getElem?_append_left (by rw [enc_len]; exact wid_pos d)]
        simp only [List.getD_eq_getElem?_getD] at h2 h3 h4
        rw [← h1, h4] at h2
        omega
theorem lcp_min : ∀ (u A B : List Nat) (m n : Nat), m ≤ (u ++ A).length → n ≤ (u ++ B).length → min u.length (min m n) ≤ lcp ((u ++ A).take m) ((u ++ B).take n)
  | [], _, _, _, _, _, _ => by simp
  | a :: u, A, B, 0, n, _, _ => by simp
  | a :: u, A, B, m + 1, 0, _, _ => by simp
  | a :: u, A, B, m + 1, n + 1, h1, h2 => by
    have := lcp_min u A B m n (by simpa using h1) (by simpa using h2)
    simp only [List.cons_append, List.take_succ_cons, lcp, if_true, List.length_cons]
    omega
theorem kept_ge (h a b t : List Nat) : h.length + t.length ≤ pfx (h ++ (a ++ t)) (h ++ (b ++ t)) + sfx (h ++ (a ++ t)) (h ++ (b ++ t)) := by
  have hp : h.length ≤ pfx (h ++ (a ++ t)) (h ++ (b ++ t)) := lcp_app h _ _
  have hle := lcp_le (h ++ (a ++ t)) (h ++ (b ++ t))
  unfold sfx
  generalize hP : pfx (h ++ (a ++ t)) (h ++ (b ++ t)) = p at *
  have hp2 : p ≤ (h ++ (a ++ t)).length ∧ p ≤ (h ++ (b ++ t)).length := by unfold pfx at hP; omega
  have e1 : ((h ++ (a ++ t)).drop p).reverse = (t.reverse ++ (h ++ a).reverse).take ((h ++ (a ++ t)).length - p) := by
    rw [List.reverse_drop]
    congr 1
    simp
  have e2 : ((h ++ (b ++ t)).drop p).reverse = (t.reverse ++ (h ++ b).reverse).take ((h ++ (b ++ t)).length - p) := by
    rw [List.reverse_drop]
    congr 1
    simp
  have h1 := lcp_min t.reverse (h ++ a).reverse (h ++ b).reverse ((h ++ (a ++ t)).length - p) ((h ++ (b ++ t)).length - p) (by simp; omega) (by simp; omega)
  rw [e1, e2]
  simp only [List.length_reverse, List.length_append] at h1 hp2 ⊢
  omega
/-- How much is kept. -/
def kp : List Cp → Int
  | [] => 0
  | c :: r => (if c.k = 1 then max c.n 0 else 0) + kp r
theorem kp_pos : ∀ l : List Cp, 0 ≤ kp l
  | [] => by simp [kp]
  | c :: r => by have := kp_pos r; simp only [kp]; split <;> omega
theorem kp_app : ∀ a b : List Cp, kp (a ++ b) = kp a + kp b
  | [], b => by simp [kp]
  | c :: a, b => by simp only [List.cons_append, kp, kp_app a b]; omega
theorem kp_putL {k g : Int} {t : List UInt8} (hk : 0 ≤ k) : kp (putL k t g) = k := by
  unfold putL
  by_cases a : k > 0 <;> by_cases b : t = [] <;> by_cases c : g > 0 <;> simp [a, b, c, kp] <;> omega
theorem kp_nfF : ∀ (l : List Cp) (k g : Int) (t : List UInt8), 0 ≤ k → 0 ≤ g → k + g + tn l ≤ 1099511627776 → kp (nfF k t g l) = k + kp l
  | [], k, g, t, hk, _, _ => by rw [nfF, kp_putL hk]; simp [kp]
  | c :: r, k, g, t, hk, hg, hb => by
    have htn := tn_pos r
    simp only [tn] at hb
    simp only [kp]
    by_cases hs : someC c = false
    · rw [nf_no hs, kp_nfF r k g t hk hg (by omega)]
      split
      · rename_i h1
        have : c.n ≤ 0 := by
          unfold someC at hs
          rw [if_neg (by omega)] at hs
          simp at hs
          exact hs (by omega)
        omega
      · omega
    · have hs : someC c = true := by simpa using hs
      rcases some_k hs with h2 | ⟨h13, hp⟩
      · rw [nf_text hs h2, kp_nfF r k g _ hk hg (by omega), if_neg (by omega)]; omega
      · have h2 : ¬ c.k = 2 := by omega
        by_cases h3 : c.k = 3
        · rw [nf_gone hs h3, addI_eq (by omega), kp_nfF r k _ t hk (by omega) (by omega), if_neg (by omega)]; omega
        · by_cases h4 : t ≠ [] ∨ g > 0
          · rw [nf_put hs h2 h3 h4, addI_eq (by omega), kp_app, kp_putL hk, kp_nfF r _ 0 [] (by omega) (by omega) (by omega), if_pos (by omega)]; omega
          · rw [nf_keep hs h2 h3 h4, addI_eq (by omega), kp_nfF r _ g t (by omega) hg (by omega), if_pos (by omega)]; omega
theorem kp_diff {x y : List Nat} (hx : x.length ≤ 1099511627776) : kp (diffL x y) = pfx x y + sfx x y := by
  have hle := sfx_le x y
  unfold diffL ofL nf
  rw [kp_nfF _ 0 0 [] (by omega) (by omega) (by simp only [tn]; omega)]
  simp [kp]; omega
theorem diff_out {x y : List Nat} (hx : x.length ≤ 1000000) (hy : ∀ c ∈ y, okc c) (hy2 : (encs y).length ≤ 1000000) : outL (diffL x y) = y.length := by
  have hle := sfx_le x y
  have hm := mid_ok (x := x) hy
  have hml := encs_mid_le x y
  have hmp : (pts (encs (midL x y))).isSome = true := by rw [pts_enc hm]; rfl
  have hlc : lc (encs (midL x y)) = (midL x y).length := lc_encs _ hm
  have hl : (midL x y).length = y.length - sfx x y - pfx x y := by unfold midL; rw [List.length_take, List.length_drop]; omega
  have h1 := out_nf [⟨1, ((pfx x y : Nat) : Int), []⟩, ⟨2, 0, encs (midL x y)⟩, ⟨3, (x.length : Int) - (sfx x y : Int) - (pfx x y : Nat), []⟩, ⟨1, (x.length : Int) - ((x.length : Int) - (sfx x y : Int)), []⟩] 0 0 [] 0 (by omega) (by omega) (by rw [pts_nil]; rfl) (by simp [allV, pts_nil, hmp]) (by simp only [tn, tot, List.length_nil]; omega)
  unfold outL diffL ofL nf
  rw [h1]
  simp only [outF, lc_nil, hlc, hl, addI, if_pos, if_neg, show ((1 : Nat) = 2) = False by simp, show ((3 : Nat) = 2) = False by simp, show ((3 : Nat) = 3) = True by simp, show ((1 : Nat) = 3) = False by simp, show ((2 : Nat) = 2) = True by simp]
  simp
  have hyl := encs_le y
  omega
theorem diff_texts {x y : List Nat} (hy : ∀ c ∈ y, okc c) : normalL (diffL x y) = true := by
  have hm := mid_ok (x := x) hy
  have hmp : (pts (encs (midL x y))).isSome = true := by rw [pts_enc hm]; rfl
  exact nf_normal (by simp [allV, pts_nil, hmp])
theorem diff_check {x y : List Nat} (hx : x.length ≤ 2000) (hy : ∀ c ∈ y, okc c) (hy1 : y.length ≤ 2000) (hy2 : (encs y).length ≤ 1000000) : checkI (diffL x y) = 0 := by
  have h1 := ofL_len x.length (pfx x y) ((x.length : Int) - (sfx x y : Nat)) (encs (midL x y))
  have h2 := diff_base (x := x) (y := y) (by omega)
  have h3 := diff_out (x := x) (y := y) (by omega) hy hy2
  unfold checkI
  rw [if_neg (by unfold diffL; omega), if_neg (by rw [diff_texts hy]; decide), if_neg (by omega)]
theorem lcp_self : ∀ x : List Nat, lcp x x = x.length
  | [] => rfl
  | a :: x => by simp [lcp, lcp_self x]; omega
theorem diff_same (x : List Nat) : (diffL x x).any busy = false := by
  have hp : pfx x x = x.length := lcp_self x
  have hs : sfx x x = 0 := by unfold sfx; rw [hp, List.drop_length]; rfl
  have hm : midL x x = [] := by unfold midL; rw [hp, List.drop_length]; simp
  unfold diffL ofL
  rw [hp, hs, hm]
  by_cases h : (x.length : Int) > 0
  · unfold nf
    rw [nf_keep (by simp [someC]; omega) (by simp) (by simp) (by simp), nf_no (by simp [someC, encs_nil]), nf_no (by simp [someC]), nf_no (by simp [someC]), nfF]
    unfold putL
    simp [busy]
  · have : x.length = 0 := by omega
    rw [this]
    decide +kernel
end Go.Proofs
end
