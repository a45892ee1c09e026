/-
  What an edit in its normal form does. Plain.
-/
import Derived.Test.YtmhpninemdmbkaaGreatDoorXZAq0
set_option linter.unusedSimpArgs false
set_option linter.unusedVariables false
set_option linter.defProp false

-- ZAq1
section
namespace Go.Proofs
open Go Go.Rw
set_option maxRecDepth 100000
theorem do_retN (cs : List Nat) (n : Int) (t : List UInt8) (r : List Cp) : doL cs (⟨1, n, t⟩ :: r) = cs.take n.toNat ++ doL (cs.drop n.toNat) r := by
  by_cases h : n > 0
  · rw [do_ret (by simp [qJ, h]) (by simp) (by simp)]
  · rw [do_no (by simp [qJ, h]), show n.toNat = 0 by omega]; simp
theorem do_delN (cs : List Nat) (n : Int) (t : List UInt8) (r : List Cp) : doL cs (⟨3, n, t⟩ :: r) = doL (cs.drop n.toNat) r := by
  by_cases h : n > 0
  · rw [do_del (by simp [qJ, h]) rfl]
  · rw [do_no (by simp [qJ, h]), show n.toNat = 0 by omega]; simp
theorem do_insN (cs : List Nat) (n : Int) (t : List UInt8) (r : List Cp) : doL cs (⟨2, n, t⟩ :: r) = cpts t ++ doL cs r := by
  by_cases h : t = []
  · subst h; rw [do_no (by simp [qJ]), kCN]; rfl
  · rw [do_ins (by simp [qJ, h]) rfl]
theorem do_putL (cs : List Nat) {k g : Int} (t : List UInt8) (r : List Cp) (hk : 0 ≤ k) (hg : 0 ≤ g) : doL cs (putL k t g ++ r) = cs.take k.toNat ++ (cpts t ++ doL (cs.drop (k + g).toNat) r) := by
  have e : doL cs (putL k t g ++ r) = doL cs (⟨1, k, []⟩ :: ⟨2, 0, t⟩ :: ⟨3, g, []⟩ :: r) := by
    unfold putL
    have h1 : k > 0 ∨ qJ ⟨1, k, []⟩ = false := by by_cases h : k > 0 <;> simp [qJ, h]
    have h2 : t ≠ [] ∨ qJ ⟨2, 0, t⟩ = false := by by_cases h : t = [] <;> simp [qJ, h]
    have h3 : g > 0 ∨ qJ ⟨3, g, []⟩ = false := by by_cases h : g > 0 <;> simp [qJ, h]
    by_cases a : k > 0 <;> by_cases b : t = [] <;> by_cases c : g > 0
    all_goals
      simp only [a, b, c, if_true, if_false, ne_eq, not_true_eq_false, not_false_eq_true, List.nil_append, List.cons_append]
    all_goals
      simp [do_retN, do_insN, do_delN, kCN, show ¬ k > 0 → k.toNat = 0 by omega, show ¬ g > 0 → g.toNat = 0 by omega, a, c]
  rw [e, do_retN, do_insN, do_delN, List.drop_drop, show (k + g).toNat = k.toNat + g.toNat by omega]
theorem some_k {c : Cp} (h : qJ c = true) : c.k = 2 ∨ ((c.k = 1 ∨ c.k = 3) ∧ 0 < c.n) := by
  unfold qJ at h
  by_cases h2 : c.k = 2
  · exact .inl h2
  · rw [if_neg h2] at h
    simp at h
    exact .inr h
theorem kFG : ∀ (l : List Cp) (k : Int) (t : List UInt8) (g : Int) (cs : List Nat), 0 ≤ k → 0 ≤ g → (pts t).isSome = true → allV l = true → k + g + tn l ≤ 1099511627776 →
    doL cs (nfF k t g l) = cs.take k.toNat ++ (cpts t ++ doL (cs.drop (k + g).toNat) l)
  | [], k, t, g, cs, hk, hg, _, _, _ => by
    have := do_putL cs t [] hk hg
    rw [List.append_nil] at this
    rw [nfF, this]
  | c :: r, k, t, g, cs, hk, hg, ht, hv, hb => by
    have htn := kEI r
    simp only [tn] at hb
    simp only [allV, List.all_cons, Bool.and_eq_true] at hv
    obtain ⟨hvc, hvr⟩ := hv
    by_cases hs : qJ c = false
    · rw [nf_no hs, do_no hs, kFG r k t g cs hk hg ht hvr (by omega)]
    · have hs : qJ c = true := by simpa using hs
      rcases some_k hs with h2 | ⟨h13, hp⟩
      · rw [kCk hs h2, do_ins hs h2, kFG r k _ g cs hk hg (pts_app ht hvc).2 hvr (by omega), cpts_app ht hvc, List.append_assoc]
      · have h2 : ¬ c.k = 2 := by omega
        by_cases h3 : c.k = 3
        · rw [kCr hs h3, jG (by omega), do_del hs h3, kFG r k t _ cs hk (by omega) ht hvr (by omega), List.drop_drop, show (k + (g + c.n)).toNat = (k + g).toNat + c.n.toNat by omega]
        · by_cases h4 : t ≠ [] ∨ g > 0
          · rw [kF0 hs h2 h3 h4, jG (by omega), do_putL cs t _ hk hg, kFG r _ [] 0 _ (by omega) (by omega) (by rw [kAr]; rfl) hvr (by omega), do_ret hs h2 h3, kCN]
            simp
          · have ht0 : t = [] := Classical.byContradiction fun h => h4 (.inl h)
            have hg0 : g = 0 := by omega
            subst ht0; subst hg0
            rw [kDJ hs h2 h3 h4, jG (by omega), kFG r _ [] 0 cs (by omega) (by omega) ht hvr (by omega), do_ret hs h2 h3, kCN, Int.add_zero, Int.add_zero, List.drop_drop, show (k + c.n).toNat = k.toNat + c.n.toNat by omega, List.take_add]
            simp
theorem do_nf {l : List Cp} {cs : List Nat} (hv : allV l = true) (hb : tn l ≤ 1099511627776) : doL cs (nf l) = doL cs l := by
  have := kFG l 0 [] 0 cs (by omega) (by omega) (by rw [kAr]; rfl) hv (by omega)
  unfold nf
  rw [this, kCN]; simp
end Go.Proofs
end
