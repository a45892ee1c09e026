/-
  What undoes an edit is undone by the edit. Plain.
-/
import Derived.Test.YtmenbocckhbdjaaDoorXAAp10
set_option linter.unusedSimpArgs false
set_option linter.unusedVariables false
set_option linter.defProp false

-- AAp11
section
namespace Go.Proofs
open Go Go.Rw
set_option maxRecDepth 100000
set_option linter.unusedSimpArgs false
set_option linter.unusedVariables false

theorem nf_retK (K G k : Int) (T : List UInt8) (hK : 0 ≤ K) (hG : 0 ≤ G) (hk : 0 ≤ k) (hb : K + k ≤ 1099511627776) :
    ∃ (out : List Cp) (K2 : Int) (T2 : List UInt8) (G2 : Int), (0 ≤ K2 ∧ K2 ≤ K + k) ∧ (0 ≤ G2 ∧ G2 ≤ G) ∧ ∀ L, nfF K T G (⟨1, k, []⟩ :: L) = out ++ nfF K2 T2 G2 L := by
  by_cases h : k > 0
  · by_cases h4 : T ≠ [] ∨ G > 0
    · refine ⟨putL K T G, k, [], 0, by omega, by omega, fun L => ?_⟩
      rw [nf_put (by simp [someC, h]) (by simp) (by simp) h4, addI_eq (by simp only; omega)]
      simp
    · refine ⟨[], K + k, T, G, by omega, by omega, fun L => ?_⟩
      rw [nf_keep (by simp [someC, h]) (by simp) (by simp) h4, addI_eq (by simp only; omega)]
      rfl
  · exact ⟨[], K, T, G, by omega, by omega, fun L => by rw [nf_no (by simp [someC, h])]; rfl⟩
theorem nf_ret2 {K G k n : Int} {T : List UInt8} {L : List Cp} (hK : 0 ≤ K) (hG : 0 ≤ G) (hk : 0 ≤ k) (hn : 0 ≤ n) (hb : K + k + n ≤ 1099511627776) : nfF K T G (⟨1, k + n, []⟩ :: L) = nfF K T G (⟨1, k, []⟩ :: ⟨1, n, []⟩ :: L) := by
  by_cases h : k > 0
  · have s1 : someC ⟨1, k, []⟩ = true := by simp [someC, h]
    have s2 : someC ⟨1, k + n, []⟩ = true := by simp [someC]; omega
    by_cases h4 : T ≠ [] ∨ G > 0
    · rw [nf_put s1 (by simp) (by simp) h4, nf_put s2 (by simp) (by simp) h4, addI_eq (by simp only; omega), addI_eq (by simp only; omega)]
      by_cases h5 : n > 0
      · rw [nf_keep (c := ⟨1, n, []⟩) (by simp [someC, h5]) (by simp) (by simp) (by simp), addI_eq (by simp only; omega)]
        simp only
        rw [show 0 + k + n = 0 + (k + n) by omega]
      · rw [nf_no (c := ⟨1, n, []⟩) (by simp [someC, h5]), show n = 0 by omega, Int.add_zero]
    · rw [nf_keep s1 (by simp) (by simp) h4, nf_keep s2 (by simp) (by simp) h4, addI_eq (by simp only; omega), addI_eq (by simp only; omega)]
      by_cases h5 : n > 0
      · rw [nf_keep (c := ⟨1, n, []⟩) (by simp [someC, h5]) (by simp) (by simp) h4, addI_eq (by simp only; omega)]
        simp only
        rw [show K + k + n = K + (k + n) by omega]
      · rw [nf_no (c := ⟨1, n, []⟩) (by simp [someC, h5]), show n = 0 by omega, Int.add_zero]
  · have e : k = 0 := by omega
    subst e
    rw [nf_no (c := ⟨1, 0, []⟩) (by simp [someC]), Int.zero_add]
theorem un_putL (x : List Nat) (K G k g : Int) (T t : List UInt8) (R : List Cp) (hk : 0 ≤ k) (hg : 0 ≤ g) :
    nfF K T G (unF x (putL k t g ++ R)) = nfF K T G (⟨1, k, []⟩ :: ⟨3, (cpts t).length, []⟩ :: ⟨2, 0, encs ((x.drop k.toNat).take g.toNat)⟩ :: unF (x.drop (k + g).toNat) R) := by
  have key : ∀ (c : Cp) (K G : Int) (T : List UInt8) (L : List Cp), someC c = false → nfF K T G (c :: L) = nfF K T G L := fun c K G T L h => nf_no h
  -- whatever is none may be put in or left out, wherever it stands
  have skip : ∀ (A : List Cp) (c : Cp) (K G : Int) (T : List UInt8) (L : List Cp), someC c = false → nfF K T G (A ++ c :: L) = nfF K T G (A ++ L) := by
    intro A
    induction A with
    | nil => intro c K G T L h; exact nf_no h
    | cons a A ih =>
      intro c K G T L h
      rw [List.cons_append, List.cons_append, nfF, nfF]
      split
      · exact ih c _ _ _ L h
      · split
        · exact ih c _ _ _ L h
        · split
          · exact ih c _ _ _ L h
          · split
            · rw [ih c _ _ _ L h]
            · exact ih c _ _ _ L h
  have hz : (k + g).toNat = k.toNat + g.toNat := by omega
  have n1 : ¬ k > 0 → someC ⟨1, k, []⟩ = false := fun h => by simp [someC, h]
  have n2 : t = [] → someC ⟨3, (cpts t).length, []⟩ = false := fun h => by subst h; simp [someC, cpts_nil]
  have n3 : ¬ g > 0 → someC ⟨2, 0, encs ((x.drop k.toNat).take g.toNat)⟩ = false := fun h => by
    rw [show g.toNat = 0 by omega]; simp [someC, encs_nil]
  unfold putL
  by_cases a : k > 0 <;> by_cases b : t = [] <;> by_cases c : g > 0
  all_goals
    simp only [a, b, c, if_true, if_false, ne_eq, not_true_eq_false, not_false_eq_true, List.nil_append, List.cons_append]
  · rw [un_ret (by simp [someC, a]) (by simp) (by simp), un_del (by simp [someC, c]) rfl, List.drop_drop, hz]
    have := skip [⟨1, k, []⟩] ⟨3, (cpts t).length, []⟩ K G T (⟨2, 0, encs ((x.drop k.toNat).take g.toNat)⟩ :: unF (x.drop (k.toNat + g.toNat)) R) (n2 b)
    simp only [List.cons_append, List.nil_append] at this
    subst b
    exact this.symm
  · rw [un_ret (by simp [someC, a]) (by simp) (by simp)]
    have h1 := skip [⟨1, k, []⟩] ⟨3, (cpts t).length, []⟩ K G T (⟨2, 0, encs ((x.drop k.toNat).take g.toNat)⟩ :: unF (x.drop (k + g).toNat) R) (n2 b)
    have h2 := skip [⟨1, k, []⟩] ⟨2, 0, encs ((x.drop k.toNat).take g.toNat)⟩ K G T (unF (x.drop (k + g).toNat) R) (n3 c)
    simp only [List.cons_append, List.nil_append] at h1 h2
    subst b
    rw [h1, h2, hz, show g.toNat = 0 by omega, Nat.add_zero]
  · rw [un_ret (by simp [someC, a]) (by simp) (by simp), un_ins (by simp [someC, b]) rfl, un_del (by simp [someC, c]) rfl, List.drop_drop, hz]
  · rw [un_ret (by simp [someC, a]) (by simp) (by simp), un_ins (by simp [someC, b]) rfl]
    have h2 := skip [⟨1, k, []⟩, ⟨3, (cpts t).length, []⟩] ⟨2, 0, encs ((x.drop k.toNat).take g.toNat)⟩ K G T (unF (x.drop (k + g).toNat) R) (n3 c)
    simp only [List.cons_append, List.nil_append] at h2
    rw [h2, hz, show g.toNat = 0 by omega, Nat.add_zero]
  · rw [un_del (by simp [someC, c]) rfl, key _ _ _ _ _ (n1 a)]
    have e := key ⟨3, (cpts t).length, []⟩ K G T (⟨2, 0, encs ((x.drop k.toNat).take g.toNat)⟩ :: unF (x.drop (k + g).toNat) R) (n2 b)
    subst b
    rw [e, hz, show k.toNat = 0 by omega]; simp
  · have e1 := key ⟨3, (cpts t).length, []⟩ K G T (⟨2, 0, encs ((x.drop k.toNat).take g.toNat)⟩ :: unF (x.drop (k + g).toNat) R) (n2 b)
    subst b
    rw [key _ _ _ _ _ (n1 a), e1, key _ _ _ _ _ (n3 c), hz, show k.toNat = 0 by omega, show g.toNat = 0 by omega]; simp
  · rw [un_ins (by simp [someC, b]) rfl, un_del (by simp [someC, c]) rfl, key _ _ _ _ _ (n1 a), hz, show k.toNat = 0 by omega]; simp
  · rw [un_ins (by simp [someC, b]) rfl, key _ _ _ _ _ (n1 a)]
    have h2 := skip [⟨3, (cpts t).length, []⟩] ⟨2, 0, encs ((x.drop k.toNat).take g.toNat)⟩ K G T (unF (x.drop (k + g).toNat) R) (n3 c)
    simp only [List.cons_append, List.nil_append] at h2
    rw [h2, hz, show k.toNat = 0 by omega, show g.toNat = 0 by omega]; simp
theorem nf_un : ∀ (m : List Cp) (k g : Int) (t : List UInt8) (x : List Nat) (K G : Int) (T : List UInt8), 0 ≤ k → 0 ≤ g → 0 ≤ K → 0 ≤ G → (pts t).isSome = true → allV m = true → K + k + G + g + (cpts t).length + tn m + tot m ≤ 1099511627776 →
    nfF K T G (unF x (nfF k t g m)) = nfF K T G (⟨1, k, []⟩ :: ⟨3, (cpts t).length, []⟩ :: ⟨2, 0, encs ((x.drop k.toNat).take g.toNat)⟩ :: unF (x.drop (k + g).toNat) m)
  | [], k, g, t, x, K, G, T, hk, hg, hK, hG, ht, hv, hb => by
    have := un_putL x K G k g T t [] hk hg
    rw [List.append_nil] at this
    rw [nfF, this]
  | c :: r, k, g, t, x, K, G, T, hk, hg, hK, hG, ht, hv, hb => by
    have htn := tn_pos r
    simp only [tn, tot] at hb
    simp only [allV, List.all_cons, Bool.and_eq_true] at hv
    obtain ⟨hvc, hvr⟩ := hv
    have hcl := cpts_len_le c.t
    by_cases hs : someC c = false
    · rw [nf_no hs, un_no hs]
      exact nf_un r k g t x K G T hk hg hK hG ht hvr (by omega)
    · have hs : someC c = true := by simpa using hs
      rcases some_k hs with h2 | ⟨h13, hp⟩
      · have hl : (cpts (t ++ c.t)).length = (cpts t).length + (cpts c.t).length := by rw [cpts_app ht hvc, List.length_append]
        rw [nf_text hs h2, un_ins hs h2, nf_un r k g (t ++ c.t) x K G T hk hg hK hG (pts_app ht hvc).2 hvr (by omega), hl]
        obtain ⟨out, K2, T2, G2, b1, b2, h⟩ := nf_retK K G k T hK hG hk (by omega)
        rw [h, h, nf_delN (by omega) (by omega), nf_insN, nf_delN (by omega) (by omega), nf_insN, nf_delN (by omega) (by omega)]
        rw [show G2 + (((cpts t).length + (cpts c.t).length : Nat) : Int) = G2 + (cpts t).length + (cpts c.t).length by omega]
      · have h2 : ¬ c.k = 2 := by omega
        by_cases h3 : c.k = 3
        · rw [nf_gone hs h3, addI_eq (by omega), un_del hs h3, nf_un r k (g + c.n) t x K G T hk (by omega) hK hG ht hvr (by omega), List.drop_drop]
          obtain ⟨out, K2, T2, G2, b1, b2, h⟩ := nf_retK K G k T hK hG hk (by omega)
          rw [h, h, nf_delN (by omega) (by omega), nf_insN, nf_delN (by omega) (by omega), nf_insN, nf_insN]
          rw [show (g + c.n).toNat = g.toNat + c.n.toNat by omega, List.take_add, encs_app, List.drop_drop, List.append_assoc, show k.toNat + g.toNat = (k + g).toNat by omega, show (k + (g + c.n)).toNat = (k + g).toNat + c.n.toNat by omega]
        · by_cases h4 : t ≠ [] ∨ g > 0
          · rw [nf_put hs h2 h3 h4, addI_eq (by omega), un_putL x K G k g T t _ hk hg]
            have hcl2 := cpts_len_le t
            obtain ⟨out, K2, T2, G2, b1, b2, _, h⟩ := nf_three K G k (cpts t).length T (encs ((x.drop k.toNat).take g.toNat)) hK hG hk (by omega) (by omega) (by omega)
            rw [h, h, nf_un r (0 + c.n) 0 [] _ K2 G2 T2 (by omega) (by omega) b1.1 b2.1 (by rw [pts_nil]; rfl) hvr (by rw [cpts_nil, List.length_nil]; omega), un_ret hs h2 h3, cpts_nil, Int.zero_add, Int.add_zero]
            obtain ⟨out3, K3, T3, G3, b3, b4, h'⟩ := nf_retK K2 G2 c.n T2 b1.1 b2.1 (by omega) (by omega)
            rw [h', h', nf_delN (by simp) (by simp; omega), nf_insN]
            simp [encs_nil]
          · have ht0 : t = [] := Classical.byContradiction fun h => h4 (.inl h)
            have hg0 : g = 0 := by omega
            subst ht0; subst hg0
            rw [nf_keep hs h2 h3 h4, addI_eq (by omega), nf_un r (k + c.n) 0 [] x K G T (by omega) (by omega) hK hG (by rw [pts_nil]; rfl) hvr (by omega), un_ret hs h2 h3, cpts_nil, nf_ret2 hK hG hk (by omega) (by omega)]
            obtain ⟨out, K2, T2, G2, b1, b2, h⟩ := nf_retK K G k T hK hG hk (by omega)
            rw [h, h]
            obtain ⟨out3, K3, T3, G3, b3, b4, h'⟩ := nf_retK K2 G2 c.n T2 b1.1 b2.1 (by omega) (by omega)
            rw [h', nf_delN (K := K3) (by simp) (by simp; omega), nf_insN, nf_delN (by simp) (by simp; omega), nf_insN]
            have e : (k + c.n).toNat = k.toNat + c.n.toNat := by omega
            simp [encs_nil, h', e]
end Go.Proofs
end
