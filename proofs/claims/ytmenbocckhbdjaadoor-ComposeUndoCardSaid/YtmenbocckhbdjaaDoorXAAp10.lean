/-
  What is done is undone. Plain.
-/
import Derived.Test.YtmenbocckhbdjaaDoorXAAp6
import Derived.Test.YtmenbocckhbdjaaDoorXAAq1
set_option linter.unusedSimpArgs false
set_option linter.unusedVariables false
set_option linter.defProp false

-- AAp10
section
namespace Go.Proofs
open Go Go.Rw
set_option maxRecDepth 100000
set_option linter.unusedSimpArgs false
set_option linter.unusedVariables false

theorem pfx_take (x y : List Nat) : x.take (pfx x y) = y.take (pfx x y) := lcp_take x y _ (Nat.le_refl _)
theorem sfx_drop (x y : List Nat) : x.drop (x.length - sfx x y) = y.drop (y.length - sfx x y) := by
  have hle := sfx_le x y
  have h := lcp_take (x.drop (pfx x y)).reverse (y.drop (pfx x y)).reverse (sfx x y) (Nat.le_refl _)
  have h2 := congrArg List.reverse h
  rw [List.reverse_take, List.reverse_take] at h2
  simp only [List.reverse_reverse, List.length_reverse, List.length_drop, List.drop_drop] at h2
  rw [show pfx x y + (x.length - pfx x y - sfx x y) = x.length - sfx x y by omega, show pfx x y + (y.length - pfx x y - sfx x y) = y.length - sfx x y by omega] at h2
  exact h2
theorem do_diff {x y : List Nat} (hx : x.length ≤ 1099511627776) (hy : ∀ c ∈ y, okc c) : doL x (diffL x y) = y := by
  have hle := sfx_le x y
  have hm := mid_ok (x := x) hy
  unfold diffL
  rw [do_of (by omega) (by omega) (by omega) hx (by rw [pts_enc hm]; rfl), cpts_enc hm, Int.toNat_natCast, show ((x.length : Int) - (sfx x y : Int)).toNat = x.length - sfx x y by omega, sfx_drop, pfx_take]
  unfold midL
  have e1 : (y.drop (pfx x y)).take (y.length - sfx x y - pfx x y) ++ y.drop (y.length - sfx x y) = y.drop (pfx x y) := by
    conv => rhs; rw [← List.take_append_drop (y.length - sfx x y - pfx x y) (y.drop (pfx x y))]
    rw [List.drop_drop, show pfx x y + (y.length - sfx x y - pfx x y) = y.length - sfx x y by omega]
  rw [e1, List.take_append_drop]

/-- What undoes parts, those that are. -/
def unF : List Nat → List Cp → List Cp
  | _, [] => []
  | cs, c :: r => if someC c = false then unF cs r else if c.k = 2 then ⟨3, (cpts c.t).length, []⟩ :: unF cs r else if c.k = 3 then ⟨2, 0, encs (cs.take c.n.toNat)⟩ :: unF (cs.drop c.n.toNat) r else ⟨1, c.n, []⟩ :: unF (cs.drop c.n.toNat) r
theorem un_no {cs : List Nat} {c : Cp} {r : List Cp} (h : someC c = false) : unF cs (c :: r) = unF cs r := by rw [unF, if_pos h]
theorem un_ins {cs : List Nat} {c : Cp} {r : List Cp} (h : someC c = true) (h2 : c.k = 2) : unF cs (c :: r) = ⟨3, (cpts c.t).length, []⟩ :: unF cs r := by rw [unF, if_neg (by rw [h]; decide), if_pos h2]
theorem un_del {cs : List Nat} {c : Cp} {r : List Cp} (h : someC c = true) (h2 : c.k = 3) : unF cs (c :: r) = ⟨2, 0, encs (cs.take c.n.toNat)⟩ :: unF (cs.drop c.n.toNat) r := by rw [unF, if_neg (by rw [h]; decide), if_neg (by omega), if_pos h2]
theorem un_ret {cs : List Nat} {c : Cp} {r : List Cp} (h : someC c = true) (h2 : ¬ c.k = 2) (h3 : ¬ c.k = 3) : unF cs (c :: r) = ⟨1, c.n, []⟩ :: unF (cs.drop c.n.toNat) r := by rw [unF, if_neg (by rw [h]; decide), if_neg h2, if_neg h3]
theorem sound_form {c : Cp} (h : sound c = true) : (c.k = 2 ∧ c = ⟨2, 0, c.t⟩) ∨ (c.k = 1 ∧ c = ⟨1, c.n, []⟩) ∨ (c.k = 3 ∧ c = ⟨3, c.n, []⟩) := by
  obtain ⟨k, n, t⟩ := c
  rcases sound_cases h with ⟨h1, h2, _, _⟩ | ⟨h1 | h1, _, h3⟩
  · simp only at h1 h2; subst h1; subst h2; exact .inl ⟨rfl, rfl⟩
  · simp only at h1 h3; subst h1; subst h3; exact .inr (.inl ⟨rfl, rfl⟩)
  · simp only at h1 h3; subst h1; subst h3; exact .inr (.inr ⟨rfl, rfl⟩)
theorem undo_unF : ∀ (l : List Cp) (cs : List Nat), fit cs l → undoL cs l = unF cs l
  | [], _, _ => rfl
  | c :: r, cs, h => by
    obtain ⟨hs, hn, hle, hf⟩ := fit_cons h
    have hso := sound_some hs
    rw [undo_cons, undo_unF r _ hf]
    rcases sound_form hs with ⟨h2, e⟩ | ⟨h1, e⟩ | ⟨h3, e⟩
    · have hz : c.n = 0 := by rw [e]
      rw [un_ins hso h2, hz]
      simp [undoS, h2]
    · rw [un_ret hso (by omega) (by omega)]
      have : undoS ⟨c, if c.k = 2 then [] else encs (cs.take c.n.toNat), if c.k = 2 then c.t else if c.k = 3 then [] else encs (cs.take c.n.toNat)⟩ = c := by simp [undoS, h1]
      rw [this]
      exact congrArg (· :: unF (cs.drop c.n.toNat) r) e
    · rw [un_del hso h3]
      simp [undoS, h3]
theorem take_app {cs r : List Nat} {n : Nat} (h : n ≤ cs.length) : (cs.take n ++ r).take n = cs.take n ∧ (cs.take n ++ r).drop n = r := by
  have hl : (cs.take n).length = n := by rw [List.length_take]; omega
  exact ⟨List.take_left' hl, List.drop_left' hl⟩
theorem do_un : ∀ (l : List Cp) (cs : List Nat), fit cs l → (∀ c ∈ cs, okc c) → doL (doL cs l) (unF cs l) = cs
  | [], cs, h, _ => by
    have := h.2
    simp only [tn] at this
    have : cs = [] := List.eq_nil_of_length_eq_zero (by omega)
    subst this; rfl
  | c :: r, cs, h, ho => by
    obtain ⟨hs, hn, hle, hf⟩ := fit_cons h
    have hso := sound_some hs
    have ih := do_un r _ hf (okc_drop ho _)
    rcases sound_form hs with ⟨h2, e⟩ | ⟨h1, e⟩ | ⟨h3, e⟩
    · have hz : c.n = 0 := by rw [e]
      rw [hz] at ih
      rw [do_ins hso h2, un_ins hso h2, do_delN, Int.toNat_natCast, List.drop_left]
      simpa using ih
    · rw [do_ret hso (by omega) (by omega), un_ret hso (by omega) (by omega), do_retN]
      obtain ⟨q1, q2⟩ := take_app (r := doL (cs.drop c.n.toNat) r) hle
      rw [q1, q2, ih, List.take_append_drop]
    · rw [do_del hso h3, un_del hso h3, do_insN, cpts_enc (okc_take ho _), ih, List.take_append_drop]
theorem un_un : ∀ (l : List Cp) (cs : List Nat), fit cs l → (∀ c ∈ cs, okc c) → unF (doL cs l) (unF cs l) = l
  | [], _, _, _ => rfl
  | c :: r, cs, h, ho => by
    obtain ⟨hs, hn, hle, hf⟩ := fit_cons h
    have hso := sound_some hs
    have ih := un_un r _ hf (okc_drop ho _)
    have hcs := sound_cases hs
    rcases sound_form hs with ⟨h2, e⟩ | ⟨h1, e⟩ | ⟨h3, e⟩
    · have hz : c.n = 0 := by rw [e]
      rcases hcs with ⟨_, _, hne, hv⟩ | ⟨h13, _⟩
      · obtain ⟨e1, e2⟩ := encs_cpts hv
        have hpos : 0 < (cpts c.t).length := by
          rcases Nat.eq_zero_or_pos (cpts c.t).length with h0 | h0
          · exfalso
            have : cpts c.t = [] := List.eq_nil_of_length_eq_zero h0
            rw [this, encs_nil] at e1
            exact hne e1.symm
          · exact h0
        rw [hz] at ih
        rw [do_ins hso h2, un_ins hso h2, un_del (by simp [someC]; omega) rfl]
        simp only [Int.toNat_natCast]
        rw [List.take_left, List.drop_left, e1]
        have ih2 : unF (doL cs r) (unF cs r) = r := by simpa using ih
        rw [ih2]
        exact congrArg (· :: r) e.symm
      · omega
    · have hp : c.n > 0 := by rcases hcs with ⟨h, _⟩ | ⟨_, h, _⟩ <;> omega
      rw [do_ret hso (by omega) (by omega), un_ret hso (by omega) (by omega), un_ret (by simp [someC, hp]) (by simp) (by simp)]
      obtain ⟨q1, q2⟩ := take_app (r := doL (cs.drop c.n.toNat) r) hle
      simp only
      rw [q2, ih]
      exact congrArg (· :: r) e.symm
    · have hp : c.n > 0 := by rcases hcs with ⟨h, _⟩ | ⟨_, h, _⟩ <;> omega
      have hl : (cs.take c.n.toNat).length = c.n.toNat := by rw [List.length_take]; omega
      have hne : encs (cs.take c.n.toNat) ≠ [] := by
        intro h0
        have h1 := encs_le (cs.take c.n.toNat)
        rw [h0, List.length_nil] at h1
        omega
      rw [do_del hso h3, un_del hso h3, un_ins (by simp [someC, hne]) rfl]
      simp only
      rw [cpts_enc (okc_take ho _), ih, hl]
      have : ((c.n.toNat : Nat) : Int) = c.n := by omega
      rw [this]
      exact congrArg (· :: r) e.symm
/-- One more part, whatever it is. -/
theorem nf_insN {K G : Int} {T t : List UInt8} {n : Int} {r : List Cp} : nfF K T G (⟨2, n, t⟩ :: r) = nfF K (T ++ t) G r := by
  by_cases h : t = []
  · subst h; rw [nf_no (by simp [someC]), List.append_nil]
  · rw [nf_text (by simp [someC, h]) rfl]
theorem nf_delN {K G : Int} {T t : List UInt8} {n : Int} {r : List Cp} (hn : 0 ≤ n) (hb : G + n ≤ 1099511627776) : nfF K T G (⟨3, n, t⟩ :: r) = nfF K T (G + n) r := by
  by_cases h : n > 0
  · rw [nf_gone (by simp [someC, h]) rfl, addI_eq hb]
  · rw [nf_no (by simp [someC, h]), show G + n = G by omega]
/-- Three parts: what goes out, what is gathered. -/
theorem nf_three (K G k d : Int) (T X : List UInt8) (hK : 0 ≤ K) (hG : 0 ≤ G) (hk : 0 ≤ k) (hd : 0 ≤ d) (hb : K + k ≤ 1099511627776) (hb2 : G + d ≤ 1099511627776) :
    ∃ (out : List Cp) (K2 : Int) (T2 : List UInt8) (G2 : Int), (0 ≤ K2 ∧ K2 ≤ K + k) ∧ (0 ≤ G2 ∧ G2 ≤ G + d) ∧ T2.length ≤ T.length + X.length ∧ ∀ L, nfF K T G (⟨1, k, []⟩ :: ⟨3, d, []⟩ :: ⟨2, 0, X⟩ :: L) = out ++ nfF K2 T2 G2 L := by
  by_cases h : k > 0
  · by_cases h4 : T ≠ [] ∨ G > 0
    · refine ⟨putL K T G, k, X, d, by omega, by omega, by omega, fun L => ?_⟩
      rw [nf_put (by simp [someC, h]) (by simp) (by simp) h4, addI_eq (by simp only; omega), nf_delN hd (by omega), nf_insN]
      simp
    · have ht0 : T = [] := Classical.byContradiction fun h => h4 (.inl h)
      refine ⟨[], K + k, T ++ X, G + d, by omega, by omega, by rw [List.length_append]; omega, fun L => ?_⟩
      rw [nf_keep (by simp [someC, h]) (by simp) (by simp) h4, addI_eq (by simp only; omega), nf_delN hd (by omega), nf_insN]
      rfl
  · refine ⟨[], K, T ++ X, G + d, by omega, by omega, by rw [List.length_append]; omega, fun L => ?_⟩
    rw [nf_no (by simp [someC, h]), nf_delN hd (by omega), nf_insN]
    rfl
end Go.Proofs
end
