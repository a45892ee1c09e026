/-
  The normal form, unit by unit; what two edits do as one. Plain.
-/
import Derived.Test.YtmhpninemdmbkaaDoorXCAw0
import Derived.Test.YtmhpninemdmbkaaDoorXCAq1
set_option linter.unusedSimpArgs false
set_option linter.unusedVariables false
set_option linter.defProp false

-- CAw9
section
namespace Go.Proofs
open Go Go.Rw
set_option maxRecDepth 100000
set_option linter.unusedSimpArgs false
set_option linter.unusedVariables false

def nfU : Nat → List Nat → Nat → List Un → List Cp
  | k, t, g, [] => putL k (encs t) g
  | k, t, g, .i c :: u => nfU k (t ++ [c]) g u
  | k, t, g, .d :: u => nfU k t (g + 1) u
  | k, t, g, .r :: u => if t ≠ [] ∨ g > 0 then putL k (encs t) g ++ nfU 1 [] 0 u else nfU (k + 1) t g u
theorem nfU_i : ∀ (cs : List Nat) (k : Nat) (t : List Nat) (g : Nat) (u : List Un), nfU k t g (cs.map .i ++ u) = nfU k (t ++ cs) g u
  | [], k, t, g, u => by simp
  | c :: cs, k, t, g, u => by simp only [List.map_cons, List.cons_append, nfU]; rw [nfU_i cs]; simp
theorem nfU_d : ∀ (n k : Nat) (t : List Nat) (g : Nat) (u : List Un), nfU k t g (List.replicate n .d ++ u) = nfU k t (g + n) u
  | 0, k, t, g, u => by simp
  | n + 1, k, t, g, u => by simp only [List.replicate_succ, List.cons_append, nfU]; rw [nfU_d n]; congr 1; omega
theorem nfU_r0 : ∀ (n k : Nat) (u : List Un), nfU k [] 0 (List.replicate n .r ++ u) = nfU (k + n) [] 0 u
  | 0, k, u => by simp
  | n + 1, k, u => by
    simp only [List.replicate_succ, List.cons_append, nfU]
    rw [if_neg (by simp), nfU_r0 n]; congr 1; omega
theorem nfU_r (n k : Nat) (t : List Nat) (g : Nat) (u : List Un) (hn : 0 < n) : nfU k t g (List.replicate n .r ++ u) = if t ≠ [] ∨ g > 0 then putL k (encs t) g ++ nfU n [] 0 u else nfU (k + n) t g u := by
  obtain ⟨m, rfl⟩ : ∃ m, n = m + 1 := ⟨n - 1, by omega⟩
  simp only [List.replicate_succ, List.cons_append, nfU]
  by_cases h : t ≠ [] ∨ g > 0
  · rw [if_pos h, if_pos h, nfU_r0]; congr 2; omega
  · rw [if_neg h, if_neg h]
    have h1 : t = [] := Classical.byContradiction fun h2 => h (.inl h2)
    have h2 : g = 0 := by
      rcases Nat.eq_zero_or_pos g with h3 | h3
      · exact h3
      · exact absurd (.inr h3) h
    subst h1 h2
    rw [nfU_r0]; congr 1; omega
theorem encs_ne {t : List Nat} : encs t ≠ [] ↔ t ≠ [] := by
  cases t with
  | nil => simp [encs_nil]
  | cons c t =>
    have := encs_pos (c := c) (cs := t)
    constructor
    · intro _; simp
    · intro _ h; rw [h] at this; simp at this
theorem nf_units : ∀ (l : List Cp) (k : Nat) (t : List Nat) (g : Nat), (∀ c ∈ l, sound c = true) → (k : Int) + g + tn l ≤ 1099511627776 → nfF k (encs t) g l = nfU k t g (unL l)
  | [], k, t, g, _, _ => rfl
  | c :: r, k, t, g, h, hb => by
    have hs := h c (by simp)
    have hr := fun x hx => h x (List.mem_cons_of_mem c hx)
    have hp := tn_pos r
    simp only [tn] at hb
    rcases sound_cases hs with ⟨h2, h0, hne, hv⟩ | ⟨h1 | h3, hn, ht⟩
    · obtain ⟨te, tok⟩ := encs_cpts hv
      rw [nf_text (sound_some hs) h2, ← te, ← encs_app, nf_units r k (t ++ cpts c.t) g hr (by omega), unL, unP, if_pos h2, nfU_i]
    · obtain ⟨n, hnn⟩ := Int.eq_ofNat_of_zero_le (show 0 ≤ c.n by omega)
      rw [unL, unP, if_neg (by omega), if_pos h1, hnn, Int.toNat_natCast, nfU_r n k t g _ (by omega)]
      by_cases hc : t ≠ [] ∨ g > 0
      · rw [if_pos hc, nf_put (sound_some hs) (by omega) (by omega) (by rcases hc with hc | hc; exact .inl (encs_ne.2 hc); exact .inr (by omega)), addI_eq (by omega), hnn]
        congr 1
        have := nf_units r n [] 0 hr (by omega)
        rw [encs_nil] at this
        rw [← this]; congr 1; omega
      · have hc2 : ¬ (encs t ≠ [] ∨ (g : Int) > 0) := by
          rintro (h4 | h4)
          · exact hc (.inl (encs_ne.1 h4))
          · exact hc (.inr (by omega))
        rw [if_neg hc, nf_keep (sound_some hs) (by omega) (by omega) hc2, addI_eq (by omega), hnn]
        have := nf_units r (k + n) t g hr (by omega)
        rw [← this]; congr 1
    · obtain ⟨n, hnn⟩ := Int.eq_ofNat_of_zero_le (show 0 ≤ c.n by omega)
      rw [nf_gone (sound_some hs) h3, addI_eq (by omega), unL, unP, if_neg (by omega), if_neg (by omega), if_pos h3, hnn, Int.toNat_natCast, nfU_d]
      have := nf_units r k t (g + n) hr (by omega)
      rw [← this]; congr 1
theorem nf_eq {x y : List Cp} (hx : ∀ c ∈ x, sound c = true) (hy : ∀ c ∈ y, sound c = true) (hb : tn x ≤ 1000000) (h : unL x = unL y) : nf x = nf y := by
  have h1 := base_units x hx
  have h2 := base_units y hy
  rw [← h] at h2
  have e1 := nf_units x 0 [] 0 hx (by omega)
  have e2 := nf_units y 0 [] 0 hy (by omega)
  rw [encs_nil] at e1 e2
  unfold nf
  have e3 : nfF 0 [] 0 x = nfU 0 [] 0 (unL x) := e1
  have e4 : nfF 0 [] 0 y = nfU 0 [] 0 (unL y) := e2
  rw [e3, e4, h]

theorem bU_le : ∀ u : List Un, bU u ≤ u.length
  | [] => by simp [bU]
  | a :: u => by have := bU_le u; cases a <;> simp [bU] <;> omega
theorem oU_le : ∀ u : List Un, oU u ≤ u.length
  | [] => by simp [oU]
  | a :: u => by have := oU_le u; cases a <;> simp [oU] <;> omega
theorem outF_units : ∀ (l : List Cp) (m : Int), (∀ c ∈ l, sound c = true) → m + oU (unL l) ≤ 1099511627776 → outF m l = m + oU (unL l)
  | [], m, _, _ => by simp [outF, unL, oU]
  | c :: r, m, h, hb => by
    have hs := h c (by simp)
    have hr := fun x hx => h x (List.mem_cons_of_mem c hx)
    simp only [unL, oU_app] at hb ⊢
    have h1 := oU_piece hs
    simp only [outF]
    rcases sound_cases hs with ⟨h2, h0, hne, hv⟩ | ⟨h13 | h3, hn, ht⟩
    · rw [if_neg (by omega)] at h1
      rw [h1] at hb ⊢
      have hz : size c = (cpts c.t).length := by rw [size, if_pos h2]
      rw [if_neg (by omega), if_pos h2, lc_cpts hv, ← hz, addI_eq (by omega), outF_units r _ hr (by omega)]
      omega
    · rw [if_neg (by omega)] at h1
      rw [h1] at hb ⊢
      have hz : size c = c.n.toNat := by rw [size, if_neg (by omega)]
      rw [if_pos h13, addI_eq (by omega), outF_units r _ hr (by omega)]
      omega
    · rw [if_pos h3] at h1
      rw [h1] at hb ⊢
      rw [if_neg (by omega), if_neg (by omega), outF_units r _ hr (by omega)]
      omega
theorem sound_texts2 {l : List Cp} (h : ∀ c ∈ l, sound c = true) : allV l = true := sound_texts h
/-- Of an edit's normal form: what it does, of how much it is, how much it makes. -/
theorem nf_facts {l : List Cp} (h : ∀ c ∈ l, sound c = true) (hb : (unL l).length ≤ 100000) :
    (∀ cs, doL cs (nf l) = doU cs (unL l)) ∧ baseL (nf l) = bU (unL l) ∧ outL (nf l) = oU (unL l) ∧ normalL (nf l) = true := by
  have hv := sound_texts h
  have h1 := base_units l h
  have h2 := okL_units h
  have h3 := bU_le (unL l)
  have htn : tn l ≤ 100000 := by omega
  refine ⟨fun cs => by rw [do_nf hv (by omega), do_units l cs h], ?_, ?_, nf_normal hv⟩
  · have e := base_nf l 0 0 [] 0 (by omega) (by omega) (by omega) (by omega)
    have e2 : baseL (nf l) = baseF (0 + 0 + 0) l := e
    rw [e2, sumN_base l (0 + 0 + 0) (by omega) h]
    have := sumN_eq l (s := 0 + 0 + 0) (by omega)
    rw [this]
    omega
  · have e := out_nf l 0 0 [] 0 (by omega) (by omega) (by rw [pts_nil]; rfl) hv (by simp only [List.length_nil]; omega)
    have e2 : outL (nf l) = outF (0 + 0 + lc []) l := e
    rw [e2, lc_nil]
    have hou : oU (unL l) ≤ (unL l).length := oU_le _
    rw [outF_units l (0 + 0 + ((0 : Nat) : Int)) h (by omega)]
    omega
theorem raw_len {a b : List Cp} (h1 : checkI a = 0) (h2 : checkI b = 0) : (twoU (unL a) (unL b)).length ≤ 8000 := by
  have := twoU_len (unL a) (unL b)
  have := (out_units h1).2.2
  have := (out_units h2).2.2
  omega
theorem two_facts {a b : List Cp} (he : twoE a b = 0) (oa : okL a) (ob : okL b) :
    (∀ cs : List Nat, (cs.length : Int) = baseL a → doL cs (twoN a b) = doL (doL cs a) b) ∧ baseL (twoN a b) = baseL a ∧ outL (twoN a b) = outL b ∧ normalL (twoN a b) = true := by
  obtain ⟨h1, h2, h3⟩ := twoE_zero he
  obtain ⟨r1, r2, r3⟩ := two_raw h1 h2 oa ob
  obtain ⟨o1, o2, o3⟩ := out_units h1
  obtain ⟨p1, p2, p3⟩ := out_units h2
  obtain ⟨n1, n2, n3, n4⟩ := nf_facts r2 (by rw [r1]; have := raw_len h1 h2; omega)
  rw [r1] at n1 n2 n3
  obtain ⟨t1, t2⟩ := two_len (unL a) (unL b) (by omega)
  have s1 := (check_cases h1).2.2.1
  have s2 := (check_cases h2).2.2.1
  refine ⟨fun cs hc => ?_, ?_, ?_, n4⟩
  · show doL cs (nf _) = _
    rw [n1, do_twoU (unL a) (unL b) cs (by omega) (by omega), do_units a cs s1, do_units b _ s2]
  · show baseL (nf _) = _
    rw [n2, t1, o2]
  · show outL (nf _) = _
    rw [n3, t2, p1]
theorem twoU_keepl : ∀ (u : List Un), twoU (List.replicate (bU u) .r) u = u
  | [] => by simp only [bU, List.replicate_zero]; rw [twoU] <;> simp
  | .r :: u => by simp only [bU, List.replicate_succ]; rw [twoU, twoU_keepl u]
  | .d :: u => by simp only [bU, List.replicate_succ]; rw [twoU, twoU_keepl u]
  | .i c :: u => by
    have h := twoU_i [c] (List.replicate (bU u) .r) u (fun z e => by cases hb : bU u <;> rw [hb] at e <;> cases e)
    simp only [bU]
    simp only [List.map_cons, List.map_nil, List.cons_append, List.nil_append] at h
    rw [h, twoU_keepl u]
theorem twoU_keepr : ∀ (u : List Un), twoU u (List.replicate (oU u) .r) = u
  | [] => by simp only [oU, List.replicate_zero]; rw [twoU] <;> simp
  | .r :: u => by simp only [oU, List.replicate_succ]; rw [twoU, twoU_keepr u]
  | .d :: u => by simp only [oU]; rw [twoU, twoU_keepr u]
  | .i c :: u => by simp only [oU, List.replicate_succ]; rw [twoU, twoU_keepr u]
theorem keep_facts {n : Int} (h : 0 ≤ n ∧ n ≤ 2000) : checkI (keepL n) = 0 ∧ unL (keepL n) = List.replicate n.toNat .r ∧ baseL (keepL n) = n ∧ outL (keepL n) = n := by
  unfold keepL
  split
  · have : n = 0 := by omega
    subst this
    decide +kernel
  · have hb : baseL [⟨1, n, []⟩] = n := by simp [baseL, baseF, addI]; omega
    have ho : outL [⟨1, n, []⟩] = n := by simp [outL, outF, addI]; omega
    refine ⟨?_, by simp [unL, unP], hb, ho⟩
    unfold checkI
    rw [hb, ho, if_neg (by simp), if_neg (by simp [normalL, normalF, sound]; omega), if_neg (by omega)]
theorem two_keepl {a : List Cp} (h : checkI a = 0) (oa : okL a) : twoE (keepL (baseL a)) a = 0 ∧ twoN (keepL (baseL a)) a = a := by
  obtain ⟨h1, h2, h3, h4, h5, h6⟩ := check_cases h
  have hp := tn_pos a
  obtain ⟨k1, k2, k3, k4⟩ := keep_facts (n := baseL a) (by omega)
  have he : twoE (keepL (baseL a)) a = 0 := by unfold twoE; rw [if_pos k1, if_pos h, if_pos k4]
  obtain ⟨o1, o2, o3⟩ := out_units h
  have ok : okL (keepL (baseL a)) := okL_keep (by omega)
  obtain ⟨r1, r2, r3⟩ := two_raw k1 h ok oa
  refine ⟨he, ?_⟩
  unfold twoN
  generalize twoF _ (keepL (baseL a), 0) (a, 0) = raw at r1 r2 ⊢
  rw [k2, show (baseL a).toNat = bU (unL a) by omega, twoU_keepl] at r1
  exact (nf_eq h3 r2 (by omega) r1.symm).symm.trans (nf_check h)
theorem two_keepr {a : List Cp} (h : checkI a = 0) (oa : okL a) : twoE a (keepL (outL a)) = 0 ∧ twoN a (keepL (outL a)) = a := by
  obtain ⟨h1, h2, h3, h4, h5, h6⟩ := check_cases h
  obtain ⟨o1, o2, o3⟩ := out_units h
  obtain ⟨k1, k2, k3, k4⟩ := keep_facts (n := outL a) (by omega)
  have he : twoE a (keepL (outL a)) = 0 := by unfold twoE; rw [if_pos h, if_pos k1, if_pos k3.symm]
  have ok : okL (keepL (outL a)) := okL_keep (by omega)
  obtain ⟨r1, r2, r3⟩ := two_raw h k1 oa ok
  refine ⟨he, ?_⟩
  unfold twoN
  generalize twoF _ (a, 0) (keepL (outL a), 0) = raw at r1 r2 ⊢
  rw [k2, show (outL a).toNat = oU (unL a) by omega, twoU_keepr] at r1
  exact (nf_eq h3 r2 (by omega) r1.symm).symm.trans (nf_check h)
theorem err_of {s : List UInt8} {l : List Cp} {cs : List Nat} (h : checkI l = 0) (hp : pts s = some cs) (hb : (cs.length : Int) = baseL l) : errI s l = 0 := by
  unfold errI
  rw [if_pos h, hp]
  simp only
  rw [if_pos hb]
theorem done_law {s : List UInt8} {l : List Cp} (he : errI s l = 0) : pts (doneB s l) = some (doL (cpts s) l) ∧ ((doL (cpts s) l).length : Int) = outL l ∧ (doneB s l).length ≤ 8000 := by
  obtain ⟨h1, h2, h3, h4⟩ := err_zero he
  obtain ⟨c1, c2, c3, c4, c5, c6⟩ := check_cases h1
  obtain ⟨o1, o2, o3⟩ := out_units h1
  have ho := (pts_some h2).1
  have hd := do_okc l (cpts s) ho (sound_texts c3)
  have hl : (doL (cpts s) l).length = oU (unL l) := by rw [do_units l _ c3]; exact do_len _ _ (by omega)
  have hx : doneB s l = encs (doL (cpts s) l) := by unfold doneB; rw [if_pos he]
  have hy := encs_ge (doL (cpts s) l)
  rw [hx]
  exact ⟨pts_enc hd, by omega, by omega⟩
theorem done_small (s : List UInt8) (l : List Cp) : (doneB s l).length ≤ 8000 := by
  by_cases he : errI s l = 0
  · exact (done_law he).2.2
  · unfold doneB; rw [if_neg he]; simp
end Go.Proofs
end
