/-
  ApplyBack answers true.
-/
import Derived.Test.YtmenbocckhbdjaaDoorXAAp11
set_option linter.unusedSimpArgs false
set_option linter.unusedVariables false
set_option linter.defProp false

-- AAp12
section
namespace Go.Proofs
open Go Go.Rw
set_option maxRecDepth 100000
set_option linter.unusedSimpArgs false
set_option linter.unusedVariables false

theorem nfF_len : ∀ (l : List Cp) (k : Int) (t : List UInt8) (g : Int), (nfF k t g l).length ≤ (putL k t g).length + l.length
  | [], k, t, g => by rw [nfF]; omega
  | c :: r, k, t, g => by
    have p : ∀ (k k2 : Int) (t t2 : List UInt8) (g g2 : Int), (k > 0 → k2 > 0 ∨ True) → True := fun _ _ _ _ _ _ _ => trivial
    have len : ∀ (k : Int) (t : List UInt8) (g : Int), (putL k t g).length = (if k > 0 then 1 else 0) + ((if t ≠ [] then 1 else 0) + (if g > 0 then 1 else 0)) := by
      intro k t g
      unfold putL
      by_cases a : k > 0 <;> by_cases b : t = [] <;> by_cases c : g > 0 <;> simp [a, b, c]
    rw [nfF, List.length_cons]
    split
    · have := nfF_len r k t g; omega
    · rename_i hs
      split
      · have := nfF_len r k (t ++ c.t) g
        rw [len] at this ⊢
        by_cases a : t = [] <;> by_cases b : c.t = [] <;> simp [a, b] at this ⊢ <;> omega
      · split
        · have := nfF_len r k t (addI g c.n)
          rw [len] at this ⊢
          have hx : (if addI g c.n > 0 then 1 else 0 : Nat) ≤ 1 := by split <;> omega
          generalize (if addI g c.n > 0 then 1 else 0 : Nat) = A at *
          generalize (if k > 0 then 1 else 0 : Nat) = B at *
          generalize (if t ≠ [] then 1 else 0 : Nat) = C at *
          generalize (if g > 0 then 1 else 0 : Nat) = D at *
          omega
        · split
          · have := nfF_len r (addI 0 c.n) [] 0
            rw [List.length_append]
            rw [len] at this
            simp at this
            split at this <;> omega
          · have := nfF_len r (addI k c.n) t g
            rw [len] at this ⊢
            have hx : (if addI k c.n > 0 then 1 else 0 : Nat) ≤ 1 := by split <;> omega
            generalize (if addI k c.n > 0 then 1 else 0 : Nat) = A at *
            generalize (if k > 0 then 1 else 0 : Nat) = B at *
            generalize (if t ≠ [] then 1 else 0 : Nat) = C at *
            generalize (if g > 0 then 1 else 0 : Nat) = D at *
            omega
theorem nf_len (l : List Cp) : (nf l).length ≤ l.length := by
  have := nfF_len l 0 [] 0
  have e : (putL 0 [] 0).length = 0 := rfl
  unfold nf; omega
theorem un_len : ∀ (l : List Cp) (cs : List Nat), (unF cs l).length ≤ l.length
  | [], _ => by simp [unF]
  | c :: r, cs => by
    rw [unF, List.length_cons]
    have h1 := un_len r cs
    have h2 := un_len r (cs.drop c.n.toNat)
    split
    · omega
    · split
      · rw [List.length_cons]; omega
      · split <;> (rw [List.length_cons]; omega)
theorem un_texts : ∀ (l : List Cp) (cs : List Nat), (∀ c ∈ cs, okc c) → allV (unF cs l) = true
  | [], _, _ => rfl
  | c :: r, cs, h => by
    have h1 := un_texts r cs h
    have h2 := un_texts r _ (okc_drop h c.n.toNat)
    have h3 : (pts (encs (cs.take c.n.toNat))).isSome = true := by rw [pts_enc (okc_take h _)]; rfl
    unfold allV at *
    rw [unF]
    split
    · exact h1
    · split
      · rw [List.all_cons, h1, pts_nil]; rfl
      · split
        · rw [List.all_cons, h2, h3]; rfl
        · rw [List.all_cons, h2, pts_nil]; rfl
theorem un_meas : ∀ (l : List Cp) (cs : List Nat), fit cs l → tn (unF cs l) = (doL cs l).length ∧ tot (unF cs l) ≤ 4 * cs.length
  | [], cs, h => ⟨rfl, by simp [unF, tot]⟩
  | c :: r, cs, h => by
    obtain ⟨hs, hn, hle, hf⟩ := fit_cons h
    have hso := sound_some hs
    obtain ⟨i1, i2⟩ := un_meas r _ hf
    rw [List.length_drop] at i2
    rcases sound_form hs with ⟨h2, e⟩ | ⟨h1, e⟩ | ⟨h3, e⟩
    · have hz : c.n = 0 := by rw [e]
      have hz2 : cs.drop c.n.toNat = cs := by rw [hz]; rfl
      rw [hz2] at i1 i2
      rw [un_ins hso h2, do_ins hso h2, List.length_append]
      simp only [tn, tot, List.length_nil]
      omega
    · rw [un_ret hso (by omega) (by omega), do_ret hso (by omega) (by omega), List.length_append, List.length_take]
      simp only [tn, tot, List.length_nil]
      omega
    · rw [un_del hso h3, do_del hso h3]
      have h4 := encs_len_le (cs := cs.take c.n.toNat)
      rw [List.length_take] at h4
      simp only [tn, tot]
      omega
theorem un_out : ∀ (l : List Cp) (cs : List Nat) (m : Int), 0 ≤ m → fit cs l → (∀ c ∈ cs, okc c) → m + cs.length ≤ 1099511627776 → outF m (unF cs l) = m + cs.length
  | [], cs, m, _, h, _, _ => by
    have := h.2
    simp only [tn] at this
    simp only [unF, outF]; omega
  | c :: r, cs, m, hm, h, ho, hb => by
    obtain ⟨hs, hn, hle, hf⟩ := fit_cons h
    have hso := sound_some hs
    have hd : (cs.drop c.n.toNat).length = cs.length - c.n.toNat := List.length_drop
    rcases sound_form hs with ⟨h2, e⟩ | ⟨h1, e⟩ | ⟨h3, e⟩
    · have hz : c.n = 0 := by rw [e]
      have hz2 : cs.drop c.n.toNat = cs := by rw [hz]; rfl
      rw [hz2] at hf
      rw [un_ins hso h2]
      simp only [outF]
      exact un_out r cs m hm hf ho hb
    · rw [un_ret hso (by omega) (by omega)]
      simp only [outF, if_true]
      rw [show max c.n 0 = c.n by omega, addI_eq (by omega), un_out r _ (m + c.n) (by omega) hf (okc_drop ho _) (by omega), hd]
      omega
    · rw [un_del hso h3]
      simp only [outF]
      have hl : lc (encs (cs.take c.n.toNat)) = c.n.toNat := by rw [lc_encs _ (okc_take ho _), List.length_take]; omega
      simp only [show ¬ (2 : Int) = 1 by decide, if_false, if_true]
      rw [hl, addI_eq (by omega), un_out r _ (m + c.n.toNat) (by omega) hf (okc_drop ho _) (by omega), hd]
      omega
theorem sound_all {l : List Cp} (h : normalL l = true) : ∀ c ∈ l, sound c = true := normal_sound l none h
/-- What undoes an edit may be done, and leads back. -/
theorem undo_law {s : List UInt8} {l : List Cp} (he : errI s l = 0) :
    errI (doneB s l) (undone s l) = 0 ∧ doneB (doneB s l) (undone s l) = s ∧ undone (doneB s l) (undone s l) = l ∧ outL l = (doL (cpts s) l).length ∧ cpts (doneB s l) = doL (cpts s) l := by
  obtain ⟨hc, hp, hb, hf⟩ := err_zero he
  obtain ⟨q1, q2, q3, q4, q5, q6⟩ := check_cases hc
  obtain ⟨hok, hse⟩ := pts_some hp
  generalize hcs : cpts s = cs at *
  have hA := do_okc l cs hok (sound_texts q3)
  have hd : doneB s l = encs (doL cs l) := by unfold doneB; rw [if_pos he, hcs]
  have hu : undone s l = nf (unF cs l) := by unfold undone; rw [if_pos he, hcs, undo_unF l cs hf]
  have hout : outL l = (doL cs l).length := by
    have := out_do l cs 0 (by omega) hf q6
    unfold outL; omega
  obtain ⟨m1, m2⟩ := un_meas l cs hf
  have hv := un_texts l cs hok
  have hlen : ((cs.length : Nat) : Int) ≤ 2000 := by omega
  have hul : (nf (unF cs l)).length ≤ 100 := by
    have h1 := nf_len (unF cs l)
    have h2 := un_len l cs
    omega
  have hbase : baseL (nf (unF cs l)) = (doL cs l).length := by
    have h1 := base_nf (unF cs l) 0 0 [] 0 (by omega) (by omega) (by omega) (by omega)
    have h2 : ∀ (l : List Cp) (cs : List Nat) (m : Int), 0 ≤ m → fit cs l → m + (doL cs l).length ≤ 1099511627776 → baseF m (unF cs l) = m + (doL cs l).length := by
      intro l
      induction l with
      | nil => intro cs m _ _ _; simp [unF, baseF, doL]
      | cons c r ih =>
        intro cs m hm hf hb
        obtain ⟨hs, hn, hle, hf2⟩ := fit_cons hf
        have hso := sound_some hs
        rcases sound_form hs with ⟨h2, e⟩ | ⟨h1, e⟩ | ⟨h3, e⟩
        · have hz : c.n = 0 := by rw [e]
          have hz2 : cs.drop c.n.toNat = cs := by rw [hz]; rfl
          rw [hz2] at hf2
          rw [do_ins hso h2, List.length_append] at hb ⊢
          rw [un_ins hso h2]
          simp only [baseF]
          rw [if_pos (by decide), show max ((cpts c.t).length : Int) 0 = (cpts c.t).length by omega, addI_eq (by omega), ih cs _ (by omega) hf2 (by omega)]
          omega
        · rw [do_ret hso (by omega) (by omega), List.length_append, List.length_take] at hb ⊢
          rw [un_ret hso (by omega) (by omega)]
          simp only [baseF]
          rw [if_pos (by decide), show max c.n 0 = c.n by omega, addI_eq (by omega), ih _ _ (by omega) hf2 (by omega)]
          omega
        · rw [do_del hso h3] at hb ⊢
          rw [un_del hso h3]
          simp only [baseF]
          rw [if_neg (by decide), ih _ _ hm hf2 hb]
    have h3 := h2 l cs 0 (by omega) hf (by omega)
    unfold baseL nf
    simp only [Int.add_zero] at h1
    rw [h1, h3]; omega
  have houtu : outL (nf (unF cs l)) = cs.length := by
    have h1 := out_nf (unF cs l) 0 0 [] 0 (by omega) (by omega) (by rw [pts_nil]; rfl) hv (by simp only [List.length_nil]; omega)
    have h2 := un_out l cs 0 (by omega) hf hok (by omega)
    unfold outL nf
    rw [lc_nil] at h1
    rw [h1]
    have : (0 : Int) + 0 + ((0 : Nat) : Int) = 0 := rfl
    rw [this, h2]; omega
  have hcheck : checkI (nf (unF cs l)) = 0 := by
    unfold checkI
    rw [if_neg (by omega), if_neg (by rw [nf_normal hv]; decide), if_neg (by omega)]
  have hcA : cpts (doneB s l) = doL cs l := by rw [hd, cpts_enc hA]
  have hpA : pts (doneB s l) = some (doL cs l) := by rw [hd, pts_enc hA]
  have he2 : errI (doneB s l) (undone s l) = 0 := by
    rw [hu]
    unfold errI
    rw [if_pos hcheck, hpA]
    simp only
    rw [if_pos hbase.symm]
  have hf2 : fit (doL cs l) (nf (unF cs l)) := fit_check hcheck hbase.symm
  refine ⟨he2, ?_, ?_, hout, hcA⟩
  · have e1 : doneB (doneB s l) (undone s l) = encs (doL (cpts (doneB s l)) (undone s l)) := by
      conv => lhs; unfold doneB
      rw [if_pos (by unfold doneB at he2; exact he2)]
      rfl
    rw [e1, hcA, hu, do_nf hv (by omega), do_un l cs hf hok]
    exact hse.symm
  · have e1 : undone (doneB s l) (undone s l) = nf (undoL (cpts (doneB s l)) (undone s l)) := by
      conv => lhs; unfold undone
      rw [if_pos (by unfold undone at he2; exact he2)]
      rfl
    rw [e1, hcA, hu, undo_unF _ _ hf2]
    have h1 := nf_un (unF cs l) 0 0 [] (doL cs l) 0 0 [] (by omega) (by omega) (by omega) (by omega) (by rw [pts_nil]; rfl) hv (by rw [cpts_nil, List.length_nil]; omega)
    have h2 : nf (unF (doL cs l) (nf (unF cs l))) = nf (unF (doL cs l) (unF cs l)) := by
      unfold nf at *
      rw [h1, nf_no (by simp [someC]), cpts_nil, nf_no (by simp [someC]), nf_no (by simp [someC, encs_nil])]
      simp
    rw [h2, un_un l cs hf hok, nf_check hc]
end Go.Proofs
end
