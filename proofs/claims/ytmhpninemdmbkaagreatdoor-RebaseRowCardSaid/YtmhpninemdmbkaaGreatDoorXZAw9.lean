/-
  The normal form, unit by unit; what two kDG do as one. Plain.
-/
import Derived.Test.YtmhpninemdmbkaaGreatDoorXZAw0
import Derived.Test.YtmhpninemdmbkaaGreatDoorXZAq1
set_option linter.unusedSimpArgs false
set_option linter.unusedVariables false
set_option linter.defProp false

-- ZAw9
section
namespace Go.Proofs
open Go Go.Rw
set_option maxRecDepth 100000
set_option linter.unusedSimpArgs false
set_option linter.unusedVariables false

theorem bU_le : ∀ u : List Un, bU u ≤ u.length
  | [] => by simp [bU]
  | a :: u => by have := bU_le u; cases a <;> simp [bU] <;> omega
theorem oU_le : ∀ u : List Un, oU u ≤ u.length
  | [] => by simp [oU]
  | a :: u => by have := oU_le u; cases a <;> simp [oU] <;> omega
theorem kBS : ∀ (l : List Cp) (m : Int), (∀ c ∈ l, qG c = true) → m + oU (unL l) ≤ 1099511627776 → outF m l = m + oU (unL l)
  | [], m, _, _ => by simp [outF, unL, oU]
  | c :: r, m, h, hb => by
    have hs := h c (by simp)
    have hr := fun x hx => h x (List.mem_cons_of_mem c hx)
    simp only [unL, oU_app] at hb ⊢
    have h1 := oU_piece hs
    simp only [outF]
    rcases qD hs with ⟨h2, h0, hne, hv⟩ | ⟨h13 | h3, hn, ht⟩
    · rw [if_neg (by omega)] at h1
      rw [h1] at hb ⊢
      have hz : size c = (cpts c.t).length := by rw [size, if_pos h2]
      rw [if_neg (by omega), if_pos h2, lc_cpts hv, ← hz, jL (by omega), kBS r _ hr (by omega)]
      omega
    · rw [if_neg (by omega)] at h1
      rw [h1] at hb ⊢
      have hz : size c = c.n.toNat := by rw [size, if_neg (by omega)]
      rw [if_pos h13, jL (by omega), kBS r _ hr (by omega)]
      omega
    · rw [if_pos h3] at h1
      rw [h1] at hb ⊢
      rw [if_neg (by omega), if_neg (by omega), kBS r _ hr (by omega)]
      omega
/-- Of an edit's normal form: what it does, of how much it is, how much it makes. -/
theorem nf_facts {l : List Cp} (h : ∀ c ∈ l, qG c = true) (hb : (unL l).length ≤ 100000) :
    (∀ cs, doL cs (nf l) = doU cs (unL l)) ∧ zH (nf l) = bU (unL l) ∧ outL (nf l) = oU (unL l) ∧ qH (nf l) = true := by
  have hv := kEK h
  have h1 := kCh l h
  have h2 := kCJ h
  have h3 := bU_le (unL l)
  have htn : tn l ≤ 100000 := by omega
  refine ⟨fun cs => by rw [do_nf hv (by omega), kB7 l cs h], ?_, ?_, nf_normal hv⟩
  · have e := kC9 l 0 0 [] 0 (by omega) (by omega) (by omega) (by omega)
    have e2 : zH (nf l) = zX (0 + 0 + 0) l := e
    rw [e2, kCM l (0 + 0 + 0) (by omega) h]
    have := sumN_eq l (s := 0 + 0 + 0) (by omega)
    rw [this]
    omega
  · have e := kEp l 0 0 [] 0 (by omega) (by omega) (by rw [kAh]; rfl) hv (by simp only [List.length_nil]; omega)
    have e2 : outL (nf l) = outF (0 + 0 + lc []) l := e
    rw [e2, kCt]
    have hou : oU (unL l) ≤ (unL l).length := oU_le _
    rw [kBS l (0 + 0 + ((0 : Nat) : Int)) h (by omega)]
    omega
theorem err_of {s : List UInt8} {l : List Cp} {cs : List Nat} (h : kX l = 0) (hp : pts s = some cs) (hb : (cs.length : Int) = zH l) : errI s l = 0 := by
  unfold errI
  rw [if_pos h, hp]
  simp only
  rw [if_pos hb]
theorem kDL {s : List UInt8} {l : List Cp} (he : errI s l = 0) : pts (zQ s l) = some (doL (cpts s) l) ∧ ((doL (cpts s) l).length : Int) = outL l ∧ (zQ s l).length ≤ 8000 := by
  obtain ⟨h1, h2, h3, h4⟩ := kAQ he
  obtain ⟨c1, c2, c3, c4, c5, c6⟩ := zB h1
  obtain ⟨o1, o2, o3⟩ := j1 h1
  have ho := (zV h2).1
  have hd := do_okc l (cpts s) ho (kEK c3)
  have hl : (doL (cpts s) l).length = oU (unL l) := by rw [kB7 l _ c3]; exact do_len _ _ (by omega)
  have hx : zQ s l = encs (doL (cpts s) l) := by unfold zQ; rw [if_pos he]
  have hy := encs_ge (doL (cpts s) l)
  rw [hx]
  exact ⟨kBq hd, by omega, by omega⟩
theorem kC3 (s : List UInt8) (l : List Cp) : (zQ s l).length ≤ 8000 := by
  by_cases he : errI s l = 0
  · exact (kDL he).2.2
  · unfold zQ; rw [if_neg he]; simp
end Go.Proofs
end
