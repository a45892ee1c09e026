/-
  The normal form, unit by unit; what two edits do as one. Plain.
-/
import Derived.Test.YtmhpninemdmbkaaGreatDoorXZAw0
import Derived.Test.YtmhpninemdmbkaaGreatDoorXZAq1
set_option linter.unusedSimpArgs false
set_option linter.unusedVariables false
set_option linter.defProp false

-- ZAw9
section
namespace Go.Proofs
open Go Go.Rw
set_option maxRecDepth 100000
set_option linter.unusedSimpArgs false
set_option linter.unusedVariables false

theorem bU_le : ∀ u : List Un, bU u ≤ u.length
  | [] => by simp [bU]
  | a :: u => by have := bU_le u; cases a <;> simp [bU] <;> omega
theorem oU_le : ∀ u : List Un, oU u ≤ u.length
  | [] => by simp [oU]
  | a :: u => by have := oU_le u; cases a <;> simp [oU] <;> omega
theorem kBb : ∀ (l : List Cp) (m : Int), (∀ c ∈ l, qF c = true) → m + oU (unL l) ≤ 1099511627776 → outF m l = m + oU (unL l)
  | [], m, _, _ => by simp [outF, unL, oU]
  | c :: r, m, h, hb => by
    have hs := h c (by simp)
    have hr := fun x hx => h x (List.mem_cons_of_mem c hx)
    simp only [unL, oU_app] at hb ⊢
    have h1 := oU_piece hs
    simp only [outF]
    rcases qE hs with ⟨h2, h0, hne, hv⟩ | ⟨h13 | h3, hn, ht⟩
    · rw [if_neg (by omega)] at h1
      rw [h1] at hb ⊢
      have hz : size c = (cpts c.t).length := by rw [size, if_pos h2]
      rw [if_neg (by omega), if_pos h2, lc_cpts hv, ← hz, jK (by omega), kBb r _ hr (by omega)]
      omega
    · rw [if_neg (by omega)] at h1
      rw [h1] at hb ⊢
      have hz : size c = c.n.toNat := by rw [size, if_neg (by omega)]
      rw [if_pos h13, jK (by omega), kBb r _ hr (by omega)]
      omega
    · rw [if_pos h3] at h1
      rw [h1] at hb ⊢
      rw [if_neg (by omega), if_neg (by omega), kBb r _ hr (by omega)]
      omega
/-- Of an edit's normal form: what it does, of how much it is, how much it makes. -/
theorem nf_facts {l : List Cp} (h : ∀ c ∈ l, qF c = true) (hb : (unL l).length ≤ 100000) :
    (∀ cs, doL cs (nf l) = doU cs (unL l)) ∧ zY (nf l) = bU (unL l) ∧ outL (nf l) = oU (unL l) ∧ qJ (nf l) = true := by
  have hv := kEb h
  have h1 := kCy l h
  have h2 := kCL h
  have h3 := bU_le (unL l)
  have htn : tn l ≤ 100000 := by omega
  refine ⟨fun cs => by rw [do_nf hv (by omega), kBi l cs h], ?_, ?_, nf_normal hv⟩
  · have e := kCf l 0 0 [] 0 (by omega) (by omega) (by omega) (by omega)
    have e2 : zY (nf l) = zX (0 + 0 + 0) l := e
    rw [e2, kCM l (0 + 0 + 0) (by omega) h]
    have := sumN_eq l (s := 0 + 0 + 0) (by omega)
    rw [this]
    omega
  · have e := kFV l 0 0 [] 0 (by omega) (by omega) (by rw [kAl]; rfl) hv (by simp only [List.length_nil]; omega)
    have e2 : outL (nf l) = outF (0 + 0 + lc []) l := e
    rw [e2, kDS]
    have hou : oU (unL l) ≤ (unL l).length := oU_le _
    rw [kBb l (0 + 0 + ((0 : Nat) : Int)) h (by omega)]
    omega
theorem done_law {s : List UInt8} {l : List Cp} (he : errI s l = 0) : pts (kBQ s l) = some (doL (cpts s) l) ∧ ((doL (cpts s) l).length : Int) = outL l ∧ (kBQ s l).length ≤ 8000 := by
  obtain ⟨h1, h2, h3, h4⟩ := err_zero he
  obtain ⟨c1, c2, c3, c4, c5, c6⟩ := jC h1
  obtain ⟨o1, o2, o3⟩ := j5 h1
  have ho := (z7 h2).1
  have hd := do_okc l (cpts s) ho (kEb c3)
  have hl : (doL (cpts s) l).length = oU (unL l) := by rw [kBi l _ c3]; exact do_len _ _ (by omega)
  have hx : kBQ s l = encs (doL (cpts s) l) := by unfold kBQ; rw [if_pos he]
  have hy := encs_ge (doL (cpts s) l)
  rw [hx]
  exact ⟨kCE hd, by omega, by omega⟩
theorem kFQ (s : List UInt8) (l : List Cp) : (kBQ s l).length ≤ 8000 := by
  by_cases he : errI s l = 0
  · exact (done_law he).2.2
  · unfold kBQ; rw [if_neg he]; simp
end Go.Proofs
end
