/-
  The normal form, unit by unit; what two edits do as one. Plain.
-/
import Derived.Test.YtmhpninemdmbkaaGreatDoorXZAw0
import Derived.Test.YtmhpninemdmbkaaGreatDoorXZAq1
set_option linter.unusedSimpArgs false
set_option linter.unusedVariables false
set_option linter.defProp false

-- ZAw9
section
namespace Go.Proofs
open Go Go.Rw
set_option maxRecDepth 100000
theorem bU_le : ∀ u : List Un, bU u ≤ u.length
  | [] => by simp [bU]
  | a :: u => by have := bU_le u; cases a <;> simp [bU] <;> omega
theorem oU_le : ∀ u : List Un, oU u ≤ u.length
  | [] => by simp [oU]
  | a :: u => by have := oU_le u; cases a <;> simp [oU] <;> omega
theorem kBV : ∀ (l : List Cp) (m : Int), (∀ c ∈ l, qE c = true) → m + oU (unL l) ≤ 1099511627776 → outF m l = m + oU (unL l)
  | [], m, _, _ => by simp [outF, unL, oU]
  | c :: r, m, h, hb => by
    have hs := h c (by simp)
    have hr := fun x hx => h x (List.mem_cons_of_mem c hx)
    simp only [unL, oU_app] at hb ⊢
    have h1 := oU_piece hs
    simp only [outF]
    rcases qB hs with ⟨h2, h0, hne, hv⟩ | ⟨h13 | h3, hn, ht⟩
    · rw [if_neg (by omega)] at h1
      rw [h1] at hb ⊢
      have hz : size c = (cpts c.t).length := by rw [size, if_pos h2]
      rw [if_neg (by omega), if_pos h2, lc_cpts hv, ← hz, jG (by omega), kBV r _ hr (by omega)]
      omega
    · rw [if_neg (by omega)] at h1
      rw [h1] at hb ⊢
      have hz : size c = c.n.toNat := by rw [size, if_neg (by omega)]
      rw [if_pos h13, jG (by omega), kBV r _ hr (by omega)]
      omega
    · rw [if_pos h3] at h1
      rw [h1] at hb ⊢
      rw [if_neg (by omega), if_neg (by omega), kBV r _ hr (by omega)]
      omega
theorem nf_facts {l : List Cp} (h : ∀ c ∈ l, qE c = true) (hb : (unL l).length ≤ 100000) :
    (∀ cs, doL cs (nf l) = doU cs (unL l)) ∧ zY (nf l) = bU (unL l) ∧ outL (nf l) = oU (unL l) ∧ qL (nf l) = true := by
  have hv := sound_texts h
  have h1 := kDE l h
  have h2 := kC3 h
  have h3 := bU_le (unL l)
  have htn : tn l ≤ 100000 := by omega
  refine ⟨fun cs => by rw [do_nf hv (by omega), kCR l cs h], ?_, ?_, nf_normal hv⟩
  · have e := kCu l 0 0 [] 0 (by omega) (by omega) (by omega) (by omega)
    have e2 : zY (nf l) = zX (0 + 0 + 0) l := e
    rw [e2, kCM l (0 + 0 + 0) (by omega) h]
    have := sumN_eq l (s := 0 + 0 + 0) (by omega)
    rw [this]
    omega
  · have e := kFR l 0 0 [] 0 (by omega) (by omega) (by rw [kAr]; rfl) hv (by simp only [List.length_nil]; omega)
    have e2 : outL (nf l) = outF (0 + 0 + lc []) l := e
    rw [e2, kD6]
    have hou : oU (unL l) ≤ (unL l).length := oU_le _
    rw [kBV l (0 + 0 + ((0 : Nat) : Int)) h (by omega)]
    omega
end Go.Proofs
end
