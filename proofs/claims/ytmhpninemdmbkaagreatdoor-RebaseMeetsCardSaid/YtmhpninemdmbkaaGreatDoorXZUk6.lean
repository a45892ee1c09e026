/-
  RebaseMeets: what two edits of one file come to. Plain.
-/
import Derived.Test.YtmhpninemdmbkaaGreatDoorXZUk3
import Derived.Test.YtmhpninemdmbkaaGreatDoorXZUn4
import Derived.Test.YtmhpninemdmbkaaGreatDoorXZAx5
import Derived.Test.YtmhpninemdmbkaaGreatDoorXZUo12
import Derived.Test.YtmhpninemdmbkaaGreatDoorXZUe7
set_option linter.unusedSimpArgs false
set_option linter.unusedVariables false
set_option linter.defProp false

-- ZUk6
section
namespace Go.Proofs
open Go Go.Rw
set_option maxRecDepth 100000
set_option linter.unusedSimpArgs false
set_option linter.unusedVariables false

def edA (l : List Cp) : Ac := ⟨4, 1, 0, [], false, l⟩
def fN (s : List UInt8) : Nd := ⟨1, 0, [102], false, s⟩
theorem one_ed (l : List Cp) : oneI (edA l) = checkI l := by
  have hb : badA (edA l) = false := by
    rw [bad_rest (a := edA l) (by simp [edA]) (by simp [edA]) rfl]
    simp [edA]
  rw [one_ok hb]; rfl
theorem txn_ed (l : List Cp) : txnE [edA l] = if checkI l ≠ 0 then checkI l else if (putC l : Int) > 2000 then 3 else 0 := by
  have hc : checkP [] [edA l] = checkI l := by
    rw [checkP, one_ed]
    split
    · rfl
    · rename_i h
      rw [if_neg (by simp [clashB]), checkP]
      simpa using (Decidable.not_not.1 h).symm
  unfold txnE
  rw [if_neg (by simp), hc]
  have : putS [edA l] = putC l := by simp [putS, edA]
  rw [this]
theorem put_out : ∀ (l : List Cp) (m : Int), 0 ≤ m → outF m l ≤ 2000 → m + putC l ≤ outF m l
  | [], m, _, _ => by simp [putC, outF]
  | c :: r, m, hm, h => by
    rw [outF] at h ⊢
    have hstep : 0 ≤ (if c.k = 1 then addI m (max c.n 0) else if c.k = 2 then addI m (lc c.t) else m) := by
      split
      · unfold addI; omega
      · split
        · unfold addI; omega
        · exact hm
    have ih := put_out r _ hstep h
    rw [putC]
    by_cases h1 : c.k = 1
    · simp only [h1, if_true] at ih h ⊢
      rw [if_neg (by decide)]
      have h3 : addI m (max c.n 0) ≤ 2000 := by omega
      unfold addI at h3 ih ⊢; omega
    · simp only [h1, if_false] at ih h ⊢
      by_cases h2 : c.k = 2
      · simp only [h2, if_true] at ih h ⊢
        have h3 : addI m (lc c.t) ≤ 2000 := by omega
        unfold addI at h3 ih ⊢; omega
      · simp only [h2, if_false] at ih h ⊢
        omega
theorem txn_ed0 {l : List Cp} (h : checkI l = 0) : txnE [edA l] = 0 := by
  have h1 := (check_cases h).2.2.2.2.2
  have h2 := put_out l 0 (by omega) (by simpa [outL] using h1)
  rw [txn_ed, if_neg (by rw [h]; simp), if_neg]
  simp only [outL] at h1
  omega
theorem txn_ed1 {l : List Cp} (h : ¬ checkI l = 0) : txnE [edA l] = checkI l := by rw [txn_ed, if_pos h]
theorem doN_ed (s : List UInt8) (l : List Cp) : doN [fN s] (edA l) = if errI s l ≠ 0 then ([fN s], errI s l) else if (totN [fN (doneB s l)] : Int) > 10000 then ([fN s], 4) else ([fN (doneB s l)], 0) := by
  rfl
theorem do_ed {s : List UInt8} {l : List Cp} (h : errI s l = 0) : doN [fN s] (edA l) = ([fN (doneB s l)], 0) := by
  obtain ⟨h1, h2, _⟩ := done_law h
  have h3 := (check_cases (err_zero h).1).2.2.2.2.2
  have ht : totN [fN (doneB s l)] = (doL (cpts s) l).length := by
    show cnt (doneB s l) + 0 = _
    rw [cnt_pts h1]; rfl
  rw [doN_ed, if_neg (by rw [h]; simp), if_neg (by rw [ht]; omega)]
theorem all_ed {s : List UInt8} {l : List Cp} (h : errI s l = 0) : allN [fN s] [edA l] = ⟨[fN (doneB s l)], 1, 0⟩ := by
  have hc := (err_zero h).1
  rw [allN, if_neg (by rw [txn_ed0 hc]; simp), allF, do_ed h]
  simp [allF]
theorem all_ed_e {s : List UInt8} {l : List Cp} (h : ¬ errI s l = 0) : (allN [fN s] [edA l]).e = errI s l := by
  by_cases hc : checkI l = 0
  · rw [allN, if_neg (by rw [txn_ed0 hc]; simp), allF, doN_ed, if_pos h]
    simp only
    rw [if_pos h]
  · have e : errI s l = checkI l := by unfold errI; rw [if_neg hc]
    rw [allN, txn_ed1 hc, if_pos hc, e]
theorem why_ed (a b : List Cp) : whyI (edA b) [⟨1, a, true, false, false, false, 0, []⟩] = 0 := by
  have h1 : getO 1 [⟨1, a, true, false, false, false, 0, []⟩] = ⟨1, a, true, false, false, false, 0, []⟩ := rfl
  have h2 : getO 0 [⟨1, a, true, false, false, false, 0, []⟩] = zeroO := rfl
  simp only [whyI, edA, h1, h2, rulesL, whyL]
  simp
/-- The later edit, behind the first one. -/
def laterL (a b : List Cp) : List Cp := if a = [] then b else ovN false b a
theorem norm_big {l : List Cp} (h : normalL l = true) : checkI l = 0 ∨ checkI l = 3 := by
  unfold checkI
  split
  · exact .inr rfl
  · rw [if_neg (by rw [h]; simp)]
    split
    · exact .inr rfl
    · exact .inl rfl
theorem reb_ed {s : List UInt8} {a b : List Cp} (e1 : errI s a = 0) (e2 : errI s b = 0) (oa : okL a) (ob : okL b) :
    (checkI (laterL a b) = 0 ∨ checkI (laterL a b) = 3) ∧ okL (laterL a b) ∧
    rebR [edA b] [⟨1, a, true, false, false, false, 0, []⟩] = if checkI (laterL a b) = 0 then ⟨[edA (laterL a b)], [⟨1, if a = [] then [] else ovN true a b, true, false, false, false, 0, []⟩], 0⟩ else ⟨[], [⟨1, a, true, false, false, false, 0, []⟩], 3⟩ := by
  obtain ⟨a1, a2, a3, a4⟩ := err_zero e1
  obtain ⟨b1, b2, b3, b4⟩ := err_zero e2
  have he := ovE_of a1 b1 (by omega)
  have he2 := ovE_comm he
  have hk : (checkI (laterL a b) = 0 ∨ checkI (laterL a b) = 3) ∧ okL (laterL a b) := by
    unfold laterL
    split
    · exact ⟨.inl b1, ob⟩
    · exact ⟨norm_big (ov_facts false he2 ob oa).2.2.1, (ov_facts false he2 ob oa).2.2.2⟩
  refine ⟨hk.1, hk.2, ?_⟩
  have hg : getO 1 [⟨1, a, true, false, false, false, 0, []⟩] = ⟨1, a, true, false, false, false, 0, []⟩ := rfl
  have hed : editL (edA b) ⟨1, a, true, false, false, false, 0, []⟩ = (edA (laterL a b), 0) := by
    unfold editL laterL
    by_cases h : a = []
    · rw [if_pos (.inr h), if_pos h]
    · rw [if_neg (by simp [h]), if_neg h, if_pos (by exact he2)]; rfl
  have hf : rebF [⟨1, a, true, false, false, false, 0, []⟩] [] [edA b] = ([edA (laterL a b)], 0) := by
    rw [rebF, if_neg (by rw [why_ed]; simp), show (edA b).id = 1 from rfl, hg, if_neg (by simp [dropB, edA])]
    have h4 : (edA b).k = 4 := rfl
    simp only [h4, if_true, hed]
    rw [if_neg (by simp), rebF]
    rfl
  rw [rebR, if_neg (by rw [txn_ed0 b1]; simp), hf]
  simp only
  rw [if_neg (by simp)]
  by_cases hc : checkI (laterL a b) = 0
  · rw [if_neg (by rw [txn_ed0 hc]; simp), if_pos hc]
    have ho : overO ⟨1, a, true, false, false, false, 0, []⟩ [edA b] = ⟨1, if a = [] then [] else ovN true a b, true, false, false, false, 0, []⟩ := by
      rw [overO, overO]
      by_cases h : a = []
      · rw [if_neg (by simp [h]), if_pos h, h]
      · rw [if_pos ⟨rfl, rfl, h⟩, if_neg h, behL, show (edA b).ops = b from rfl, if_pos he]
    simp only [List.map_cons, List.map_nil, ho]
  · have h3 : checkI (laterL a b) = 3 := by rcases hk.1 with h | h; exact absurd h hc; exact h
    rw [if_pos (by rw [txn_ed1 hc]; exact hc), txn_ed1 hc, if_neg hc, h3]
theorem nil_text {s : List UInt8} (h : errI s [] = 0) : s = [] := by
  obtain ⟨_, h2, h3, _⟩ := err_zero h
  have : (cpts s).length = 0 := by simpa [baseL, baseF] using h3
  have e := (pts_some h2).2
  rw [e, List.eq_nil_of_length_eq_zero this]; rfl
theorem later_do {s : List UInt8} {a b : List Cp} (e1 : errI s a = 0) (e2 : errI s b = 0) (oa : okL a) (ob : okL b) (hc : checkI (laterL a b) = 0) : errI (doneB s a) (laterL a b) = 0 := by
  unfold laterL at hc ⊢
  by_cases h : a = []
  · subst h
    rw [if_pos rfl]
    have hs := nil_text e1
    subst hs
    have : doneB [] [] = [] := by
      have := (done_law e1).1
      unfold doneB; rw [if_pos e1]; rfl
    rw [this]; exact e2
  · rw [if_neg h] at hc ⊢
    exact (do_over e2 e1 ob oa hc).2.1
theorem left_do {s : List UInt8} {a b : List Cp} (e1 : errI s a = 0) (e2 : errI s b = 0) (oa : okL a) (ob : okL b) (ha : a ≠ []) (hc : checkI (laterL a b) = 0) (hd : checkI (ovN true a b) = 0) :
    doneB (doneB s b) (ovN true a b) = doneB (doneB s a) (laterL a b) := by
  obtain ⟨a1, a2, a3, a4⟩ := err_zero e1
  obtain ⟨b1, b2, b3, b4⟩ := err_zero e2
  have he := ovE_of a1 b1 (by omega)
  unfold laterL at hc ⊢
  rw [if_neg ha] at hc ⊢
  obtain ⟨_, g1, g2, g3⟩ := do_over e1 e2 oa ob hd
  obtain ⟨_, k1, k2, k3⟩ := do_over e2 e1 ob oa hc
  rw [ov_meet true he oa ob a3, show (!true) = false from rfl, ← k2] at g2
  exact g2
end Go.Proofs
end
