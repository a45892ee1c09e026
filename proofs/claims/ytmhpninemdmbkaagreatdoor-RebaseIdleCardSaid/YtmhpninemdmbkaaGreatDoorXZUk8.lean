/-
  Two transactions with nothing in common. Plain.
-/
import Derived.Test.YtmhpninemdmbkaaGreatDoorXZUk3
import Derived.Test.YtmhpninemdmbkaaGreatDoorXZUn4
import Derived.Test.YtmhpninemdmbkaaGreatDoorXZUe11
set_option linter.unusedSimpArgs false
set_option linter.unusedVariables false
set_option linter.defProp false

-- ZUk8
section
namespace Go.Proofs
open Go Go.Rw
set_option maxRecDepth 100000
set_option linter.unusedSimpArgs false
set_option linter.unusedVariables false

theorem effS_ids2 : ∀ (l : List Ac) (out : List On) (p : Int), p ∈ (effS out l).map On.id → p ∈ out.map On.id ∨ p ∈ l.map Ac.id
  | [], out, p, h => .inl h
  | a :: l, out, p, h => by
    rw [kDt] at h
    rcases effS_ids2 l (kDW out a) p h with h | h
    · unfold kDW at h
      split at h
      · rw [kAz] at h; exact .inl h
      · rw [List.map_append, List.mem_append] at h
        rcases h with h | h
        · exact .inl h
        · simp only [List.map_cons, List.map_nil, List.mem_singleton, kDm, newO] at h
          exact .inr (by rw [h]; simp)
    · exact .inr (by simp only [List.map_cons, List.mem_cons]; exact .inr h)
theorem eff_ids_iff (l : List Ac) (p : Int) : p ∈ (effL l).map On.id ↔ p ∈ l.map Ac.id := by
  rw [effL, ((List.mergeSort_perm (effS [] l) leO).map On.id).mem_iff]
  constructor
  · intro h
    rcases effS_ids2 l [] p h with h | h
    · cases h
    · exact h
  · intro h
    obtain ⟨a, ha, rfl⟩ := List.mem_map.1 h
    exact (effS_ids l []).2 a ha
theorem getO_no {i : Int} {b : List Ac} (h : ∀ y ∈ b, y.id ≠ i) : getO i (effL b) = kCp := by
  have : ¬ fnd i (effL b) < (effL b).length := fun hl => by
    obtain ⟨y, hy, e⟩ := List.mem_map.1 ((eff_ids_iff b i).1 ((fnd_mem i _).1 hl))
    exact h y hy e
  simp [getO, List.getD_eq_getElem?_getD, List.getElem?_eq_none (show (effL b).length ≤ fnd i (effL b) by omega)]
theorem txn_one : ∀ {l m : List Ac}, zP m l = 0 → ∀ a ∈ l, oneI a = 0
  | a :: l, m, h, b, hb => by
    rw [zP] at h
    split at h
    · rename_i h1; exact absurd h h1
    · rename_i h1
      split at h
      · simp at h
      · rcases List.mem_cons.1 hb with rfl | hb
        · exact Decidable.not_not.1 h1
        · exact txn_one h b hb
theorem txn_good {l : List Ac} (h : txnE l = 0) : ∀ a ∈ l, badA a = false := fun a ha => by
  have hc : zP [] l = 0 := by
    unfold txnE at h
    split at h
    · simp at h
    · split at h
      · exact h
      · rename_i h2; exact Decidable.not_not.1 h2
  have h1 := txn_one hc a ha
  cases hb : badA a
  · rfl
  · rw [one_bad hb] at h1; simp at h1
theorem reb_far {a b : List Ac} (h : ∀ i ∈ jI [] a, ∀ y ∈ b, y.id ≠ i) (ha : txnE a = 0) (hb : txnE b = 0) : (rebR a (effL b)).out = a ∧ (rebR a (effL b)).e = 0 := by
  have hbad := txn_good hb
  have hw : ∀ x ∈ a, getO x.id (effL b) = kCp ∧ whyI x (effL b) = 0 := fun x hx => by
    have h1 : getO x.id (effL b) = kCp := getO_no fun y hy => h x.id ((kDa a [] _).2 (.inr ⟨x, hx, by simp [kAH]⟩)) y hy
    refine ⟨h1, ?_⟩
    have h2 : x.k = 1 ∨ x.k = 3 → getO x.par (effL b) = kCp := fun hk => getO_no fun y hy e => by
      by_cases hp : x.par = 0
      · have := hbad y hy
        rw [badA, decide_eq_false_iff_not] at this
        exact this (.inr (.inr (.inr (.inl (by omega)))))
      · refine h x.par ((kDa a [] _).2 (.inr ⟨x, hx, ?_⟩)) y hy e
        have hn : kAf x = true := by simpa [kAf] using hk
        simp [kAH, hn, hp]
    rw [whyI, h1]
    by_cases hk : x.k = 1 ∨ x.k = 3
    · rw [h2 hk]; rcases hk with hk | hk <;> simp [kAg, whyL, hk, kCp]
    · have n1 : ¬ 1 = x.k := fun e => hk (.inl e.symm)
      have n3 : ¬ 3 = x.k := fun e => hk (.inr e.symm)
      simp [kAg, whyL, kCp, n1, n3]
  have hf : ∀ (r out : List Ac), (∀ x ∈ r, x ∈ a) → rebF (effL b) out r = (out ++ r, 0) := by
    intro r
    induction r with
    | nil => intro out _; simp [rebF]
    | cons x r ih =>
      intro out hr
      obtain ⟨g1, g2⟩ := hw x (hr x (List.mem_cons_self ..))
      have hd : dropB x kCp = false := by simp [dropB, kCp]
      have he : kAj x kCp = (x, 0) := by simp [kAj, kCp]
      rw [rebF, if_neg (by rw [g2]; simp), g1, if_neg (by rw [hd]; simp), he]
      have e2 := ih (out ++ [x]) fun y hy => hr y (List.mem_cons_of_mem _ hy)
      rw [List.append_assoc, List.singleton_append] at e2
      simp only
      split
      · rw [if_neg (by simp)]; exact e2
      · exact e2
  have hf2 := hf a [] fun x hx => hx
  rw [List.nil_append] at hf2
  have : rebR a (effL b) = ⟨a, (effL b).map fun z => kBZ z a, 0⟩ := by
    rw [rebR, if_neg (by rw [ha]; simp), hf2]
    simp only
    rw [if_neg (by simp), if_neg (by rw [ha]; simp)]
  rw [this]
  exact ⟨rfl, rfl⟩
end Go.Proofs
end
