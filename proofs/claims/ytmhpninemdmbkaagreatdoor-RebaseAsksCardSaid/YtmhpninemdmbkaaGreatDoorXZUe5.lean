/-
  What the acts did, in the order of the IDs. Plain.
-/
import Derived.Test.YtmhpninemdmbkaaGreatDoorXZUe2b
set_option linter.unusedSimpArgs false
set_option linter.unusedVariables false
set_option linter.defProp false

-- ZUe5
section
namespace Go.Proofs
open Go Go.Rw
set_option maxRecDepth 100000
def leO (a b : On) : Bool := decide (a.id ≤ b.id)
def effL (l : List Ac) : List On := (effS [] l).mergeSort leO
theorem fnd_mem (id : Int) : ∀ l : List On, fnd id l < l.length ↔ id ∈ l.map On.id
  | [] => by simp [fnd]
  | x :: l => by
    rw [fnd]
    by_cases h : x.id = id
    · simp [h]
    · rw [if_neg h]
      have := fnd_mem id l
      simp only [List.length_cons, List.map_cons, List.mem_cons, Nat.add_lt_add_iff_right, this]
      simp [Ne.symm h]
theorem fnd_get (id : Int) : ∀ (l : List On) (h : fnd id l < l.length), (l[fnd id l]).id = id
  | x :: l, h => by
    by_cases hx : x.id = id
    · simp only [fnd, hx, if_true, List.getElem_cons_zero]
    · have h2 : fnd id l < l.length := by rw [fnd, if_neg hx] at h; simpa using h
      have := fnd_get id l h2
      simp only [fnd, hx, if_false, List.getElem_cons_succ]
      exact this
theorem kB0 (l : List On) (i : Nat) (a : Ac) : (l.modify i (addA · a)).map On.id = l.map On.id := by
  apply List.ext_getElem
  · simp
  · intro k h1 h2
    simp only [List.getElem_map, List.getElem_modify]
    split
    · exact kDB _ _
    · rfl
theorem kBc : ∀ (l : List Ac) (out : List On), (out.map On.id).Nodup → ((effS out l).map On.id).Nodup
  | [], out, h => h
  | a :: l, out, h => by
    rw [effS]
    apply kBc l
    by_cases hf : fnd a.id out < out.length
    · rw [if_pos hf, kB0]; exact h
    · rw [if_neg hf, List.map_append, List.map_cons, List.map_nil, kDB]
      rw [fnd_mem] at hf
      rw [List.nodup_append]
      refine ⟨h, by simp, fun x hx y hy => ?_⟩
      rw [List.mem_singleton.1 hy]
      rintro rfl
      exact hf hx
theorem effS_len : ∀ (l : List Ac) (out : List On), (effS out l).length ≤ out.length + l.length
  | [], out => by simp [effS]
  | a :: l, out => by
    rw [effS]
    have := effS_len l (if fnd a.id out < out.length then out.modify (fnd a.id out) (addA · a) else out ++ [addA ⟨a.id, [], false, false, false, false, 0, []⟩ a])
    simp only [List.length_cons]
    split at this <;> rename_i h <;> simp at this <;> simp [h] <;> omega
theorem perm_unmap {α β : Type} (f : α → β) {zs : List β} : ∀ {xs : List α}, zs.Perm (xs.map f) → ∃ ys : List α, ys.Perm xs ∧ zs = ys.map f := by
  intro xs h
  generalize hm : xs.map f = ms at h
  induction h generalizing xs with
  | nil => 
    have : xs = [] := by simpa using hm
    subst this
    exact ⟨[], .refl _, rfl⟩
  | cons z hp ih =>
    obtain ⟨x, r, rfl, rfl, rfl⟩ := List.map_eq_cons_iff.1 hm
    obtain ⟨ys, h1, h2⟩ := ih rfl
    exact ⟨x :: ys, h1.cons x, by rw [h2]; rfl⟩
  | swap z1 z2 l =>
    obtain ⟨x, r, rfl, rfl, h3⟩ := List.map_eq_cons_iff.1 hm
    obtain ⟨y, r2, rfl, rfl, rfl⟩ := List.map_eq_cons_iff.1 h3
    exact ⟨y :: x :: r2, .swap _ _ _, rfl⟩
  | trans h1 h2 ih1 ih2 =>
    obtain ⟨ys, h3, rfl⟩ := ih2 hm
    obtain ⟨us, h4, rfl⟩ := ih1 rfl
    exact ⟨us, h4.trans h3, rfl⟩
def kO : AV → Int
  | .agg (.v (.int _ n) :: _) => n
  | _ => 0
theorem sorted_one {xs : List On} (hn : (xs.map On.id).Nodup) {zs : List AV} (hp : zs.Perm (ones xs)) (hs : zs.Pairwise fun a b => kO a ≤ kO b) : zs = ones (xs.mergeSort leO) := by
  obtain ⟨ys, h1, rfl⟩ := perm_unmap oA hp
  have h2 : ys.Pairwise fun a b => a.id ≤ b.id := by
    rw [List.pairwise_map] at hs
    exact hs
  have h3 : (xs.mergeSort leO).Pairwise fun a b => a.id ≤ b.id := by
    have := List.pairwise_mergeSort (le := leO) (fun a b c h1 h2 => by simp only [leO, decide_eq_true_eq] at *; omega) (fun a b => by simp only [leO, Bool.or_eq_true, decide_eq_true_eq]; omega) xs
    exact this.imp fun h => by simpa [leO] using h
  have h4 : ys.Perm (xs.mergeSort leO) := h1.trans (List.mergeSort_perm xs leO).symm
  have key : ∀ a ∈ xs, ∀ b ∈ xs, a.id = b.id → a = b := fun a ha b hb he => by
    obtain ⟨i, hi, rfl⟩ := List.getElem_of_mem ha
    obtain ⟨j, hj, rfl⟩ := List.getElem_of_mem hb
    have hq := List.pairwise_iff_getElem.1 hn
    rcases Nat.lt_trichotomy i j with h | h | h
    · exact (hq i j (by simpa using hi) (by simpa using hj) h (by rw [List.getElem_map, List.getElem_map]; exact he)).elim
    · subst h; rfl
    · exact (hq j i (by simpa using hj) (by simpa using hi) h (by rw [List.getElem_map, List.getElem_map]; exact he.symm)).elim
  rw [List.Perm.eq_of_pairwise (fun a b ha hb h5 h6 => key a (h1.mem_iff.1 ha) b ((List.mergeSort_perm xs leO).mem_iff.1 hb) (by omega)) h2 h3 h4]
  rfl
end Go.Proofs
end
