/-
  What the acts did, ID by ID. Plain.
-/
import Derived.Test.YtmhpninemdmbkaaGreatDoorXZUe5
import Derived.Test.YtmhpninemdmbkaaGreatDoorXZUe6
set_option linter.unusedSimpArgs false
set_option linter.unusedVariables false
set_option linter.defProp false

-- ZUe11
section
namespace Go.Proofs
open Go Go.Rw
set_option maxRecDepth 100000
def newO (id : Int) : On := ⟨id, [], false, false, false, false, 0, []⟩
def curO (id : Int) (out : List On) : On := out.getD (fnd id out) (newO id)
def kE3 (out : List On) (a : Ac) : List On := if fnd a.id out < out.length then out.modify (fnd a.id out) (addA · a) else out ++ [addA (newO a.id) a]
theorem kDs (out : List On) (a : Ac) (l : List Ac) : effS out (a :: l) = effS (kE3 out a) l := rfl
theorem fnd_nodup : ∀ (l : List On), (l.map On.id).Nodup → ∀ (i : Nat) (h : i < l.length), fnd (l[i]).id l = i
  | x :: l, hn, 0, _ => by simp [fnd]
  | x :: l, hn, i + 1, h => by
    simp only [List.map_cons, List.nodup_cons] at hn
    have h2 : i < l.length := by simpa using h
    have hne : ¬ x.id = (l[i]).id := fun e => hn.1 (by rw [e]; exact List.mem_map.2 ⟨_, List.getElem_mem h2, rfl⟩)
    simp only [List.getElem_cons_succ]
    rw [fnd, if_neg hne, fnd_nodup l hn.2 i h2]
theorem fnd_ids (id : Int) : ∀ l l' : List On, l.map On.id = l'.map On.id → fnd id l = fnd id l'
  | [], [], _ => rfl
  | x :: l, y :: l', h => by
    simp only [List.map_cons, List.cons.injEq] at h
    rw [fnd, fnd, h.1, fnd_ids id l l' h.2]
  | [], y :: l', h => by simp at h
  | x :: l, [], h => by simp at h
theorem fnd_app (id : Int) : ∀ (l : List On) (x : On), fnd id (l ++ [x]) = if fnd id l < l.length then fnd id l else if x.id = id then l.length else l.length + 1
  | [], x => by simp [fnd]
  | y :: l, x => by
    rw [List.cons_append, fnd, fnd]
    by_cases h : y.id = id
    · simp [h]
    · rw [if_neg h, if_neg h, fnd_app id l x]
      simp only [List.length_cons, Nat.add_lt_add_iff_right]
      split
      · rfl
      · split <;> rfl
theorem cur_step {out : List On} (id : Int) (a : Ac) : curO id (kE3 out a) = if a.id = id then addA (curO id out) a else curO id out := by
  unfold kE3
  by_cases hf : fnd a.id out < out.length
  · rw [if_pos hf]
    have e1 : fnd id (out.modify (fnd a.id out) (addA · a)) = fnd id out := fnd_ids id _ _ (kB0 _ _ _)
    unfold curO
    rw [e1]
    by_cases h : a.id = id
    · subst h
      rw [if_pos rfl, List.getD_eq_getElem?_getD, List.getD_eq_getElem?_getD, List.getElem?_modify_eq]
      simp [hf]
    · rw [if_neg h, List.getD_eq_getElem?_getD, List.getD_eq_getElem?_getD]
      by_cases h2 : fnd id out < out.length
      · have hne : fnd a.id out ≠ fnd id out := fun e => by
          have g1 := fnd_get a.id out hf
          have g2 := fnd_get id out h2
          simp only [e] at g1
          exact h (g1.symm.trans g2)
        rw [List.getElem?_modify]; simp [hne]
      · rw [List.getElem?_eq_none (by rw [List.length_modify]; omega), List.getElem?_eq_none (by omega)]
  · rw [if_neg hf]
    unfold curO
    rw [fnd_app]
    by_cases h2 : fnd id out < out.length
    · rw [if_pos h2]
      have hne : ¬ a.id = id := fun e => hf (by rw [e]; exact h2)
      rw [if_neg hne, List.getD_eq_getElem?_getD, List.getD_eq_getElem?_getD, List.getElem?_append_left h2]
    · rw [if_neg h2]
      have e3 : out.getD (fnd id out) (newO id) = newO id := by rw [List.getD_eq_getElem?_getD, List.getElem?_eq_none (by omega)]; rfl
      rw [e3]
      have hid : (addA (newO a.id) a).id = a.id := kDB _ _
      rw [hid]
      by_cases h : a.id = id
      · subst h
        rw [if_pos rfl, if_pos rfl, List.getD_eq_getElem?_getD]; simp
      · rw [if_neg h, if_neg h, List.getD_eq_getElem?_getD, List.getElem?_eq_none (by simp)]; rfl
theorem stepS_nodup {out : List On} (a : Ac) (h : (out.map On.id).Nodup) : ((kE3 out a).map On.id).Nodup := kBc [a] out h
theorem cur_mem {out : List On} (hn : (out.map On.id).Nodup) {x : On} (hx : x ∈ out) : x = curO x.id out := by
  obtain ⟨i, hi, rfl⟩ := List.getElem_of_mem hx
  rw [curO, fnd_nodup out hn i hi, List.getD_eq_getElem?_getD, List.getElem?_eq_getElem hi]; rfl
theorem effS_cur : ∀ (l : List Ac) (out : List On), (out.map On.id).Nodup → ∀ x ∈ effS out l, x = (l.filter fun a => decide (a.id = x.id)).foldl addA (curO x.id out)
  | [], out, hn, x, hx => cur_mem hn hx
  | a :: l, out, hn, x, hx => by
    rw [kDs] at hx
    have h := effS_cur l (kE3 out a) (stepS_nodup a hn) x hx
    rw [cur_step] at h
    rw [List.filter_cons]
    by_cases hid : a.id = x.id
    · rw [if_pos hid] at h
      simp only [hid, decide_true, if_true, List.foldl_cons]
      exact h
    · rw [if_neg hid] at h
      simp only [hid, decide_false, Bool.false_eq_true, if_false]
      exact h
theorem effS_ids : ∀ (l : List Ac) (out : List On), (∀ x ∈ out.map On.id, x ∈ (effS out l).map On.id) ∧ ∀ a ∈ l, a.id ∈ (effS out l).map On.id
  | [], out => ⟨fun x h => h, fun a h => by cases h⟩
  | a :: l, out => by
    rw [kDs]
    obtain ⟨h1, h2⟩ := effS_ids l (kE3 out a)
    have key : (∀ x ∈ out.map On.id, x ∈ (kE3 out a).map On.id) ∧ a.id ∈ (kE3 out a).map On.id := by
      unfold kE3
      by_cases hf : fnd a.id out < out.length
      · rw [if_pos hf, kB0]
        exact ⟨fun x h => h, (fnd_mem a.id out).1 hf⟩
      · rw [if_neg hf, List.map_append, List.map_cons, List.map_nil, kDB]
        exact ⟨fun x h => List.mem_append_left _ h, by simp [newO]⟩
    refine ⟨fun x hx => h1 x (key.1 x hx), fun b hb => ?_⟩
    rcases List.mem_cons.1 hb with rfl | hb
    · exact h1 _ key.2
    · exact h2 b hb
theorem eff_nodup (l : List Ac) : ((effL l).map On.id).Nodup := ((List.mergeSort_perm (effS [] l) leO).map On.id).nodup_iff.2 (kBc l [] (by simp))
theorem eff_sorted (l : List Ac) : (effL l).Pairwise fun a b => a.id < b.id := by
  have h1 : (effL l).Pairwise fun a b => a.id ≤ b.id := by
    have := List.pairwise_mergeSort (le := leO) (fun a b c h1 h2 => by simp only [leO, decide_eq_true_eq] at *; omega) (fun a b => by simp only [leO, Bool.or_eq_true, decide_eq_true_eq]; omega) (effS [] l)
    exact this.imp fun h => by simpa [leO] using h
  have h2 : (effL l).Pairwise fun a b => a.id ≠ b.id := by
    have := eff_nodup l
    rw [List.Nodup, List.pairwise_map] at this
    exact this
  exact (h1.and h2).imp fun h => by omega
theorem eff_len (l : List Ac) : (effL l).length ≤ l.length := by
  have := effS_len l []
  rw [effL, List.length_mergeSort]
  simpa using this
theorem fold_ops : ∀ (m : List Ac) (x : On), okL x.ops → (∀ a ∈ m, okL a.ops) → okL (m.foldl addA x).ops
  | [], x, h, _ => h
  | a :: m, x, h, ha => by
    refine fold_ops m (addA x a) ?_ fun b hb => ha b (List.mem_cons_of_mem _ hb)
    unfold addA
    split
    · exact h
    · split
      · exact h
      · split
        · exact h
        · split
          · exact ha a (List.mem_cons_self ..)
          · exact h
theorem eff_ok {l : List Ac} (ho : ∀ a ∈ l, okL a.ops) {x : On} (hx : x ∈ effL l) : okL x.ops := by
  have hm : x ∈ effS [] l := (List.mergeSort_perm _ leO).mem_iff.1 hx
  have h := effS_cur l [] (by simp) x hm
  rw [h]
  exact fold_ops _ _ (show okL ([] : List Cp) from ⟨by decide, by decide, fun c hc => by cases hc⟩) fun a ha => ho a (List.mem_filter.1 ha).1
end Go.Proofs
end
