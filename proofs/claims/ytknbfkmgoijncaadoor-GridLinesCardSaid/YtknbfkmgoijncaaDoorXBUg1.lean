/-
  A text's lines. Plain.
-/
import Derived.Test.YtknbfkmgoijncaaDoorXBUt1
set_option linter.unusedSimpArgs false
set_option linter.unusedVariables false
set_option linter.defProp false

-- BUg1
section
namespace Go.Proofs
open Go Go.Rw
set_option maxRecDepth 100000
set_option linter.unusedSimpArgs false
set_option linter.unusedVariables false

/-- How wide the lines are; so many of the first one are told. -/
def wids : Nat → List Nat → List Nat
  | n, [] => [n]
  | n, c :: r => if c = 10 then n :: wids 0 r else wids (n + 1) r
def lns (cs : List Nat) : List Nat := wids 0 cs
/-- So many characters lie ahead of what lies behind these lines. -/
def ahd : List Nat → Nat
  | [] => 0
  | n :: r => n + 1 + ahd r
theorem wids_ne : ∀ (cs : List Nat) (n : Nat), ∃ m r, wids n cs = m :: r
  | [], n => ⟨n, [], rfl⟩
  | c :: cs, n => by
    rw [wids]
    split
    · exact ⟨_, _, rfl⟩
    · exact wids_ne cs (n + 1)
theorem wids_ahd : ∀ (cs : List Nat) (n : Nat), ahd (wids n cs) = n + cs.length + 1
  | [], n => by simp [wids, ahd]
  | c :: cs, n => by
    rw [wids]
    split
    · rw [ahd, wids_ahd cs 0, List.length_cons]; omega
    · rw [wids_ahd cs (n + 1), List.length_cons]; omega
theorem lns_ahd (cs : List Nat) : ahd (lns cs) = cs.length + 1 := by rw [lns, wids_ahd]; omega
theorem ahd_app : ∀ a b : List Nat, ahd (a ++ b) = ahd a + ahd b
  | [], b => by simp [ahd]
  | x :: a, b => by simp only [List.cons_append, ahd, ahd_app a b]; omega
theorem ahd_sum : ∀ a : List Nat, ahd a = a.sum + a.length
  | [] => rfl
  | x :: a => by simp only [ahd, ahd_sum a, List.sum_cons, List.length_cons]; omega
theorem lns_len (cs : List Nat) : 1 ≤ (lns cs).length ∧ (lns cs).length ≤ cs.length + 1 := by
  obtain ⟨m, r, h⟩ := wids_ne cs 0
  have h2 := ahd_sum (lns cs)
  rw [lns_ahd] at h2
  refine ⟨by rw [lns, h]; simp, by omega⟩
theorem ahd_mem : ∀ {w : List Nat} {x : Nat}, x ∈ w → x + 1 ≤ ahd w
  | [], x, h => by cases h
  | n :: r, x, h => by
    simp only [ahd]
    rcases List.mem_cons.1 h with rfl | h
    · omega
    · have := ahd_mem h; omega
theorem lns_mem {cs : List Nat} {x : Nat} (h : x ∈ lns cs) : x ≤ cs.length := by
  have h2 := ahd_mem h
  rw [lns_ahd] at h2
  omega
/-- A place's line and column. -/
def atL : List Nat → Nat → Nat × Nat
  | [], p => (0, p)
  | n :: r, p => if p ≤ n then (0, p) else ((atL r (p - (n + 1))).1 + 1, (atL r (p - (n + 1))).2)
theorem atL_facts : ∀ (w : List Nat) (p : Nat), p < ahd w → (atL w p).1 < w.length ∧ (atL w p).2 ≤ w.getD (atL w p).1 0 ∧ (atL w p).2 + ahd (w.take (atL w p).1) = p
  | [], p, h => by simp [ahd] at h
  | n :: r, p, h => by
    rw [atL]
    by_cases h1 : p ≤ n
    · rw [if_pos h1]; simp [ahd, h1]
    · rw [if_neg h1]
      simp only [ahd] at h
      obtain ⟨i1, i2, i3⟩ := atL_facts r (p - (n + 1)) (by omega)
      simp only [List.length_cons, List.getD_cons_succ, List.take_succ_cons, ahd]
      exact ⟨by omega, i2, by omega⟩
theorem atL_back : ∀ (w : List Nat) (k c : Nat), k < w.length → c ≤ w.getD k 0 → atL w (c + ahd (w.take k)) = (k, c)
  | [], k, c, h, _ => by simp at h
  | n :: r, 0, c, h, h2 => by
    simp only [List.getD_cons_zero] at h2
    rw [List.take_zero, ahd, atL, if_pos (by omega)]; rfl
  | n :: r, k + 1, c, h, h2 => by
    simp only [List.getD_cons_succ] at h2
    have := atL_back r k c (by simpa using h) h2
    rw [List.take_succ_cons, ahd, atL, if_neg (by omega), show c + (n + 1 + ahd (r.take k)) - (n + 1) = c + ahd (r.take k) by omega, this]
theorem ahd_take_lt {w : List Nat} {k : Nat} (h : k < w.length) : w.getD k 0 + ahd (w.take k) < ahd w := by
  have h1 := ahd_app (w.take k) (w.drop k)
  rw [List.take_append_drop, List.drop_eq_getElem_cons h] at h1
  simp only [ahd] at h1
  rw [List.getD_eq_getElem?_getD, List.getElem?_eq_getElem h]
  simp only [Option.getD_some]
  omega
theorem ahd_take_mono {w : List Nat} {i j : Nat} (h : i ≤ j) : ahd (w.take i) ≤ ahd (w.take j) := by
  have h1 : w.take j = w.take i ++ (w.drop i).take (j - i) := by rw [← List.take_add]; congr 1; omega
  rw [h1, ahd_app]; omega
/-- Where the lines begin. -/
def begF : Nat → List Nat → List Nat
  | _, [] => []
  | o, n :: r => o :: begF (o + n + 1) r
theorem begF_len : ∀ (w : List Nat) (o : Nat), (begF o w).length = w.length
  | [], _ => rfl
  | n :: r, o => by simp [begF, begF_len r]
theorem begF_get : ∀ (w : List Nat) (o k : Nat), k < w.length → (begF o w)[k]? = some (o + ahd (w.take k))
  | [], o, k, h => by simp at h
  | n :: r, o, 0, h => by simp [begF, ahd]
  | n :: r, o, k + 1, h => by
    rw [begF, List.getElem?_cons_succ, begF_get r _ k (by simpa using h), List.take_succ_cons, ahd]
    congr 1; omega
/-- The next place: the next column, or the next line's first one. -/
theorem atL_next {w : List Nat} {p : Nat} (h : p + 1 < ahd w) : ((atL w p).2 < w.getD (atL w p).1 0 ∧ atL w (p + 1) = ((atL w p).1, (atL w p).2 + 1)) ∨ ((atL w p).2 = w.getD (atL w p).1 0 ∧ (atL w p).1 + 1 < w.length ∧ atL w (p + 1) = ((atL w p).1 + 1, 0)) := by
  obtain ⟨h1, h2, h3⟩ := atL_facts w p (by omega)
  generalize (atL w p).1 = k at *
  generalize (atL w p).2 = c at *
  by_cases h4 : c < w.getD k 0
  · left
    refine ⟨h4, ?_⟩
    have := atL_back w k (c + 1) h1 (by omega)
    rw [← this]; congr 1; omega
  · right
    have h5 : c = w.getD k 0 := by omega
    have h6 := ahd_app (w.take (k + 1)) (w.drop (k + 1))
    rw [List.take_append_drop, List.take_succ_eq_append_getElem h1, ahd_app] at h6
    simp only [ahd] at h6
    have h7 : w.getD k 0 = w[k] := by rw [List.getD_eq_getElem?_getD, List.getElem?_eq_getElem h1]; rfl
    have h8 : k + 1 < w.length := by
      apply Classical.byContradiction
      intro hn
      rw [List.drop_of_length_le (by omega)] at h6
      simp only [ahd] at h6
      omega
    refine ⟨h5, h8, ?_⟩
    have := atL_back w (k + 1) 0 h8 (by omega)
    rw [← this, List.take_succ_eq_append_getElem h1, ahd_app]
    simp only [ahd]
    congr 1; omega
theorem atL_zero (w : List Nat) (h : 1 ≤ w.length) : atL w 0 = (0, 0) := by
  cases w with
  | nil => simp at h
  | cons n r => rw [atL, if_pos (by omega)]
end Go.Proofs
end
