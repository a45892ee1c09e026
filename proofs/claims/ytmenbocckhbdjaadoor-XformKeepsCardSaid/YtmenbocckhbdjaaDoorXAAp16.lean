/-
  An edit whose texts are numbered anew. Plain.
-/
import Derived.Test.YtmenbocckhbdjaaDoorXAAp15
import Derived.Test.YtmenbocckhbdjaaDoorXAUt8
set_option linter.unusedSimpArgs false
set_option linter.unusedVariables false
set_option linter.defProp false

-- AAp16
section
namespace Go.Proofs
open Go Go.Rw
set_option maxRecDepth 100000
set_option linter.unusedSimpArgs false
set_option linter.unusedVariables false

def nx1 (nx : Nat) (c : Cp) : Nat := if c.k = 2 then nx + (cpts c.t).length else nx
def rc1 (nx : Nat) (c : Cp) : Cp := if c.k = 2 then ⟨c.k, c.n, encs (List.range' nx (cpts c.t).length)⟩ else c
def nxt : Nat → List Cp → Nat
  | nx, [] => nx
  | nx, c :: r => nxt (nx1 nx c) r
def ren : Nat → List Cp → List Cp
  | _, [] => []
  | nx, c :: r => rc1 nx c :: ren (nx1 nx c) r
theorem ren_len : ∀ (l : List Cp) (nx : Nat), (ren nx l).length = l.length
  | [], _ => rfl
  | c :: r, nx => by simp [ren, ren_len r]
theorem nxt_app : ∀ (a b : List Cp) (nx : Nat), nxt nx (a ++ b) = nxt (nxt nx a) b
  | [], _, _ => rfl
  | c :: a, b, nx => by simp only [List.cons_append, nxt]; exact nxt_app a b _
theorem ren_app : ∀ (a b : List Cp) (nx : Nat), ren nx (a ++ b) = ren nx a ++ ren (nxt nx a) b
  | [], _, _ => rfl
  | c :: a, b, nx => by simp only [List.cons_append, ren, nxt]; rw [ren_app a b]
theorem nxt_le : ∀ (l : List Cp) (nx : Nat), nx ≤ nxt nx l ∧ nxt nx l ≤ nx + tot l
  | [], nx => by simp [nxt, tot]
  | c :: r, nx => by
    have h := nxt_le r (nx1 nx c)
    have h2 := cpts_len c.t
    simp only [nxt, tot]
    unfold nx1 at *
    split at h <;> rename_i h3
    · rw [if_pos h3]; omega
    · rw [if_neg h3]; omega
theorem nx1_le (nx : Nat) (c : Cp) : nx ≤ nx1 nx c ∧ nx1 nx c ≤ nx + c.t.length := by
  have h2 := cpts_len c.t
  unfold nx1
  split <;> omega
theorem okc_range {nx n : Nat} (h1 : 1 ≤ nx) (h2 : nx + n ≤ 55296) : ∀ c ∈ List.range' nx n, okc c := by
  intro c hc
  rw [List.mem_range'_1] at hc
  unfold okc
  omega
theorem rc1_k (nx : Nat) (c : Cp) : (rc1 nx c).k = c.k ∧ (rc1 nx c).n = c.n := by unfold rc1; split <;> exact ⟨rfl, rfl⟩
theorem range_ne {nx n : Nat} : encs (List.range' nx n) = [] ↔ n = 0 := by
  cases n with
  | zero => simp [encs_nil]
  | succ n =>
    rw [List.range'_succ]
    have := encs_pos (c := nx) (cs := List.range' (nx + 1) n)
    constructor
    · intro h; rw [h] at this; simp at this
    · intro h; omega
theorem rc1_sound {nx : Nat} {c : Cp} (h : sound c = true) (h1 : 1 ≤ nx) (h2 : nx + c.t.length ≤ 55296) : sound (rc1 nx c) = true := by
  unfold rc1
  split
  · rename_i h3
    have hl := cpts_len c.t
    rcases sound_cases h with ⟨_, h4, h5, h6⟩ | ⟨h4, _⟩
    · have hp := pts_enc (okc_range (nx := nx) (n := (cpts c.t).length) h1 (by omega))
      have hne : encs (List.range' nx (cpts c.t).length) ≠ [] := fun e => cpts_ne h6 h5 (range_ne.1 e)
      unfold sound
      simp [h3, h4, hp, hne]
    · omega
  · exact h
theorem ren_normal : ∀ (l : List Cp) (nx : Nat) (p q : Option Cp), p.map Cp.k = q.map Cp.k → (∀ c ∈ l, sound c = true) → 1 ≤ nx → nx + tot l ≤ 55296 → normalF p (ren nx l) = normalF q l
  | [], _, _, _, _, _, _, _ => rfl
  | c :: r, nx, p, q, hp, h, h1, h2 => by
    simp only [tot] at h2
    have h3 := nx1_le nx c
    have hs := h c (by simp)
    simp only [ren, normalF]
    rw [rc1_sound hs h1 (by omega), hs, ren_normal r (nx1 nx c) (some (rc1 nx c)) (some c) (by simp [rc1_k]) (fun y hy => h y (by simp [hy])) (by omega) (by omega)]
    congr 2
    cases p with
    | none => cases q with
      | none => rfl
      | some q => cases hp
    | some p => cases q with
      | none => cases hp
      | some q =>
        simp at hp
        simp only [follows, hp, rc1_k]
theorem ren_base : ∀ (l : List Cp) (nx : Nat) (m : Int), baseF m (ren nx l) = baseF m l
  | [], _, _ => rfl
  | c :: r, nx, m => by simp only [ren, baseF, rc1_k]; exact ren_base r _ _
theorem rc1_lc {nx : Nat} {c : Cp} (h : sound c = true) (h1 : 1 ≤ nx) (h2 : nx + c.t.length ≤ 55296) (h3 : c.k = 2) : lc (rc1 nx c).t = lc c.t := by
  have hl := cpts_len c.t
  unfold rc1
  rw [if_pos h3, lc_encs _ (okc_range h1 (by omega)), List.length_range']
  rcases sound_cases h with ⟨_, _, _, h6⟩ | ⟨h4, _⟩
  · rw [lc_cpts h6]
  · omega
theorem ren_out : ∀ (l : List Cp) (nx : Nat) (m : Int), (∀ c ∈ l, sound c = true) → 1 ≤ nx → nx + tot l ≤ 55296 → outF m (ren nx l) = outF m l
  | [], _, _, _, _, _ => rfl
  | c :: r, nx, m, h, h1, h2 => by
    simp only [tot] at h2
    have h3 := nx1_le nx c
    simp only [ren, outF, rc1_k]
    rw [ren_out r _ _ (fun y hy => h y (by simp [hy])) (by omega) (by omega)]
    congr 1
    split
    · rfl
    · split
      · rw [rc1_lc (h c (by simp)) h1 (by omega) (by assumption)]
      · rfl
theorem ren_check {l : List Cp} {nx : Nat} (h : checkI l = 0) (h1 : 1 ≤ nx) (h2 : nx + tot l ≤ 55296) : checkI (ren nx l) = 0 := by
  have hs := (check_cases h).2.2.1
  rw [← h]
  unfold checkI normalL baseL outL
  rw [ren_len, ren_normal l nx none none rfl hs h1 h2, ren_base, ren_out l nx 0 hs h1 h2]
theorem ren_tot : ∀ (l : List Cp) (nx : Nat), tot (ren nx l) ≤ 4 * tot l
  | [], _ => by simp [ren, tot]
  | c :: r, nx => by
    have h := ren_tot r (nx1 nx c)
    have h2 := cpts_len c.t
    have h3 : (rc1 nx c).t.length ≤ 4 * c.t.length := by
      unfold rc1
      split
      · have := encs_ge (List.range' nx (cpts c.t).length)
        rw [List.length_range'] at this
        show (encs _).length ≤ _
        omega
      · omega
    simp only [ren, tot]; omega
theorem ren_n : ∀ (l : List Cp) (nx : Nat), ∀ c ∈ ren nx l, ∃ c' ∈ l, c'.n = c.n
  | [], _, c, h => by cases h
  | x :: r, nx, c, h => by
    rcases List.mem_cons.1 h with rfl | h
    · exact ⟨x, by simp, (rc1_k nx x).2.symm⟩
    · obtain ⟨c', h1, h2⟩ := ren_n r _ c h
      exact ⟨c', by simp [h1], h2⟩
end Go.Proofs
end
