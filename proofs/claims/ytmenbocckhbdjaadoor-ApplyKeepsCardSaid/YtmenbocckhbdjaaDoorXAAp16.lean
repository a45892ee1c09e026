/-
  An edit whose texts are numbered anew. Plain.
-/
import Derived.Test.YtmenbocckhbdjaaDoorXAAp15
import Derived.Test.YtmenbocckhbdjaaDoorXAUt8
set_option linter.unusedSimpArgs false
set_option linter.unusedVariables false
set_option linter.defProp false

-- AAp16
section
namespace Go.Proofs
open Go Go.Rw
set_option maxRecDepth 100000
set_option linter.unusedSimpArgs false
set_option linter.unusedVariables false

def nx1 (nx : Nat) (c : Cp) : Nat := if c.k = 2 then nx + (cpts c.t).length else nx
def rc1 (nx : Nat) (c : Cp) : Cp := if c.k = 2 then ⟨c.k, c.n, encs (List.range' nx (cpts c.t).length)⟩ else c
def nxt : Nat → List Cp → Nat
  | nx, [] => nx
  | nx, c :: r => nxt (nx1 nx c) r
def ren : Nat → List Cp → List Cp
  | _, [] => []
  | nx, c :: r => rc1 nx c :: ren (nx1 nx c) r
theorem ren_len : ∀ (l : List Cp) (nx : Nat), (ren nx l).length = l.length
  | [], _ => rfl
  | c :: r, nx => by simp [ren, ren_len r]
theorem nxt_app : ∀ (a b : List Cp) (nx : Nat), nxt nx (a ++ b) = nxt (nxt nx a) b
  | [], _, _ => rfl
  | c :: a, b, nx => by simp only [List.cons_append, nxt]; exact nxt_app a b _
theorem ren_app : ∀ (a b : List Cp) (nx : Nat), ren nx (a ++ b) = ren nx a ++ ren (nxt nx a) b
  | [], _, _ => rfl
  | c :: a, b, nx => by simp only [List.cons_append, ren, nxt]; rw [ren_app a b]
theorem cpts_len (t : List UInt8) : (cpts t).length ≤ t.length := by
  unfold cpts
  cases h : pts t with
  | none => simp
  | some cs =>
    obtain ⟨_, e⟩ := pts_some h
    have := encs_le cs
    rw [← e] at this
    exact this
theorem cnt_cpts (t : List UInt8) : cnt t = (cpts t).length := by
  unfold cnt cpts
  cases h : pts t <;> rfl
theorem nxt_le : ∀ (l : List Cp) (nx : Nat), nx ≤ nxt nx l ∧ nxt nx l ≤ nx + tot l
  | [], nx => by simp [nxt, tot]
  | c :: r, nx => by
    have h := nxt_le r (nx1 nx c)
    have h2 := cpts_len c.t
    simp only [nxt, tot]
    unfold nx1 at *
    split at h <;> rename_i h3
    · rw [if_pos h3]; omega
    · rw [if_neg h3]; omega
theorem nx1_le (nx : Nat) (c : Cp) : nx ≤ nx1 nx c ∧ nx1 nx c ≤ nx + c.t.length := by
  have h2 := cpts_len c.t
  unfold nx1
  split <;> omega
theorem okc_range {nx n : Nat} (h1 : 1 ≤ nx) (h2 : nx + n ≤ 55296) : ∀ c ∈ List.range' nx n, okc c := by
  intro c hc
  rw [List.mem_range'_1] at hc
  unfold okc
  omega
theorem rc1_k (nx : Nat) (c : Cp) : (rc1 nx c).k = c.k ∧ (rc1 nx c).n = c.n := by unfold rc1; split <;> exact ⟨rfl, rfl⟩
theorem range_ne {nx n : Nat} : encs (List.range' nx n) = [] ↔ n = 0 := by
  cases n with
  | zero => simp [encs_nil]
  | succ n =>
    rw [List.range'_succ]
    have := encs_pos (c := nx) (cs := List.range' (nx + 1) n)
    constructor
    · intro h; rw [h] at this; simp at this
    · intro h; omega
theorem cpts_ne {t : List UInt8} (h : (pts t).isSome = true) (h2 : t ≠ []) : (cpts t).length ≠ 0 := by
  intro e
  have := (encs_cpts h).1
  rw [List.eq_nil_of_length_eq_zero e, encs_nil] at this
  exact h2 this.symm
theorem rc1_sound {nx : Nat} {c : Cp} (h : sound c = true) (h1 : 1 ≤ nx) (h2 : nx + c.t.length ≤ 55296) : sound (rc1 nx c) = true := by
  unfold rc1
  split
  · rename_i h3
    have hl := cpts_len c.t
    rcases sound_cases h with ⟨_, h4, h5, h6⟩ | ⟨h4, _⟩
    · have hp := pts_enc (okc_range (nx := nx) (n := (cpts c.t).length) h1 (by omega))
      have hne : encs (List.range' nx (cpts c.t).length) ≠ [] := fun e => cpts_ne h6 h5 (range_ne.1 e)
      unfold sound
      simp [h3, h4, hp, hne]
    · omega
  · exact h
theorem ren_sound : ∀ (l : List Cp) (nx : Nat), (∀ c ∈ l, sound c = true) → 1 ≤ nx → nx + tot l ≤ 55296 → ∀ c ∈ ren nx l, sound c = true
  | [], _, _, _, _, c, hc => by cases hc
  | c :: r, nx, h, h1, h2, x, hx => by
    simp only [tot] at h2
    have h3 := nx1_le nx c
    rcases List.mem_cons.1 hx with rfl | hx
    · exact rc1_sound (h c (by simp)) h1 (by omega)
    · exact ren_sound r _ (fun y hy => h y (by simp [hy])) (by omega) (by omega) x hx
theorem ren_normal : ∀ (l : List Cp) (nx : Nat) (p q : Option Cp), p.map Cp.k = q.map Cp.k → (∀ c ∈ l, sound c = true) → 1 ≤ nx → nx + tot l ≤ 55296 → normalF p (ren nx l) = normalF q l
  | [], _, _, _, _, _, _, _ => rfl
  | c :: r, nx, p, q, hp, h, h1, h2 => by
    simp only [tot] at h2
    have h3 := nx1_le nx c
    have hs := h c (by simp)
    simp only [ren, normalF]
    rw [rc1_sound hs h1 (by omega), hs, ren_normal r (nx1 nx c) (some (rc1 nx c)) (some c) (by simp [rc1_k]) (fun y hy => h y (by simp [hy])) (by omega) (by omega)]
    congr 2
    cases p with
    | none => cases q with
      | none => rfl
      | some q => cases hp
    | some p => cases q with
      | none => cases hp
      | some q =>
        simp at hp
        simp only [follows, hp, rc1_k]
theorem ren_base : ∀ (l : List Cp) (nx : Nat) (m : Int), baseF m (ren nx l) = baseF m l
  | [], _, _ => rfl
  | c :: r, nx, m => by simp only [ren, baseF, rc1_k]; exact ren_base r _ _
theorem ren_tn : ∀ (l : List Cp) (nx : Nat), tn (ren nx l) = tn l
  | [], _ => rfl
  | c :: r, nx => by simp only [ren, tn, rc1_k, ren_tn r]
theorem rc1_lc {nx : Nat} {c : Cp} (h : sound c = true) (h1 : 1 ≤ nx) (h2 : nx + c.t.length ≤ 55296) (h3 : c.k = 2) : lc (rc1 nx c).t = lc c.t := by
  have hl := cpts_len c.t
  unfold rc1
  rw [if_pos h3, lc_encs _ (okc_range h1 (by omega)), List.length_range']
  rcases sound_cases h with ⟨_, _, _, h6⟩ | ⟨h4, _⟩
  · rw [lc_cpts h6]
  · omega
theorem ren_out : ∀ (l : List Cp) (nx : Nat) (m : Int), (∀ c ∈ l, sound c = true) → 1 ≤ nx → nx + tot l ≤ 55296 → outF m (ren nx l) = outF m l
  | [], _, _, _, _, _ => rfl
  | c :: r, nx, m, h, h1, h2 => by
    simp only [tot] at h2
    have h3 := nx1_le nx c
    simp only [ren, outF, rc1_k]
    rw [ren_out r _ _ (fun y hy => h y (by simp [hy])) (by omega) (by omega)]
    congr 1
    split
    · rfl
    · split
      · rw [rc1_lc (h c (by simp)) h1 (by omega) (by assumption)]
      · rfl
theorem ren_check {l : List Cp} {nx : Nat} (h : checkI l = 0) (h1 : 1 ≤ nx) (h2 : nx + tot l ≤ 55296) : checkI (ren nx l) = 0 := by
  have hs := (check_cases h).2.2.1
  rw [← h]
  unfold checkI normalL baseL outL
  rw [ren_len, ren_normal l nx none none rfl hs h1 h2, ren_base, ren_out l nx 0 hs h1 h2]
theorem ren_fit {l : List Cp} {nx : Nat} {cs : List Nat} (h : fit cs l) (h1 : 1 ≤ nx) (h2 : nx + tot l ≤ 55296) : fit cs (ren nx l) := ⟨ren_sound l nx h.1 h1 h2, by rw [ren_tn]; exact h.2⟩
theorem ren_tot : ∀ (l : List Cp) (nx : Nat), tot (ren nx l) ≤ 4 * tot l
  | [], _ => by simp [ren, tot]
  | c :: r, nx => by
    have h := ren_tot r (nx1 nx c)
    have h2 := cpts_len c.t
    have h3 : (rc1 nx c).t.length ≤ 4 * c.t.length := by
      unfold rc1
      split
      · have := encs_ge (List.range' nx (cpts c.t).length)
        rw [List.length_range'] at this
        show (encs _).length ≤ _
        omega
      · omega
    simp only [ren, tot]; omega
/-- The scan of what an edit made: what is kept rises, what is put in comes in its order. -/
def scanF : Nat → Nat → List Nat → Option Nat
  | _, put, [] => some put
  | last, put, c :: r => if 5000 ≤ c then (if c = put then scanF last (put + 1) r else none) else if c ≤ last then none else scanF c put r
theorem scan_put : ∀ (n last put : Nat) (z : List Nat), 5000 ≤ put → scanF last put (List.range' put n ++ z) = scanF last (put + n) z
  | 0, _, _, _, _ => rfl
  | n + 1, last, put, z, h => by
    rw [List.range'_succ, List.cons_append, scanF, if_pos h, if_pos rfl, scan_put n last (put + 1) z (by omega)]
    congr 1; omega
theorem scan_keep : ∀ (xs ys : List Nat) (last put : Nat) (z : List Nat), List.Pairwise (· < ·) (last :: (xs ++ ys)) → (∀ c ∈ xs, c < 5000) → ∃ last', List.Pairwise (· < ·) (last' :: ys) ∧ scanF last put (xs ++ z) = scanF last' put z
  | [], ys, last, put, z, h, _ => ⟨last, h, rfl⟩
  | x :: xs, ys, last, put, z, h, h2 => by
    have h3 := h2 x (by simp)
    have h4 : last < x := (List.pairwise_cons.1 h).1 x (by simp)
    have h5 : List.Pairwise (· < ·) (x :: (xs ++ ys)) := (List.pairwise_cons.1 h).2
    obtain ⟨l', h6, h7⟩ := scan_keep xs ys x put z h5 (fun c hc => h2 c (by simp [hc]))
    exact ⟨l', h6, by rw [List.cons_append, scanF, if_neg (by omega), if_neg (by omega), h7]⟩
theorem scan_do : ∀ (l : List Cp) (cs : List Nat) (last nx : Nat), fit cs l → List.Pairwise (· < ·) (last :: cs) → (∀ c ∈ cs, c < 5000) → 5000 ≤ nx → nx + tot l ≤ 55296 → scanF last nx (doL cs (ren nx l)) = some (nxt nx l) ∧ ((doL cs (ren nx l)).length : Int) = kp l + (nxt nx l - nx)
  | [], cs, last, nx, h, _, _, _, _ => by simp [ren, doL, scanF, nxt, kp]
  | c :: r, cs, last, nx, h, hp, hc, h5, hb => by
    obtain ⟨hs, hn, hle, hf⟩ := fit_cons h
    simp only [tot] at hb
    have hx := nx1_le nx c
    have hnx := nxt_le r (nx1 nx c)
    have hcl := cpts_len c.t
    have hsr := rc1_sound (nx := nx) hs (by omega) (by omega)
    have hk := rc1_k nx c
    simp only [ren, nxt, kp]
    rcases sound_cases hs with ⟨h2, h0, hne, hv⟩ | ⟨h13, h0, ht⟩
    · rw [h0, Int.toNat_zero, List.drop_zero] at hf
      rw [do_ins (sound_some hsr) (by rw [hk.1]; exact h2)]
      have e1 : cpts (rc1 nx c).t = List.range' nx (cpts c.t).length := by
        unfold rc1
        rw [if_pos h2, cpts_enc (okc_range (by omega) (by omega))]
      have e2 : nx1 nx c = nx + (cpts c.t).length := by unfold nx1; rw [if_pos h2]
      obtain ⟨i1, i2⟩ := scan_do r cs last (nx1 nx c) hf hp hc (by omega) (by omega)
      rw [e1, scan_put _ _ _ _ h5, ← e2, i1, List.length_append, List.length_range']
      refine ⟨rfl, ?_⟩
      rw [if_neg (by omega)]
      omega
    · have e2 : nx1 nx c = nx := by unfold nx1; rw [if_neg (by omega)]
      rw [e2] at hnx ⊢
      rcases h13 with h1 | h3
      · rw [do_ret (sound_some hsr) (by omega) (by omega), hk.2, if_pos h1]
        have e3 := List.take_append_drop c.n.toNat cs
        obtain ⟨l', p1, p2⟩ := scan_keep (cs.take c.n.toNat) (cs.drop c.n.toNat) last nx (doL (cs.drop c.n.toNat) (ren nx r)) (by rw [e3]; exact hp) (fun x hx => hc x (List.mem_of_mem_take hx))
        obtain ⟨i1, i2⟩ := scan_do r (cs.drop c.n.toNat) l' nx hf p1 (fun x hx => hc x (List.mem_of_mem_drop hx)) h5 (by omega)
        rw [p2, i1, List.length_append, List.length_take]
        exact ⟨rfl, by omega⟩
      · rw [do_del (sound_some hsr) (by omega), hk.2, if_neg (by omega)]
        have p1 : List.Pairwise (· < ·) (last :: cs.drop c.n.toNat) := by
          have := List.pairwise_cons.1 hp
          exact List.pairwise_cons.2 ⟨fun x hx => this.1 x (List.mem_of_mem_drop hx), this.2.sublist (List.drop_sublist _ _)⟩
        obtain ⟨i1, i2⟩ := scan_do r (cs.drop c.n.toNat) last nx hf p1 (fun x hx => hc x (List.mem_of_mem_drop hx)) h5 (by omega)
        rw [i1]
        exact ⟨rfl, by omega⟩
theorem ren_n : ∀ (l : List Cp) (nx : Nat), ∀ c ∈ ren nx l, ∃ c' ∈ l, c'.n = c.n
  | [], _, c, h => by cases h
  | x :: r, nx, c, h => by
    rcases List.mem_cons.1 h with rfl | h
    · exact ⟨x, by simp, (rc1_k nx x).2.symm⟩
    · obtain ⟨c', h1, h2⟩ := ren_n r _ c h
      exact ⟨c', by simp [h1], h2⟩
theorem keeps_law {n : Nat} {l : List Cp} (h : checkI l = 0) (hn : baseL l = n) (hb : tot l ≤ 2000) :
    errI (encs (List.range' 1000 n)) (ren 5000 l) = 0 ∧ pts (doneB (encs (List.range' 1000 n)) (ren 5000 l)) = some (doL (List.range' 1000 n) (ren 5000 l)) ∧ scanF 0 5000 (doL (List.range' 1000 n) (ren 5000 l)) = some (nxt 5000 l) ∧ ((doL (List.range' 1000 n) (ren 5000 l)).length : Int) = kp l + nxt 5000 l - 5000 ∧ (doL (List.range' 1000 n) (ren 5000 l)).length ≤ 2000 := by
  obtain ⟨c1, c2, c3, c4, c5, c6⟩ := check_cases h
  have hf : fit (List.range' 1000 n) l := ⟨c3, by rw [List.length_range']; omega⟩
  have ho := okc_range (nx := 1000) (n := n) (by omega) (by omega)
  have hp := pts_enc ho
  have he : errI (encs (List.range' 1000 n)) (ren 5000 l) = 0 := by
    unfold errI
    rw [if_pos (ren_check h (by omega) (by omega)), hp]
    simp only
    rw [if_pos]
    rw [List.length_range']
    show _ = baseF 0 (ren 5000 l)
    rw [ren_base]; exact hn.symm
  obtain ⟨i1, i2⟩ := scan_do l (List.range' 1000 n) 0 5000 hf (List.pairwise_cons.2 ⟨fun x hx => by rw [List.mem_range'_1] at hx; omega, List.pairwise_lt_range' ⟩) (fun x hx => by rw [List.mem_range'_1] at hx; omega) (by omega) (by omega)
  have h7 := out_do (ren 5000 l) (List.range' 1000 n) 0 (by omega) (ren_fit hf (by omega) (by omega)) (by rw [ren_out l 5000 0 c3 (by omega) (by omega)]; exact c6)
  rw [ren_out l 5000 0 c3 (by omega) (by omega)] at h7
  have h8 : outF 0 l ≤ 2000 := c6
  refine ⟨he, ?_, i1, by omega, by omega⟩
  unfold doneB
  rw [if_pos he, cpts_some hp]
  exact pts_enc (do_okc _ _ ho (sound_texts (ren_sound l 5000 c3 (by omega) (by omega))))
end Go.Proofs
end
