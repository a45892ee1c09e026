/-
  Two edits as one, piece by piece. Plain.
-/
import Derived.Test.YtknbfkmgoijncaaDoorXBAw1
set_option linter.unusedSimpArgs false
set_option linter.unusedVariables false
set_option linter.defProp false

-- BAw2
section
namespace Go.Proofs
open Go Go.Rw
set_option maxRecDepth 100000
set_option linter.unusedSimpArgs false
set_option linter.unusedVariables false

theorem twoU_d : ∀ (n : Nat) (x y : List Un), twoU (List.replicate n .d ++ x) y = List.replicate n .d ++ twoU x y
  | 0, _, _ => rfl
  | n + 1, x, y => by rw [List.replicate_succ, List.cons_append, twoU, twoU_d n]; rfl
theorem twoU_i : ∀ (cs : List Nat) (x y : List Un), (∀ z, x ≠ .d :: z) → twoU x (cs.map .i ++ y) = cs.map .i ++ twoU x y
  | [], _, _, _ => rfl
  | c :: cs, x, y, h => by
    rw [List.map_cons, List.cons_append, List.cons_append, ← twoU_i cs x y h]
    cases x with
    | nil => rw [twoU]
    | cons a x => cases a with
      | r => rw [twoU]
      | i a => rw [twoU]
      | d => exact absurd rfl (h x)
theorem twoU_rr : ∀ (n : Nat) (x y : List Un), twoU (List.replicate n .r ++ x) (List.replicate n .r ++ y) = List.replicate n .r ++ twoU x y
  | 0, _, _ => rfl
  | n + 1, x, y => by simp only [List.replicate_succ, List.cons_append]; rw [twoU, twoU_rr n]
theorem twoU_rd : ∀ (n : Nat) (x y : List Un), twoU (List.replicate n .r ++ x) (List.replicate n .d ++ y) = List.replicate n .d ++ twoU x y
  | 0, _, _ => rfl
  | n + 1, x, y => by simp only [List.replicate_succ, List.cons_append]; rw [twoU, twoU_rd n]
theorem twoU_ir : ∀ (cs : List Nat) (n : Nat) (x y : List Un), cs.length = n → twoU (cs.map .i ++ x) (List.replicate n .r ++ y) = cs.map .i ++ twoU x y
  | [], n, _, _, h => by subst h; rfl
  | c :: cs, n, x, y, h => by subst h; simp only [List.map_cons, List.length_cons, List.replicate_succ, List.cons_append]; rw [twoU, twoU_ir cs _ _ _ rfl]
theorem twoU_id : ∀ (cs : List Nat) (n : Nat) (x y : List Un), cs.length = n → twoU (cs.map .i ++ x) (List.replicate n .d ++ y) = twoU x y
  | [], n, _, _, h => by subst h; rfl
  | c :: cs, n, x, y, h => by subst h; simp only [List.map_cons, List.length_cons, List.replicate_succ, List.cons_append]; rw [twoU, twoU_id cs _ _ _ rfl]

/-- A walk: the parts ahead, and how much of the first one is gone. -/
def wOk (w : List Cp × Nat) : Prop := (∀ c ∈ w.1, sound c = true) ∧ (w.1 = [] → w.2 = 0) ∧ ∀ c r, w.1 = c :: r → w.2 < size c
def wU (w : List Cp × Nat) : List Un := (unL w.1).drop w.2
def adv (w : List Cp × Nat) (n : Nat) : List Cp × Nat := match w with
  | ([], a) => ([], a)
  | (c :: r, a) => (advR c r a n, advD c a n)
def piece (w : List Cp × Nat) (n : Nat) : Cp := match w with
  | ([], _) => ⟨0, 0, []⟩
  | (c :: _, a) => part c a n
theorem unP_part {c : Cp} {a n : Nat} (hs : sound c = true) (h : a + n ≤ size c) : unP (part c a n) = ((unP c).drop a).take n := by
  unfold part size at *
  unfold unP
  rcases sound_cases hs with ⟨h2, _, _, hv⟩ | ⟨h1 | h3, _⟩
  · rw [if_pos h2]
    simp only [h2, if_true]
    rw [cpts_enc (fun x hx => (encs_cpts hv).2 x (List.mem_of_mem_drop (List.mem_of_mem_take hx))), List.map_take, List.map_drop]
  · rw [if_neg (by omega)] at h
    simp only [h1, List.drop_replicate, List.take_replicate, if_neg (show ¬ (1 : Int) = 2 by decide), if_true, Int.toNat_natCast]
    congr 1; omega
  · rw [if_neg (by omega)] at h
    simp only [h3, List.drop_replicate, List.take_replicate, if_neg (show ¬ (3 : Int) = 2 by decide), if_neg (show ¬ (3 : Int) = 1 by decide), if_true, Int.toNat_natCast]
    congr 1; omega
theorem part_sound {c : Cp} {a n : Nat} (hs : sound c = true) (h : a + n ≤ size c) (hn : 0 < n) : sound (part c a n) = true := by
  unfold part size at *
  rcases sound_cases hs with ⟨h2, h0, _, hv⟩ | ⟨h13, _, ht⟩
  · rw [if_pos h2] at h ⊢
    have hp := pts_enc (cs := ((cpts c.t).drop a).take n) (fun x hx => (encs_cpts hv).2 x (List.mem_of_mem_drop (List.mem_of_mem_take hx)))
    have hne : encs (((cpts c.t).drop a).take n) ≠ [] := by
      intro e
      have h1 := encs_le (((cpts c.t).drop a).take n)
      rw [e, List.length_take, List.length_drop] at h1
      simp at h1
      omega
    unfold sound
    simp [h2, h0, hp, hne]
  · rw [if_neg (by omega)]
    unfold sound
    simp [ht]
    rcases h13 with h | h <;> simp [h, hn]
theorem wU_adv {w : List Cp × Nat} {n : Nat} (h : wOk w) (hn : w.2 + n ≤ (w.1.headD ⟨0, 0, []⟩ |> size) ∨ w.1 = []) : wU (adv w n) = (wU w).drop n ∧ (0 < n → wOk (adv w n)) := by
  obtain ⟨r, a⟩ := w
  obtain ⟨h1, h2, h3⟩ := h
  cases r with
  | nil =>
    have e0 : a = 0 := h2 rfl
    subst e0
    exact ⟨by simp [wU, adv, unL], fun _ => ⟨by simp [adv], by simp [adv], by simp [adv]⟩⟩
  | cons c r =>
    simp only [List.headD_cons, reduceCtorEq, or_false] at hn
    have hl := unP_len (sound_k (h1 c (by simp)))
    simp only [wU, adv, advR, advD]
    by_cases hz : a + n = size c
    · rw [if_pos hz, if_pos hz, List.drop_drop, unL, show a + n = (unP c).length by omega, List.drop_left]
      refine ⟨by simp, fun _ => ⟨fun x hx => h1 x (by simp [hx]), fun _ => rfl, fun c' r' e => ?_⟩⟩
      simp only at e
      subst e
      exact size_pos (h1 c' (by simp))
    · rw [if_neg hz, if_neg hz, List.drop_drop]
      refine ⟨rfl, fun _ => ⟨h1, fun e => by simp at e, fun c' r' e => ?_⟩⟩
      simp only [List.cons.injEq] at e
      obtain ⟨rfl, rfl⟩ := e
      show a + n < size c
      omega
/-- Two edits as one, before it is put in order. -/
def twoF : Nat → List Cp × Nat → List Cp × Nat → List Cp
  | 0, _, _ => []
  | f + 1, x, y =>
    if kindL x.1 = 3 then piece x (lenW x.1 x.2) :: twoF f (adv x (lenW x.1 x.2)) y
    else if kindL y.1 = 2 then piece y (lenW y.1 y.2) :: twoF f x (adv y (lenW y.1 y.2))
    else if kindL x.1 = 0 ∨ kindL y.1 = 0 then []
    else
      let n := min (lenW x.1 x.2) (lenW y.1 y.2)
      (if kindL y.1 = 1 then [piece x n] else if kindL x.1 = 1 then [piece y n] else []) ++ twoF f (adv x n) (adv y n)
theorem unP_shape {c : Cp} (h : sound c = true) : (c.k = 1 → unP c = List.replicate (size c) .r) ∧ (c.k = 3 → unP c = List.replicate (size c) .d) ∧ (c.k = 2 → unP c = (cpts c.t).map .i ∧ (cpts c.t).length = size c) := by
  unfold unP size
  refine ⟨fun h => by simp [h], fun h => by simp [h], fun h => by simp [h]⟩
theorem size_part {c : Cp} {a n : Nat} (hs : sound c = true) (h : a + n ≤ size c) (hn : 0 < n) : size (part c a n) = n := by
  rw [← unP_len (sound_k (part_sound hs h hn)), unP_part hs h, List.length_take, List.length_drop, unP_len (sound_k hs)]
  omega
theorem part_k {c : Cp} {a n : Nat} : (part c a n).k = c.k := by unfold part; split <;> rfl
/-- What comes first, and what is behind it. -/
theorem wU_split {w : List Cp × Nat} {n : Nat} (h : wOk w) (hk : kindL w.1 ≠ 0) (hn : 0 < n) (hl : n ≤ lenW w.1 w.2) :
    wU w = unP (piece w n) ++ wU (adv w n) ∧ wOk (adv w n) ∧ sound (piece w n) = true ∧ size (piece w n) = n ∧ (piece w n).k = kindL w.1 ∧ (wU w).length = n + (wU (adv w n)).length := by
  obtain ⟨r, a⟩ := w
  cases r with
  | nil => simp [kindL] at hk
  | cons c r =>
    have hs := h.1 c (by simp)
    have hlt := h.2.2 c r rfl
    simp only [lenW] at hl
    have hle : a + n ≤ size c := by simp only at hlt; omega
    obtain ⟨e1, e2⟩ := wU_adv (n := n) h (.inl (by simpa using hle))
    have hul := unP_len (sound_k hs)
    have e3 : wU (c :: r, a) = unP (part c a n) ++ wU (adv (c :: r, a) n) := by
      rw [e1, unP_part hs hle]
      show (unP c ++ unL r).drop a = _
      have e4 : (unP c ++ unL r).drop a = (unP c).drop a ++ unL r := by rw [List.drop_append_of_le_length (by omega)]
      have e5 : (wU (c :: r, a)) = (unP c).drop a ++ unL r := e4
      rw [e4, e5, List.drop_append_of_le_length (by rw [List.length_drop]; omega), ← List.append_assoc, List.take_append_drop]
    refine ⟨e3, e2 hn, part_sound hs hle hn, size_part hs hle hn, part_k, ?_⟩
    rw [e3, List.length_append]
    show (unP (part c a n)).length + _ = _
    rw [unP_len (sound_k (part_sound hs hle hn)), size_part hs hle hn]
theorem lenW_pos {w : List Cp × Nat} (h : wOk w) (hk : kindL w.1 ≠ 0) : 0 < lenW w.1 w.2 := by
  obtain ⟨r, a⟩ := w
  cases r with
  | nil => simp [kindL] at hk
  | cons c r =>
    have := h.2.2 c r rfl
    simp only [lenW] at this ⊢; omega
theorem kind_of {w : List Cp × Nat} (h : wOk w) : kindL w.1 = 0 ∧ wU w = [] ∨ kindL w.1 = 1 ∨ kindL w.1 = 2 ∨ kindL w.1 = 3 := by
  obtain ⟨r, a⟩ := w
  cases r with
  | nil => left; exact ⟨rfl, by simp [wU, unL]⟩
  | cons c r =>
    right
    exact sound_k (h.1 c (by simp))
/-- The whole of what comes first. -/
theorem wU_first {w : List Cp × Nat} (h : wOk w) : (kindL w.1 = 1 → ∃ n z, wU w = List.replicate (n + 1) .r ++ z) ∧ (kindL w.1 = 3 → ∃ n z, wU w = List.replicate (n + 1) .d ++ z) ∧ (kindL w.1 = 2 → ∃ c cs z, wU w = (c :: cs).map .i ++ z) := by
  refine ⟨fun hk => ?_, fun hk => ?_, fun hk => ?_⟩
  all_goals
    have hp := lenW_pos h (by omega)
    obtain ⟨e1, e2, e3, e4, e5, e6⟩ := wU_split h (by omega) hp (Nat.le_refl _)
    obtain ⟨s1, s2, s3⟩ := unP_shape e3
    rw [e4] at s1 s2 s3
  · rw [s1 (by omega)] at e1
    exact ⟨lenW w.1 w.2 - 1, _, by rw [e1]; congr 2; omega⟩
  · rw [s2 (by omega)] at e1
    exact ⟨lenW w.1 w.2 - 1, _, by rw [e1]; congr 2; omega⟩
  · obtain ⟨t1, t2⟩ := s3 (by omega)
    rw [t1] at e1
    cases hc : cpts (piece w (lenW w.1 w.2)).t with
    | nil => rw [hc] at t2; simp at t2; omega
    | cons c cs => exact ⟨c, cs, _, by rw [e1, hc]⟩
theorem not_d {w : List Cp × Nat} (h : wOk w) (hk : kindL w.1 ≠ 3) : ∀ z, wU w ≠ .d :: z := by
  intro z e
  obtain ⟨f1, f2, f3⟩ := wU_first h
  rcases kind_of h with ⟨_, h0⟩ | h1 | h2 | h3
  · rw [h0] at e; cases e
  · obtain ⟨n, y, e1⟩ := f1 h1; rw [e1, List.replicate_succ] at e; cases e
  · obtain ⟨c, cs, y, e1⟩ := f3 h2; rw [e1] at e; cases e
  · exact hk h3
theorem two_units : ∀ (f : Nat) (x y : List Cp × Nat), wOk x → wOk y → (wU x).length + (wU y).length ≤ f → unL (twoF f x y) = twoU (wU x) (wU y) ∧ ∀ c ∈ twoF f x y, sound c = true
  | 0, x, y, hx, hy, hf => by
    have h1 : wU x = [] := List.eq_nil_of_length_eq_zero (by omega)
    have h2 : wU y = [] := List.eq_nil_of_length_eq_zero (by omega)
    rw [h1, h2, twoF, twoU] <;> simp [unL]
  | f + 1, x, y, hx, hy, hf => by
    have fx := wU_first hx
    have fy := wU_first hy
    rw [twoF]
    by_cases c1 : kindL x.1 = 3
    · rw [if_pos c1]
      have hp := lenW_pos hx (by omega)
      obtain ⟨e1, e2, e3, e4, e5, e6⟩ := wU_split hx (by omega) hp (Nat.le_refl _)
      obtain ⟨i1, i2⟩ := two_units f _ y e2 hy (by omega)
      rw [unL, i1, e1, (unP_shape e3).2.1 (by omega), twoU_d]
      exact ⟨rfl, fun c hc => by rcases List.mem_cons.1 hc with rfl | hc; exact e3; exact i2 c hc⟩
    rw [if_neg c1]
    have hnd := not_d hx c1
    by_cases c2 : kindL y.1 = 2
    · rw [if_pos c2]
      have hp := lenW_pos hy (by omega)
      obtain ⟨e1, e2, e3, e4, e5, e6⟩ := wU_split hy (by omega) hp (Nat.le_refl _)
      obtain ⟨i1, i2⟩ := two_units f x _ hx e2 (by omega)
      rw [unL, i1, e1, ((unP_shape e3).2.2 (by omega)).1, twoU_i _ _ _ hnd]
      exact ⟨rfl, fun c hc => by rcases List.mem_cons.1 hc with rfl | hc; exact e3; exact i2 c hc⟩
    rw [if_neg c2]
    by_cases c3 : kindL x.1 = 0 ∨ kindL y.1 = 0
    · rw [if_pos c3]
      refine ⟨?_, by simp⟩
      show [] = _
      rcases c3 with c3 | c3
      · rcases kind_of hx with ⟨_, h0⟩ | h | h | h <;> try omega
        rw [h0]
        rcases kind_of hy with ⟨_, h0⟩ | h | h | h
        · rw [h0, twoU] <;> simp
        · obtain ⟨n, z, e⟩ := fy.1 h; rw [e, List.replicate_succ, List.cons_append, twoU] <;> simp
        · omega
        · obtain ⟨n, z, e⟩ := fy.2.1 h; rw [e, List.replicate_succ, List.cons_append, twoU] <;> simp
      · rcases kind_of hy with ⟨_, h0⟩ | h | h | h <;> try omega
        rw [h0]
        rcases kind_of hx with ⟨_, h0⟩ | h | h | h
        · rw [h0, twoU] <;> simp
        · obtain ⟨n, z, e⟩ := fx.1 h; rw [e, List.replicate_succ, List.cons_append, twoU] <;> simp
        · obtain ⟨c, cs, z, e⟩ := fx.2.2 h; rw [e, List.map_cons, List.cons_append, twoU] <;> simp
        · omega
    rw [if_neg c3]
    have c4 : kindL x.1 ≠ 0 := fun h => c3 (.inl h)
    have c5 : kindL y.1 ≠ 0 := fun h => c3 (.inr h)
    have hpx := lenW_pos hx c4
    have hpy := lenW_pos hy c5
    simp only
    generalize hn : min (lenW x.1 x.2) (lenW y.1 y.2) = n
    obtain ⟨e1, e2, e3, e4, e5, e6⟩ := wU_split (n := n) hx c4 (by omega) (by omega)
    obtain ⟨g1, g2, g3, g4, g5, g6⟩ := wU_split (n := n) hy c5 (by omega) (by omega)
    obtain ⟨i1, i2⟩ := two_units f _ _ e2 g2 (by omega)
    rw [unL_app, i1, e1, g1]
    obtain ⟨s1, s2, s3⟩ := unP_shape e3
    obtain ⟨t1, t2, t3⟩ := unP_shape g3
    rw [e4] at s1 s2 s3
    rw [g4] at t1 t2 t3
    have hkx : kindL x.1 = 1 ∨ kindL x.1 = 2 := by rcases kind_of hx with h | h | h | h <;> omega
    have hky : kindL y.1 = 1 ∨ kindL y.1 = 3 := by rcases kind_of hy with h | h | h | h <;> omega
    rcases hky with hky | hky
    · rw [if_pos hky, t1 (by omega)]
      refine ⟨?_, fun c hc => by
        rcases List.mem_append.1 hc with hc | hc
        · rw [List.mem_singleton.1 hc]; exact e3
        · exact i2 c hc⟩
      simp only [unL, List.append_nil]
      rcases hkx with hkx | hkx
      · rw [s1 (by omega), twoU_rr]
      · obtain ⟨s4, s5⟩ := s3 (by omega)
        rw [s4, twoU_ir _ _ _ _ s5]
    · rw [if_neg (by omega), t2 (by omega)]
      rcases hkx with hkx | hkx
      · rw [if_pos hkx]
        refine ⟨?_, fun c hc => by
          rcases List.mem_append.1 hc with hc | hc
          · rw [List.mem_singleton.1 hc]; exact g3
          · exact i2 c hc⟩
        simp only [unL, List.append_nil]
        rw [s1 (by omega), t2 (by omega), twoU_rd]
      · rw [if_neg (by omega)]
        refine ⟨?_, fun c hc => i2 c (by simpa using hc)⟩
        obtain ⟨s4, s5⟩ := s3 (by omega)
        rw [s4, twoU_id _ _ _ _ s5]; rfl
end Go.Proofs
end
