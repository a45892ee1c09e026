/-
  compose.Two, walked.
-/
import Derived.Test.YtknbfkmgoijncaaDoorXBAw2
set_option linter.unusedSimpArgs false
set_option linter.unusedVariables false
set_option linter.defProp false

-- BAw3
section
namespace Go.Proofs
open Go Go.Rw
set_option maxRecDepth 100000
set_option linter.unusedSimpArgs false
set_option linter.unusedVariables false

theorem ulen_le : ∀ u : List Un, u.length ≤ bU u + oU u
  | [] => by simp [bU, oU]
  | .r :: u => by have := ulen_le u; simp only [List.length_cons, bU, oU]; omega
  | .d :: u => by have := ulen_le u; simp only [List.length_cons, bU, oU]; omega
  | .i _ :: u => by have := ulen_le u; simp only [List.length_cons, bU, oU]; omega
theorem out_units {l : List Cp} (h : checkI l = 0) : outL l = oU (unL l) ∧ baseL l = bU (unL l) ∧ (unL l).length ≤ 4000 := by
  obtain ⟨h1, h2, h3, h4, h5, h6⟩ := check_cases h
  have hb := base_units l h3
  have hf : fit (List.replicate (bU (unL l)) 1) l := ⟨h3, by rw [List.length_replicate]; omega⟩
  have h7 := out_do l (List.replicate (bU (unL l)) 1) 0 (by omega) hf h6
  rw [do_units l _ h3, do_len _ _ (by simp)] at h7
  have h8 := ulen_le (unL l)
  have h9 : outL l = outF 0 l := rfl
  omega
theorem okL_tail {c : Cp} {r : List Cp} (h : okL (c :: r)) : okL r := by
  obtain ⟨h1, h2, h3⟩ := h
  simp only [List.length_cons, tot] at h1 h2
  exact ⟨by omega, by omega, fun x hx => h3 x (by simp [hx])⟩
theorem size_text {c : Cp} (h : sound c = true) : c.t.length ≤ 4 * size c ∧ 0 ≤ c.n ∧ c.n ≤ size c := by
  unfold size
  rcases sound_cases h with ⟨h2, h0, _, hv⟩ | ⟨h13, hp, ht⟩
  · rw [if_pos h2]
    have := encs_ge (cpts c.t)
    rw [(encs_cpts hv).1] at this
    omega
  · rw [if_neg (by omega), ht]
    simp; omega
theorem okL_units : ∀ {l : List Cp}, (∀ c ∈ l, sound c = true) → l.length ≤ (unL l).length ∧ tot l ≤ 4 * (unL l).length ∧ ∀ c ∈ l, 0 ≤ c.n ∧ c.n ≤ (unL l).length
  | [], _ => by simp [unL, tot]
  | c :: r, h => by
    have hs := h c (by simp)
    obtain ⟨h1, h2, h3⟩ := okL_units (l := r) (fun x hx => h x (by simp [hx]))
    have h4 := size_pos hs
    have h5 := unP_len (sound_k hs)
    obtain ⟨h6, h7, h8⟩ := size_text hs
    simp only [unL, tot, List.length_append, List.length_cons]
    refine ⟨by omega, by omega, fun x hx => ?_⟩
    rcases List.mem_cons.1 hx with rfl | hx
    · omega
    · have := h3 x hx; omega
theorem okL_raw {l : List Cp} (h : ∀ c ∈ l, sound c = true) (hb : (unL l).length ≤ 100000) : okL l := by
  obtain ⟨h1, h2, h3⟩ := okL_units h
  exact ⟨by omega, by omega, fun c hc => by have := h3 c hc; omega⟩
/-- A walk that may be taken. -/
def WOK (w : List Cp × Nat) : Prop := wOk w ∧ okL w.1 ∧ ∀ c ∈ w.1, size c ≤ 100000
theorem WOK_adv {w : List Cp × Nat} {n : Nat} (h : WOK w) (hk : kindL w.1 ≠ 0) (hn : 0 < n) (hl : n ≤ lenW w.1 w.2) : WOK (adv w n) := by
  refine ⟨(wU_split h.1 hk hn hl).2.1, ?_, ?_⟩
  · obtain ⟨r, a⟩ := w
    cases r with
    | nil => simp [kindL] at hk
    | cons c r =>
      show okL (advR c r a n)
      unfold advR
      split
      · exact okL_tail h.2.1
      · exact h.2.1
  · obtain ⟨r, a⟩ := w
    cases r with
    | nil => simp [kindL] at hk
    | cons c r =>
      intro x hx
      have hx2 : x ∈ advR c r a n := hx
      unfold advR at hx2
      split at hx2
      · exact h.2.2 x (by simp [hx2])
      · exact h.2.2 x hx2
theorem WOK_init {l : List Cp} (h : checkI l = 0) (ho : okL l) : WOK (l, 0) := by
  obtain ⟨h1, h2, h3, h4, h5, h6⟩ := check_cases h
  refine ⟨⟨h3, fun _ => rfl, fun c r e => ?_⟩, ho, fun c hc => ?_⟩
  · have e2 : l = c :: r := e
    exact size_pos (h3 c (by rw [e2]; simp))
  · have h7 := (out_units h).2.2
    obtain ⟨a, b, e⟩ := List.append_of_mem hc
    have e0 : l = a ++ c :: b := e
    have e2 : (unL l).length = (unL a).length + ((unP c).length + (unL b).length) := by rw [e0, unL_app, unL]; simp
    rw [unP_len (sound_k (h3 c hc))] at e2
    show size c ≤ 100000
    omega
theorem lenW_le {w : List Cp × Nat} (h : WOK w) : lenW w.1 w.2 ≤ 100000 ∧ w.2 ≤ 100000 ∧ (w.1 ≠ [] → w.2 ≤ size (w.1.headD ⟨0, 0, []⟩)) := by
  obtain ⟨r, a⟩ := w
  cases r with
  | nil => have := h.1.2.1 rfl; simp only at this; simp [lenW, this]
  | cons c r =>
    have h1 := h.2.2 c (by simp)
    have h2 := h.1.2.2 c r rfl
    simp only at h2
    simp only [lenW, List.headD_cons]
    exact ⟨by omega, by omega, fun _ => by omega⟩
theorem kind_nil {w : List Cp × Nat} (h : kindL w.1 ≠ 0) : ∃ c r a, w = (c :: r, a) := by
  obtain ⟨r, a⟩ := w
  cases r with
  | nil => simp [kindL] at h
  | cons c r => exact ⟨c, r, a, rfl⟩
def twoN (a b : List Cp) : List Cp := nf (twoF ((unL a).length + (unL b).length) (a, 0) (b, 0))
def twoE (a b : List Cp) : Int := if checkI a = 0 then (if checkI b = 0 then (if outL a = baseL b then 0 else 11) else checkI b) else checkI a
def twoR (a b : List Cp) : AV := if twoE a b = 0 then res2 (.sl 0 3 (comps (twoN a b))) 0 else res2 (.sl 0 3 []) (twoE a b)
abbrev twoCon : Con where
  ι := Ed × Ed
  args := fun p => [.sl 0 3 (comps p.1.1), .sl 0 3 (comps p.2.1)]
  post := fun p r => r = twoR p.1.1 p.2.1
theorem twoU_len (x y : List Un) : (twoU x y).length ≤ x.length + y.length := by
  induction x, y using twoU.induct with
  | case9 x y h1 h2 h3 h4 h5 h6 h7 h8 => rw [twoU] <;> first | assumption | simp
  | _ => rw [twoU]; simp only [List.length_cons] at *; omega
theorem two_raw {a b : List Cp} (h1 : checkI a = 0) (h2 : checkI b = 0) (o1 : okL a) (o2 : okL b) :
    unL (twoF ((unL a).length + (unL b).length) (a, 0) (b, 0)) = twoU (unL a) (unL b) ∧ (∀ c ∈ twoF ((unL a).length + (unL b).length) (a, 0) (b, 0), sound c = true) ∧ okL (twoF ((unL a).length + (unL b).length) (a, 0) (b, 0)) := by
  have w1 := WOK_init h1 o1
  have w2 := WOK_init h2 o2
  obtain ⟨i1, i2⟩ := two_units ((unL a).length + (unL b).length) (a, 0) (b, 0) w1.1 w2.1 (by simp [wU])
  have e1 : wU (a, 0) = unL a := by simp [wU]
  have e2 : wU (b, 0) = unL b := by simp [wU]
  rw [e1, e2] at i1
  refine ⟨i1, i2, okL_raw i2 ?_⟩
  rw [i1]
  have := twoU_len (unL a) (unL b)
  have := (out_units h1).2.2
  have := (out_units h2).2.2
  omega
end Go.Proofs
end
