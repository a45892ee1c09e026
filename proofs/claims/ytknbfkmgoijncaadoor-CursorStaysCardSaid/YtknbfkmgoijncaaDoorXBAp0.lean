/-
  Edits done, undone, found. Plain.
-/
import Derived.Test.YtknbfkmgoijncaaDoorXBUo10
import Derived.Test.YtknbfkmgoijncaaDoorRwF
set_option linter.unusedSimpArgs false
set_option linter.unusedVariables false
set_option linter.defProp false

-- BAp0
section
namespace Go.Proofs
open Go Go.Rw
set_option linter.unusedSimpArgs false
set_option linter.unusedVariables false

def cpts (t : List UInt8) : List Nat := (pts t).getD []
theorem cpts_some {t : List UInt8} {cs : List Nat} (h : pts t = some cs) : cpts t = cs := by unfold cpts; rw [h]; rfl
theorem cpts_nil : cpts [] = [] := rfl
theorem cpts_enc {cs : List Nat} (h : ∀ c ∈ cs, okc c) : cpts (encs cs) = cs := cpts_some (pts_enc h)
theorem isSome_cpts {t : List UInt8} (h : (pts t).isSome = true) : pts t = some (cpts t) := by
  obtain ⟨cs, hc⟩ := Option.isSome_iff_exists.1 h
  rw [hc, cpts_some hc]
theorem encs_cpts {t : List UInt8} (h : (pts t).isSome = true) : encs (cpts t) = t ∧ ∀ c ∈ cpts t, okc c := by
  obtain ⟨h1, h2⟩ := pts_some (isSome_cpts h)
  exact ⟨h2.symm, h1⟩
theorem cpts_app {s t : List UInt8} (h1 : (pts s).isSome = true) (h2 : (pts t).isSome = true) : cpts (s ++ t) = cpts s ++ cpts t := by
  obtain ⟨e1, o1⟩ := encs_cpts h1
  obtain ⟨e2, o2⟩ := encs_cpts h2
  have : s ++ t = encs (cpts s ++ cpts t) := by rw [encs_app, e1, e2]
  rw [this, cpts_enc]
  intro c hc
  rcases List.mem_append.1 hc with h | h
  · exact o1 c h
  · exact o2 c h
theorem lc_cpts {t : List UInt8} (h : (pts t).isSome = true) : lc t = (cpts t).length := by
  obtain ⟨e1, o1⟩ := encs_cpts h
  conv => lhs; rw [← e1]
  exact lc_encs _ o1
theorem okc_take {cs : List Nat} (h : ∀ c ∈ cs, okc c) (n : Nat) : ∀ c ∈ cs.take n, okc c := fun c hc => h c (List.mem_of_mem_take hc)
theorem okc_drop {cs : List Nat} (h : ∀ c ∈ cs, okc c) (n : Nat) : ∀ c ∈ cs.drop n, okc c := fun c hc => h c (List.mem_of_mem_drop hc)
theorem encs_len_le {cs : List Nat} : (encs cs).length ≤ 4 * cs.length := by
  induction cs with
  | nil => simp [encs_nil]
  | cons c cs ih => rw [encs_cons_len, List.length_cons]; have := wid_le c; omega

/-- A text's code points, behind an edit. -/
def doL : List Nat → List Cp → List Nat
  | _, [] => []
  | cs, c :: r => if someC c = false then doL cs r else if c.k = 2 then cpts c.t ++ doL cs r else if c.k = 3 then doL (cs.drop c.n.toNat) r else cs.take c.n.toNat ++ doL (cs.drop c.n.toNat) r
theorem do_no {cs : List Nat} {c : Cp} {r : List Cp} (h : someC c = false) : doL cs (c :: r) = doL cs r := by rw [doL, if_pos h]
theorem do_ins {cs : List Nat} {c : Cp} {r : List Cp} (h : someC c = true) (h2 : c.k = 2) : doL cs (c :: r) = cpts c.t ++ doL cs r := by rw [doL, if_neg (by rw [h]; decide), if_pos h2]
theorem do_del {cs : List Nat} {c : Cp} {r : List Cp} (h : someC c = true) (h2 : c.k = 3) : doL cs (c :: r) = doL (cs.drop c.n.toNat) r := by rw [doL, if_neg (by rw [h]; decide), if_neg (by omega), if_pos h2]
theorem do_ret {cs : List Nat} {c : Cp} {r : List Cp} (h : someC c = true) (h2 : ¬ c.k = 2) (h3 : ¬ c.k = 3) : doL cs (c :: r) = cs.take c.n.toNat ++ doL (cs.drop c.n.toNat) r := by rw [doL, if_neg (by rw [h]; decide), if_neg h2, if_neg h3]

/-- Of what length an edit is. -/
def fit (cs : List Nat) (l : List Cp) : Prop := (∀ c ∈ l, sound c = true) ∧ (cs.length : Int) = tn l
theorem sound_cases {c : Cp} (h : sound c = true) : (c.k = 2 ∧ c.n = 0 ∧ c.t ≠ [] ∧ (pts c.t).isSome = true) ∨ ((c.k = 1 ∨ c.k = 3) ∧ 0 < c.n ∧ c.t = []) := by
  unfold sound at h
  split at h
  · rename_i h2
    simp at h
    exact .inl ⟨h2, h.1.1, h.1.2, h.2⟩
  · split at h
    · rename_i h13
      simp at h
      exact .inr ⟨h13, h.1, h.2⟩
    · cases h
theorem sound_some {c : Cp} (h : sound c = true) : someC c = true := by
  unfold someC
  rcases sound_cases h with ⟨h2, _, h3, _⟩ | ⟨h13, h4, _⟩
  · rw [if_pos h2]; simp [h3]
  · rw [if_neg (by omega)]
    rcases h13 with h | h <;> simp [h, h4]
theorem fit_cons {cs : List Nat} {c : Cp} {r : List Cp} (h : fit cs (c :: r)) : sound c = true ∧ 0 ≤ c.n ∧ c.n.toNat ≤ cs.length ∧ fit (cs.drop c.n.toNat) r := by
  obtain ⟨h1, h2⟩ := h
  have hs := h1 c (by simp)
  have hp := tn_pos r
  have hn : 0 ≤ c.n := by rcases sound_cases hs with ⟨_, h, _⟩ | ⟨_, h, _⟩ <;> omega
  simp only [tn] at h2
  exact ⟨hs, hn, by omega, fun x hx => h1 x (by simp [hx]), by rw [List.length_drop]; omega⟩
theorem sumN_base : ∀ (l : List Cp) (m : Int), (0 ≤ m ∧ m ≤ 1099511627776) → (∀ c ∈ l, sound c = true) → baseF m l = sumN m l
  | [], _, _, _ => rfl
  | c :: r, m, hm, h => by
    have hr := fun x hx => h x (List.mem_cons_of_mem c hx)
    have hs := sound_cases (h c (by simp))
    simp only [baseF, sumN]
    by_cases h13 : c.k = 1 ∨ c.k = 3
    · rw [if_pos h13]
      exact sumN_base r _ (addI_range hm.1 (by omega)) hr
    · rw [if_neg h13]
      rcases hs with ⟨_, h0, _⟩ | ⟨h, _⟩
      · rw [h0, show max (0 : Int) 0 = 0 from rfl, addI_z hm.2]
        exact sumN_base r m hm hr
      · exact absurd h h13
theorem normal_sound : ∀ (l : List Cp) (p : Option Cp), normalF p l = true → ∀ c ∈ l, sound c = true
  | [], _, _, c, hc => by cases hc
  | c :: r, p, h, x, hx => by
    simp only [normalF, Bool.and_eq_true] at h
    rcases List.mem_cons.1 hx with rfl | hx
    · exact h.1.1
    · exact normal_sound r (some c) h.2 x hx
theorem check_cases {l : List Cp} (h : checkI l = 0) : l.length ≤ 100 ∧ normalL l = true ∧ (∀ c ∈ l, sound c = true) ∧ baseL l = tn l ∧ tn l ≤ 2000 ∧ outL l ≤ 2000 := by
  unfold checkI at h
  split at h
  · cases h
  · split at h
    · cases h
    · split at h
      · cases h
      · rename_i h1 h2 h3
        have h4 : normalL l = true := by simpa using h2
        have h5 := normal_sound l none h4
        have h6 : baseL l = min (0 + tn l) 1099511627776 := by
          unfold baseL
          rw [sumN_base l 0 (by omega) h5, sumN_eq l (by omega)]
        have h7 := tn_pos l
        exact ⟨by omega, h4, h5, by omega, by omega, by omega⟩
theorem fit_check {l : List Cp} (h : checkI l = 0) {cs : List Nat} (hb : (cs.length : Int) = baseL l) : fit cs l := by
  obtain ⟨_, _, h1, h2, _, _⟩ := check_cases h
  exact ⟨h1, by rw [hb, h2]⟩
theorem out_do : ∀ (l : List Cp) (cs : List Nat) (m : Int), 0 ≤ m → fit cs l → outF m l ≤ 2000 → outF m l = m + (doL cs l).length
  | [], _, m, _, _, _ => by simp [outF, doL]
  | c :: r, cs, m, hm, hf, ho => by
    obtain ⟨hs, hn, hle, hf2⟩ := fit_cons hf
    have hso := sound_some hs
    simp only [outF] at ho ⊢
    have mono : ∀ (l : List Cp) (m : Int), 0 ≤ m → m ≤ 1099511627776 → m ≤ outF m l := by
      intro l
      induction l with
      | nil => intro m _ _; simp [outF]
      | cons c r ih =>
        intro m h1 h2
        simp only [outF]
        split
        · have h3 := addI_range h1 (show 0 ≤ max c.n 0 by omega)
          have h4 := ih _ h3.1 h3.2
          have : m ≤ addI m (max c.n 0) := by unfold addI; omega
          omega
        · split
          · have h3 := addI_range h1 (show 0 ≤ (lc c.t : Int) by omega)
            have h4 := ih _ h3.1 h3.2
            have : m ≤ addI m (lc c.t) := by unfold addI; omega
            omega
          · exact ih m h1 h2
    rcases sound_cases hs with ⟨h2, h0, _, hv⟩ | ⟨h13, hp, _⟩
    · rw [if_neg (by omega), if_pos h2] at ho ⊢
      have hb := addI_range hm (show 0 ≤ (lc c.t : Int) by omega)
      have hm2 := mono r _ hb.1 hb.2
      have hm3 : addI m (lc c.t) ≤ 2000 := by omega
      have e : addI m (lc c.t) = m + lc c.t := by unfold addI at hm3 ⊢; omega
      rw [e] at ho ⊢
      rw [h0] at hf2
      have := out_do r cs (m + lc c.t) (by omega) (by simpa using hf2) ho
      rw [this, do_ins hso h2, List.length_append, lc_cpts hv]; omega
    · by_cases h1 : c.k = 1
      · rw [if_pos h1] at ho ⊢
        have hb := addI_range hm (show 0 ≤ max c.n 0 by omega)
        have hm2 := mono r _ hb.1 hb.2
        have hm3 : addI m (max c.n 0) ≤ 2000 := by omega
        have e : addI m (max c.n 0) = m + c.n := by unfold addI at hm3 ⊢; omega
        rw [e] at ho ⊢
        have := out_do r _ (m + c.n) (by omega) hf2 ho
        rw [this, do_ret hso (by omega) (by omega), List.length_append, List.length_take]; omega
      · rw [if_neg h1, if_neg (by omega)] at ho ⊢
        have := out_do r _ m hm hf2 ho
        rw [this, do_del hso (by omega)]
theorem do_okc : ∀ (l : List Cp) (cs : List Nat), (∀ c ∈ cs, okc c) → allV l = true → ∀ c ∈ doL cs l, okc c
  | [], _, _, _, c, h => by cases h
  | c :: r, cs, hc, hv, x, hx => by
    simp only [allV, List.all_cons, Bool.and_eq_true] at hv
    rw [doL] at hx
    split at hx
    · exact do_okc r cs hc hv.2 x hx
    · split at hx
      · rcases List.mem_append.1 hx with h | h
        · exact (encs_cpts hv.1).2 x h
        · exact do_okc r cs hc hv.2 x h
      · split at hx
        · exact do_okc r _ (okc_drop hc _) hv.2 x hx
        · rcases List.mem_append.1 hx with h | h
          · exact okc_take hc _ x h
          · exact do_okc r _ (okc_drop hc _) hv.2 x h
theorem sound_texts {l : List Cp} (h : ∀ c ∈ l, sound c = true) : allV l = true := by
  unfold allV
  rw [List.all_eq_true]
  intro c hc
  rcases sound_cases (h c hc) with ⟨_, _, _, hv⟩ | ⟨_, _, ht⟩
  · exact hv
  · rw [ht, pts_nil]; rfl

/-- A part that is done. -/
structure Sp where
  c : Cp
  was : List UInt8
  puts : List UInt8
def stepsL : List Nat → List Cp → List Sp
  | _, [] => []
  | cs, c :: r => ⟨c, if c.k = 2 then [] else encs (cs.take c.n.toNat), if c.k = 2 then c.t else if c.k = 3 then [] else encs (cs.take c.n.toNat)⟩ :: stepsL (cs.drop c.n.toNat) r
theorem steps_len : ∀ (l : List Cp) (cs : List Nat), (stepsL cs l).length = l.length
  | [], _ => rfl
  | c :: r, cs => by rw [stepsL, List.length_cons, steps_len r, List.length_cons]
theorem steps_puts : ∀ (l : List Cp) (cs : List Nat), fit cs l → (stepsL cs l).flatMap Sp.puts = encs (doL cs l)
  | [], _, _ => rfl
  | c :: r, cs, h => by
    obtain ⟨hs, hn, hle, hf⟩ := fit_cons h
    have hso := sound_some hs
    rw [stepsL, List.flatMap_cons, steps_puts r _ hf]
    simp only
    rcases sound_cases hs with ⟨h2, h0, _, hv⟩ | ⟨h13, hp, _⟩
    · rw [if_pos h2, do_ins hso h2, encs_app, (encs_cpts hv).1, h0]; rfl
    · rw [if_neg (by omega)]
      by_cases h3 : c.k = 3
      · rw [if_pos h3, do_del hso h3]; rfl
      · rw [if_neg h3, do_ret hso (by omega) h3, encs_app]
/-- What undoes a part. -/
def undoS (x : Sp) : Cp := if x.c.k = 2 then ⟨3, (cpts x.puts).length, []⟩ else if x.c.k = 3 then ⟨2, 0, x.was⟩ else x.c
def undoL (cs : List Nat) (l : List Cp) : List Cp := (stepsL cs l).map undoS
/-- Why an edit of a text is refused. -/
def errI (s : List UInt8) (l : List Cp) : Int := if checkI l = 0 then (match pts s with | none => 2 | some cs => if (cs.length : Int) = baseL l then 0 else 11) else checkI l
theorem err_zero {s : List UInt8} {l : List Cp} (h : errI s l = 0) : checkI l = 0 ∧ pts s = some (cpts s) ∧ ((cpts s).length : Int) = baseL l ∧ fit (cpts s) l := by
  unfold errI at h
  split at h
  · rename_i hc
    split at h
    · cases h
    · rename_i cs hp
      split at h
      · rename_i hb
        rw [cpts_some hp]
        exact ⟨hc, hp, hb, fit_check hc hb⟩
      · cases h
  · rename_i hc; exact absurd h hc
def stp (s : List UInt8) (l : List Cp) : List Sp := if errI s l = 0 then stepsL (cpts s) l else []
def doneB (s : List UInt8) (l : List Cp) : List UInt8 := if errI s l = 0 then encs (doL (cpts s) l) else []
def undone (s : List UInt8) (l : List Cp) : List Cp := if errI s l = 0 then nf (undoL (cpts s) l) else []

/-- How long two rows are alike. -/
def lcp : List Nat → List Nat → Nat
  | a :: x, b :: y => if a = b then 1 + lcp x y else 0
  | _, _ => 0
theorem lcp_le : ∀ (x y : List Nat), lcp x y ≤ x.length ∧ lcp x y ≤ y.length
  | [], _ => by simp [lcp]
  | _ :: _, [] => by simp [lcp]
  | a :: x, b :: y => by
    have := lcp_le x y
    simp only [lcp, List.length_cons]
    split <;> omega
theorem lcp_step {x y : List Nat} {i : Nat} (h1 : i < x.length) (h2 : i < y.length) : lcp (x.drop i) (y.drop i) = if x[i] = y[i] then 1 + lcp (x.drop (i + 1)) (y.drop (i + 1)) else 0 := by
  rw [List.drop_eq_getElem_cons h1, List.drop_eq_getElem_cons h2, lcp]
theorem lcp_end {x y : List Nat} {i : Nat} (h : x.length ≤ i ∨ y.length ≤ i) : lcp (x.drop i) (y.drop i) = 0 := by
  have := lcp_le (x.drop i) (y.drop i)
  simp only [List.length_drop] at this
  omega
theorem lcp_take : ∀ (x y : List Nat) (n : Nat), n ≤ lcp x y → x.take n = y.take n
  | _, _, 0, _ => by simp
  | [], _, n + 1, h => by simp [lcp] at h
  | _ :: _, [], n + 1, h => by simp [lcp] at h
  | a :: x, b :: y, n + 1, h => by
    simp only [lcp] at h
    split at h
    · rename_i hab
      rw [List.take_succ_cons, List.take_succ_cons, hab, lcp_take x y n (by omega)]
    · omega
theorem lcp_app : ∀ (h x y : List Nat), h.length ≤ lcp (h ++ x) (h ++ y)
  | [], _, _ => by simp
  | a :: h, x, y => by
    have := lcp_app h x y
    simp only [List.cons_append, lcp, if_true, List.length_cons]
    omega
def pfx (x y : List Nat) : Nat := lcp x y
def sfx (x y : List Nat) : Nat := lcp (x.drop (pfx x y)).reverse (y.drop (pfx x y)).reverse
theorem sfx_le (x y : List Nat) : pfx x y + sfx x y ≤ x.length ∧ pfx x y + sfx x y ≤ y.length := by
  have h1 := lcp_le x y
  have h2 := lcp_le (x.drop (pfx x y)).reverse (y.drop (pfx x y)).reverse
  simp only [List.length_reverse, List.length_drop] at h2
  unfold sfx
  unfold pfx at *
  omega
def midL (x y : List Nat) : List Nat := (y.drop (pfx x y)).take (y.length - sfx x y - pfx x y)
def diffL (x y : List Nat) : List Cp := ofL x.length (pfx x y) ((x.length : Int) - sfx x y) (encs (midL x y))
end Go.Proofs
end
