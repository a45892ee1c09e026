/-
  Edits done, undone, found. Plain. Edits done by the program. Which edits may be, as the document says. Edits done, undone, by the program. Edits done, undone, by the program.
-/
import Derived.Test.YtmhpninemdmbkaaDoorXCUo6
import Derived.Test.YtmhpninemdmbkaaDoorRwF
set_option linter.unusedSimpArgs false
set_option linter.unusedVariables false
set_option linter.defProp false

-- CAp0
section
namespace Go.Proofs
open Go Go.Rw
set_option linter.unusedSimpArgs false
set_option linter.unusedVariables false

def cpts (t : List UInt8) : List Nat := (pts t).getD []
theorem cpts_some {t : List UInt8} {cs : List Nat} (h : pts t = some cs) : cpts t = cs := by unfold cpts; rw [h]; rfl
theorem cpts_nil : cpts [] = [] := rfl
theorem cpts_enc {cs : List Nat} (h : ∀ c ∈ cs, okc c) : cpts (encs cs) = cs := cpts_some (pts_enc h)
theorem isSome_cpts {t : List UInt8} (h : (pts t).isSome = true) : pts t = some (cpts t) := by
  obtain ⟨cs, hc⟩ := Option.isSome_iff_exists.1 h
  rw [hc, cpts_some hc]
theorem encs_cpts {t : List UInt8} (h : (pts t).isSome = true) : encs (cpts t) = t ∧ ∀ c ∈ cpts t, okc c := by
  obtain ⟨h1, h2⟩ := pts_some (isSome_cpts h)
  exact ⟨h2.symm, h1⟩
theorem cpts_app {s t : List UInt8} (h1 : (pts s).isSome = true) (h2 : (pts t).isSome = true) : cpts (s ++ t) = cpts s ++ cpts t := by
  obtain ⟨e1, o1⟩ := encs_cpts h1
  obtain ⟨e2, o2⟩ := encs_cpts h2
  have : s ++ t = encs (cpts s ++ cpts t) := by rw [encs_app, e1, e2]
  rw [this, cpts_enc]
  intro c hc
  rcases List.mem_append.1 hc with h | h
  · exact o1 c h
  · exact o2 c h
theorem lc_cpts {t : List UInt8} (h : (pts t).isSome = true) : lc t = (cpts t).length := by
  obtain ⟨e1, o1⟩ := encs_cpts h
  conv => lhs; rw [← e1]
  exact lc_encs _ o1
/-- A text's code points, behind an edit. -/
def doL : List Nat → List Cp → List Nat
  | _, [] => []
  | cs, c :: r => if someC c = false then doL cs r else if c.k = 2 then cpts c.t ++ doL cs r else if c.k = 3 then doL (cs.drop c.n.toNat) r else cs.take c.n.toNat ++ doL (cs.drop c.n.toNat) r
theorem do_no {cs : List Nat} {c : Cp} {r : List Cp} (h : someC c = false) : doL cs (c :: r) = doL cs r := by rw [doL, if_pos h]
theorem do_ins {cs : List Nat} {c : Cp} {r : List Cp} (h : someC c = true) (h2 : c.k = 2) : doL cs (c :: r) = cpts c.t ++ doL cs r := by rw [doL, if_neg (by rw [h]; decide), if_pos h2]
theorem do_del {cs : List Nat} {c : Cp} {r : List Cp} (h : someC c = true) (h2 : c.k = 3) : doL cs (c :: r) = doL (cs.drop c.n.toNat) r := by rw [doL, if_neg (by rw [h]; decide), if_neg (by omega), if_pos h2]
theorem do_ret {cs : List Nat} {c : Cp} {r : List Cp} (h : someC c = true) (h2 : ¬ c.k = 2) (h3 : ¬ c.k = 3) : doL cs (c :: r) = cs.take c.n.toNat ++ doL (cs.drop c.n.toNat) r := by rw [doL, if_neg (by rw [h]; decide), if_neg h2, if_neg h3]

/-- Of what length an edit is. -/
def fit (cs : List Nat) (l : List Cp) : Prop := (∀ c ∈ l, sound c = true) ∧ (cs.length : Int) = tn l
theorem sound_cases {c : Cp} (h : sound c = true) : (c.k = 2 ∧ c.n = 0 ∧ c.t ≠ [] ∧ (pts c.t).isSome = true) ∨ ((c.k = 1 ∨ c.k = 3) ∧ 0 < c.n ∧ c.t = []) := by
  unfold sound at h
  split at h
  · rename_i h2
    simp at h
    exact .inl ⟨h2, h.1.1, h.1.2, h.2⟩
  · split at h
    · rename_i h13
      simp at h
      exact .inr ⟨h13, h.1, h.2⟩
    · cases h
theorem sound_some {c : Cp} (h : sound c = true) : someC c = true := by
  unfold someC
  rcases sound_cases h with ⟨h2, _, h3, _⟩ | ⟨h13, h4, _⟩
  · rw [if_pos h2]; simp [h3]
  · rw [if_neg (by omega)]
    rcases h13 with h | h <;> simp [h, h4]
theorem fit_cons {cs : List Nat} {c : Cp} {r : List Cp} (h : fit cs (c :: r)) : sound c = true ∧ 0 ≤ c.n ∧ c.n.toNat ≤ cs.length ∧ fit (cs.drop c.n.toNat) r := by
  obtain ⟨h1, h2⟩ := h
  have hs := h1 c (by simp)
  have hp := tn_pos r
  have hn : 0 ≤ c.n := by rcases sound_cases hs with ⟨_, h, _⟩ | ⟨_, h, _⟩ <;> omega
  simp only [tn] at h2
  exact ⟨hs, hn, by omega, fun x hx => h1 x (by simp [hx]), by rw [List.length_drop]; omega⟩
theorem sumN_base : ∀ (l : List Cp) (m : Int), (0 ≤ m ∧ m ≤ 1099511627776) → (∀ c ∈ l, sound c = true) → baseF m l = sumN m l
  | [], _, _, _ => rfl
  | c :: r, m, hm, h => by
    have hr := fun x hx => h x (List.mem_cons_of_mem c hx)
    have hs := sound_cases (h c (by simp))
    simp only [baseF, sumN]
    by_cases h13 : c.k = 1 ∨ c.k = 3
    · rw [if_pos h13]
      exact sumN_base r _ (addI_range hm.1 (by omega)) hr
    · rw [if_neg h13]
      rcases hs with ⟨_, h0, _⟩ | ⟨h, _⟩
      · rw [h0, show max (0 : Int) 0 = 0 from rfl, addI_z hm.2]
        exact sumN_base r m hm hr
      · exact absurd h h13
theorem normal_sound : ∀ (l : List Cp) (p : Option Cp), normalF p l = true → ∀ c ∈ l, sound c = true
  | [], _, _, c, hc => by cases hc
  | c :: r, p, h, x, hx => by
    simp only [normalF, Bool.and_eq_true] at h
    rcases List.mem_cons.1 hx with rfl | hx
    · exact h.1.1
    · exact normal_sound r (some c) h.2 x hx
theorem check_cases {l : List Cp} (h : checkI l = 0) : l.length ≤ 100 ∧ normalL l = true ∧ (∀ c ∈ l, sound c = true) ∧ baseL l = tn l ∧ tn l ≤ 2000 ∧ outL l ≤ 2000 := by
  unfold checkI at h
  split at h
  · cases h
  · split at h
    · cases h
    · split at h
      · cases h
      · rename_i h1 h2 h3
        have h4 : normalL l = true := by simpa using h2
        have h5 := normal_sound l none h4
        have h6 : baseL l = min (0 + tn l) 1099511627776 := by
          unfold baseL
          rw [sumN_base l 0 (by omega) h5, sumN_eq l (by omega)]
        have h7 := tn_pos l
        exact ⟨by omega, h4, h5, by omega, by omega, by omega⟩
theorem out_do : ∀ (l : List Cp) (cs : List Nat) (m : Int), 0 ≤ m → fit cs l → outF m l ≤ 2000 → outF m l = m + (doL cs l).length
  | [], _, m, _, _, _ => by simp [outF, doL]
  | c :: r, cs, m, hm, hf, ho => by
    obtain ⟨hs, hn, hle, hf2⟩ := fit_cons hf
    have hso := sound_some hs
    simp only [outF] at ho ⊢
    have mono : ∀ (l : List Cp) (m : Int), 0 ≤ m → m ≤ 1099511627776 → m ≤ outF m l := by
      intro l
      induction l with
      | nil => intro m _ _; simp [outF]
      | cons c r ih =>
        intro m h1 h2
        simp only [outF]
        split
        · have h3 := addI_range h1 (show 0 ≤ max c.n 0 by omega)
          have h4 := ih _ h3.1 h3.2
          have : m ≤ addI m (max c.n 0) := by unfold addI; omega
          omega
        · split
          · have h3 := addI_range h1 (show 0 ≤ (lc c.t : Int) by omega)
            have h4 := ih _ h3.1 h3.2
            have : m ≤ addI m (lc c.t) := by unfold addI; omega
            omega
          · exact ih m h1 h2
    rcases sound_cases hs with ⟨h2, h0, _, hv⟩ | ⟨h13, hp, _⟩
    · rw [if_neg (by omega), if_pos h2] at ho ⊢
      have hb := addI_range hm (show 0 ≤ (lc c.t : Int) by omega)
      have hm2 := mono r _ hb.1 hb.2
      have hm3 : addI m (lc c.t) ≤ 2000 := by omega
      have e : addI m (lc c.t) = m + lc c.t := by unfold addI at hm3 ⊢; omega
      rw [e] at ho ⊢
      rw [h0] at hf2
      have := out_do r cs (m + lc c.t) (by omega) (by simpa using hf2) ho
      rw [this, do_ins hso h2, List.length_append, lc_cpts hv]; omega
    · by_cases h1 : c.k = 1
      · rw [if_pos h1] at ho ⊢
        have hb := addI_range hm (show 0 ≤ max c.n 0 by omega)
        have hm2 := mono r _ hb.1 hb.2
        have hm3 : addI m (max c.n 0) ≤ 2000 := by omega
        have e : addI m (max c.n 0) = m + c.n := by unfold addI at hm3 ⊢; omega
        rw [e] at ho ⊢
        have := out_do r _ (m + c.n) (by omega) hf2 ho
        rw [this, do_ret hso (by omega) (by omega), List.length_append, List.length_take]; omega
      · rw [if_neg h1, if_neg (by omega)] at ho ⊢
        have := out_do r _ m hm hf2 ho
        rw [this, do_del hso (by omega)]
theorem sound_texts {l : List Cp} (h : ∀ c ∈ l, sound c = true) : allV l = true := by
  unfold allV
  rw [List.all_eq_true]
  intro c hc
  rcases sound_cases (h c hc) with ⟨_, _, _, hv⟩ | ⟨_, _, ht⟩
  · exact hv
  · rw [ht, pts_nil]; rfl

/-- A part that is done. -/
structure Sp where
  c : Cp
  was : List UInt8
  puts : List UInt8
def stepsL : List Nat → List Cp → List Sp
  | _, [] => []
  | cs, c :: r => ⟨c, if c.k = 2 then [] else encs (cs.take c.n.toNat), if c.k = 2 then c.t else if c.k = 3 then [] else encs (cs.take c.n.toNat)⟩ :: stepsL (cs.drop c.n.toNat) r
/-- What undoes a part. -/
def undoS (x : Sp) : Cp := if x.c.k = 2 then ⟨3, (cpts x.puts).length, []⟩ else if x.c.k = 3 then ⟨2, 0, x.was⟩ else x.c
def undoL (cs : List Nat) (l : List Cp) : List Cp := (stepsL cs l).map undoS
/-- Why an edit of a text is refused. -/
def errI (s : List UInt8) (l : List Cp) : Int := if checkI l = 0 then (match pts s with | none => 2 | some cs => if (cs.length : Int) = baseL l then 0 else 11) else checkI l
def undone (s : List UInt8) (l : List Cp) : List Cp := if errI s l = 0 then nf (undoL (cpts s) l) else []

end Go.Proofs
end

-- CAp1
section
namespace Go.Proofs
open Go Go.Rw
set_option maxRecDepth 100000
set_option linter.unusedSimpArgs false
set_option linter.unusedVariables false

end Go.Proofs
end

-- CAp2
section
namespace Go.Proofs
open Go Go.Rw
open _root_.Nat renaming reduceAdd → N0, reduceSub → N1, reduceMul → N2, reduceLT → N3, reduceLeDiff → N4, reduceEqDiff → N5
open _root_.Int renaming reduceNeg → Z0, reduceAdd → Z1, reduceSub → Z2, reduceMul → Z3, reduceGT → Z4, reduceGE → Z5, reduceLT → Z6, reduceLE → Z7, reduceEq → Z8, reduceNe → Z9, reduceToNat → Z10, cast_ofNat_Int → Zc
set_option maxRecDepth 100000
set_option linter.unusedSimpArgs false
set_option linter.unusedVariables false

end Go.Proofs
end

-- CAp3
section
namespace Go.Proofs
open Go Go.Rw
open _root_.Nat renaming reduceAdd → N0, reduceSub → N1, reduceMul → N2, reduceLT → N3, reduceLeDiff → N4, reduceEqDiff → N5
open _root_.Int renaming reduceNeg → Z0, reduceAdd → Z1, reduceSub → Z2, reduceMul → Z3, reduceGT → Z4, reduceGE → Z5, reduceLT → Z6, reduceLE → Z7, reduceEq → Z8, reduceNe → Z9, reduceToNat → Z10, cast_ofNat_Int → Zc
set_option maxRecDepth 100000
set_option linter.unusedSimpArgs false
set_option linter.unusedVariables false

end Go.Proofs
end

-- CAp4
section
namespace Go.Proofs
open Go Go.Rw
open _root_.Nat renaming reduceAdd → N0, reduceSub → N1, reduceMul → N2, reduceLT → N3, reduceLeDiff → N4, reduceEqDiff → N5
open _root_.Int renaming reduceNeg → Z0, reduceAdd → Z1, reduceSub → Z2, reduceMul → Z3, reduceGT → Z4, reduceGE → Z5, reduceLT → Z6, reduceLE → Z7, reduceEq → Z8, reduceNe → Z9, reduceToNat → Z10, cast_ofNat_Int → Zc
set_option maxRecDepth 100000
set_option linter.unusedSimpArgs false
set_option linter.unusedVariables false

end Go.Proofs
end
