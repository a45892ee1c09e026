/-
  ComposeAsks answers true. ComposeDoes answers true.
-/
import Derived.Test.YtmhpninemdmbkaaDoorXCAw0
import Derived.Test.YtmhpninemdmbkaaDoorXCAw9
set_option linter.unusedSimpArgs false
set_option linter.unusedVariables false
set_option linter.defProp false

-- CAw8
section
namespace Go.Proofs
open Go Go.Rw
set_option maxRecDepth 100000
set_option linter.unusedSimpArgs false
set_option linter.unusedVariables false

theorem call_two_t {Γ : Env} {f : Nat} (hf : Γ.get f = some twoCon) {n : Nat} {t : Nat → AV} {hd : Nat → Nat → AV} {nh nl : Nat} {h : Nat → Option AO} {fm : Nat → Nat} {lv : Nat → Option (Nat × Nat)} {mu : Bool} {a b : List Cp} {t1 t2 : Nat} {ys zs : List AV} {d : Option Nat} {K : AS → Prop} (h1 : 2 ≤ t1) (h2 : 2 ≤ t2) (hy : ys = comps a) (hz : zs = comps b) (oa : okL a) (ob : okL b)
    (hk : cont ⟨n, t, hd, ⟨nh, h, nl, fm, kill fm [t1, t2] lv, mu⟩⟩ d (twoR a b) K) : vcCall Tryd.prog Γ false ⟨n, t, hd, ⟨nh, h, nl, fm, lv, mu⟩⟩ f [.sl t1 3 ys, .sl t2 3 zs] d K := by
  subst hy hz
  refine vcCall_none (C := twoCon) (i := (⟨a, oa⟩, ⟨b, ob⟩)) hf rfl rfl rfl rfl (ts := [t1, t2]) ?_ ?_
  · simp [AV.tagsL, AV.tags, h1, h2]
  · rintro r rfl
    rw [twoR_er]
    exact hk
theorem two_a : twoE [⟨2, 0, [97]⟩] [⟨3, 1, []⟩] = 0 ∧ twoN [⟨2, 0, [97]⟩] [⟨3, 1, []⟩] = [] := by decide +kernel
theorem two_b : twoE [⟨1, 2, []⟩] [⟨1, 3, []⟩] = 11 := by decide +kernel
def givenP (l : List Cp) : Prop := l.length ≤ 9223372036854775807 ∧ ∀ c ∈ l, (-9223372036854775808 ≤ c.n ∧ c.n ≤ 9223372036854775807) ∧ c.t.length ≤ 9223372036854775807
abbrev GivenE := { l : List (List Cp) // l.length ≤ 9223372036854775807 ∧ ∀ x ∈ l, givenP x }
abbrev asks9Con : Con where
  ι := Given × Given × Num × GivenE
  args := fun p => [.sl 0 3 (comps p.1.1), .sl 0 3 (comps p.2.1.1), .v (.int .i64 p.2.2.1.1), .sl 0 1 (edits p.2.2.2.1)]
  post := fun _ r => r = .v (.bool true)
  plain := true
theorem two_small {a b : List Cp} (oa : okL a) (ob : okL b) : ∃ (l : List Cp) (e : Int), twoR a b = res2 (.sl 0 3 (comps l)) e ∧ l.length ≤ 4000000 ∧ okL l := by
  unfold twoR
  by_cases he : twoE a b = 0
  · rw [if_pos he]
    obtain ⟨h1, h2, _⟩ := twoE_zero he
    have := two_rawlen h1 h2 oa ob
    have h3 := (nfF_ok (twoF ((unL a).length + (unL b).length) (a, 0) (b, 0)) 0 [] 0 (by omega) (by omega)).1
    exact ⟨_, _, rfl, by unfold twoN nf; omega, okL_two he oa ob⟩
  · rw [if_neg he]
    exact ⟨[], _, rfl, by simp, by simp, by simp [tot], by simp⟩
theorem all_small : ∀ (l : List (List Cp)) (out : List Cp), okL out → out.length ≤ 4000000 → (∀ x ∈ l, okL x) → (allS out l).1.length ≤ 4000000 ∧ okL (allS out l).1
  | [], out, ho, hl, _ => ⟨hl, ho⟩
  | x :: r, out, ho, hl, h => by
    rw [allS]
    split
    · rename_i he
      have ox := h x (by simp)
      obtain ⟨h1, h2, _⟩ := twoE_zero he
      have := two_rawlen h1 h2 ho ox
      have h3 := (nfF_ok (twoF ((unL out).length + (unL x).length) (out, 0) (x, 0)) 0 [] 0 (by omega) (by omega)).1
      exact all_small r _ (okL_two he ho ox) (by unfold twoN nf; omega) (fun y hy => h y (by simp [hy]))
    · exact ⟨by simp, by simp, by simp [tot], by simp⟩
theorem keep_len (n : Int) : (keepL n).length ≤ 1 := by unfold keepL; split <;> simp
end Go.Proofs
end

-- CAw10
section
namespace Go.Proofs
open Go Go.Rw
set_option maxRecDepth 100000
set_option linter.unusedSimpArgs false
set_option linter.unusedVariables false

abbrev does9Con : Con where
  ι := StrM × Given × Given × Given
  args := fun p => [.v (sv p.1.1), .sl 0 3 (comps p.2.1.1), .sl 0 3 (comps p.2.2.1.1), .sl 0 3 (comps p.2.2.2.1)]
  post := fun _ r => r = .v (.bool true)
  plain := true
theorem two_zero {a b : List Cp} (he : twoE a b = 0) : twoR a b = res2 (.sl 0 3 (comps (twoN a b))) 0 := by unfold twoR; rw [if_pos he]
theorem two_err {a b : List Cp} (he : ¬ twoE a b = 0) : twoR a b = res2 (.sl 0 3 []) (twoE a b) := by unfold twoR; rw [if_neg he]
/-- Whether a whole edit does what one after the other does. -/
theorem do_two {s : List UInt8} {a b : List Cp} (h1 : errI s a = 0) (h2 : errI (doneB s a) b = 0) (oa : okL a) (ob : okL b) (hc : checkI (twoN a b) = 0) :
    errI s (twoN a b) = 0 ∧ doneB s (twoN a b) = doneB (doneB s a) b := by
  obtain ⟨a1, a2, a3, a4⟩ := err_zero h1
  obtain ⟨b1, b2, b3, b4⟩ := err_zero h2
  obtain ⟨d1, d2, d3⟩ := done_law h1
  have hcp := cpts_some d1
  rw [hcp] at b3
  have he : twoE a b = 0 := by unfold twoE; rw [if_pos a1, if_pos b1, if_pos (by omega)]
  obtain ⟨f1, f2, f3, f4⟩ := two_facts he oa ob
  have hr := err_of hc a2 (by rw [f2]; exact a3)
  refine ⟨hr, ?_⟩
  have e1 : doneB s (twoN a b) = encs (doL (cpts s) (twoN a b)) := by unfold doneB; rw [if_pos hr]
  have e2 : doneB (doneB s a) b = encs (doL (cpts (doneB s a)) b) := by rw [show doneB (doneB s a) b = if errI (doneB s a) b = 0 then encs (doL (cpts (doneB s a)) b) else [] from rfl, if_pos h2]
  rw [e1, e2, hcp, f1 _ a3]
theorem two_of_do {s : List UInt8} {a b : List Cp} (h1 : errI s a = 0) (h2 : errI (doneB s a) b = 0) : twoE a b = 0 := by
  obtain ⟨a1, a2, a3, a4⟩ := err_zero h1
  obtain ⟨b1, b2, b3, b4⟩ := err_zero h2
  obtain ⟨d1, d2, d3⟩ := done_law h1
  rw [cpts_some d1] at b3
  unfold twoE; rw [if_pos a1, if_pos b1, if_pos (by omega)]
end Go.Proofs
end
