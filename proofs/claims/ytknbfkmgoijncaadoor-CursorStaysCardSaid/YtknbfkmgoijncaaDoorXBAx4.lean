/-
  What an edit behind another one does. Plain.
-/
import Derived.Test.YtknbfkmgoijncaaDoorXBAx2
set_option linter.unusedSimpArgs false
set_option linter.unusedVariables false
set_option linter.defProp false

-- BAx4
section
namespace Go.Proofs
open Go Go.Rw
set_option maxRecDepth 100000
set_option linter.unusedSimpArgs false
set_option linter.unusedVariables false

theorem ovE_comm {a b : List Cp} (h : ovE a b = 0) : ovE b a = 0 := by
  obtain ⟨h1, h2, h3⟩ := ovE_zero h
  unfold ovE; rw [if_pos h2, if_pos h1, if_pos h3.symm]
theorem ovE_of {a b : List Cp} (h1 : checkI a = 0) (h2 : checkI b = 0) (h3 : baseL a = baseL b) : ovE a b = 0 := by
  unfold ovE; rw [if_pos h1, if_pos h2, if_pos h3]
theorem ov_facts (f : Bool) {a b : List Cp} (he : ovE a b = 0) (oa : okL a) (ob : okL b) :
    (∀ cs : List Nat, doL cs (ovN f a b) = doU cs (overU f (unL a) (unL b))) ∧ baseL (ovN f a b) = outL b ∧ normalL (ovN f a b) = true ∧ okL (ovN f a b) := by
  obtain ⟨h1, h2, h3⟩ := ovE_zero he
  obtain ⟨r1, r2, r3, r4⟩ := over_raw f h1 h2 oa ob
  obtain ⟨o1, o2, o3⟩ := out_units h1
  obtain ⟨p1, p2, p3⟩ := out_units h2
  have hl := overU_len f (unL a) (unL b)
  obtain ⟨n1, n2, n3, n4⟩ := nf_facts r2 (by rw [r1]; omega)
  rw [r1] at n1 n2 n3
  have hb := over_base f (unL a) (unL b) (by omega)
  refine ⟨n1, ?_, n4, okL_nf r3 r4⟩
  show baseL (nf _) = _
  rw [n2, hb, p1]
theorem ov_meet (f : Bool) {a b : List Cp} (he : ovE a b = 0) (oa : okL a) (ob : okL b) {cs : List Nat} (hc : (cs.length : Int) = baseL a) :
    doL (doL cs b) (ovN f a b) = doL (doL cs a) (ovN (!f) b a) := by
  obtain ⟨h1, h2, h3⟩ := ovE_zero he
  obtain ⟨o1, o2, o3⟩ := out_units h1
  obtain ⟨p1, p2, p3⟩ := out_units h2
  have s1 := (check_cases h1).2.2.1
  have s2 := (check_cases h2).2.2.1
  rw [(ov_facts f he oa ob).1, (ov_facts (!f) (ovE_comm he) ob oa).1, do_units b _ s2, do_units a _ s1]
  exact over_meet f _ _ cs (by omega) (by omega)
theorem ovR_zero {f : Bool} {a b : List Cp} (he : ovE a b = 0) : ovR f a b = res2 (.sl 0 3 (comps (ovN f a b))) 0 := by unfold ovR; rw [if_pos he]
theorem ovR_err {f : Bool} {a b : List Cp} (he : ¬ ovE a b = 0) : ovR f a b = res2 (.sl 0 3 []) (ovE a b) := by unfold ovR; rw [if_neg he]
theorem ovR_er (f : Bool) (a b : List Cp) : (ovR f a b).er = ovR f a b := by
  unfold ovR
  split <;> simp [res2, AV.er, AV.erL]
theorem call_over {Γ : Env} {f : Nat} (hf : Γ.get f = some overCon) {σ : AS} {dr : Bool} {a b : List Cp} {fi : Bool} {ys zs : List AV} {d : Option Nat} {K : AS → Prop} (hy : ys = comps a) (hz : zs = comps b) (oa : okL a) (ob : okL b)
    (hk : cont σ d (ovR fi a b) K) : vcCall Tryd.prog Γ dr σ f [.sl 0 3 ys, .sl 0 3 zs, .v (.bool fi)] d K := by
  subst hy hz
  exact vcCall_fn (C := overCon) (i := (⟨a, oa⟩, ⟨b, ob⟩, fi)) (r := ovR fi a b) hf rfl rfl rfl rfl (fun _ h => h) (by rw [ovR_er]; exact hk)
theorem ov_small (f : Bool) {a b : List Cp} (oa : okL a) (ob : okL b) : ∃ (l : List Cp) (e : Int), ovR f a b = res2 (.sl 0 3 (comps l)) e ∧ e = ovE a b ∧ l.length ≤ 4000000 ∧ okL l ∧ (ovE a b = 0 → l = ovN f a b) ∧ (¬ ovE a b = 0 → l = []) := by
  by_cases he : ovE a b = 0
  · obtain ⟨h1, h2, _⟩ := ovE_zero he
    have h4 := (over_raw f h1 h2 oa ob).2.2.2
    have h3 := (nfF_ok (overF f ((unL a).length + (unL b).length) (a, 0) (b, 0)) 0 [] 0 (by omega) (by omega)).1
    exact ⟨_, _, ovR_zero he, he.symm, by unfold ovN nf; omega, (ov_facts f he oa ob).2.2.2, fun _ => rfl, fun h => absurd he h⟩
  · exact ⟨[], _, ovR_err he, rfl, by simp, ⟨by simp, by simp [tot], by simp⟩, fun h => absurd h he, fun _ => rfl⟩
end Go.Proofs
end
