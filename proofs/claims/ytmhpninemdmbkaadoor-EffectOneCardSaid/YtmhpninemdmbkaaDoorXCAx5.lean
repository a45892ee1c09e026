/-
  XformMeets answers true.
-/
import Derived.Test.YtmhpninemdmbkaaDoorXCAx1
import Derived.Test.YtmhpninemdmbkaaDoorXCAw8
set_option linter.unusedSimpArgs false
set_option linter.unusedVariables false
set_option linter.defProp false

-- CAx5
section
namespace Go.Proofs
open Go Go.Rw
set_option maxRecDepth 100000
set_option linter.unusedSimpArgs false
set_option linter.unusedVariables false

theorem comp_get (a b c : AV) (d : Nat) (h : d = 0) : [a, b, c].getD d .any = a := by subst h; rfl
theorem ov_a : ovE [⟨2, 0, [120]⟩] [⟨2, 0, [121]⟩] = 0 ∧ ovN true [⟨2, 0, [120]⟩] [⟨2, 0, [121]⟩] = [⟨2, 0, [120]⟩, ⟨1, 1, []⟩] ∧ ovN false [⟨2, 0, [120]⟩] [⟨2, 0, [121]⟩] = [⟨1, 1, []⟩, ⟨2, 0, [120]⟩] ∧ ovE [⟨2, 0, [120]⟩] [⟨1, 3, []⟩] = 11 := by decide +kernel
theorem call_over_t {Γ : Env} {f : Nat} (hf : Γ.get f = some overCon) {n : Nat} {t : Nat → AV} {hd : Nat → Nat → AV} {nh nl : Nat} {h : Nat → Option AO} {fm : Nat → Nat} {lv : Nat → Option (Nat × Nat)} {mu : Bool} {a b : List Cp} {fi : Bool} {t1 t2 : Nat} {ys zs : List AV} {d : Option Nat} {K : AS → Prop} (h1 : 2 ≤ t1) (h2 : 2 ≤ t2) (hy : ys = comps a) (hz : zs = comps b) (oa : okL a) (ob : okL b)
    (hk : cont ⟨n, t, hd, ⟨nh, h, nl, fm, kill fm [t1, t2] lv, mu⟩⟩ d (ovR fi a b) K) : vcCall Tryd.prog Γ false ⟨n, t, hd, ⟨nh, h, nl, fm, lv, mu⟩⟩ f [.sl t1 3 ys, .sl t2 3 zs, .v (.bool fi)] d K := by
  subst hy hz
  refine vcCall_none (C := overCon) (i := (⟨a, oa⟩, ⟨b, ob⟩, fi)) hf rfl rfl rfl rfl (ts := [t1, t2]) ?_ ?_
  · simp [AV.tagsL, AV.tags, h1, h2]
  · rintro r rfl
    rw [ovR_er]
    exact hk
theorem call_over_t1 {Γ : Env} {f : Nat} (hf : Γ.get f = some overCon) {n : Nat} {t : Nat → AV} {hd : Nat → Nat → AV} {nh nl : Nat} {h : Nat → Option AO} {fm : Nat → Nat} {lv : Nat → Option (Nat × Nat)} {mu : Bool} {a b : List Cp} {fi : Bool} {t1 : Nat} {ys zs : List AV} {d : Option Nat} {K : AS → Prop} (h1 : 2 ≤ t1) (hy : ys = comps a) (hz : zs = comps b) (oa : okL a) (ob : okL b)
    (hk : cont ⟨n, t, hd, ⟨nh, h, nl, fm, kill fm [t1] lv, mu⟩⟩ d (ovR fi a b) K) : vcCall Tryd.prog Γ false ⟨n, t, hd, ⟨nh, h, nl, fm, lv, mu⟩⟩ f [.sl t1 3 ys, .sl 0 3 zs, .v (.bool fi)] d K := by
  subst hy hz
  refine vcCall_none (C := overCon) (i := (⟨a, oa⟩, ⟨b, ob⟩, fi)) hf rfl rfl rfl rfl (ts := [t1]) ?_ ?_
  · simp [AV.tagsL, AV.tags, h1]
  · rintro r rfl
    rw [ovR_er]
    exact hk
abbrev meets10Con : Con where
  ι := StrM × Given × Given × Bool
  args := fun p => [.v (sv p.1.1), .sl 0 3 (comps p.2.1.1), .sl 0 3 (comps p.2.2.1.1), .v (.bool p.2.2.2)]
  post := fun _ r => r = .v (.bool true)
  plain := true
/-- What an edit, behind another one, does to what the other one made. -/
theorem do_over {s : List UInt8} {a b : List Cp} {f : Bool} (h1 : errI s a = 0) (h2 : errI s b = 0) (oa : okL a) (ob : okL b) (hc : checkI (ovN f a b) = 0) :
    ovE a b = 0 ∧ errI (doneB s b) (ovN f a b) = 0 ∧ doneB (doneB s b) (ovN f a b) = encs (doL (doL (cpts s) b) (ovN f a b)) ∧ baseL (ovN f a b) = cnt (doneB s b) := by
  obtain ⟨a1, a2, a3, a4⟩ := err_zero h1
  obtain ⟨b1, b2, b3, b4⟩ := err_zero h2
  obtain ⟨d1, d2, d3⟩ := done_law h2
  have he := ovE_of a1 b1 (by omega)
  obtain ⟨f1, f2, f3, f4⟩ := ov_facts f he oa ob
  have hr := err_of hc d1 (by omega)
  refine ⟨he, hr, ?_, ?_⟩
  · rw [show doneB (doneB s b) (ovN f a b) = if errI (doneB s b) (ovN f a b) = 0 then encs (doL (cpts (doneB s b)) (ovN f a b)) else [] from rfl, if_pos hr, cpts_some d1]
  · rw [cnt_pts d1]; omega
end Go.Proofs
end
