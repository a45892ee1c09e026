/-
  xform.Over, walked.
-/
import Derived.Test.YtknbfkmgoijncaaDoorXBAx1
set_option linter.unusedSimpArgs false
set_option linter.unusedVariables false
set_option linter.defProp false

-- BAx2
section
namespace Go.Proofs
open Go Go.Rw
set_option maxRecDepth 100000
set_option linter.unusedSimpArgs false
set_option linter.unusedVariables false

def ovE (a b : List Cp) : Int := if checkI a = 0 then (if checkI b = 0 then (if baseL a = baseL b then 0 else 11) else checkI b) else checkI a
def ovN (f : Bool) (a b : List Cp) : List Cp := nf (overF f ((unL a).length + (unL b).length) (a, 0) (b, 0))
def ovR (f : Bool) (a b : List Cp) : AV := if ovE a b = 0 then res2 (.sl 0 3 (comps (ovN f a b))) 0 else res2 (.sl 0 3 []) (ovE a b)
theorem ovE_zero {a b : List Cp} (h : ovE a b = 0) : checkI a = 0 ∧ checkI b = 0 ∧ baseL a = baseL b := by
  unfold ovE at h
  split at h
  · split at h
    · split at h
      · exact ⟨by assumption, by assumption, by assumption⟩
      · cases h
    · exact absurd h (by assumption)
  · exact absurd h (by assumption)
abbrev sideCon : Con where
  ι := Ed × Ed
  args := fun p => [.sl 0 3 (comps p.1.1), .sl 0 3 (comps p.2.1)]
  post := fun p r => r = .v (.int .i64 (ovE p.1.1 p.2.1))
  plain := true
abbrev overCon : Con where
  ι := Ed × Ed × Bool
  args := fun p => [.sl 0 3 (comps p.1.1), .sl 0 3 (comps p.2.1.1), .v (.bool p.2.2)]
  post := fun p r => r = ovR p.2.2 p.1.1 p.2.1.1
theorem over_raw (f : Bool) {a b : List Cp} (h1 : checkI a = 0) (h2 : checkI b = 0) (o1 : okL a) (o2 : okL b) :
    unL (overF f ((unL a).length + (unL b).length) (a, 0) (b, 0)) = overU f (unL a) (unL b) ∧ (∀ c ∈ overF f ((unL a).length + (unL b).length) (a, 0) (b, 0), sound c = true) ∧ okL (overF f ((unL a).length + (unL b).length) (a, 0) (b, 0)) ∧ (overF f ((unL a).length + (unL b).length) (a, 0) (b, 0)).length ≤ 100000 := by
  have w1 := WOK_init h1 o1
  have w2 := WOK_init h2 o2
  obtain ⟨i1, i2⟩ := over_units f ((unL a).length + (unL b).length) (a, 0) (b, 0) w1.1 w2.1 (by simp [wU])
  have e1 : wU (a, 0) = unL a := by simp [wU]
  have e2 : wU (b, 0) = unL b := by simp [wU]
  rw [e1, e2] at i1
  have h3 := overU_len f (unL a) (unL b)
  have h4 := (out_units h1).2.2
  have h5 := (out_units h2).2.2
  have h6 := (okL_units i2).1
  rw [i1] at h6
  exact ⟨i1, i2, okL_raw i2 (by rw [i1]; omega), by omega⟩
theorem keepL_pos {n : Nat} (h : 0 < n) : keepL n = [⟨1, n, []⟩] := by unfold keepL; rw [if_neg (by omega)]
theorem comps_app (a b : List Cp) : comps a ++ comps b = comps (a ++ b) := by simp [comps]
theorem field_k (a b c : AV) : fieldA Tryd.prog 73 (.agg [a, b, c]) 0 = some a := by
  unfold fieldA
  rw [Tryd.underlying73]
  simp [loadA, tiRules, TK.isAgg]
abbrev OvSt (fi : Bool) (e : Prop) (raw : List Cp) := { p : List Cp × (List Cp × Nat) × (List Cp × Nat) × Nat // e ∧ WOK p.2.1 ∧ WOK p.2.2.1 ∧ (wU p.2.1).length + (wU p.2.2.1).length ≤ p.2.2.2 ∧ p.1.length + p.2.2.2 ≤ 10000 ∧ p.1 ++ overF fi p.2.2.2 p.2.1 p.2.2.1 = raw }
end Go.Proofs
end
