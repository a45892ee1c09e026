/-
  What the document fixes of texts.
-/
import Derived.Test.YtknbfkmgoijncaaDoorXBUt6
set_option linter.unusedSimpArgs false
set_option linter.unusedVariables false
set_option linter.defProp false

-- BUt7
section
namespace Go.Proofs
open Go Go.Rw
set_option maxRecDepth 100000
set_option linter.unusedSimpArgs false
set_option linter.unusedVariables false

abbrev vrCon : Con where
  ι := Int
  args := fun n => [.v (.int .i32 n)]
  post := fun n r => r = .v (.bool (decide ((0 ≤ n ∧ n < 55296) ∨ (57343 < n ∧ n ≤ 1114111))))
  plain := true
/-- A text of a half. -/
abbrev halfCon : Con where
  ι := Unit
  args := fun _ => [.sl 0 1 (ints .i64 [55296])]
  post := fun _ r => r = res2 (.v (sv [])) 2
  plain := true
theorem call_points {Γ : Env} (hf : Γ.get 54 = some pointsCon) {σ : AS} {dr : Bool} {l : List UInt8} {d : Option Nat} {K : AS → Prop} (h : l.length ≤ 1099511627776)
    (hk : cont σ d (pointsR l) K) : vcCall Tryd.prog Γ dr σ 54 [.v (sv l)] d K :=
  vcCall_fn (C := pointsCon) (i := ⟨l, h⟩) (r := pointsR l) hf rfl rfl rfl rfl (fun _ h => h) (by
    have : (pointsR l).er = pointsR l := by unfold pointsR; split <;> rfl
    rw [this]; exact hk)
abbrev trueCon : Con where
  ι := Unit
  args := fun _ => []
  post := fun _ r => r = .v (.bool true)
  plain := true
theorem pts_a : pts [97, 195, 169] = some [97, 233] := by decide +kernel
theorem pts_b : pts [255] = none := by decide +kernel
theorem pts_c : pts [97, 98, 99] = some [97, 98, 99] := by decide +kernel
theorem pts_d : pts [0] = none := by decide +kernel
theorem encs_b : encs [98] = [98] := by decide +kernel
end Go.Proofs
end
