/-
  The document's normal form.
-/
import Derived.Test.YtknbfkmgoijncaaDoorXBUo3
set_option linter.unusedSimpArgs false
set_option linter.unusedVariables false
set_option linter.defProp false

-- BUo4
section
namespace Go.Proofs
open Go Go.Rw
open _root_.Nat renaming reduceAdd → N0, reduceSub → N1, reduceMul → N2, reduceLT → N3, reduceLeDiff → N4, reduceEqDiff → N5
open _root_.Int renaming reduceNeg → Z0, reduceAdd → Z1, reduceSub → Z2, reduceMul → Z3, reduceGT → Z4, reduceGE → Z5, reduceLT → Z6, reduceLE → Z7, reduceEq → Z8, reduceNe → Z9, reduceToNat → Z10, cast_ofNat_Int → Zc
set_option maxRecDepth 100000
set_option linter.unusedSimpArgs false
set_option linter.unusedVariables false

def heldI (a b : Int) : Int := min (min (max a 0) 1099511627776 + min (max b 0) 1099511627776) 1099511627776
theorem heldI_eq {a b : Int} (ha : 0 ≤ a ∧ a ≤ 1099511627776) : heldI a b = addI a (max b 0) := by unfold heldI addI; omega
theorem addI_zero {a : Int} (ha : 0 ≤ a ∧ a ≤ 1099511627776) {b : Int} (hb : b ≤ 0) : addI a (max b 0) = a := by unfold addI; omega
abbrev heldCon : Con where
  ι := I64 × I64
  args := fun p => [.v (.int .i64 p.1.1), .v (.int .i64 p.2.1)]
  post := fun p r => r = .v (.int .i64 (heldI p.1.1 p.2.1))
  plain := true
theorem held_good : Rw.Good Tryd.prog 47 heldCon := by
  have hΓ : GoodEnv Tryd.prog [] := goodEnv_nil
  refine good_fn (nn := 15) hΓ Tryd.func47 (by kernel_rfl) rfl (show Tryd.f47.results.toList = [.tmp 4] from rfl) (fun _ => rfl) (fun _ => rfl) ?_
  rintro ⟨⟨a, ha1, ha2⟩, ⟨b, hb1, hb2⟩⟩
  simp (disch := omega) only [goRules, coreRules, tiRules, unRules, AS_of_eq, ← decide_not, N0, N1, N2, N3, N4, N5, Z0, Z1, Z2, Z3, Z4, Z5, Z6, Z7, Z8, Z9, Z10, Zc, ↓reduceIte, reduceCtorEq, wrap_i64, max2_int, min2_int]
  unfold heldI
  rfl
theorem call_held {Γ : Env} (hf : Γ.get 47 = some heldCon) {σ : AS} {dr : Bool} {a b : Int} {d : Option Nat} {K : AS → Prop} (ha : 0 ≤ a ∧ a ≤ 1099511627776) (hb : -9223372036854775808 ≤ b ∧ b ≤ 9223372036854775807)
    (hk : cont σ d (.v (.int .i64 (addI a (max b 0)))) K) : vcCall Tryd.prog Γ dr σ 47 [.v (.int .i64 a), .v (.int .i64 b)] d K :=
  vcCall_plain (C := heldCon) (i := (⟨a, by omega, by omega⟩, ⟨b, hb⟩)) hf rfl rfl rfl rfl (fun _ h => h) rfl (by rw [heldI_eq ha]; exact hk)

abbrev RSt (l : List Cp) := { p : (List Cp × Nat) × ((Int × List UInt8) × Int) // (p.1.2 ≤ l.length ∧ (0 ≤ p.2.1.1 ∧ p.2.1.1 ≤ 1099511627776) ∧ (0 ≤ p.2.2 ∧ p.2.2 ≤ 1099511627776) ∧ p.2.1.2.length + tot (l.drop p.1.2) ≤ 1099511627776 ∧ p.1.1 ++ nfF p.2.1.1 p.2.1.2 p.2.2 (l.drop p.1.2) = nf l) ∨ (p.1.2 = l.length + 1 ∧ p.1.1 = nf l) }
end Go.Proofs
end
