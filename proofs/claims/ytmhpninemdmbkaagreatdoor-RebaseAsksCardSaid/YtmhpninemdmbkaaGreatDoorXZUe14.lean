/-
  EffectKeeps answers true.
-/
import Derived.Test.YtmhpninemdmbkaaGreatDoorXZUe7
set_option linter.unusedSimpArgs false
set_option linter.unusedVariables false
set_option linter.defProp false

-- ZUe14
section
namespace Go.Proofs
open Go Go.Rw
set_option maxRecDepth 100000
theorem call_eover0 {Γ : Env} (hf : Γ.get 42 = some kAD) {σ : AS} {dr : Bool} {x : List On} {l : List Ac} {xs ys : List AV} {d : Option Nat} {K : AS → Prop} (hx : xs = ones x) (hy : ys = acts l) (hxl : x.length ≤ 1099511627776) (hxo : ∀ a ∈ x, okL a.ops) (hl : l.length ≤ 1099511627776) (ho : ∀ a ∈ l, okL a.ops)
    (hk : cont σ d (.sl 0 8 (ones (x.map fun z => j8 z l))) K) : kR Tryz.prog Γ dr σ 42 [.sl 0 8 xs, .sl 0 6 ys] d K := by
  subst hx hy
  exact qK (C := kAD) (i := (⟨x, hxl, hxo⟩, ⟨l, hl, ho⟩)) (r := .sl 0 8 (ones (x.map fun z => j8 z l))) hf rfl rfl (by simp [AV.erL, AV.er, qD, qF]) rfl (fun _ h => h) hk
theorem call_rsones {Γ : Env} (hf : Γ.get 26 = some kCW) {σ : AS} {dr : Bool} {a b : List On} {xs ys : List AV} {d : Option Nat} {K : AS → Prop} (hx : xs = ones a) (hy : ys = ones b) (ha : a.length ≤ 1099511627776) (hao : ∀ x ∈ a, okL x.ops) (hb : b.length ≤ 1099511627776) (hbo : ∀ x ∈ b, okL x.ops)
    (hk : cont σ d (.v (.bool (decide (a = b)))) K) : kR Tryz.prog Γ dr σ 26 [.sl 0 8 xs, .sl 0 8 ys] d K := by
  subst hx hy
  exact kK (C := kCW) (i := (⟨a, ha, fun x hx => by have := (hao x hx).1; omega⟩, ⟨b, hb, fun x hx => by have := (hbo x hx).1; omega⟩)) hf rfl rfl rfl (by simp [AV.erL, AV.er, qD]) (fun _ h => h) rfl hk
end Go.Proofs
end
