/-
  Parts held against each other; edits that are alike.
-/
import Derived.Test.YtknbfkmgoijncaaDoorXBUo4
set_option linter.unusedSimpArgs false
set_option linter.unusedVariables false
set_option linter.defProp false

-- BUo5
section
namespace Go.Proofs
open Go Go.Rw
set_option maxRecDepth 100000
set_option linter.unusedSimpArgs false
set_option linter.unusedVariables false

section
variable {P : Program}
theorem calm_part1 {t : TypeId} {cs : Array Value} {off : Nat} {v : Value} {td : TypeDesc} (ht : P.underlying t = some td) (ha : (match td with | .struct _ | .array _ _ => true | _ => false) = false) (hv : cs[off]? = some v) : calm P (part t cs off) = some v := by
  simp only [part, isAgg, underlying, calm_bind, calm_program, Option.bind_some, ht, calm_pure]
  cases td <;> first | (cases ha; done) | (simp [hv, calm_bind])
theorem calm_eqI {d : Nat} {t : TypeId} {k k' : IntKind} {a b : Int} (h : P.underlying t = some (.int k')) : calm P (Op.equalIn (d + 1) t (.int k a) (.int k b)) = some (a == b) := by
  simp [Op.equalIn, calm_bind, underlying, h]
theorem calm_eqS {d : Nat} {t : TypeId} {a b : List UInt8} (h : P.underlying t = some .string) : calm P (Op.equalIn (d + 1) t (.string ⟨a.toArray⟩) (.string ⟨b.toArray⟩)) = some (a == b) := by
  simp [Op.equalIn, calm_bind, underlying, h]
  show (a.toArray == b.toArray) = (a == b)
  simp
/-- Structs of two numbers and a text. -/
theorem calm_eq3 {d : Nat} {t ti ts : TypeId} {k : IntKind} {f1 f2 f3 : Field} {a b a' b' : Int} {s s' : List UInt8} (ht : P.underlying t = some (.struct #[f1, f2, f3])) (hp : P.stoodInHeld t = false) (hi : P.underlying ti = some (.int k)) (hs : P.underlying ts = some .string)
    (h1 : f1.type = ti ∧ f1.offset = 0 ∧ f1.name ≠ "_") (h2 : f2.type = ti ∧ f2.offset = 1 ∧ f2.name ≠ "_") (h3 : f3.type = ts ∧ f3.offset = 2 ∧ f3.name ≠ "_") :
    calm P (Op.equalIn (d + 2) t (.agg #[.int .i64 a, .int .i64 b, .string ⟨s.toArray⟩]) (.agg #[.int .i64 a', .int .i64 b', .string ⟨s'.toArray⟩])) = some (a == a' && b == b' && s == s') := by
  obtain ⟨rfl, o1, n1⟩ := h1
  obtain ⟨e2, o2, n2⟩ := h2
  obtain ⟨rfl, o3, n3⟩ := h3
  have p0 : ∀ (a b : Int) (s : List UInt8), calm P (part f1.type #[.int .i64 a, .int .i64 b, .string ⟨s.toArray⟩] 0) = some (.int .i64 a) := fun a b s => calm_part1 hi rfl rfl
  have p1 : ∀ (a b : Int) (s : List UInt8), calm P (part f1.type #[.int .i64 a, .int .i64 b, .string ⟨s.toArray⟩] 1) = some (.int .i64 b) := fun a b s => calm_part1 hi rfl rfl
  have p2 : ∀ (a b : Int) (s : List UInt8), calm P (part f3.type #[.int .i64 a, .int .i64 b, .string ⟨s.toArray⟩] 2) = some (.string ⟨s.toArray⟩) := fun a b s => calm_part1 hs rfl rfl
  rw [Op.equalIn]
  simp only [calm_bind, underlying, calm_program, Option.bind_some, ht, calm_pure, hp, Bool.false_eq_true, if_false, ← Array.forIn_toList, List.forIn_cons, List.forIn_nil, n1, n2, n3, o1, o2, o3, e2, p0, p1, p2, calm_eqI hi, calm_eqS hs, if_true, ne_eq, not_false_eq_true]
  by_cases c1 : a = a' <;> by_cases c2 : b = b' <;> by_cases c3 : s = s' <;> simp [c1, c2, c3, calm_bind, p0, p1, p2, calm_eqI hi, calm_eqS hs]
theorem bin_neq3 {t ti ts : TypeId} {x y : Operand} {k : IntKind} {f1 f2 f3 : Field} {a b a' b' : Int} {s s' : List UInt8} (hg : P.eqGuardType P.depth t = false) (ht : P.underlying t = some (.struct #[f1, f2, f3])) (hp : P.stoodInHeld t = false) (hi : P.underlying ti = some (.int k)) (hs : P.underlying ts = some .string)
    (h1 : f1.type = ti ∧ f1.offset = 0 ∧ f1.name ≠ "_") (h2 : f2.type = ti ∧ f2.offset = 1 ∧ f2.name ≠ "_") (h3 : f3.type = ts ∧ f3.offset = 2 ∧ f3.name ≠ "_") :
    binA P .neq t x y (.agg [.v (.int .i64 a), .v (.int .i64 b), .v (sv s)]) (.agg [.v (.int .i64 a'), .v (.int .i64 b'), .v (sv s')]) = some (.v (.bool (decide (¬ (a = a' ∧ b = b' ∧ s = s'))))) := by
  have e : Op.maxDepth = 9998 + 2 := rfl
  have hq := calm_eq3 (P := P) (d := 9998) (a := a) (b := b) (a' := a') (b' := b') (s := s) (s' := s') ht hp hi hs h1 h2 h3
  unfold binA
  rw [show binV P .neq t x y (.agg [.v (.int .i64 a), .v (.int .i64 b), .v (sv s)]) (.agg [.v (.int .i64 a'), .v (.int .i64 b'), .v (sv s')]) = none from rfl]
  simp only [aggBin, plainVs, Option.map_some, Option.none_or, res, calm_bind, eqGuard, sv, calm_program, Option.bind_some, hg]
  simp [calm_bind, calm_map, binOp, Op.equal, e, hq, hg]
  by_cases c1 : a = a' <;> by_cases c2 : b = b' <;> by_cases c3 : s = s' <;> simp [c1, c2, c3]
/-- A struct of two numbers and a text. -/
def is3 (P : Program) (t ti ts : TypeId) : Bool := match P.underlying t with
  | some (.struct fs) => match fs.toList with
    | [f1, f2, f3] => (f1.type == ti && (f1.offset == 0 && f1.name != "_")) && ((f2.type == ti && (f2.offset == 1 && f2.name != "_")) && (f3.type == ts && (f3.offset == 2 && f3.name != "_")))
    | _ => false
  | _ => false
theorem bin_neq4 {t ti ts : TypeId} {x y : Operand} {k : IntKind} {a b a' b' : Int} {s s' : List UInt8} (hg : P.eqGuardType P.depth t = false) (h3 : is3 P t ti ts = true) (hp : P.stoodInHeld t = false) (hi : P.underlying ti = some (.int k)) (hs : P.underlying ts = some .string) :
    binA P .neq t x y (.agg [.v (.int .i64 a), .v (.int .i64 b), .v (sv s)]) (.agg [.v (.int .i64 a'), .v (.int .i64 b'), .v (sv s')]) = some (.v (.bool (decide (¬ (a = a' ∧ b = b' ∧ s = s'))))) := by
  unfold is3 at h3
  split at h3
  · rename_i fs hf
    split at h3
    · rename_i f1 f2 f3 hl
      have : fs = #[f1, f2, f3] := by rw [← hl]
      subst this
      simp only [Bool.and_eq_true, beq_iff_eq, bne_iff_ne] at h3
      exact bin_neq3 hg hf hp hi hs h3.1 h3.2.1 h3.2.2
    · cases h3
  · cases h3
end
theorem comp_neq {x y : Operand} {a b a' b' : Int} {s s' : List UInt8} : binA Tryd.prog .neq 73 x y (.agg [.v (.int .i64 a), .v (.int .i64 b), .v (sv s)]) (.agg [.v (.int .i64 a'), .v (.int .i64 b'), .v (sv s')]) = some (.v (.bool (decide (¬ (a = a' ∧ b = b' ∧ s = s'))))) :=
  bin_neq4 (ti := 3) (ts := 9) (k := .i64) (by kernel_rfl) (by kernel_rfl) (by kernel_rfl) (by kernel_rfl) (by kernel_rfl)

abbrev Cps := { p : List Cp × List Cp // p.1.length ≤ 4000000000000 ∧ p.2.length ≤ 4000000000000 }
abbrev sameCon : Con where
  ι := Cps
  args := fun p => [.sl 0 3 (comps p.1.1), .sl 0 3 (comps p.1.2)]
  post := fun p r => r = .v (.bool (decide (p.1.1 = p.1.2)))
  plain := true
theorem call_same {Γ : Env} {f : Nat} (hf : Γ.get f = some sameCon) {σ : AS} {dr : Bool} {x y : List Cp} {s t : Nat} {xs ys : List AV} {d : Option Nat} {K : AS → Prop} (hx : xs = comps x) (hy : ys = comps y) (h1 : x.length ≤ 4000000000000) (h2 : y.length ≤ 4000000000000)
    (hk : cont σ d (.v (.bool (decide (x = y)))) K) : vcCall Tryd.prog Γ dr σ f [.sl s 3 xs, .sl t 3 ys] d K := by
  subst hx; subst hy
  exact vcCall_plain (C := sameCon) (i := ⟨(x, y), h1, h2⟩) hf rfl rfl rfl rfl (fun _ h => h) rfl hk
theorem drop_eq2 {x y : List Cp} {i : Nat} (h1 : i < x.length) (h2 : i < y.length) : (x.drop i = y.drop i) ↔ ((x[i].k = y[i].k ∧ x[i].n = y[i].n ∧ x[i].t = y[i].t) ∧ x.drop (i + 1) = y.drop (i + 1)) := by
  rw [List.drop_eq_getElem_cons h1, List.drop_eq_getElem_cons h2, List.cons.injEq]
  constructor
  · rintro ⟨h, h3⟩; exact ⟨by rw [h]; exact ⟨rfl, rfl, rfl⟩, h3⟩
  · rintro ⟨⟨a, b, c⟩, h3⟩
    refine ⟨?_, h3⟩
    generalize x[i] = u at *
    generalize y[i] = v at *
    cases u; cases v
    simp only at a b c
    subst a; subst b; subst c; rfl
end Go.Proofs
end
