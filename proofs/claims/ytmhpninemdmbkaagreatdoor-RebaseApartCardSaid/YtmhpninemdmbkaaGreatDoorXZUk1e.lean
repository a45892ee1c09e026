/-
  Nodes held against each other, field by field.
-/
import Derived.Test.YtmhpninemdmbkaaGreatDoorXZUk0
import Derived.Test.YtmhpninemdmbkaaGreatDoorXZUo2
set_option linter.unusedSimpArgs false
set_option linter.unusedVariables false
set_option linter.defProp false

-- ZUk1e
section
namespace Go.Proofs
open Go Go.Rw
set_option maxRecDepth 100000
set_option linter.unusedSimpArgs false
set_option linter.unusedVariables false

section
variable {P : Program}
theorem calm_eqB {d : Nat} {t : TypeId} {a b : Bool} (h : P.underlying t = some .bool) : calm P (Op.equalIn (d + 1) t (.bool a) (.bool b)) = some (a == b) := by
  simp [Op.equalIn, kU, underlying, h]
/-- A struct of two numbers, a text, yes or no, a text. -/
def is5 (P : Program) (t ti ts tb : TypeId) : Bool := match P.underlying t with
  | some (.struct fs) => match fs.toList with
    | [f1, f2, f3, f4, f5] => (f1.type == ti && (f1.offset == 0 && f1.name != "_")) && ((f2.type == ti && (f2.offset == 1 && f2.name != "_")) && ((f3.type == ts && (f3.offset == 2 && f3.name != "_")) && ((f4.type == tb && (f4.offset == 3 && f4.name != "_")) && (f5.type == ts && (f5.offset == 4 && f5.name != "_")))))
    | _ => false
  | _ => false
theorem calm_eq5 {d : Nat} {t ti ts tb : TypeId} {k : IntKind} {a b a' b' : Int} {s s' u u' : List UInt8} {q q' : Bool} (h5 : is5 P t ti ts tb = true) (hp : P.stoodInHeld t = false) (hi : P.underlying ti = some (.int k)) (hs : P.underlying ts = some .string) (hb : P.underlying tb = some .bool) :
    calm P (Op.equalIn (d + 2) t (.agg #[.int .i64 a, .int .i64 b, .string ⟨s.toArray⟩, .bool q, .string ⟨u.toArray⟩]) (.agg #[.int .i64 a', .int .i64 b', .string ⟨s'.toArray⟩, .bool q', .string ⟨u'.toArray⟩])) = some (a == a' && b == b' && s == s' && q == q' && u == u') := by
  unfold is5 at h5
  split at h5
  · rename_i fs ht
    split at h5
    · rename_i f1 f2 f3 f4 f5 hl
      have hfs : fs = #[f1, f2, f3, f4, f5] := by rw [← hl]
      subst hfs
      simp only [Bool.and_eq_true, beq_iff_eq, bne_iff_ne] at h5
      obtain ⟨⟨rfl, o1, n1⟩, ⟨e2, o2, n2⟩, ⟨rfl, o3, n3⟩, ⟨rfl, o4, n4⟩, ⟨e5, o5, n5⟩⟩ := h5
      have p0 : ∀ (a b : Int) (s u : List UInt8) (q : Bool), calm P (part f1.type #[.int .i64 a, .int .i64 b, .string ⟨s.toArray⟩, .bool q, .string ⟨u.toArray⟩] 0) = some (.int .i64 a) := fun a b s u q => jF hi rfl rfl
      have p1 : ∀ (a b : Int) (s u : List UInt8) (q : Bool), calm P (part f1.type #[.int .i64 a, .int .i64 b, .string ⟨s.toArray⟩, .bool q, .string ⟨u.toArray⟩] 1) = some (.int .i64 b) := fun a b s u q => jF hi rfl rfl
      have p2 : ∀ (a b : Int) (s u : List UInt8) (q : Bool), calm P (part f3.type #[.int .i64 a, .int .i64 b, .string ⟨s.toArray⟩, .bool q, .string ⟨u.toArray⟩] 2) = some (.string ⟨s.toArray⟩) := fun a b s u q => jF hs rfl rfl
      have p3 : ∀ (a b : Int) (s u : List UInt8) (q : Bool), calm P (part f4.type #[.int .i64 a, .int .i64 b, .string ⟨s.toArray⟩, .bool q, .string ⟨u.toArray⟩] 3) = some (.bool q) := fun a b s u q => jF hb rfl rfl
      have p4 : ∀ (a b : Int) (s u : List UInt8) (q : Bool), calm P (part f3.type #[.int .i64 a, .int .i64 b, .string ⟨s.toArray⟩, .bool q, .string ⟨u.toArray⟩] 4) = some (.string ⟨u.toArray⟩) := fun a b s u q => jF hs rfl rfl
      rw [Op.equalIn]
      simp only [kU, underlying, qB, Option.bind_some, ht, zG, hp, Bool.false_eq_true, if_false, ← Array.forIn_toList, List.forIn_cons, List.forIn_nil, n1, n2, n3, n4, n5, o1, o2, o3, o4, o5, e2, e5, p0, p1, p2, p3, p4, kDj hi, kDn hs, calm_eqB hb, if_true, ne_eq, not_false_eq_true]
      by_cases c1 : a = a' <;> by_cases c2 : b = b' <;> by_cases c3 : s = s' <;> by_cases c4 : q = q' <;> by_cases c5 : u = u' <;> simp [c1, c2, c3, c4, c5, kU, p0, p1, p2, p3, p4, kDj hi, kDn hs, calm_eqB hb]
    · cases h5
  · cases h5
theorem bin_neq5 {t ti ts tb : TypeId} {x y : Operand} {k : IntKind} {a b a' b' : Int} {s s' u u' : List UInt8} {q q' : Bool} (hg : P.eqGuardType P.depth t = false) (h5 : is5 P t ti ts tb = true) (hp : P.stoodInHeld t = false) (hi : P.underlying ti = some (.int k)) (hs : P.underlying ts = some .string) (hb : P.underlying tb = some .bool) :
    binA P .neq t x y (.agg [.v (.int .i64 a), .v (.int .i64 b), .v (sv s), .v (.bool q), .v (sv u)]) (.agg [.v (.int .i64 a'), .v (.int .i64 b'), .v (sv s'), .v (.bool q'), .v (sv u')]) = some (.v (.bool (decide (¬ (a = a' ∧ b = b' ∧ s = s' ∧ q = q' ∧ u = u'))))) := by
  have e : Op.maxDepth = 9998 + 2 := rfl
  have hq := calm_eq5 (P := P) (d := 9998) (a := a) (b := b) (a' := a') (b' := b') (s := s) (s' := s') (u := u) (u' := u') (q := q) (q' := q') h5 hp hi hs hb
  unfold binA
  rw [show binV P .neq t x y (.agg [.v (.int .i64 a), .v (.int .i64 b), .v (sv s), .v (.bool q), .v (sv u)]) (.agg [.v (.int .i64 a'), .v (.int .i64 b'), .v (sv s'), .v (.bool q'), .v (sv u')]) = none from rfl]
  simp only [kAc, kAN, Option.map_some, Option.none_or, res, kU, eqGuard, sv, qB, Option.bind_some, hg]
  simp [kU, kDm, binOp, Op.equal, e, hq, hg]
  by_cases c1 : a = a' <;> by_cases c2 : b = b' <;> by_cases c3 : s = s' <;> by_cases c4 : q = q' <;> by_cases c5 : u = u' <;> simp [c1, c2, c3, c4, c5]
end
theorem node_neq {x y : Operand} {a b a' b' : Int} {s s' u u' : List UInt8} {q q' : Bool} : binA Tryz.prog .neq 44 x y (.agg [.v (.int .i64 a), .v (.int .i64 b), .v (sv s), .v (.bool q), .v (sv u)]) (.agg [.v (.int .i64 a'), .v (.int .i64 b'), .v (sv s'), .v (.bool q'), .v (sv u')]) = some (.v (.bool (decide (¬ (a = a' ∧ b = b' ∧ s = s' ∧ q = q' ∧ u = u'))))) :=
  bin_neq5 (ti := 3) (ts := 9) (tb := 4) (k := .i64) (by kernel_rfl) (by kernel_rfl) (by kernel_rfl) (by kernel_rfl) (by kernel_rfl) (by kernel_rfl)
theorem nd_eq (x y : Nd) : (x = y) = (x.id = y.id ∧ x.par = y.par ∧ x.nm = y.nm ∧ x.dir = y.dir ∧ x.text = y.text) := by
  cases x; cases y; simp only [Nd.mk.injEq]
end Go.Proofs
end
