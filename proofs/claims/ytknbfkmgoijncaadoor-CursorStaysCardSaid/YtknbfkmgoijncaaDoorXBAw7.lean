/-
  Keep, All: the program's, the document's.
-/
import Derived.Test.YtknbfkmgoijncaaDoorXBAw6
set_option linter.unusedSimpArgs false
set_option linter.unusedVariables false
set_option linter.defProp false

-- BAw7
section
namespace Go.Proofs
open Go Go.Rw
set_option maxRecDepth 100000
set_option linter.unusedSimpArgs false
set_option linter.unusedVariables false

theorem twoR_er (a b : List Cp) : (twoR a b).er = twoR a b := by
  unfold twoR
  split <;> simp [res2, AV.er, AV.erL]
theorem call_two {Γ : Env} {f : Nat} (hf : Γ.get f = some twoCon) {σ : AS} {dr : Bool} {a b : List Cp} {ys zs : List AV} {d : Option Nat} {K : AS → Prop} (hy : ys = comps a) (hz : zs = comps b) (oa : okL a) (ob : okL b)
    (hk : cont σ d (twoR a b) K) : vcCall Tryd.prog Γ dr σ f [.sl 0 3 ys, .sl 0 3 zs] d K := by
  subst hy hz
  exact vcCall_fn (C := twoCon) (i := (⟨a, oa⟩, ⟨b, ob⟩)) (r := twoR a b) hf rfl rfl rfl rfl (fun _ h => h) (by rw [twoR_er]; exact hk)
/-- Edits, one behind the other. -/
def allS : List Cp → List (List Cp) → List Cp × Int
  | out, [] => (out, 0)
  | out, x :: r => if twoE out x = 0 then allS (twoN out x) r else ([], twoE out x)
def edits (l : List (List Cp)) : List AV := l.map fun x => .sl 0 3 (comps x)
theorem edits_len (l : List (List Cp)) : (edits l).length = l.length := by simp [edits]
theorem edits_getD (l : List (List Cp)) {i : Nat} (h : i < l.length) : (edits l).getD i .any = .sl 0 3 (comps l[i]) := by
  simp [edits, List.getD_eq_getElem?_getD, h]
abbrev Eds := { l : List (List Cp) // l.length ≤ 1099511627776 ∧ ∀ x ∈ l, okL x }
abbrev allCon : Con where
  ι := I64 × Eds
  args := fun p => [.v (.int .i64 p.1.1), .sl 0 1 (edits p.2.1)]
  post := fun p r => r = res2 (.sl 0 3 (comps (allS (keepL p.1.1) p.2.1).1)) (allS (keepL p.1.1) p.2.1).2
theorem okL_nf {l : List Cp} (h : okL l) (hb : l.length ≤ 100000) : okL (nf l) := by
  obtain ⟨h1, h2, h3⟩ := nfF_ok l 0 [] 0 (by omega) (by omega)
  have h4 := h.2.1
  rw [List.length_nil] at h2
  unfold nf
  exact ⟨by omega, by omega, fun c hc => by have := h3 c hc; omega⟩
theorem two_rawlen {a b : List Cp} (h1 : checkI a = 0) (h2 : checkI b = 0) (o1 : okL a) (o2 : okL b) : (twoF ((unL a).length + (unL b).length) (a, 0) (b, 0)).length ≤ 100000 := by
  obtain ⟨r1, r2, r3⟩ := two_raw h1 h2 o1 o2
  have := (okL_units r2).1
  rw [r1] at this
  have := twoU_len (unL a) (unL b)
  have := (out_units h1).2.2
  have := (out_units h2).2.2
  omega
theorem okL_two {a b : List Cp} (h : twoE a b = 0) (oa : okL a) (ob : okL b) : okL (twoN a b) := by
  obtain ⟨h1, h2, _⟩ := twoE_zero h
  exact okL_nf (two_raw h1 h2 oa ob).2.2 (two_rawlen h1 h2 oa ob)
theorem okL_keep {n : Int} (hn : -9223372036854775808 ≤ n ∧ n ≤ 9223372036854775807) : okL (keepL n) := by
  unfold keepL
  split
  · exact ⟨by simp, by simp [tot], by simp⟩
  · exact ⟨by simp, by simp [tot], by simpa using hn⟩
theorem call_all {Γ : Env} {f : Nat} (hf : Γ.get f = some allCon) {σ : AS} {dr : Bool} {n : Int} {l : List (List Cp)} {tg : Nat} {ys : List AV} {d : Option Nat} {K : AS → Prop} (htg : tg ≤ 1) (hy : ys = edits l) (hn : -9223372036854775808 ≤ n ∧ n ≤ 9223372036854775807) (hl : l.length ≤ 1099511627776) (ho : ∀ x ∈ l, okL x)
    (hk : cont σ d (res2 (.sl 0 3 (comps (allS (keepL n) l).1)) (allS (keepL n) l).2) K) : vcCall Tryd.prog Γ dr σ f [.v (.int .i64 n), .sl tg 1 ys] d K := by
  subst hy
  have ht : tg = 0 ∨ tg = 1 := by omega
  rcases ht with rfl | rfl
  · refine vcCall_fn (C := allCon) (i := (⟨n, hn⟩, ⟨l, hl, ho⟩)) (r := res2 (.sl 0 3 (comps (allS (keepL n) l).1)) (allS (keepL n) l).2) hf rfl rfl rfl rfl (fun _ h => h) ?_
    exact hk
  · refine vcCall_fn (C := allCon) (i := (⟨n, hn⟩, ⟨l, hl, ho⟩)) (r := res2 (.sl 0 3 (comps (allS (keepL n) l).1)) (allS (keepL n) l).2) hf rfl rfl rfl rfl (fun _ h => h) ?_
    exact hk
end Go.Proofs
end
