/-
  A tree given: opened.
-/
import Derived.Test.YtmhpninemdmbkaaGreatDoorXZUeR
import Derived.Test.YtmhpninemdmbkaaGreatDoorXZUk0
set_option linter.unusedSimpArgs false
set_option linter.unusedVariables false
set_option linter.defProp false

-- ZUkR
section
namespace Go.Proofs
open Go Go.Rw Go.RowKit Go.ChangeShapes Go.WideShapes Go.ChangeAt Go.Deep
set_option maxRecDepth 100000
set_option linter.unusedSimpArgs false
set_option linter.unusedVariables false

abbrev tyN : Ty := .st [.int .i64, .int .i64, .str, .bool, .str]
theorem fit_node {ds : List AV} (h : Fits tyN ds) : ∃ a : Nd, kC9 tyN ds = nA a ∧ a.nm.length ≤ 9223372036854775807 ∧ a.text.length ≤ 9223372036854775807 := by
  simp only [tyN, Fits.eq_5, FitsL] at h
  obtain ⟨a, b, rfl, h1, a2, b2, rfl, h2, a3, b3, rfl, h3, a4, b4, rfl, h4, a5, b5, rfl, h5, rfl⟩ := h
  simp only [Fits] at h1 h2 h3 h4 h5
  obtain ⟨id, rfl, _⟩ := h1
  obtain ⟨par, rfl, _⟩ := h2
  obtain ⟨nm, rfl, hn⟩ := h3
  obtain ⟨dir, rfl⟩ := h4
  obtain ⟨tx, rfl, ht⟩ := h5
  exact ⟨⟨id, par, nm, dir, tx⟩, rfl, hn, ht⟩
theorem open_nodes {P : Program} {W : World} {H : Type} {enc : TypeId × Value → H} {t : TypeId} {v : Value} {d : DataW H} {p : List MemPlace} (ht : isTy P t (.slc tyN) = true) (hv : ∃ A n c, v = .slice A n c) (h : DataW.Trod enc P W 0 (fun _ => true) true t v d p) :
    ∃ l : List Nd, l.length ≤ 9223372036854775807 ∧ (∀ a ∈ l, a.nm.length ≤ 9223372036854775807 ∧ a.text.length ≤ 9223372036854775807) ∧ VR (Gin (Fw W) none) W v (.sl 0 5 (k9 l)) :=
  arg_slc nA _ (fun ds hd => fit_node hd) ht hv h
end Go.Proofs
end
