/-
  Acts, and what was done, given: opened.
-/
import Derived.Test.YtmhpninemdmbkaaGreatDoorXZUe7
import Derived.Test.YtmhpninemdmbkaaGreatDoorRwI
set_option linter.unusedSimpArgs false
set_option linter.unusedVariables false
set_option linter.defProp false

-- ZUeR
section
namespace Go.Proofs
open Go Go.Rw Go.RowKit Go.ChangeShapes Go.WideShapes Go.ChangeAt Go.Deep
set_option maxRecDepth 100000
theorem i64_rng {n : Int} (h : (Lit.int .i64 n).wf = true) : -9223372036854775808 ≤ n ∧ n ≤ 9223372036854775807 := by
  simp [Lit.wf, IntKind.min, IntKind.max, IntKind.signed, IntKind.bits] at h; omega
abbrev tyC : Ty := .st [.int .i64, .int .i64, .str]
abbrev tyA : Ty := .st [.int .i64, .int .i64, .int .i64, .str, .bool, .slc tyC]
abbrev tyO : Ty := .st [.int .i64, .slc tyC, .bool, .bool, .bool, .bool, .int .i64, .str]
theorem fit_comp {ds : List AV} (h : Fits tyC ds) : ∃ c : Cp, kBx tyC ds = cA c ∧ (-9223372036854775808 ≤ c.n ∧ c.n ≤ 9223372036854775807) ∧ c.t.length ≤ 9223372036854775807 := by
  simp only [tyC, Fits, FitsL] at h
  obtain ⟨a, b, rfl, ⟨k, rfl, hk⟩, a2, b2, rfl, ⟨n, rfl, hn⟩, a3, b3, rfl, ⟨t, rfl, ht⟩, rfl⟩ := h
  exact ⟨⟨k, n, t⟩, rfl, i64_rng hn, ht⟩
theorem fit_comps {cs : List AV} (h : Fits (.slc tyC) cs) : ∃ l : List Cp, cs = [.sl 0 3 (kU l)] ∧ kBn l := by
  rw [Fits] at h
  obtain ⟨xs, rfl, h1, h2⟩ := h
  obtain ⟨l, rfl, h3⟩ := kDr cA (fun c => (-9223372036854775808 ≤ c.n ∧ c.n ≤ 9223372036854775807) ∧ c.t.length ≤ 9223372036854775807) (fun ds hd => fit_comp hd) xs h2
  exact ⟨l, rfl, by simpa using h1, h3⟩
theorem fit_act {ds : List AV} (h : Fits tyA ds) : ∃ a : Ac, kBx tyA ds = aA a ∧ a.nm.length ≤ 9223372036854775807 ∧ kBn a.ops := by
  simp only [tyA, Fits.eq_5, FitsL] at h
  obtain ⟨a, b, rfl, h1, a2, b2, rfl, h2, a3, b3, rfl, h3, a4, b4, rfl, h4, a5, b5, rfl, h5, a6, b6, rfl, h6, rfl⟩ := h
  obtain ⟨l, rfl, hl⟩ := fit_comps h6
  simp only [Fits] at h1 h2 h3 h4 h5
  obtain ⟨k, rfl, _⟩ := h1
  obtain ⟨id, rfl, _⟩ := h2
  obtain ⟨par, rfl, _⟩ := h3
  obtain ⟨nm, rfl, hn⟩ := h4
  obtain ⟨dir, rfl⟩ := h5
  exact ⟨⟨k, id, par, nm, dir, l⟩, rfl, hn, hl⟩
theorem fit_one {ds : List AV} (h : Fits tyO ds) : ∃ a : On, kBx tyO ds = oA a ∧ a.nm.length ≤ 9223372036854775807 ∧ kBn a.ops := by
  simp only [tyO, Fits.eq_5, FitsL] at h
  obtain ⟨a, b, rfl, h1, a2, b2, rfl, h2, a3, b3, rfl, h3, a4, b4, rfl, h4, a5, b5, rfl, h5, a6, b6, rfl, h6, a7, b7, rfl, h7, a8, b8, rfl, h8, rfl⟩ := h
  obtain ⟨l, rfl, hl⟩ := fit_comps h2
  simp only [Fits] at h1 h3 h4 h5 h6 h7 h8
  obtain ⟨id, rfl, _⟩ := h1
  obtain ⟨ed, rfl⟩ := h3
  obtain ⟨rm, rfl⟩ := h4
  obtain ⟨cr, rfl⟩ := h5
  obtain ⟨mv, rfl⟩ := h6
  obtain ⟨par, rfl, _⟩ := h7
  obtain ⟨nm, rfl, hn⟩ := h8
  exact ⟨⟨id, l, ed, rm, cr, mv, par, nm⟩, rfl, hn, hl⟩
section
variable {P : Program} {W : World} {H : Type} {enc : TypeId × Value → H}
theorem open_acts {t : TypeId} {v : Value} {d : DataW H} {p : List MemPlace} (ht : isTy P t (.slc tyA) = true) (hv : ∃ A n c, v = .slice A n c) (h : DataW.Trod enc P W 0 (fun _ => true) true t v d p) :
    ∃ l : List Ac, l.length ≤ 9223372036854775807 ∧ (∀ a ∈ l, a.nm.length ≤ 9223372036854775807 ∧ kBn a.ops) ∧ VR (Gin (Fw W) none) W v (.sl 0 6 (acts l)) :=
  arg_slc aA _ (fun ds hd => fit_act hd) ht hv h
theorem open_ones {t : TypeId} {v : Value} {d : DataW H} {p : List MemPlace} (ht : isTy P t (.slc tyO) = true) (hv : ∃ A n c, v = .slice A n c) (h : DataW.Trod enc P W 0 (fun _ => true) true t v d p) :
    ∃ l : List On, l.length ≤ 9223372036854775807 ∧ (∀ a ∈ l, a.nm.length ≤ 9223372036854775807 ∧ kBn a.ops) ∧ VR (Gin (Fw W) none) W v (.sl 0 8 (ones l)) :=
  arg_slc oA _ (fun ds hd => fit_one hd) ht hv h
end
end Go.Proofs
end
