/-
  A tree given, commits given: opened.
-/
import Derived.Test.YtmhpninemdmbkaaGreatDoorXZUeR
import Derived.Test.YtmhpninemdmbkaaGreatDoorXZUk6
set_option linter.unusedSimpArgs false
set_option linter.unusedVariables false
set_option linter.defProp false

-- ZUkR
section
namespace Go.Proofs
open Go Go.Rw Go.RowKit Go.ChangeShapes Go.WideShapes Go.ChangeAt Go.Deep
set_option maxRecDepth 100000
theorem open_act {P : Program} {W : World} {H : Type} {enc : TypeId × Value → H} {t : TypeId} {cs : Array Value} {d : DataW H} {p : List MemPlace} (ht : isTy P t tyA = true) (h : DataW.Trod enc P W 0 (fun _ => true) true t (.agg cs) d p) :
    ∃ a : Ac, a.nm.length ≤ 9223372036854775807 ∧ kBn a.ops ∧ VR (Gin (Fw W) none) W (.agg cs) (aA a) := by
  obtain ⟨bs, h1, h2⟩ := open_arg ht h
  obtain ⟨a, e, hn, hc⟩ := fit_act h1
  refine ⟨a, hn, hc, ?_⟩
  rw [← e]
  have hs : cs.size = bs.length := by have := h2.1; simpa [Value.cells] using this
  refine VR.agg cs bs hs fun k hk => ?_
  have g := (h2.2 k hk).2
  have e2 : (Value.agg cs).cells.toList.getD k undef = cs.getD k default := by
    show cs.toList.getD k undef = cs.getD k default
    have hk2 : k < cs.size := by omega
    rw [List.getD_eq_getElem?_getD, Array.getElem?_toList, Array.getElem?_eq_getElem hk2]
    simp [Array.getD, hk2]
  rw [e2] at g
  exact g
abbrev tyM : Ty := .st [.int .i64, .int .i64, .int .i64, .slc tyA]
theorem fit_cm {ds : List AV} (h : Fits tyM ds) : ∃ c : Cm, kBx tyM ds = cmA c ∧ wideA c.acs := by
  simp only [tyM, Fits.eq_5, FitsL] at h
  obtain ⟨a, b, rfl, h1, a2, b2, rfl, h2, a3, b3, rfl, h3, a4, b4, rfl, h4, rfl⟩ := h
  rw [Fits] at h4
  obtain ⟨xs, rfl, g1, g2⟩ := h4
  obtain ⟨l, rfl, g3⟩ := kDr aA (fun a => a.nm.length ≤ 9223372036854775807 ∧ kBn a.ops) (fun ds hd => fit_act hd) xs g2
  simp only [Fits] at h1 h2 h3
  obtain ⟨rev, rfl, _⟩ := h1
  obtain ⟨cl, rfl, _⟩ := h2
  obtain ⟨sq, rfl, _⟩ := h3
  exact ⟨⟨rev, cl, sq, l⟩, rfl, by simpa using g1, g3⟩
theorem open_cms {P : Program} {W : World} {H : Type} {enc : TypeId × Value → H} {t : TypeId} {v : Value} {d : DataW H} {p : List MemPlace} (ht : isTy P t (.slc tyM) = true) (hv : ∃ A n c, v = .slice A n c) (h : DataW.Trod enc P W 0 (fun _ => true) true t v d p) :
    ∃ l : List Cm, l.length ≤ 9223372036854775807 ∧ (∀ c ∈ l, wideA c.acs) ∧ VR (Gin (Fw W) none) W v (.sl 0 4 (cms l)) :=
  arg_slc cmA _ (fun ds hd => fit_cm hd) ht hv h
end Go.Proofs
end
