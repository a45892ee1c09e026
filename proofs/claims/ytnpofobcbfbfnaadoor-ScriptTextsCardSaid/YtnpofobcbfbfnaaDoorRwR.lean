/-
  strings.Split at one byte; strings.Join. Proved over any program.
-/
import Derived.Test.YtnpofobcbfbfnaaDoorRwI
import Derived.Shelf.Strings.Split
import Derived.Shelf.Strings.OnBuilder
set_option linter.unusedSimpArgs false
set_option linter.unusedVariables false
set_option linter.defProp false
set_option linter.unusedSectionVars false

-- RwStr
section
namespace Go.Proofs
open Go.Shelf Go.RowKit Go.Lib
variable {P : Program} {ρ : Ren}
end Go.Proofs
namespace Go.Rw
open Go Go.RowKit Go.Proofs Go.Shelf
set_option linter.unusedSimpArgs false
set_option linter.unusedVariables false
set_option linter.unusedSectionVars false

theorem strs_flat (l : List (List UInt8)) : flat (strsA l) = strsA l := by
  have e0 : strsA l = (l.map sv).map AV.v := by simp [strsA]
  rw [e0]; exact flat_vs _
theorem strs_len {l : List (List UInt8)} : (strsA l).length = l.length := by simp [strsA]
theorem strs_getD {l : List (List UInt8)} {i : Nat} (h : i < l.length) : (strsA l).getD i .any = .v (sv l[i]) := by simp [strsA, List.getD_eq_getElem?_getD, h]
section
variable {P : Program} [Tabs] {ρ : Ren} {σ : AS} {d : Option Nat} {K : AS → Prop}
end
/-- strings.Join, of what is told. -/
abbrev joinCon : Con where
  ι := { p : List (List UInt8) × List UInt8 // p.1.length ≤ 1000000 ∧ (Lib.join p.1 p.2).length ≤ 1099511627776 }
  args := fun p => [.sl 0 1 (strsA p.1.1), .v (sv p.1.2)]
  post := fun p r => r = .v (sv (Lib.join p.1.1 p.1.2))
  plain := true
theorem join_good {P : Program} [Tabs] {ρ : Ren} (L : Lays.n156 P ρ) (X : Builder.Extra P ρ) {f : FuncId} (e : ρ.f 156 = f) : Rw.Good P f joinCon := by
  subst e
  refine good_below ?_ rfl rfl fun p w F vs htb hs hv => ?_
  · exact ⟨_, L.f156, rfl, rfl⟩
  obtain ⟨⟨l, sep⟩, hl, hj⟩ := p
  simp only at hl hj
  have h0 := hv 0
  have h1 := VR.v_inv (hv 1)
  have e : vs = #[vs.getD 0 undef, sv sep] := by
    apply Array.ext (by simpa using hs)
    intro i h2 h3
    have : i = 0 ∨ i = 1 := by have : i < 2 := by simpa using h3
                               omega
    rcases this with rfl | rfl
    · simp [Array.getD_eq_getD_getElem?, h2]
    · rw [Array.getD_eq_getD_getElem?, Array.getElem?_eq_getElem h2] at h1; simpa using h1
  simp only [List.getD_cons_zero] at h0
  generalize vs.getD 0 undef = v at e h0
  subst e
  have em : ∀ l : List (List UInt8), (l.map fun s => (⟨s.toArray⟩ : ByteArray)).map (·.data.toList) = l := fun l => by
    rw [List.map_map]
    exact (List.map_congr_left fun s _ => by simp).trans (List.map_id l)
  have fin : ∀ (A : Option Addr) (g off cap : Nat), l.length ≤ cap → v = .slice A l.length cap → (l ≠ [] → A = some ⟨g, off, none⟩) → (∀ j (hj : j < l.length), w.cell? ⟨g, off + j, none⟩ = some (sv l[j])) →
      Calls P (ρ.f 156) #[v, sv sep] w fun e w' => ∃ v r, e = .returned v ∧ r = .v (sv (Lib.join l sep)) ∧ (∀ G w, VR G w v r) ∧ r.plain = true ∧ Below w.heap.size w w' := by
    rintro A g off cap hcap rfl hA hc
    by_cases hne : l = []
    · subst hne
      refine (Any.strings_Join_none L X A cap ⟨sep.toArray⟩ w).mono ?_
      rintro e w' ⟨rfl, rfl⟩
      exact ⟨_, _, rfl, rfl, fun _ _ => .v _, rfl, .refl _ _⟩
    · rw [hA hne]
      have hb : g < w.heap.size := by
        have h2 := hc 0 (List.length_pos_iff.2 hne)
        exact World.block_lt_of_cell? _ _ h2
      have := Any.strings_Join L X g off cap (l.map fun s => ⟨s.toArray⟩) ⟨sep.toArray⟩ w (fun j x hx => by
        rw [List.getElem?_map] at hx
        obtain ⟨s, hs, rfl⟩ := Option.map_eq_some_iff.1 hx
        obtain ⟨hj2, rfl⟩ := List.getElem?_eq_some_iff.1 hs
        exact hc j hj2) hb (by rw [List.length_map]; omega) (by rw [List.length_map]; exact hcap) (by rw [em]; show (Lib.join l sep).length ≤ _; omega)
      rw [List.length_map, em] at this
      refine this.mono ?_
      rintro e w' ⟨rfl, hb2⟩
      exact ⟨_, _, rfl, rfl, fun _ _ => .v _, rfl, hb2⟩
  have hlen : (strsA l).length = l.length := strs_len
  generalize hxs : strsA l = xs at h0 hlen
  cases h0 with
  | sl A cap _ _ _ g off us hl2 h1 hc hlive hA hsz h0 hcell hh =>
    refine fin A g off cap (by omega) (by rw [hlen]) (fun hne => (hA (by rw [← hxs]; intro h; apply hne; exact List.map_eq_nil_iff.1 h)).1) fun j hj => ?_
    have hj2 : j < xs.length * 1 := by omega
    have h2 := hh j hj2
    rw [(hcell j hj2).1]
    rw [← hxs, strs_flat, strs_getD hj] at h2
    rw [h2.v_inv]
end Go.Rw
end
