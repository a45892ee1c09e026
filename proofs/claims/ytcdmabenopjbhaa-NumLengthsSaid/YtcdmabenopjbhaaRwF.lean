/-
  A function that reverses the numbers of a slice in place, as the reckoning asks for it. Proved over any program.
-/
import Derived.Test.YtcdmabenopjbhaaRwC
import Derived.Sort.Row
set_option linter.unusedSimpArgs false
set_option linter.unusedVariables false
set_option linter.defProp false

-- RwRev
section
namespace Go.Rw
open Go Go.RowKit Go.Sort
set_option linter.unusedSimpArgs false
set_option linter.unusedVariables false

theorem frozen_row {w : World} {g i : Nat} {cur : Array Value} {e : TypeId} (h : w.heap[g]? = some (.cells cur e (0, 0))) : w.frozen? ⟨g, i, none⟩ = false := by
  simp [World.frozen?, h]

theorem mutI_of_rows {P : Program} {f : FuncId} {e : Nat} {k : IntKind} {F : List Int → List Int} (hfn : FnOk P f) (hlen : ∀ l, (F l).length = l.length)
    (hrun : ∀ (blk off cap : Nat) (d : Array Int) (w : World), Holds (Value.int k) w blk off d → d.size ≤ 9223372036854775807 →
      Calls P f #[.slice (some ⟨blk, off, none⟩) d.size cap] w fun ed w' => ed = .returned (.tuple #[]) ∧ ∃ n, w' = putRow (Value.int k) (Sort.ahead w n) blk off (F d.toList).toArray)
    (hempty : ∀ (a : Option Addr) (cap : Nat) (w : World), Calls P f #[.slice a 0 cap] w fun ed w' => ed = .returned (.tuple #[]) ∧ w' = w) : MutI P f e k F where
  fn := hfn
  len := hlen
  empty := fun w A cap => (hempty A cap w).mono fun ed w' ⟨h1, h2⟩ => ⟨h1, by rw [h2]; exact Below.refl _ _⟩
  run := fun w g cap cur l hrow hsz hle hcap hne hcell => by
    have hH : Holds (Value.int k) w g 0 l.toArray := by
      intro j hj
      have hj2 : j < l.length := by simpa using hj
      refine ⟨?_, frozen_row hrow⟩
      have h1 := hcell j hj2
      simp only [World.cell?, hrow, Nat.zero_add, Option.isSome_none, Bool.false_eq_true, if_false]
      rw [h1]
      simp [getElem!_pos, hj2, List.getD_eq_getElem?_getD]
    have h2 := hrun g 0 cap l.toArray w hH (by simp only [maxLen] at hcap; simp; omega)
    rw [List.size_toArray] at h2
    refine h2.mono ?_
    rintro ed w' ⟨rfl, n, rfl⟩
    have hlen2 : (F l).length = l.length := hlen l
    refine ⟨rfl, ⟨rfl, rfl, rfl, by simp, fun j hj => ?_⟩, putCells (Value.int k) 0 (F l).toArray cur, ?_, by simp [putCells], fun j hj => ?_⟩
    · simp only [putRow, mapBlock, heap_ahead, Array.getElem?_modify]
      rw [if_neg (fun h => hj h.symm)]
    · simp only [putRow, mapBlock, heap_ahead, Array.getElem?_modify, if_true, hrow, Option.map_some, onCells]
    · have hc : j < cur.size := by omega
      simp only [putCells, Array.getElem?_mapIdx, Array.getElem?_eq_getElem hc, Option.map_some]
      rw [if_pos ⟨by omega, by simp; omega⟩]
      simp [getElem!_pos, hlen2, hj, List.getD_eq_getElem?_getD]
end Go.Rw
end
