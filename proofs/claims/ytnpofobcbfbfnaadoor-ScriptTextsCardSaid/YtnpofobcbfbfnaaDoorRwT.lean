/-
  The shelf's functions on texts, as contracts: strings.TrimPrefix, TrimSuffix, Contains and Index and Count at a byte, ContainsAny, strconv.Itoa. Proved over any program.
-/
import Derived.Test.YtnpofobcbfbfnaaDoorRwR
import Derived.Shelf.Strings.Prefix
import Derived.Shelf.Strings.Search3
import Derived.Shelf.Strings.IndexAnyAll
import Derived.Shelf.Strings.Count
import Derived.Shelf.Strconv.Itoa3
import Derived.Shelf.Strconv.AtoiAll
import Derived.Lib.SmallJoins
import Derived.Lib.ItoaLen
import Derived.Lib.AppendIntMem
set_option linter.unusedSimpArgs false
set_option linter.unusedVariables false
set_option linter.defProp false
set_option linter.unusedSectionVars false

-- RwTx
section
namespace Go.Rw
open Go Go.Shelf Go.Proofs
set_option linter.unusedSimpArgs false
set_option linter.unusedVariables false

theorem args_one {G : Gh} {w : World} {vs : Array Value} {a : Value} (hs : vs.size = 1) (hv : ∀ k, VR G w (vs.getD k undef) ([AV.v a].getD k .any)) : vs = #[a] := by
  apply Array.ext (by simpa using hs)
  intro i h1 h2
  have : i = 0 := by simpa using h2
  subst this
  have h3 := VR.v_inv (hv 0)
  rw [Array.getD_eq_getD_getElem?, Array.getElem?_eq_getElem h1] at h3
  simpa using h3
theorem args_two {G : Gh} {w : World} {vs : Array Value} {a b : Value} (hs : vs.size = 2) (hv : ∀ k, VR G w (vs.getD k undef) ([AV.v a, AV.v b].getD k .any)) : vs = #[a, b] := by
  have h0 := VR.v_inv (hv 0)
  have h1 := VR.v_inv (hv 1)
  apply Array.ext (by simpa using hs)
  intro i h2 h3
  rw [Array.getD_eq_getD_getElem?] at h0 h1
  have : i = 0 ∨ i = 1 := by have : i < 2 := by simpa using h3
                             omega
  rcases this with rfl | rfl
  · rw [Array.getElem?_eq_getElem h2] at h0; simpa using h0
  · rw [Array.getElem?_eq_getElem h2] at h1; simpa using h1
abbrev tpreCon : Con where
  ι := List UInt8 × List UInt8
  args := fun p => [.v (sv p.1), .v (sv p.2)]
  post := fun p r => r = .v (sv (Lib.trimPrefix p.1 p.2))
  plain := true
abbrev hasCon : Con where
  ι := List UInt8 × UInt8
  args := fun p => [.v (sv p.1), .v (sv [p.2])]
  post := fun p r => r = .v (.bool (decide (0 ≤ Lib.indexByte p.1 p.2)))
  plain := true
abbrev idxCon : Con where
  ι := List UInt8 × UInt8
  args := fun p => [.v (sv p.1), .v (sv [p.2])]
  post := fun p r => r = .v (.int .i64 (Lib.indexByte p.1 p.2))
  plain := true
abbrev cntCon : Con where
  ι := List UInt8 × UInt8
  args := fun p => [.v (sv p.1), .v (sv [p.2])]
  post := fun p r => r = .v (.int .i64 (Lib.countByte p.1 p.2))
  plain := true
abbrev hasAnyCon : Con where
  ι := { p : List UInt8 × List UInt8 // (p.1.length ≤ 1000000 ∧ p.2.length ≤ 1000000) ∧ (∀ b ∈ p.1, b.toNat < 128) ∧ ∀ b ∈ p.2, b.toNat < 128 }
  args := fun p => [.v (sv p.1.1), .v (sv p.1.2)]
  post := fun p r => r = .v (.bool (Lib.containsAny p.1.1 p.1.2))
  plain := true
abbrev itoaCon : Con where
  ι := { n : Int // -9223372036854775808 ≤ n ∧ n ≤ 9223372036854775807 }
  args := fun n => [.v (.int .i64 n.1)]
  post := fun n r => r = .v (sv (Lib.itoa n.1))
  plain := true
abbrev atoiCon : Con where
  ι := { p : List UInt8 × Int // p.1.length ≤ 1099511627776 ∧ Lib.atoiAll p.1 = .ok p.2 }
  args := fun p => [.v (sv p.1.1)]
  post := fun p r => r = .tup [.v (.int .i64 p.1.2), .v .nilIface]
  plain := true
section
variable {P : Program} [Tabs] {ρ : Ren}
theorem tpre_good (L : Lays.n101 P ρ) {f : FuncId} (e : ρ.f 101 = f) : Rw.Good P f tpreCon := by
  subst e
  refine good_below ⟨_, L.f101, rfl, rfl⟩ rfl rfl fun p w F vs htb hs hv => ?_
  rw [args_two hs hv]
  refine (Any.strings_TrimPrefix L ⟨p.1.toArray⟩ ⟨p.2.toArray⟩ w).mono ?_
  rintro e w' ⟨rfl, rfl⟩
  exact ⟨_, _, rfl, rfl, fun _ _ => .v _, rfl, .refl _ _⟩
theorem has_good (L : Lays.n144 P ρ) {f : FuncId} (e : ρ.f 144 = f) : Rw.Good P f hasCon := by
  subst e
  refine good_below ⟨_, L.f144, rfl, rfl⟩ rfl rfl fun p w F vs htb hs hv => ?_
  rw [args_two hs hv]
  refine (Any.strings_Contains_one L ⟨p.1.toArray⟩ p.2 w).mono ?_
  rintro e w' ⟨rfl, rfl⟩
  exact ⟨_, _, rfl, rfl, fun _ _ => .v _, rfl, .refl _ _⟩
theorem idx_good (L : Lays.n219 P ρ) {f : FuncId} (e : ρ.f 219 = f) : Rw.Good P f idxCon := by
  subst e
  refine good_below ⟨_, L.f219, rfl, rfl⟩ rfl rfl fun p w F vs htb hs hv => ?_
  rw [args_two hs hv]
  refine (Any.stringslite_Index_one L ⟨p.1.toArray⟩ p.2 w).mono ?_
  rintro e w' ⟨rfl, rfl⟩
  exact ⟨_, _, rfl, rfl, fun _ _ => .v _, rfl, .refl _ _⟩
theorem cnt_good (L : Lays.n138 P ρ) {f : FuncId} (e : ρ.f 138 = f) : Rw.Good P f cntCon := by
  subst e
  refine good_below ⟨_, L.f138, rfl, rfl⟩ rfl rfl fun p w F vs htb hs hv => ?_
  rw [args_two hs hv]
  refine (Any.strings_Count_one L ⟨p.1.toArray⟩ p.2 w).mono ?_
  rintro e w' ⟨rfl, rfl⟩
  exact ⟨_, _, rfl, rfl, fun _ _ => .v _, rfl, .refl _ _⟩
theorem hasAny_good (L : Lays.n150 P ρ) (h116 : (P.info? (ρ.t 116)).map (fun i => (i.zero, i.size)) = some (some (.agg (Array.replicate 256 (.bool false))), 256)) {f : FuncId} (e : ρ.f 150 = f) : Rw.Good P f hasAnyCon := by
  subst e
  refine good_below ⟨_, L.f150, rfl, rfl⟩ rfl rfl fun p w F vs htb hs hv => ?_
  obtain ⟨⟨s, q⟩, ⟨h1, h2⟩, h3, h4⟩ := p
  simp only at h1 h2 h3 h4
  rw [args_two hs hv]
  refine (Any.strings_ContainsAny_laid L h116 ⟨s.toArray⟩ ⟨q.toArray⟩ w (by simp [ByteArray.size]; omega) (by simp [ByteArray.size]; omega) (fun j b hb => h3 b (List.mem_of_getElem? (by simpa using hb))) (fun j b hb => h4 b (List.mem_of_getElem? (by simpa using hb)))).mono ?_
  rintro e w' ⟨rfl, hb⟩
  exact ⟨_, _, rfl, rfl, fun _ _ => .v _, rfl, hb⟩
theorem itoa_good (L : LaysM.n171 P ρ) (ht : ∀ w : World, Tabs.ok w → Lib.TabIs P w "internal/strconv.uint64pow10" .u64 Lib.pow10Tab) {f : FuncId} (e : ρ.f 171 = f) : Rw.Good P f itoaCon := by
  subst e
  refine good_below ⟨_, L.f171, rfl, rfl⟩ rfl rfl fun p w F vs htb hs hv => ?_
  obtain ⟨n, h1, h2⟩ := p
  rw [args_one hs hv]
  refine (Any.strconv_Itoa L n h1 h2 w (ht w htb.1)).mono ?_
  rintro e w' ⟨rfl, k, os, rfl⟩
  exact ⟨_, _, rfl, rfl, fun _ _ => .v _, rfl, Lib.below_grow _ w (Nat.le_refl _) k os⟩
theorem atoi_good (L : LaysC.n172 P ρ) {f : FuncId} (e : ρ.f 172 = f) : Rw.Good P f atoiCon := by
  subst e
  refine good_below ⟨_, L.f172, rfl, rfl⟩ rfl rfl fun p w F vs htb hs hv => ?_
  obtain ⟨⟨s, v⟩, h1, h2⟩ := p
  simp only at h1 h2
  rw [args_one hs hv]
  refine (Any.strconv_Atoi_ok L ⟨s.toArray⟩ (by simp [ByteArray.size]; omega) v h2 w).mono ?_
  rintro e w' ⟨rfl, hw⟩
  refine ⟨_, _, rfl, rfl, fun _ _ => .tup _ _ rfl fun k _ => ?_, rfl, ?_⟩
  · match k with
    | 0 => exact .v _
    | 1 => exact .v _
    | k + 2 => exact .any _
  · rcases hw with rfl | ⟨t, rfl⟩
    · exact .refl _ _
    · exact Joins.below_bytesWorld _ w _ t (Nat.le_refl _)
end
end Go.Rw
end
