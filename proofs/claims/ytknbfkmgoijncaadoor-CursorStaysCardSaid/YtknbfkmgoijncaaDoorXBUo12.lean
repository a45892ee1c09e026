/-
  A text of a length.
-/
import Derived.Test.YtknbfkmgoijncaaDoorXBUo10
set_option linter.unusedSimpArgs false
set_option linter.unusedVariables false
set_option linter.defProp false

-- BUo12
section
namespace Go.Proofs
open Go Go.Rw
set_option maxRecDepth 100000
set_option linter.unusedSimpArgs false
set_option linter.unusedVariables false

def blkF (k : Int) (i : Nat) : Int := 97 + (k * 7 + i) % 26
def blkI (k : Int) (n i : Nat) : List Int := (List.range i).map (blkF k) ++ List.replicate (n - i) 0
def blk (k : Int) (n : Nat) : List UInt8 := (List.range n).map fun i => UInt8.ofNat (blkF k i).toNat
theorem blkI_len {k : Int} {n i : Nat} (h : i ≤ n) : (blkI k n i).length = n := by simp [blkI]; omega
theorem blkI_set {k : Int} {n i : Nat} (h : i < n) : (blkI k n i).set i (blkF k i) = blkI k n (i + 1) := by
  unfold blkI
  rw [List.set_append_right _ _ (by simp), List.length_map, List.length_range, Nat.sub_self, show n - i = (n - (i + 1)) + 1 by omega, List.replicate_succ, List.set_cons_zero, List.range_succ, List.map_append]
  simp
theorem ints_set {k : IntKind} {l : List Int} {i : Nat} {x : Int} : (ints k l).set i (.v (.int k x)) = ints k (l.set i x) := by simp [ints, List.map_set]
theorem ints_rep {k : IntKind} {n : Nat} {x : Int} : List.replicate n (AV.v (.int k x)) = ints k (List.replicate n x) := by simp [ints]
theorem blkF_range {k : Int} {i : Nat} : 97 ≤ blkF k i ∧ blkF k i ≤ 122 := by unfold blkF; omega
theorem blkI_all {k : Int} {n : Nat} : (blkI k n n).map (fun x => UInt8.ofNat x.toNat) = blk k n := by simp [blkI, blk]
abbrev blockCon : Con where
  ι := { n : Nat // n ≤ 1099511627776 } × { k : Int // 0 ≤ k ∧ k ≤ 1000 }
  args := fun p => [.v (.int .i64 p.1.1), .v (.int .i64 p.2.1)]
  post := fun p r => r = .v (sv (blk p.2.1 p.1.1))
  plain := true
theorem blk_okc : ∀ (k : Int) (n : Nat), ∀ c ∈ (List.range n).map (fun i => (blkF k i).toNat), okc c := by
  intro k n c hc
  simp only [List.mem_map, List.mem_range] at hc
  obtain ⟨i, _, rfl⟩ := hc
  have := blkF_range (k := k) (i := i)
  have h2 : 97 ≤ (blkF k i).toNat ∧ (blkF k i).toNat ≤ 122 := by omega
  exact ⟨by omega, by omega, by omega⟩
theorem encs_ascii : ∀ l : List Nat, (∀ c ∈ l, c < 128) → encs l = l.map bt
  | [], _ => rfl
  | c :: l, h => by
    have e : enc c = [bt c] := by unfold enc; rw [if_pos (h c (by simp))]
    rw [encs_cons, encs_ascii l fun x hx => h x (by simp [hx]), e]; rfl
theorem blk_encs (k : Int) (n : Nat) : blk k n = encs ((List.range n).map fun i => (blkF k i).toNat) := by
  rw [encs_ascii _ fun c hc => by
    simp only [List.mem_map, List.mem_range] at hc
    obtain ⟨i, _, rfl⟩ := hc
    have := blkF_range (k := k) (i := i)
    omega]
  simp [blk, bt]
theorem blk_len (k : Int) (n : Nat) : (blk k n).length = n := by simp [blk]
theorem blk_lc (k : Int) (n : Nat) : lc (blk k n) = n := by rw [blk_encs, lc_encs _ (blk_okc k n)]; simp
theorem blk_pts (k : Int) (n : Nat) : (pts (blk k n)).isSome = true := by rw [blk_encs, pts_enc (blk_okc k n)]; rfl
end Go.Proofs
end
