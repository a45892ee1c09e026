/-
  A text of a length.
-/
import Derived.Test.YtmhpninemdmbkaaGreatDoorXZUo6
set_option linter.unusedSimpArgs false
set_option linter.unusedVariables false
set_option linter.defProp false

-- ZUo12
section
namespace Go.Proofs
open Go Go.Rw
open _root_.Nat renaming reduceAdd → N0, reduceSub → N1, reduceMul → N2, reduceLT → N3, reduceLeDiff → N4, reduceEqDiff → N5
open _root_.Int renaming reduceNeg → Z0, reduceAdd → Z1, reduceSub → Z2, reduceMul → Z3, reduceGT → Z4, reduceGE → Z5, reduceLT → Z6, reduceLE → Z7, reduceEq → Z8, reduceNe → Z9, reduceToNat → Z10, cast_ofNat_Int → Zc
set_option maxRecDepth 100000
set_option linter.unusedSimpArgs false
set_option linter.unusedVariables false

def blkF (k : Int) (i : Nat) : Int := 97 + (k * 7 + i) % 26
def blkI (k : Int) (n i : Nat) : List Int := (List.range i).map (blkF k) ++ List.replicate (n - i) 0
def blk (k : Int) (n : Nat) : List UInt8 := (List.range n).map fun i => UInt8.ofNat (blkF k i).toNat
theorem blkI_len {k : Int} {n i : Nat} (h : i ≤ n) : (blkI k n i).length = n := by simp [blkI]; omega
theorem blkI_set {k : Int} {n i : Nat} (h : i < n) : (blkI k n i).set i (blkF k i) = blkI k n (i + 1) := by
  unfold blkI
  rw [List.set_append_right _ _ (by simp), List.length_map, List.length_range, Nat.sub_self, show n - i = (n - (i + 1)) + 1 by omega, List.replicate_succ, List.set_cons_zero, List.range_succ, List.map_append]
  simp
theorem ints_set {k : IntKind} {l : List Int} {i : Nat} {x : Int} : (ints k l).set i (.v (.int k x)) = ints k (l.set i x) := by simp [ints, List.map_set]
theorem ints_rep {k : IntKind} {n : Nat} {x : Int} : List.replicate n (AV.v (.int k x)) = ints k (List.replicate n x) := by simp [ints]
theorem blkI_all {k : Int} {n : Nat} : (blkI k n n).map (fun x => UInt8.ofNat x.toNat) = blk k n := by simp [blkI, blk]
abbrev kDQ : Con where
  ι := { n : Nat // n ≤ 1099511627776 } × { k : Int // 0 ≤ k ∧ k ≤ 1000 }
  args := fun p => [.v (.int .i64 p.1.1), .v (.int .i64 p.2.1)]
  post := fun p r => r = .v (sv (blk p.2.1 p.1.1))
  plain := true
theorem block_good : Rw.Good Tryz.prog 19 kDQ := by
  have hΓ : kL Tryz.prog [(50, kDW)] := (kD round_good kJ)
  refine kR (nn := 26) hΓ Tryz.func19 (by kernel_rfl) rfl (show Tryz.f19.results.toList = [.tmp 4] from rfl) (fun _ => rfl) (fun _ => rfl) ?_
  rintro ⟨⟨n, hn⟩, ⟨k, hk1, hk2⟩⟩
  simp only [aR,N0,N1,N2,N3,N4,N5,Z0,Z1,Z2,Z3,Z4,Z5,Z6,Z7,Z8,Z9,Z10,Zc,↓reduceIte,reduceCtorEq, ints_rep]
  (repeat (with_reducible refine And.intro ?_ ?_; focus (first | omega | exact kG | kernel_rfl)))
  obtain ⟨St, hSt⟩ : ∃ St : { i : Nat // i ≤ n } → AS, ∀ i, St i = AS.of 26 [(0, .v (.int .i64 n)), (1, .v (.int .i64 k)), (5, .sl 2 1 (ints .u8 (blkI k n i.1))), (6, .v (.int .i64 i.1))] [] [(n, 5)] := ⟨_, fun _ => rfl⟩
  refine kZ hΓ St (fun i => n - i.1) ⟨0, by omega⟩ (by rw [hSt]; refine kH [] [.live 2] ?_; simp only [aR,N0,N1,N2,N3,N4,N5,Z0,Z1,Z2,Z3,Z4,Z5,Z6,Z7,Z8,Z9,Z10,Zc,↓reduceIte,reduceCtorEq, blkI, List.range_zero, List.map_nil, List.nil_append, Nat.sub_zero] <;> ((repeat' apply And.intro) <;> first | rfl | omega | trivial)) ?_
  rintro ⟨i, hi⟩
  rw [hSt]
  simp only
  have hbl := blkI_len (k := k) hi
  simp only [aR,N0,N1,N2,N3,N4,N5,Z0,Z1,Z2,Z3,Z4,Z5,Z6,Z7,Z8,Z9,Z10,Zc,↓reduceIte,reduceCtorEq]
  (with_reducible first | refine kB (fun h => ?_) (fun h => ?_) | refine kE (fun h => ?_) (fun h => ?_))
  · have hw1 : IntKind.i64.wrap (k * 7) = k * 7 := kA (by omega) (by omega)
    have hw2 : IntKind.i64.wrap (k * 7 + i) = k * 7 + i := kA (by omega) (by omega)
    have hw3 : IntKind.i64.wrap (97 + (k * 7 + i) % 26) = 97 + (k * 7 + i) % 26 := kA (by omega) (by omega)
    have hw4 : IntKind.u8.wrap (97 + (k * 7 + i) % 26) = 97 + (k * 7 + i) % 26 := by simp only [IntKind.wrap, IntKind.signed, IntKind.bits]; simp; omega
    have hw5 : IntKind.i64.wrap ((i : Int) + 1) = (i : Int) + 1 := kA (by omega) (by omega)
    simp only [aR,N0,N1,N2,N3,N4,N5,Z0,Z1,Z2,Z3,Z4,Z5,Z6,Z7,Z8,Z9,Z10,Zc,↓reduceIte,reduceCtorEq, h, hw1, hw2]
    refine call_round (by simp [kC]) (by omega) (by omega) ?_
    have he : (ints .u8 (blkI k n i)).set i (kBm ((ints .u8 (blkI k n i)).getD i .any) 0 [.v (.int .u8 (97 + (k * 7 + i) % 26))]) = ints .u8 (blkI k n (i + 1)) := by
      rw [ints_getD (by omega), setEl_v, ints_set, ← blkI_set (by omega)]; rfl
    simp only [aR,N0,N1,N2,N3,N4,N5,Z0,Z1,Z2,Z3,Z4,Z5,Z6,Z7,Z8,Z9,Z10,Zc,↓reduceIte,reduceCtorEq, hw3, hw4, hw5, ints_len, hbl, he]
    refine ⟨by omega, by omega, ?_⟩
    refine kI ⟨i + 1, by omega⟩ (by simp only; omega) ?_
    rw [hSt]; refine kH [] [.live 2] ?_
    simp only [aR,N0,N1,N2,N3,N4,N5,Z0,Z1,Z2,Z3,Z4,Z5,Z6,Z7,Z8,Z9,Z10,Zc,↓reduceIte,reduceCtorEq, ints_len, hbl] <;> ((repeat' apply And.intro) <;> first | rfl | omega | trivial)
  · have hin : i = n := by omega
    simp only [aR,N0,N1,N2,N3,N4,N5,Z0,Z1,Z2,Z3,Z4,Z5,Z6,Z7,Z8,Z9,Z10,Zc,↓reduceIte,reduceCtorEq, h, kBL, hin, blkI_all]
theorem call_block {Γ : Env} (hf : Γ.get 19 = some kDQ) {σ : AS} {dr : Bool} {n k : Int} {d : Option Nat} {K : AS → Prop} (h1 : 0 ≤ n ∧ n ≤ 1099511627776) (h2 : 0 ≤ k ∧ k ≤ 1000)
    (hk : cont σ d (.v (sv (blk k n.toNat))) K) : kP Tryz.prog Γ dr σ 19 [.v (.int .i64 n), .v (.int .i64 k)] d K :=
  kK (C := kDQ) (i := (⟨n.toNat, by omega⟩, ⟨k, h2⟩)) hf rfl rfl rfl (by
    show [AV.v (.int .i64 n), AV.v (.int .i64 k)] = [AV.v (.int .i64 (n.toNat : Int)), AV.v (.int .i64 k)]
    rw [show (n.toNat : Int) = n by omega]) (fun _ h => h) rfl hk
theorem blk_len (k : Int) (n : Nat) : (blk k n).length = n := by simp [blk]
end Go.Proofs
end
