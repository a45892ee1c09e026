/-
  num.Fits and num.Put, and the reference, meet their contracts.
-/
import Derived.Test.YtcdmabenopjbhaaRwE
import Derived.Test.YtcdmabenopjbhaaXRwRev1
import Derived.Test.YtcdmabenopjbhaaRwF
import Derived.Test.YtcdmabenopjbhaaProg
import Derived.KernelRfl
set_option linter.unusedSimpArgs false
set_option linter.unusedVariables false
set_option linter.defProp false

-- RwT1
section
namespace Go.Proofs
open Go Go.Rw
set_option maxRecDepth 100000
set_option linter.unusedSimpArgs false
set_option linter.unusedVariables false

theorem tiRules : (tiOf Try.prog 0 = some { size := 1, bytes := 0, zero := some (Value.tuple #[]), kind := TK.other, hints := [0] }) ∧
    (tiOf Try.prog 1 = some { size := 1, bytes := 8, zero := some Value.nilFunc, kind := TK.other, hints := [0] }) ∧
    (tiOf Try.prog 2 = some { size := 1, bytes := 8, zero := some (Value.int IntKind.i64 0), kind := TK.int IntKind.i64, hints := [0] }) ∧
    (tiOf Try.prog 3 = some { size := 1, bytes := 8, zero := some (Value.int IntKind.i64 0), kind := TK.int IntKind.i64, hints := [0] }) ∧
    (tiOf Try.prog 4 = some { size := 1, bytes := 1, zero := some (Value.bool false), kind := TK.other, hints := [0] }) ∧
    (tiOf Try.prog 5 = some { size := 1, bytes := 1, zero := some (Value.int IntKind.u8 0), kind := TK.int IntKind.u8, hints := [0] }) ∧
    (tiOf Try.prog 6 = some { size := 1, bytes := 1, zero := some (Value.int IntKind.u8 0), kind := TK.int IntKind.u8, hints := [0] }) ∧
    (tiOf Try.prog 7 = some { size := 4, bytes := 24, zero := some (Value.agg #[Value.int IntKind.i64 0, Value.int IntKind.i64 0, Value.bool false, Value.int IntKind.u8 0]), kind := TK.st [(0, 1), (1, 1), (2, 1), (3, 1)], hints := [0, 0, 0, 0] }) ∧
    (tiOf Try.prog 8 = some { size := 4, bytes := 24, zero := some (Value.agg #[Value.int IntKind.i64 0, Value.int IntKind.i64 0, Value.bool false, Value.int IntKind.u8 0]), kind := TK.st [(0, 1), (1, 1), (2, 1), (3, 1)], hints := [0, 0, 0, 0] }) ∧
    (tiOf Try.prog 9 = some { size := 1, bytes := 16, zero := some (Value.string { data := #[] }), kind := TK.str, hints := [0] }) ∧
    (tiOf Try.prog 10 = some { size := 1, bytes := 16, zero := some (Value.string { data := #[] }), kind := TK.str, hints := [0] }) ∧
    (tiOf Try.prog 11 = some { size := 1, bytes := 16, zero := some (Value.string { data := #[] }), kind := TK.str, hints := [0] }) ∧
    (tiOf Try.prog 12 = some { size := 1, bytes := 8, zero := some (Value.int IntKind.u64 0), kind := TK.int IntKind.u64, hints := [0] }) ∧
    (tiOf Try.prog 13 = some { size := 2, bytes := 24, zero := some (Value.agg #[Value.string { data := #[] }, Value.int IntKind.u64 0]), kind := TK.st [(0, 1), (1, 1)], hints := [0, 0] }) ∧
    (tiOf Try.prog 14 = some { size := 2, bytes := 24, zero := some (Value.agg #[Value.string { data := #[] }, Value.int IntKind.u64 0]), kind := TK.st [(0, 1), (1, 1)], hints := [0, 0] }) ∧
    (tiOf Try.prog 15 = some { size := 1, bytes := 8, zero := some (Value.pointer none), kind := TK.other, hints := [0] }) ∧
    (tiOf Try.prog 16 = some { size := 1, bytes := 8, zero := some (Value.pointer none), kind := TK.other, hints := [0] }) ∧
    (tiOf Try.prog 17 = some { size := 1, bytes := 8, zero := some (Value.pointer none), kind := TK.other, hints := [0] }) ∧
    (tiOf Try.prog 18 = some { size := 1, bytes := 8, zero := some (Value.agg #[Value.pointer none]), kind := TK.st [(0, 1)], hints := [0] }) ∧
    (tiOf Try.prog 19 = some { size := 1, bytes := 8, zero := some (Value.agg #[Value.pointer none]), kind := TK.st [(0, 1)], hints := [0] }) ∧
    (tiOf Try.prog 20 = some { size := 1, bytes := 16, zero := some Value.nilIface, kind := TK.other, hints := [0] }) ∧
    (tiOf Try.prog 21 = some { size := 1, bytes := 4, zero := some (Value.int IntKind.i32 0), kind := TK.int IntKind.i32, hints := [0] }) ∧
    (tiOf Try.prog 22 = some { size := 1, bytes := 24, zero := some (Value.slice none 0 0), kind := TK.slc 5, hints := [1] }) ∧
    (tiOf Try.prog 23 = some { size := 1, bytes := 8, zero := some Value.nilFunc, kind := TK.other, hints := [0] }) ∧
    (tiOf Try.prog 24 = some { size := 1, bytes := 8, zero := some (Value.int IntKind.i64 0), kind := TK.int IntKind.i64, hints := [0] }) ∧
    (tiOf Try.prog 25 = some { size := 1, bytes := 0, zero := some (Value.tuple #[Value.int IntKind.i64 0, Value.int IntKind.i64 0, Value.int IntKind.i64 0]), kind := TK.other, hints := [0] }) ∧
    (tiOf Try.prog 26 = some { size := 1, bytes := 8, zero := some Value.nilFunc, kind := TK.other, hints := [0] }) ∧
    (tiOf Try.prog 27 = some { size := 1, bytes := 0, zero := some (Value.tuple #[Value.int IntKind.i64 0, Value.int IntKind.i64 0]), kind := TK.other, hints := [0] }) ∧
    (tiOf Try.prog 28 = some { size := 1, bytes := 8, zero := some Value.nilFunc, kind := TK.other, hints := [0] }) ∧
    (tiOf Try.prog 29 = some { size := 1, bytes := 8, zero := some Value.nilFunc, kind := TK.other, hints := [0] }) ∧
    (tiOf Try.prog 30 = some { size := 1, bytes := 8, zero := some Value.nilFunc, kind := TK.other, hints := [0] }) ∧
    (tiOf Try.prog 31 = some { size := 1, bytes := 8, zero := some Value.nilFunc, kind := TK.other, hints := [0] }) ∧
    (tiOf Try.prog 32 = some { size := 1, bytes := 8, zero := some Value.nilFunc, kind := TK.other, hints := [0] }) ∧
    (tiOf Try.prog 33 = some { size := 1, bytes := 8, zero := some Value.nilFunc, kind := TK.other, hints := [0] }) ∧
    (tiOf Try.prog 34 = some { size := 1, bytes := 8, zero := some (Value.int IntKind.u64 0), kind := TK.int IntKind.u64, hints := [0] }) ∧
    (tiOf Try.prog 35 = some { size := 1, bytes := 8, zero := some Value.nilFunc, kind := TK.other, hints := [0] }) ∧
    (tiOf Try.prog 36 = some { size := 1, bytes := 8, zero := some Value.nilFunc, kind := TK.other, hints := [0] }) ∧
    (tiOf Try.prog 37 = some { size := 4, bytes := 40, zero := some (Value.agg #[Value.pointer none, Value.pointer none, Value.pointer none, Value.string { data := #[] }]), kind := TK.st [(0, 1), (1, 1), (2, 1), (3, 1)], hints := [0, 0, 0, 0] }) ∧
    (tiOf Try.prog 38 = some { size := 4, bytes := 40, zero := some (Value.agg #[Value.pointer none, Value.pointer none, Value.pointer none, Value.string { data := #[] }]), kind := TK.st [(0, 1), (1, 1), (2, 1), (3, 1)], hints := [0, 0, 0, 0] }) ∧
    (tiOf Try.prog 39 = some { size := 0, bytes := 0, zero := some (Value.agg #[]), kind := TK.arr 0 16, hints := [] }) ∧
    (tiOf Try.prog 40 = some { size := 0, bytes := 0, zero := some (Value.agg #[]), kind := TK.st [(0, 0)], hints := [] }) ∧
    (tiOf Try.prog 41 = some { size := 0, bytes := 0, zero := some (Value.agg #[]), kind := TK.st [(0, 0)], hints := [] }) ∧
    (tiOf Try.prog 42 = some { size := 1, bytes := 8, zero := some Value.nilFunc, kind := TK.other, hints := [0] }) ∧
    (tiOf Try.prog 43 = some { size := 1, bytes := 4, zero := some (Value.int IntKind.u32 0), kind := TK.int IntKind.u32, hints := [0] }) ∧
    (tiOf Try.prog 44 = some { size := 1, bytes := 1, zero := some (Value.int IntKind.u8 0), kind := TK.int IntKind.u8, hints := [0] }) ∧
    (tiOf Try.prog 45 = some { size := 1, bytes := 1, zero := some (Value.int IntKind.u8 0), kind := TK.int IntKind.u8, hints := [0] }) ∧
    (tiOf Try.prog 46 = some { size := 1, bytes := 8, zero := some Value.nilFunc, kind := TK.other, hints := [0] }) ∧
    (tiOf Try.prog 47 = some { size := 1, bytes := 8, zero := some (Value.pointer none), kind := TK.other, hints := [0] }) ∧
    (tiOf Try.prog 48 = some { size := 1, bytes := 4, zero := some (Value.int IntKind.i32 0), kind := TK.int IntKind.i32, hints := [0] }) ∧
    (tiOf Try.prog 49 = some { size := 1, bytes := 4, zero := some (Value.int IntKind.i32 0), kind := TK.int IntKind.i32, hints := [0] }) :=
  ⟨by kernel_rfl, by kernel_rfl, by kernel_rfl, by kernel_rfl, by kernel_rfl, by kernel_rfl, by kernel_rfl, by kernel_rfl, by kernel_rfl, by kernel_rfl, by kernel_rfl, by kernel_rfl, by kernel_rfl, by kernel_rfl, by kernel_rfl, by kernel_rfl, by kernel_rfl, by kernel_rfl, by kernel_rfl, by kernel_rfl, by kernel_rfl, by kernel_rfl, by kernel_rfl, by kernel_rfl, by kernel_rfl, by kernel_rfl, by kernel_rfl, by kernel_rfl, by kernel_rfl, by kernel_rfl, by kernel_rfl, by kernel_rfl, by kernel_rfl, by kernel_rfl, by kernel_rfl, by kernel_rfl, by kernel_rfl, by kernel_rfl, by kernel_rfl, by kernel_rfl, by kernel_rfl, by kernel_rfl, by kernel_rfl, by kernel_rfl, by kernel_rfl, by kernel_rfl, by kernel_rfl, by kernel_rfl, by kernel_rfl, by kernel_rfl⟩
theorem unRules : (Program.underlying Try.prog 2 = some (TypeDesc.int IntKind.i64)) ∧
    (Program.underlying Try.prog 3 = some (TypeDesc.int IntKind.i64)) ∧
    (Program.underlying Try.prog 4 = some TypeDesc.bool) ∧
    (Program.underlying Try.prog 5 = some (TypeDesc.int IntKind.u8)) ∧
    (Program.underlying Try.prog 6 = some (TypeDesc.int IntKind.u8)) ∧
    (Program.underlying Try.prog 9 = some TypeDesc.string) ∧
    (Program.underlying Try.prog 10 = some TypeDesc.string) ∧
    (Program.underlying Try.prog 11 = some TypeDesc.string) ∧
    (Program.underlying Try.prog 12 = some (TypeDesc.int IntKind.u64)) ∧
    (Program.underlying Try.prog 21 = some (TypeDesc.int IntKind.i32)) ∧
    (Program.underlying Try.prog 22 = some (TypeDesc.slice 5)) ∧
    (Program.underlying Try.prog 24 = some (TypeDesc.int IntKind.i64)) ∧
    (Program.underlying Try.prog 34 = some (TypeDesc.int IntKind.u64)) ∧
    (Program.underlying Try.prog 39 = some (TypeDesc.array 0 16)) ∧
    (Program.underlying Try.prog 43 = some (TypeDesc.int IntKind.u32)) ∧
    (Program.underlying Try.prog 44 = some (TypeDesc.int IntKind.u8)) ∧
    (Program.underlying Try.prog 45 = some (TypeDesc.int IntKind.u8)) ∧
    (Program.underlying Try.prog 48 = some (TypeDesc.int IntKind.i32)) ∧
    (Program.underlying Try.prog 49 = some (TypeDesc.int IntKind.i32)) :=
  ⟨by kernel_rfl, by kernel_rfl, by kernel_rfl, by kernel_rfl, by kernel_rfl, by kernel_rfl, by kernel_rfl, by kernel_rfl, by kernel_rfl, by kernel_rfl, by kernel_rfl, by kernel_rfl, by kernel_rfl, by kernel_rfl, by kernel_rfl, by kernel_rfl, by kernel_rfl, by kernel_rfl, by kernel_rfl⟩


abbrev fitsCon : Con where
  ι := Int
  args := fun n => [.v (.int .i64 n)]
  post := fun n r => r = .v (.bool (decide (0 ≤ n ∧ n ≤ 1099511627776)))
  plain := true

theorem fits_good : Rw.Good Try.prog 12 fitsCon := by
  refine good_go (Γ := []) (nn := 9) goodEnv_nil Try.func12 (by kernel_rfl) rfl rfl rfl (fun _ => rfl) (fun _ => rfl) fun (n : Int) => ?_
  simp only [goRules, coreRules, ← decide_not, Nat.reduceAdd, Nat.reduceSub, Nat.reduceMul, Nat.reduceLT, Nat.reduceLeDiff, Nat.reduceEqDiff, Int.reduceNeg, Int.reduceLT, Int.reduceLE, Int.reduceEq, Int.reduceNe, Int.cast_ofNat_Int, Int.reduceToNat, ↓reduceIte, reduceCtorEq, show fitsCon.args n = [.v (.int .i64 n)] from rfl, AS_of_eq, show Try.f12.results.toList = [.tmp 2] from rfl]
  refine guardB_dec (fun h => ?_) (fun h => ?_)
  · simp only [goRules, coreRules, ← decide_not, Nat.reduceAdd, Nat.reduceSub, Nat.reduceMul, Nat.reduceLT, Nat.reduceLeDiff, Nat.reduceEqDiff, Int.reduceNeg, Int.reduceLT, Int.reduceLE, Int.reduceEq, Int.reduceNe, Int.cast_ofNat_Int, Int.reduceToNat, ↓reduceIte, reduceCtorEq, h]
    refine ⟨?_, fun _ => rfl⟩
    show AV.v (.bool _) = AV.v (.bool _)
    simp [h]
  · simp only [goRules, coreRules, ← decide_not, Nat.reduceAdd, Nat.reduceSub, Nat.reduceMul, Nat.reduceLT, Nat.reduceLeDiff, Nat.reduceEqDiff, Int.reduceNeg, Int.reduceLT, Int.reduceLE, Int.reduceEq, Int.reduceNe, Int.cast_ofNat_Int, Int.reduceToNat, ↓reduceIte, reduceCtorEq, h]
    refine ⟨?_, fun _ => rfl⟩
    show AV.v (.bool _) = AV.v (.bool _)
    simp; omega

theorem rfits_good : Rw.Good Try.prog 13 fitsCon := by
  refine good_go (Γ := []) (nn := 9) goodEnv_nil Try.func13 (by kernel_rfl) rfl rfl rfl (fun _ => rfl) (fun _ => rfl) fun (n : Int) => ?_
  simp only [goRules, coreRules, ← decide_not, Nat.reduceAdd, Nat.reduceSub, Nat.reduceMul, Nat.reduceLT, Nat.reduceLeDiff, Nat.reduceEqDiff, Int.reduceNeg, Int.reduceLT, Int.reduceLE, Int.reduceEq, Int.reduceNe, Int.cast_ofNat_Int, Int.reduceToNat, ↓reduceIte, reduceCtorEq, show fitsCon.args n = [.v (.int .i64 n)] from rfl, AS_of_eq, show Try.f13.results.toList = [.tmp 2] from rfl]
  refine guardB_dec (fun h => ?_) (fun h => ?_)
  · simp only [goRules, coreRules, ← decide_not, Nat.reduceAdd, Nat.reduceSub, Nat.reduceMul, Nat.reduceLT, Nat.reduceLeDiff, Nat.reduceEqDiff, Int.reduceNeg, Int.reduceLT, Int.reduceLE, Int.reduceEq, Int.reduceNe, Int.cast_ofNat_Int, Int.reduceToNat, ↓reduceIte, reduceCtorEq, h]
    refine ⟨?_, fun _ => rfl⟩
    show AV.v (.bool _) = AV.v (.bool _)
    simp [h]
  · simp only [goRules, coreRules, ← decide_not, Nat.reduceAdd, Nat.reduceSub, Nat.reduceMul, Nat.reduceLT, Nat.reduceLeDiff, Nat.reduceEqDiff, Int.reduceNeg, Int.reduceLT, Int.reduceLE, Int.reduceEq, Int.reduceNe, Int.cast_ofNat_Int, Int.reduceToNat, ↓reduceIte, reduceCtorEq, h]
    refine ⟨?_, fun _ => rfl⟩
    show AV.v (.bool _) = AV.v (.bool _)
    simp; omega

theorem call_fits {Γ : Env} {f : FuncId} (hf : Γ.get f = some fitsCon) {σ : AS} {dr : Bool} {n : Int} {d : Option Nat} {K : AS → Prop}
    (hk : cont σ d (.v (.bool (decide (0 ≤ n ∧ n ≤ 1099511627776)))) K) : vcCall Try.prog Γ dr σ f [.v (.int .i64 n)] d K :=
  vcCall_plain (i := n) hf rfl rfl rfl rfl (fun _ h => h) rfl hk

/-- The groups ahead of the last, the highest first. -/
def tail (n : Nat) : List Int := if h : n = 0 then [] else tail (n / 128) ++ [((128 + n % 128 : Nat) : Int)]
def putL (n : Int) : List Int := if 0 ≤ n ∧ n ≤ 1099511627776 then tail (n.toNat / 128) ++ [n % 128] else []

abbrev putCon : Con where
  ι := Int
  args := fun n => [.v (.int .i64 n)]
  post := fun n r => r = .sl 0 1 (ints .u8 (putL n))

def rEnv : Env := [(13, fitsCon)]
theorem rputs_good : Rw.Good Try.prog 10 putCon := by
  have hΓ : GoodEnv Try.prog [(13, fitsCon)] := goodEnv_cons rfits_good goodEnv_nil
  refine good_go (nn := 25) hΓ Try.func10 (by kernel_rfl) rfl rfl rfl (fun _ => rfl) (fun _ => rfl) fun (n : Int) => ?_
  simp only [goRules, coreRules, ← decide_not, Nat.reduceAdd, Nat.reduceSub, Nat.reduceMul, Nat.reduceLT, Nat.reduceLeDiff, Nat.reduceEqDiff, Int.reduceNeg, Int.reduceLT, Int.reduceLE, Int.reduceEq, Int.reduceNe, Int.cast_ofNat_Int, Int.reduceToNat, ↓reduceIte, reduceCtorEq, show putCon.args n = [.v (.int .i64 n)] from rfl, AS_of_eq, show Try.f10.results.toList = [.tmp 2] from rfl, tiRules, unRules]
  refine call_fits (by simp [get_cons]) ?_
  simp only [goRules, coreRules, ← decide_not, Nat.reduceAdd, Nat.reduceSub, Nat.reduceMul, Nat.reduceLT, Nat.reduceLeDiff, Nat.reduceEqDiff, Int.reduceNeg, Int.reduceLT, Int.reduceLE, Int.reduceEq, Int.reduceNe, Int.cast_ofNat_Int, Int.reduceToNat, ↓reduceIte, reduceCtorEq]
  refine branchP_dec (fun h => ?_) (fun h => ?_)
  · simp only [goRules, coreRules, ← decide_not, Nat.reduceAdd, Nat.reduceSub, Nat.reduceMul, Nat.reduceLT, Nat.reduceLeDiff, Nat.reduceEqDiff, Int.reduceNeg, Int.reduceLT, Int.reduceLE, Int.reduceEq, Int.reduceNe, Int.cast_ofNat_Int, Int.reduceToNat, ↓reduceIte, reduceCtorEq, tiRules]
    refine ⟨?_, fun h => by cases h⟩
    show AV.sl _ _ _ = AV.sl _ _ _
    rw [putL, if_neg h]; rfl
  have h : 0 ≤ n ∧ n ≤ 1099511627776 := Decidable.not_not.1 h
  simp (disch := omega) only [goRules, coreRules, ← decide_not, Nat.reduceAdd, Nat.reduceSub, Nat.reduceMul, Nat.reduceLT, Nat.reduceLeDiff, Nat.reduceEqDiff, Int.reduceNeg, Int.reduceLT, Int.reduceLE, Int.reduceEq, Int.reduceNe, Int.cast_ofNat_Int, Int.reduceToNat, ↓reduceIte, reduceCtorEq, tiRules, unRules, and127, wrap_u8, shr7]
  obtain ⟨St, hSt⟩ : ∃ St : { p : Nat × List Int // p.1 + p.2.length ≤ 1099511627778 ∧ tail p.1 ++ p.2 = putL n } → AS, ∀ p, St p = AS.of 25 [(0, .v (.int .i64 p.1.1)), (3, .sl 0 1 (ints .u8 p.1.2))] [] [] := ⟨_, fun _ => rfl⟩
  refine vc_loop hΓ St (fun p => p.1.1) ⟨((n / 128).toNat, [n % 128]), by simp; omega, ?_⟩ (by rw [hSt]; refine weak_go [] [] ?_; simp only [goRules, coreRules, ← decide_not, Nat.reduceAdd, Nat.reduceSub, Nat.reduceMul, Nat.reduceLT, Nat.reduceLeDiff, Nat.reduceEqDiff, Int.reduceNeg, Int.reduceLT, Int.reduceLE, Int.reduceEq, Int.reduceNe, Int.cast_ofNat_Int, Int.reduceToNat, ↓reduceIte, reduceCtorEq]; exact ⟨by omega, rfl⟩) ?_
  · rw [putL, if_pos h]
    have : (n / 128).toNat = n.toNat / 128 := by omega
    simp [this]
  · rintro ⟨⟨x, l⟩, hx, hl⟩
    rw [hSt]
    simp only at hx hl
    simp (disch := omega) only [goRules, coreRules, ← decide_not, Nat.reduceAdd, Nat.reduceSub, Nat.reduceMul, Nat.reduceLT, Nat.reduceLeDiff, Nat.reduceEqDiff, Int.reduceNeg, Int.reduceLT, Int.reduceLE, Int.reduceEq, Int.reduceNe, Int.cast_ofNat_Int, Int.reduceToNat, ↓reduceIte, reduceCtorEq, tiRules, AS_of_eq]
    refine branchP_dec (fun h1 => ?_) (fun h1 => ?_)
    · simp (disch := omega) only [goRules, coreRules, ← decide_not, Nat.reduceAdd, Nat.reduceSub, Nat.reduceMul, Nat.reduceLT, Nat.reduceLeDiff, Nat.reduceEqDiff, Int.reduceNeg, Int.reduceLT, Int.reduceLE, Int.reduceEq, Int.reduceNe, Int.cast_ofNat_Int, Int.reduceToNat, ↓reduceIte, reduceCtorEq, tiRules, unRules, and127, wrap_u8, shr7, or128, ints_len]
      refine ⟨by omega, by omega, weak_again ⟨(x / 128, (128 + x % 128 : Nat) :: l), ?_⟩ ?_ ?_⟩
      · refine ⟨by simp only [List.length_cons]; omega, ?_⟩
        rw [← hl]; simp only
        conv => rhs; rw [tail]
        rw [dif_neg (by omega)]; simp
      · simp only; omega
      · rw [hSt]; refine weak_go [] [] ?_
        simp only [goRules, coreRules, ← decide_not, Nat.reduceAdd, Nat.reduceSub, Nat.reduceMul, Nat.reduceLT, Nat.reduceLeDiff, Nat.reduceEqDiff, Int.reduceNeg, Int.reduceLT, Int.reduceLE, Int.reduceEq, Int.reduceNe, Int.cast_ofNat_Int, Int.reduceToNat, ↓reduceIte, reduceCtorEq]
        refine ⟨by omega, ?_⟩
        simp only [ints, List.map_cons, List.cons.injEq, and_true]
        congr 2; omega
    · simp (disch := omega) only [goRules, coreRules, ← decide_not, Nat.reduceAdd, Nat.reduceSub, Nat.reduceMul, Nat.reduceLT, Nat.reduceLeDiff, Nat.reduceEqDiff, Int.reduceNeg, Int.reduceLT, Int.reduceLE, Int.reduceEq, Int.reduceNe, Int.cast_ofNat_Int, Int.reduceToNat, ↓reduceIte, reduceCtorEq, tiRules]
      have hx0 : x = 0 := by omega
      subst hx0
      refine ⟨?_, fun h => by cases h⟩
      show AV.sl _ _ _ = AV.sl _ _ _
      rw [← hl, tail]; simp

theorem rev_mut : MutI Try.prog 14 5 .u8 List.reverse :=
  mutI_of_rows ⟨_, Try.func14, by kernel_rfl, rfl⟩ (fun l => List.length_reverse) (fun blk off cap d w h hs => by rw [show d.toList.reverse.toArray = d.reverse from Array.ext' (by simp)]; exact reverse_arr blk off cap d w h hs) reverse_empty

theorem put_good : Rw.Good Try.prog 9 putCon := by
  have hΓ : GoodEnv Try.prog [(12, fitsCon)] := goodEnv_cons fits_good goodEnv_nil
  refine good_go (nn := 24) hΓ Try.func9 (by kernel_rfl) rfl rfl rfl (fun _ => rfl) (fun _ => rfl) fun (n : Int) => ?_
  simp only [goRules, coreRules, ← decide_not, Nat.reduceAdd, Nat.reduceSub, Nat.reduceMul, Nat.reduceLT, Nat.reduceLeDiff, Nat.reduceEqDiff, Int.reduceNeg, Int.reduceLT, Int.reduceLE, Int.reduceEq, Int.reduceNe, Int.cast_ofNat_Int, Int.reduceToNat, ↓reduceIte, reduceCtorEq, show putCon.args n = [.v (.int .i64 n)] from rfl, show Try.f9.results.toList = [.tmp 2] from rfl, tiRules, unRules, AS_of_eq]
  obtain ⟨St, hSt⟩ : ∃ St : { p : Nat × List Int // p.1 + p.2.length ≤ 1099511627778 ∧ p.2 ≠ [] ∧ 0 ≤ n ∧ p.2 ++ (tail (p.1 / 128)).reverse = (putL n).reverse } → AS, ∀ p, St p = AS.of 24 [(0, .v (.int .i64 p.1.1)), (2, .sl 2 1 (ints .u8 p.1.2))] [] [(p.1.2.length, 5)] := ⟨_, fun _ => rfl⟩
  refine vc_label_loop hΓ (l := 0) St (fun p => p.1.1) rfl (fun _ _ h => awp_skip h) ?_ ?_
  · rintro ⟨⟨x, l⟩, hx, hne, hn, hl⟩
    rw [hSt]
    simp only at hx hl hne
    simp (disch := omega) only [goRules, coreRules, ← decide_not, Nat.reduceAdd, Nat.reduceSub, Nat.reduceMul, Nat.reduceLT, Nat.reduceLeDiff, Nat.reduceEqDiff, Int.reduceNeg, Int.reduceLT, Int.reduceLE, Int.reduceEq, Int.reduceNe, Int.cast_ofNat_Int, Int.reduceToNat, ↓reduceIte, reduceCtorEq, tiRules, AS_of_eq, wrap_i64, tdiv_nn]
    refine branchP_dec (fun h1 => ?_) (fun h1 => ?_)
    · simp (disch := omega) only [goRules, coreRules, ← decide_not, Nat.reduceAdd, Nat.reduceSub, Nat.reduceMul, Nat.reduceLT, Nat.reduceLeDiff, Nat.reduceEqDiff, Int.reduceNeg, Int.reduceLT, Int.reduceLE, Int.reduceEq, Int.reduceNe, Int.cast_ofNat_Int, Int.reduceToNat, ↓reduceIte, reduceCtorEq, tiRules, unRules, tmod_nn, wrap_i64, wrap_u8, ints_len]
      refine ⟨by omega, by omega, weak_again ⟨(x / 128, l ++ [((x / 128 % 128 + 128 : Nat) : Int)]), ?_⟩ ?_ ?_⟩
      · refine ⟨by simp only [List.length_append, List.length_cons, List.length_nil]; omega, by simp, hn, ?_⟩
        rw [← hl]
        simp only
        conv => rhs; rw [tail]
        rw [dif_neg (by omega)]; simp; omega
      · simp only; omega
      · rw [hSt]; refine weak_go [] [.live 2] ?_
        simp only [goRules, coreRules, ← decide_not, Nat.reduceAdd, Nat.reduceSub, Nat.reduceMul, Nat.reduceLT, Nat.reduceLeDiff, Nat.reduceEqDiff, Int.reduceNeg, Int.reduceLT, Int.reduceLE, Int.reduceEq, Int.reduceNe, Int.cast_ofNat_Int, Int.reduceToNat, ↓reduceIte, reduceCtorEq]
        refine ⟨by simp, by omega, ?_⟩
        simp only [ints, List.map_append, List.map_cons, List.map_nil]
        congr 4
    · simp (disch := omega) only [goRules, coreRules, ← decide_not, Nat.reduceAdd, Nat.reduceSub, Nat.reduceMul, Nat.reduceLT, Nat.reduceLeDiff, Nat.reduceEqDiff, Int.reduceNeg, Int.reduceLT, Int.reduceLE, Int.reduceEq, Int.reduceNe, Int.cast_ofNat_Int, Int.reduceToNat, ↓reduceIte, reduceCtorEq, tiRules, ints_len]
      refine vcCall_mut (xs := l) (by simp [get_cons]; rfl) rev_mut rfl (by omega) rfl rfl hne ?_
      simp (disch := omega) only [goRules, coreRules, ← decide_not, Nat.reduceAdd, Nat.reduceSub, Nat.reduceMul, Nat.reduceLT, Nat.reduceLeDiff, Nat.reduceEqDiff, Int.reduceNeg, Int.reduceLT, Int.reduceLE, Int.reduceEq, Int.reduceNe, Int.cast_ofNat_Int, Int.reduceToNat, ↓reduceIte, reduceCtorEq, tiRules, ints_len]
      refine ⟨?_, fun h => by cases h⟩
      show AV.sl _ _ _ = AV.sl _ _ _
      have h2 : x / 128 = 0 := by omega
      rw [h2, tail] at hl
      rw [← List.reverse_reverse (putL n), ← hl]; simp
  · intro hs
    refine awp_cut hΓ ?_
    simp only [goRules, coreRules, ← decide_not, Nat.reduceAdd, Nat.reduceSub, Nat.reduceMul, Nat.reduceLT, Nat.reduceLeDiff, Nat.reduceEqDiff, Int.reduceNeg, Int.reduceLT, Int.reduceLE, Int.reduceEq, Int.reduceNe, Int.cast_ofNat_Int, Int.reduceToNat, ↓reduceIte, reduceCtorEq, tiRules]
    refine call_fits (by simp [get_cons]) ?_
    simp only [goRules, coreRules, ← decide_not, Nat.reduceAdd, Nat.reduceSub, Nat.reduceMul, Nat.reduceLT, Nat.reduceLeDiff, Nat.reduceEqDiff, Int.reduceNeg, Int.reduceLT, Int.reduceLE, Int.reduceEq, Int.reduceNe, Int.cast_ofNat_Int, Int.reduceToNat, ↓reduceIte, reduceCtorEq]
    refine branchP_dec (fun h => ?_) (fun h => ?_)
    · simp only [goRules, coreRules, ← decide_not, Nat.reduceAdd, Nat.reduceSub, Nat.reduceMul, Nat.reduceLT, Nat.reduceLeDiff, Nat.reduceEqDiff, Int.reduceNeg, Int.reduceLT, Int.reduceLE, Int.reduceEq, Int.reduceNe, Int.cast_ofNat_Int, Int.reduceToNat, ↓reduceIte, reduceCtorEq, tiRules]
      refine ⟨?_, fun h => by cases h⟩
      show AV.sl _ _ _ = AV.sl _ _ _
      rw [putL, if_neg h]; rfl
    · have h : 0 ≤ n ∧ n ≤ 1099511627776 := Decidable.not_not.1 h
      simp only [goRules, coreRules, ← decide_not, Nat.reduceAdd, Nat.reduceSub, Nat.reduceMul, Nat.reduceLT, Nat.reduceLeDiff, Nat.reduceEqDiff, Int.reduceNeg, Int.reduceLT, Int.reduceLE, Int.reduceEq, Int.reduceNe, Int.cast_ofNat_Int, Int.reduceToNat, ↓reduceIte, reduceCtorEq, tiRules]
      refine awp_cut hΓ ?_
      simp (disch := omega) only [goRules, coreRules, ← decide_not, Nat.reduceAdd, Nat.reduceSub, Nat.reduceMul, Nat.reduceLT, Nat.reduceLeDiff, Nat.reduceEqDiff, Int.reduceNeg, Int.reduceLT, Int.reduceLE, Int.reduceEq, Int.reduceNe, Int.cast_ofNat_Int, Int.reduceToNat, ↓reduceIte, reduceCtorEq, tiRules, unRules, tmod_nn, wrap_i64, wrap_u8]
      refine awp_label (hs _ ⟨(n.toNat, [n % 128]), ?_⟩ ?_)
      · refine ⟨by simp; omega, by simp, h.1, ?_⟩
        simp [putL, h]
      · rw [hSt]; refine weak_go [] [.live 2] ?_
        simp only [goRules, coreRules, ← decide_not, Nat.reduceAdd, Nat.reduceSub, Nat.reduceMul, Nat.reduceLT, Nat.reduceLeDiff, Nat.reduceEqDiff, Int.reduceNeg, Int.reduceLT, Int.reduceLE, Int.reduceEq, Int.reduceNe, Int.cast_ofNat_Int, Int.reduceToNat, ↓reduceIte, reduceCtorEq]
        exact ⟨by omega, rfl⟩
end Go.Proofs
end
