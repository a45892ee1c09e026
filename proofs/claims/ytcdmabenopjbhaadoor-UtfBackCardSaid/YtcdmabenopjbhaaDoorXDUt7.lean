/-
  What the document fixes of texts.
-/
import Derived.Test.YtcdmabenopjbhaaDoorXDUt6
set_option linter.unusedSimpArgs false
set_option linter.unusedVariables false
set_option linter.defProp false

-- DUt7
section
namespace Go.Proofs
open Go Go.Rw
set_option maxRecDepth 100000
set_option linter.unusedSimpArgs false
set_option linter.unusedVariables false

abbrev vrCon : Con where
  ι := Int
  args := fun n => [.v (.int .i32 n)]
  post := fun n r => r = .v (.bool (decide ((0 ≤ n ∧ n < 55296) ∨ (57343 < n ∧ n ≤ 1114111))))
  plain := true
theorem vr_good : Rw.Good Tryd.prog 37 vrCon := by
  have hΓ : GoodEnv Tryd.prog [] := goodEnv_nil
  refine good_fn (nn := 17) hΓ Tryd.func37 (by kernel_rfl) rfl (show Tryd.f37.results.toList = [.tmp 2] from rfl) (fun _ => rfl) (fun _ => rfl) ?_
  intro (n : Int)
  simp only [goRules, coreRules, tiRules, unRules, AS_of_eq, ← decide_not, Nat.reduceAdd, Nat.reduceSub, Nat.reduceMul, Nat.reduceLT, Nat.reduceLeDiff, Nat.reduceEqDiff, Int.reduceNeg, Int.reduceAdd, Int.reduceSub, Int.reduceMul, Int.reduceGT, Int.reduceGE, Int.reduceLT, Int.reduceLE, Int.reduceEq, Int.reduceNe, Int.cast_ofNat_Int, Int.reduceToNat, ↓reduceIte, reduceCtorEq]
  (try ((with_reducible first | refine branchP_dec (fun q1 => ?_) (fun q1 => ?_) | refine guardB_dec (fun q1 => ?_) (fun q1 => ?_)) <;> simp (disch := omega) only [goRules, coreRules, tiRules, unRules, AS_of_eq, ← decide_not, Nat.reduceAdd, Nat.reduceSub, Nat.reduceMul, Nat.reduceLT, Nat.reduceLeDiff, Nat.reduceEqDiff, Int.reduceNeg, Int.reduceAdd, Int.reduceSub, Int.reduceMul, Int.reduceGT, Int.reduceGE, Int.reduceLT, Int.reduceLE, Int.reduceEq, Int.reduceNe, Int.cast_ofNat_Int, Int.reduceToNat, ↓reduceIte, reduceCtorEq, wrap_i64, q1] <;> (with_reducible first | (refine And.intro ?_ ?_; focus (first | omega | exact mixed1 | kernel_rfl)); (repeat (with_reducible refine And.intro ?_ ?_; focus (first | omega | exact mixed1 | kernel_rfl))); (try simp (disch := omega) only [goRules, coreRules, tiRules, unRules, AS_of_eq, ← decide_not, Nat.reduceAdd, Nat.reduceSub, Nat.reduceMul, Nat.reduceLT, Nat.reduceLeDiff, Nat.reduceEqDiff, Int.reduceNeg, Int.reduceAdd, Int.reduceSub, Int.reduceMul, Int.reduceGT, Int.reduceGE, Int.reduceLT, Int.reduceLE, Int.reduceEq, Int.reduceNe, Int.cast_ofNat_Int, Int.reduceToNat, ↓reduceIte, reduceCtorEq, wrap_i64, q1]) | skip) <;> (try ((with_reducible first | refine branchP_dec (fun q2 => ?_) (fun q2 => ?_) | refine guardB_dec (fun q2 => ?_) (fun q2 => ?_)) <;> simp (disch := omega) only [goRules, coreRules, tiRules, unRules, AS_of_eq, ← decide_not, Nat.reduceAdd, Nat.reduceSub, Nat.reduceMul, Nat.reduceLT, Nat.reduceLeDiff, Nat.reduceEqDiff, Int.reduceNeg, Int.reduceAdd, Int.reduceSub, Int.reduceMul, Int.reduceGT, Int.reduceGE, Int.reduceLT, Int.reduceLE, Int.reduceEq, Int.reduceNe, Int.cast_ofNat_Int, Int.reduceToNat, ↓reduceIte, reduceCtorEq, wrap_i64, q2] <;> (with_reducible first | (refine And.intro ?_ ?_; focus (first | omega | exact mixed1 | kernel_rfl)); (repeat (with_reducible refine And.intro ?_ ?_; focus (first | omega | exact mixed1 | kernel_rfl))); (try simp (disch := omega) only [goRules, coreRules, tiRules, unRules, AS_of_eq, ← decide_not, Nat.reduceAdd, Nat.reduceSub, Nat.reduceMul, Nat.reduceLT, Nat.reduceLeDiff, Nat.reduceEqDiff, Int.reduceNeg, Int.reduceAdd, Int.reduceSub, Int.reduceMul, Int.reduceGT, Int.reduceGE, Int.reduceLT, Int.reduceLE, Int.reduceEq, Int.reduceNe, Int.cast_ofNat_Int, Int.reduceToNat, ↓reduceIte, reduceCtorEq, wrap_i64, q2]) | skip) <;> (try ((with_reducible first | refine branchP_dec (fun q3 => ?_) (fun q3 => ?_) | refine guardB_dec (fun q3 => ?_) (fun q3 => ?_)) <;> simp (disch := omega) only [goRules, coreRules, tiRules, unRules, AS_of_eq, ← decide_not, Nat.reduceAdd, Nat.reduceSub, Nat.reduceMul, Nat.reduceLT, Nat.reduceLeDiff, Nat.reduceEqDiff, Int.reduceNeg, Int.reduceAdd, Int.reduceSub, Int.reduceMul, Int.reduceGT, Int.reduceGE, Int.reduceLT, Int.reduceLE, Int.reduceEq, Int.reduceNe, Int.cast_ofNat_Int, Int.reduceToNat, ↓reduceIte, reduceCtorEq, wrap_i64, q3] <;> (with_reducible first | (refine And.intro ?_ ?_; focus (first | omega | exact mixed1 | kernel_rfl)); (repeat (with_reducible refine And.intro ?_ ?_; focus (first | omega | exact mixed1 | kernel_rfl))); (try simp (disch := omega) only [goRules, coreRules, tiRules, unRules, AS_of_eq, ← decide_not, Nat.reduceAdd, Nat.reduceSub, Nat.reduceMul, Nat.reduceLT, Nat.reduceLeDiff, Nat.reduceEqDiff, Int.reduceNeg, Int.reduceAdd, Int.reduceSub, Int.reduceMul, Int.reduceGT, Int.reduceGE, Int.reduceLT, Int.reduceLE, Int.reduceEq, Int.reduceNe, Int.cast_ofNat_Int, Int.reduceToNat, ↓reduceIte, reduceCtorEq, wrap_i64, q3]) | skip) <;> (try ((with_reducible first | refine branchP_dec (fun q4 => ?_) (fun q4 => ?_) | refine guardB_dec (fun q4 => ?_) (fun q4 => ?_)) <;> simp (disch := omega) only [goRules, coreRules, tiRules, unRules, AS_of_eq, ← decide_not, Nat.reduceAdd, Nat.reduceSub, Nat.reduceMul, Nat.reduceLT, Nat.reduceLeDiff, Nat.reduceEqDiff, Int.reduceNeg, Int.reduceAdd, Int.reduceSub, Int.reduceMul, Int.reduceGT, Int.reduceGE, Int.reduceLT, Int.reduceLE, Int.reduceEq, Int.reduceNe, Int.cast_ofNat_Int, Int.reduceToNat, ↓reduceIte, reduceCtorEq, wrap_i64, q4] <;> (with_reducible first | (refine And.intro ?_ ?_; focus (first | omega | exact mixed1 | kernel_rfl)); (repeat (with_reducible refine And.intro ?_ ?_; focus (first | omega | exact mixed1 | kernel_rfl))); (try simp (disch := omega) only [goRules, coreRules, tiRules, unRules, AS_of_eq, ← decide_not, Nat.reduceAdd, Nat.reduceSub, Nat.reduceMul, Nat.reduceLT, Nat.reduceLeDiff, Nat.reduceEqDiff, Int.reduceNeg, Int.reduceAdd, Int.reduceSub, Int.reduceMul, Int.reduceGT, Int.reduceGE, Int.reduceLT, Int.reduceLE, Int.reduceEq, Int.reduceNe, Int.cast_ofNat_Int, Int.reduceToNat, ↓reduceIte, reduceCtorEq, wrap_i64, q4]) | skip) <;> (try ((with_reducible first | refine branchP_dec (fun q5 => ?_) (fun q5 => ?_) | refine guardB_dec (fun q5 => ?_) (fun q5 => ?_)) <;> simp (disch := omega) only [goRules, coreRules, tiRules, unRules, AS_of_eq, ← decide_not, Nat.reduceAdd, Nat.reduceSub, Nat.reduceMul, Nat.reduceLT, Nat.reduceLeDiff, Nat.reduceEqDiff, Int.reduceNeg, Int.reduceAdd, Int.reduceSub, Int.reduceMul, Int.reduceGT, Int.reduceGE, Int.reduceLT, Int.reduceLE, Int.reduceEq, Int.reduceNe, Int.cast_ofNat_Int, Int.reduceToNat, ↓reduceIte, reduceCtorEq, wrap_i64, q5] <;> (with_reducible first | (refine And.intro ?_ ?_; focus (first | omega | exact mixed1 | kernel_rfl)); (repeat (with_reducible refine And.intro ?_ ?_; focus (first | omega | exact mixed1 | kernel_rfl))); (try simp (disch := omega) only [goRules, coreRules, tiRules, unRules, AS_of_eq, ← decide_not, Nat.reduceAdd, Nat.reduceSub, Nat.reduceMul, Nat.reduceLT, Nat.reduceLeDiff, Nat.reduceEqDiff, Int.reduceNeg, Int.reduceAdd, Int.reduceSub, Int.reduceMul, Int.reduceGT, Int.reduceGE, Int.reduceLT, Int.reduceLE, Int.reduceEq, Int.reduceNe, Int.cast_ofNat_Int, Int.reduceToNat, ↓reduceIte, reduceCtorEq, wrap_i64, q5]) | skip) <;> skip))))))))))
  all_goals first
    | (exfalso; omega)
    | (rw [decide_eq_true (by omega)])
    | (rw [decide_eq_false (by omega)])
    | trace_state
theorem call_vr {Γ : Env} (hf : Γ.get 37 = some vrCon) {σ : AS} {dr : Bool} {n : Int} {d : Option Nat} {K : AS → Prop}
    (hk : cont σ d (.v (.bool (decide ((0 ≤ n ∧ n < 55296) ∨ (57343 < n ∧ n ≤ 1114111))))) K) : vcCall Tryd.prog Γ dr σ 37 [.v (.int .i32 n)] d K :=
  vcCall_plain (C := vrCon) (i := n) hf rfl rfl rfl rfl (fun _ h => h) rfl hk

/-- A text of a half. -/
abbrev halfCon : Con where
  ι := Unit
  args := fun _ => [.sl 0 1 (ints .i64 [55296])]
  post := fun _ r => r = res2 (.v (sv [])) 2
  plain := true
theorem half_good : Rw.Good Tryd.prog 10 halfCon := by
  have hΓ : GoodEnv Tryd.prog [(37, vrCon)] := (goodEnv_cons vr_good goodEnv_nil)
  refine good_fn (nn := 30) hΓ Tryd.func10 (by kernel_rfl) rfl (show Tryd.f10.results.toList = [.tmp 2, .tmp 3] from rfl) (fun _ => rfl) (fun _ => rfl) ?_
  intro _
  simp only [goRules, coreRules, tiRules, unRules, AS_of_eq, ← decide_not, Nat.reduceAdd, Nat.reduceSub, Nat.reduceMul, Nat.reduceLT, Nat.reduceLeDiff, Nat.reduceEqDiff, Int.reduceNeg, Int.reduceAdd, Int.reduceSub, Int.reduceMul, Int.reduceGT, Int.reduceGE, Int.reduceLT, Int.reduceLE, Int.reduceEq, Int.reduceNe, Int.cast_ofNat_Int, Int.reduceToNat, ↓reduceIte, reduceCtorEq, ints, List.map_cons, List.map_nil]
  obtain ⟨St, hSt⟩ : ∃ St : Unit → AS, ∀ u, St u = AS.of 30 [(7, .sl 0 1 [.v (.int .i64 55296)]), (8, .v (.int .i64 1)), (9, .v (.int .i64 0))] [] [] := ⟨_, fun _ => rfl⟩
  refine vc_loop hΓ St (fun _ => 0) () (by rw [hSt]; refine weak_go [] [] ?_; simp only [goRules, coreRules, tiRules, unRules, AS_of_eq, ← decide_not, Nat.reduceAdd, Nat.reduceSub, Nat.reduceMul, Nat.reduceLT, Nat.reduceLeDiff, Nat.reduceEqDiff, Int.reduceNeg, Int.reduceAdd, Int.reduceSub, Int.reduceMul, Int.reduceGT, Int.reduceGE, Int.reduceLT, Int.reduceLE, Int.reduceEq, Int.reduceNe, Int.cast_ofNat_Int, Int.reduceToNat, ↓reduceIte, reduceCtorEq] <;> ((repeat' apply And.intro) <;> first | rfl | omega | trivial)) ?_
  intro _
  rw [hSt]
  simp (disch := omega) only [goRules, coreRules, tiRules, unRules, AS_of_eq, ← decide_not, Nat.reduceAdd, Nat.reduceSub, Nat.reduceMul, Nat.reduceLT, Nat.reduceLeDiff, Nat.reduceEqDiff, Int.reduceNeg, Int.reduceAdd, Int.reduceSub, Int.reduceMul, Int.reduceGT, Int.reduceGE, Int.reduceLT, Int.reduceLE, Int.reduceEq, Int.reduceNe, Int.cast_ofNat_Int, Int.reduceToNat, ↓reduceIte, reduceCtorEq, wrap_i64, wrap_i32]
  refine call_vr (by simp [get_cons]) ?_
  simp only [goRules, coreRules, tiRules, unRules, AS_of_eq, ← decide_not, Nat.reduceAdd, Nat.reduceSub, Nat.reduceMul, Nat.reduceLT, Nat.reduceLeDiff, Nat.reduceEqDiff, Int.reduceNeg, Int.reduceAdd, Int.reduceSub, Int.reduceMul, Int.reduceGT, Int.reduceGE, Int.reduceLT, Int.reduceLE, Int.reduceEq, Int.reduceNe, Int.cast_ofNat_Int, Int.reduceToNat, ↓reduceIte, reduceCtorEq]
  rfl
theorem call_half {Γ : Env} (hf : Γ.get 10 = some halfCon) {σ : AS} {dr : Bool} {ys : List AV} {t : Nat} {d : Option Nat} {K : AS → Prop} (hy : ys = ints .i64 [55296]) (ht : AV.tags (.sl t 1 ys) = [] ∨ True)
    (hk : cont σ d (res2 (.v (sv [])) 2) K) : vcCall Tryd.prog Γ dr σ 10 [.sl t 1 ys] d K := by
  subst hy
  exact vcCall_plain (C := halfCon) (i := ()) hf rfl rfl rfl rfl (fun _ h => h) rfl hk

theorem call_points {Γ : Env} (hf : Γ.get 16 = some pointsCon) {σ : AS} {dr : Bool} {l : List UInt8} {d : Option Nat} {K : AS → Prop} (h : l.length ≤ 1099511627776)
    (hk : cont σ d (pointsR l) K) : vcCall Tryd.prog Γ dr σ 16 [.v (sv l)] d K :=
  vcCall_fn (C := pointsCon) (i := ⟨l, h⟩) (r := pointsR l) hf rfl rfl rfl rfl (fun _ h => h) (by
    have : (pointsR l).er = pointsR l := by unfold pointsR; split <;> rfl
    rw [this]; exact hk)
theorem call_slice {Γ : Env} (hf : Γ.get 17 = some sliceCon) {σ : AS} {dr : Bool} {l : List UInt8} {a b : Int} {d : Option Nat} {K : AS → Prop} (h : l.length ≤ 1099511627776) (h1 : -9223372036854775808 ≤ a ∧ a ≤ 9223372036854775807) (h2 : -9223372036854775808 ≤ b ∧ b ≤ 9223372036854775807)
    (hk : cont σ d (sliceR l a b) K) : vcCall Tryd.prog Γ dr σ 17 [.v (sv l), .v (.int .i64 a), .v (.int .i64 b)] d K :=
  vcCall_plain (C := sliceCon) (i := (⟨l, h⟩, ⟨a, h1⟩, ⟨b, h2⟩)) hf rfl rfl rfl rfl (fun _ h => h) (sliceR_plain l a b) hk
theorem call_ints {Γ : Env} (hf : Γ.get 19 = some intsCon) {σ : AS} {dr : Bool} {x y : List Int} {s t : Nat} {xs ys : List AV} {d : Option Nat} {K : AS → Prop} (hx : xs = ints .i64 x) (hy : ys = ints .i64 y) (h1 : x.length ≤ 1099511627776) (h2 : y.length ≤ 1099511627776)
    (hk : cont σ d (.v (.bool (decide (x = y)))) K) : vcCall Tryd.prog Γ dr σ 19 [.sl s 1 xs, .sl t 1 ys] d K := by
  subst hx; subst hy
  exact vcCall_plain (C := intsCon) (i := ⟨(x, y), h1, h2⟩) hf rfl rfl rfl rfl (fun _ h => h) rfl hk

abbrev trueCon : Con where
  ι := Unit
  args := fun _ => []
  post := fun _ r => r = .v (.bool true)
  plain := true
theorem pts_a : pts [97, 195, 169] = some [97, 233] := by decide +kernel
theorem pts_b : pts [255] = none := by decide +kernel
theorem pts_c : pts [97, 98, 99] = some [97, 98, 99] := by decide +kernel
theorem pts_d : pts [0] = none := by decide +kernel
theorem encs_b : encs [98] = [98] := by decide +kernel
theorem awake3_good : Rw.Good Tryd.prog 11 trueCon := by
  have hΓ : GoodEnv Tryd.prog [(15, countCon), (10, halfCon), (17, sliceCon), (12, validCon)] := (goodEnv_cons count_good (goodEnv_cons half_good (goodEnv_cons slice_good (goodEnv_cons valid_good goodEnv_nil))))
  refine good_fn (nn := 55) hΓ Tryd.func11 (by kernel_rfl) rfl (show Tryd.f11.results.toList = [.tmp 0] from rfl) (fun _ => rfl) (fun _ => rfl) ?_
  intro _
  simp only [goRules, coreRules, tiRules, unRules, AS_of_eq, ← decide_not, Nat.reduceAdd, Nat.reduceSub, Nat.reduceMul, Nat.reduceLT, Nat.reduceLeDiff, Nat.reduceEqDiff, Int.reduceNeg, Int.reduceAdd, Int.reduceSub, Int.reduceMul, Int.reduceGT, Int.reduceGE, Int.reduceLT, Int.reduceLE, Int.reduceEq, Int.reduceNe, Int.cast_ofNat_Int, Int.reduceToNat, ↓reduceIte, reduceCtorEq]
  refine call_count (by simp [get_cons]) (by simp) ?_
  simp only [goRules, coreRules, tiRules, unRules, AS_of_eq, ← decide_not, Nat.reduceAdd, Nat.reduceSub, Nat.reduceMul, Nat.reduceLT, Nat.reduceLeDiff, Nat.reduceEqDiff, Int.reduceNeg, Int.reduceAdd, Int.reduceSub, Int.reduceMul, Int.reduceGT, Int.reduceGE, Int.reduceLT, Int.reduceLE, Int.reduceEq, Int.reduceNe, Int.cast_ofNat_Int, Int.reduceToNat, ↓reduceIte, reduceCtorEq, countR, pts_a, res2]
  refine call_count (by simp [get_cons]) (by simp) ?_
  simp only [goRules, coreRules, tiRules, unRules, AS_of_eq, ← decide_not, Nat.reduceAdd, Nat.reduceSub, Nat.reduceMul, Nat.reduceLT, Nat.reduceLeDiff, Nat.reduceEqDiff, Int.reduceNeg, Int.reduceAdd, Int.reduceSub, Int.reduceMul, Int.reduceGT, Int.reduceGE, Int.reduceLT, Int.reduceLE, Int.reduceEq, Int.reduceNe, Int.cast_ofNat_Int, Int.reduceToNat, ↓reduceIte, reduceCtorEq, countR, pts_b, res2]
  refine call_half (by simp [get_cons]) rfl (.inr trivial) ?_
  simp only [goRules, coreRules, tiRules, unRules, AS_of_eq, ← decide_not, Nat.reduceAdd, Nat.reduceSub, Nat.reduceMul, Nat.reduceLT, Nat.reduceLeDiff, Nat.reduceEqDiff, Int.reduceNeg, Int.reduceAdd, Int.reduceSub, Int.reduceMul, Int.reduceGT, Int.reduceGE, Int.reduceLT, Int.reduceLE, Int.reduceEq, Int.reduceNe, Int.cast_ofNat_Int, Int.reduceToNat, ↓reduceIte, reduceCtorEq, res2]
  refine call_slice (by simp [get_cons]) (by simp) (by omega) (by omega) ?_
  simp only [goRules, coreRules, tiRules, unRules, AS_of_eq, ← decide_not, Nat.reduceAdd, Nat.reduceSub, Nat.reduceMul, Nat.reduceLT, Nat.reduceLeDiff, Nat.reduceEqDiff, Int.reduceNeg, Int.reduceAdd, Int.reduceSub, Int.reduceMul, Int.reduceGT, Int.reduceGE, Int.reduceLT, Int.reduceLE, Int.reduceEq, Int.reduceNe, Int.cast_ofNat_Int, Int.reduceToNat, ↓reduceIte, reduceCtorEq, sliceR, pts_c, res2, encs_b, Int.reduceToNat]
  refine call_valid (by simp [get_cons]) (by simp) ?_
  simp only [goRules, coreRules, tiRules, unRules, AS_of_eq, ← decide_not, Nat.reduceAdd, Nat.reduceSub, Nat.reduceMul, Nat.reduceLT, Nat.reduceLeDiff, Nat.reduceEqDiff, Int.reduceNeg, Int.reduceAdd, Int.reduceSub, Int.reduceMul, Int.reduceGT, Int.reduceGE, Int.reduceLT, Int.reduceLE, Int.reduceEq, Int.reduceNe, Int.cast_ofNat_Int, Int.reduceToNat, ↓reduceIte, reduceCtorEq, pts_d, Option.isSome_none]
  refine call_valid (by simp [get_cons]) (by simp) ?_
  simp only [goRules, coreRules, tiRules, unRules, AS_of_eq, ← decide_not, Nat.reduceAdd, Nat.reduceSub, Nat.reduceMul, Nat.reduceLT, Nat.reduceLeDiff, Nat.reduceEqDiff, Int.reduceNeg, Int.reduceAdd, Int.reduceSub, Int.reduceMul, Int.reduceGT, Int.reduceGE, Int.reduceLT, Int.reduceLE, Int.reduceEq, Int.reduceNe, Int.cast_ofNat_Int, Int.reduceToNat, ↓reduceIte, reduceCtorEq, pts_nil, Option.isSome_some]
theorem call_awake3 {Γ : Env} (hf : Γ.get 11 = some trueCon) {σ : AS} {dr : Bool} {d : Option Nat} {K : AS → Prop}
    (hk : cont σ d (.v (.bool true)) K) : vcCall Tryd.prog Γ dr σ 11 [] d K :=
  vcCall_plain (C := trueCon) (i := ()) hf rfl rfl rfl rfl (fun _ h => h) rfl hk
end Go.Proofs
end
