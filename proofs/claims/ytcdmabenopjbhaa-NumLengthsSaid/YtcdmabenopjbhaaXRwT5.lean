/-
  num.Size, awake and the law NumAsks meet their contracts.
-/
import Derived.Test.YtcdmabenopjbhaaXRwT4
set_option linter.unusedSimpArgs false
set_option linter.unusedVariables false
set_option linter.defProp false

-- RwT5
section
namespace Go.Proofs
open Go Go.Rw
set_option maxRecDepth 100000
set_option linter.unusedSimpArgs false
set_option linter.unusedVariables false

theorem call_put {Γ : Env} {f : FuncId} (hf : Γ.get f = some putCon) {σ : AS} {dr : Bool} {n : Int} {d : Option Nat} {K : AS → Prop}
    (hk : cont σ d (.sl 0 1 (ints .u8 (putL n))) K) : vcCall Try.prog Γ dr σ f [.v (.int .i64 n)] d K :=
  vcCall_fn (C := putCon) (i := n) (r := .sl 0 1 (ints .u8 (putL n))) hf rfl rfl rfl rfl (fun _ h => h) hk

def getR (l : List Int) : AV := match getS l 0 0 with
  | some (n, u) => .tup [.v (.int .i64 n), .v (.int .i64 u), .v (.int .i64 0)]
  | none => .tup [.v (.int .i64 0), .v (.int .i64 0), .v (.int .i64 2)]
theorem getR_plain (l : List Int) : (getR l).plain = true := by unfold getR; split <;> rfl

theorem call_get {Γ : Env} {f : FuncId} (hf : Γ.get f = some getCon) {σ : AS} {dr : Bool} {l : List Int} {t : Nat} {ys : List AV} {d : Option Nat} {K : AS → Prop} (hl : ys = ints .u8 l) (h1 : ∀ x ∈ l, 0 ≤ x ∧ x < 256) (h2 : l.length ≤ 9223372036854775807)
    (hk : cont σ d (getR l) K) : vcCall Try.prog Γ dr σ f [.sl t 1 ys] d K := by
  subst hl
  exact vcCall_plain (C := getCon) (i := ⟨l, h1, h2⟩) hf rfl rfl rfl rfl (fun _ h => h) (getR_plain l) hk

abbrev sizeCon : Con where
  ι := Int
  args := fun n => [.v (.int .i64 n)]
  post := fun n r => r = .v (.int .i64 (putL n).length)
  plain := true

theorem size_good : Rw.Good Try.prog 11 sizeCon := by
  have hΓ : GoodEnv Try.prog [(9, putCon)] := goodEnv_cons put_good goodEnv_nil
  refine good_go (nn := 6) hΓ Try.func11 (by kernel_rfl) rfl rfl rfl (fun _ => rfl) (fun _ => rfl) fun (n : Int) => ?_
  simp only [goRules, coreRules, ← decide_not, Nat.reduceAdd, Nat.reduceSub, Nat.reduceMul, Nat.reduceLT, Nat.reduceLeDiff, Nat.reduceEqDiff, Int.reduceNeg, Int.reduceLT, Int.reduceLE, Int.reduceEq, Int.reduceNe, Int.cast_ofNat_Int, Int.reduceToNat, ↓reduceIte, reduceCtorEq, show sizeCon.args n = [.v (.int .i64 n)] from rfl, show Try.f11.results.toList = [.tmp 2] from rfl, tiRules, unRules, AS_of_eq]
  refine call_put (by simp [get_cons]) ?_
  simp only [goRules, coreRules, ← decide_not, Nat.reduceAdd, Nat.reduceSub, Nat.reduceMul, Nat.reduceLT, Nat.reduceLeDiff, Nat.reduceEqDiff, Int.reduceNeg, Int.reduceLT, Int.reduceLE, Int.reduceEq, Int.reduceNe, Int.cast_ofNat_Int, Int.reduceToNat, ↓reduceIte, reduceCtorEq, tiRules, ints_len]
  exact ⟨rfl, fun _ => rfl⟩

theorem call_size {Γ : Env} {f : FuncId} (hf : Γ.get f = some sizeCon) {σ : AS} {dr : Bool} {n : Int} {d : Option Nat} {K : AS → Prop}
    (hk : cont σ d (.v (.int .i64 (putL n).length)) K) : vcCall Try.prog Γ dr σ f [.v (.int .i64 n)] d K :=
  vcCall_plain (i := n) hf rfl rfl rfl rfl (fun _ h => h) rfl hk

abbrev trueCon : Con where
  ι := Unit
  args := fun _ => []
  post := fun _ r => r = .v (.bool true)
  plain := true

theorem put130 : putL 130 = [129, 2] := by simp [putL, tail]
theorem put127 : putL 127 = [127] := by simp [putL, tail]
theorem getR128 : getR [128] = .tup [.v (.int .i64 0), .v (.int .i64 0), .v (.int .i64 2)] := by simp [getR, getS]
theorem getR129 : getR [129, 2, 9] = .tup [.v (.int .i64 130), .v (.int .i64 2), .v (.int .i64 0)] := by simp [getR, getS]

theorem awake_good : Rw.Good Try.prog 6 trueCon := by
  have hΓ : GoodEnv Try.prog [(9, putCon), (7, getCon), (11, sizeCon), (12, fitsCon)] := goodEnv_cons put_good (goodEnv_cons get_good (goodEnv_cons size_good (goodEnv_cons fits_good goodEnv_nil)))
  refine good_go (nn := 60) hΓ Try.func6 (by kernel_rfl) rfl rfl rfl (fun _ => rfl) (fun _ => rfl) fun _ => ?_
  simp only [goRules, coreRules, ← decide_not, Nat.reduceAdd, Nat.reduceSub, Nat.reduceMul, Nat.reduceLT, Nat.reduceLeDiff, Nat.reduceEqDiff, Int.reduceNeg, Int.reduceLT, Int.reduceLE, Int.reduceEq, Int.reduceNe, Int.cast_ofNat_Int, Int.reduceToNat, ↓reduceIte, reduceCtorEq, show ∀ i, trueCon.args i = [] from fun _ => rfl, show Try.f6.results.toList = [.tmp 0] from rfl, tiRules, unRules, AS_of_eq]
  refine call_put (by simp [get_cons]) ?_
  simp only [goRules, coreRules, ← decide_not, Nat.reduceAdd, Nat.reduceSub, Nat.reduceMul, Nat.reduceLT, Nat.reduceLeDiff, Nat.reduceEqDiff, Int.reduceNeg, Int.reduceLT, Int.reduceLE, Int.reduceEq, Int.reduceNe, Int.cast_ofNat_Int, Int.reduceToNat, ↓reduceIte, reduceCtorEq, tiRules, put130]
  refine call_get (l := [128]) (by simp [get_cons]) rfl (by simp) (by simp) ?_
  simp only [goRules, coreRules, ← decide_not, Nat.reduceAdd, Nat.reduceSub, Nat.reduceMul, Nat.reduceLT, Nat.reduceLeDiff, Nat.reduceEqDiff, Int.reduceNeg, Int.reduceLT, Int.reduceLE, Int.reduceEq, Int.reduceNe, Int.cast_ofNat_Int, Int.reduceToNat, ↓reduceIte, reduceCtorEq, tiRules, getR128]
  refine call_get (l := [129, 2, 9]) (by simp [get_cons]) rfl (by simp) (by simp) ?_
  simp only [goRules, coreRules, ← decide_not, Nat.reduceAdd, Nat.reduceSub, Nat.reduceMul, Nat.reduceLT, Nat.reduceLeDiff, Nat.reduceEqDiff, Int.reduceNeg, Int.reduceLT, Int.reduceLE, Int.reduceEq, Int.reduceNe, Int.cast_ofNat_Int, Int.reduceToNat, ↓reduceIte, reduceCtorEq, tiRules, getR129, show ints .u8 [129, 2] = [.v (.int .u8 129), .v (.int .u8 2)] from rfl]
  refine call_fits (by simp [get_cons]) ?_
  simp only [goRules, coreRules, ← decide_not, Nat.reduceAdd, Nat.reduceSub, Nat.reduceMul, Nat.reduceLT, Nat.reduceLeDiff, Nat.reduceEqDiff, Int.reduceNeg, Int.reduceLT, Int.reduceLE, Int.reduceEq, Int.reduceNe, Int.cast_ofNat_Int, Int.reduceToNat, ↓reduceIte, reduceCtorEq, tiRules, show ¬ ((0:Int) ≤ -1) by omega]
  refine call_size (by simp [get_cons]) ?_
  simp only [goRules, coreRules, ← decide_not, Nat.reduceAdd, Nat.reduceSub, Nat.reduceMul, Nat.reduceLT, Nat.reduceLeDiff, Nat.reduceEqDiff, Int.reduceNeg, Int.reduceLT, Int.reduceLE, Int.reduceEq, Int.reduceNe, Int.cast_ofNat_Int, Int.reduceToNat, ↓reduceIte, reduceCtorEq, tiRules, put127]
  exact ⟨rfl, fun _ => rfl⟩

theorem call_awake {Γ : Env} {f : FuncId} (hf : Γ.get f = some trueCon) {σ : AS} {dr : Bool} {d : Option Nat} {K : AS → Prop}
    (hk : cont σ d (.v (.bool true)) K) : vcCall Try.prog Γ dr σ f [] d K :=
  vcCall_plain (C := trueCon) (i := ()) hf rfl rfl rfl rfl (fun _ h => h) rfl hk

def rgetR (l : List Int) : AV := match getS l 0 0 with
  | some (n, u) => .tup [.v (.int .i64 n), .v (.int .i64 u)]
  | none => .tup [.v (.int .i64 0), .v (.int .i64 0)]
theorem rgetR_plain (l : List Int) : (rgetR l).plain = true := by unfold rgetR; split <;> rfl

theorem call_rget {Γ : Env} {f : FuncId} (hf : Γ.get f = some rgetCon) {σ : AS} {dr : Bool} {l : List Int} {t : Nat} {ys : List AV} {d : Option Nat} {K : AS → Prop} (hl : ys = ints .u8 l) (h1 : ∀ x ∈ l, 0 ≤ x ∧ x < 256) (h2 : l.length ≤ 9223372036854775807)
    (hk : cont σ d (rgetR l) K) : vcCall Try.prog Γ dr σ f [.sl t 1 ys] d K := by
  subst hl
  exact vcCall_plain (C := rgetCon) (i := ⟨l, h1, h2⟩) hf rfl rfl rfl rfl (fun _ h => h) (rgetR_plain l) hk

theorem getS_pos : ∀ (l : List Int) (n i : Int) (p : Int × Int), 0 ≤ i → getS l n i = some p → 0 < p.2
  | [], _, _, _, _, h => by simp [getS] at h
  | c :: r, n, i, p, hi, h => by
    rw [getS] at h
    split at h
    · cases h
    · split at h
      · split at h
        · simp only [Option.some.injEq] at h; subst h; simp only; omega
        · cases h
      · exact getS_pos r _ _ p (by omega) h

abbrev asksCon : Con where
  ι := Int × { l : List Int // (∀ x ∈ l, 0 ≤ x ∧ x < 256) ∧ l.length ≤ 9223372036854775807 }
  args := fun p => [.v (.int .i64 p.1), .sl 0 1 (ints .u8 p.2.1)]
  post := fun _ r => r = .v (.bool true)
  plain := true

theorem mixed1 : Try.prog.follows .mixedOrders = true := by kernel_rfl

theorem asks_good : Rw.Good Try.prog 3 asksCon := by
  have hΓ : GoodEnv Try.prog [(6, trueCon), (9, putCon), (7, getCon), (11, sizeCon), (12, fitsCon), (10, putCon), (8, rgetCon), (13, fitsCon)] :=
    goodEnv_cons awake_good (goodEnv_cons put_good (goodEnv_cons get_good (goodEnv_cons size_good (goodEnv_cons fits_good (goodEnv_cons rputs_good (goodEnv_cons rget_good (goodEnv_cons rfits_good goodEnv_nil)))))))
  refine good_go (nn := 75) hΓ Try.func3 (by kernel_rfl) rfl rfl rfl (fun _ => rfl) (fun _ => rfl) ?_
  rintro ⟨n, l, h1, h2⟩
  simp only [goRules, coreRules, ← decide_not, Nat.reduceAdd, Nat.reduceSub, Nat.reduceMul, Nat.reduceLT, Nat.reduceLeDiff, Nat.reduceEqDiff, Int.reduceNeg, Int.reduceLT, Int.reduceLE, Int.reduceEq, Int.reduceNe, Int.cast_ofNat_Int, Int.reduceToNat, ↓reduceIte, reduceCtorEq, show asksCon.args (n, ⟨l, h1, h2⟩) = [.v (.int .i64 n), .sl 0 1 (ints .u8 l)] from rfl, show Try.f3.results.toList = [.tmp 4] from rfl, tiRules, unRules, AS_of_eq, ints_len]
  refine branchP_dec (fun h3 => ?_) (fun h3 => ?_)
  · simp only [goRules, coreRules, ← decide_not, Nat.reduceAdd, Nat.reduceSub, Nat.reduceMul, Nat.reduceLT, Nat.reduceLeDiff, Nat.reduceEqDiff, Int.reduceNeg, Int.reduceLT, Int.reduceLE, Int.reduceEq, Int.reduceNe, Int.cast_ofNat_Int, Int.reduceToNat, ↓reduceIte, reduceCtorEq, tiRules]
    refine call_awake (by simp [get_cons]) ?_
    simp only [goRules, coreRules, ← decide_not, Nat.reduceAdd, Nat.reduceSub, Nat.reduceMul, Nat.reduceLT, Nat.reduceLeDiff, Nat.reduceEqDiff, Int.reduceNeg, Int.reduceLT, Int.reduceLE, Int.reduceEq, Int.reduceNe, Int.cast_ofNat_Int, Int.reduceToNat, ↓reduceIte, reduceCtorEq, tiRules]
    exact ⟨rfl, fun _ => rfl⟩
  · simp only [goRules, coreRules, ← decide_not, Nat.reduceAdd, Nat.reduceSub, Nat.reduceMul, Nat.reduceLT, Nat.reduceLeDiff, Nat.reduceEqDiff, Int.reduceNeg, Int.reduceLT, Int.reduceLE, Int.reduceEq, Int.reduceNe, Int.cast_ofNat_Int, Int.reduceToNat, ↓reduceIte, reduceCtorEq, tiRules]
    refine call_get (by simp [get_cons]) rfl h1 h2 ?_
    have key : (∃ p, getS l 0 0 = some p ∧ 0 < p.2) ∨ getS l 0 0 = none := by
      cases hg : getS l 0 0 with
      | none => exact .inr rfl
      | some p => exact .inl ⟨p, rfl, getS_pos l 0 0 p (by omega) hg⟩
    rcases key with ⟨⟨m, u⟩, hg, hu⟩ | hg
    · simp only at hu
      simp only [goRules, coreRules, ← decide_not, Nat.reduceAdd, Nat.reduceSub, Nat.reduceMul, Nat.reduceLT, Nat.reduceLeDiff, Nat.reduceEqDiff, Int.reduceNeg, Int.reduceLT, Int.reduceLE, Int.reduceEq, Int.reduceNe, Int.cast_ofNat_Int, Int.reduceToNat, ↓reduceIte, reduceCtorEq, tiRules, getR, hg]
      refine call_rget (by simp [get_cons]) rfl h1 h2 ?_
      simp only [goRules, coreRules, ← decide_not, Nat.reduceAdd, Nat.reduceSub, Nat.reduceMul, Nat.reduceLT, Nat.reduceLeDiff, Nat.reduceEqDiff, Int.reduceNeg, Int.reduceLT, Int.reduceLE, Int.reduceEq, Int.reduceNe, Int.cast_ofNat_Int, Int.reduceToNat, ↓reduceIte, reduceCtorEq, tiRules, rgetR, hg]
      refine ⟨mixed1, by kernel_rfl, ?_⟩
      refine call_put (by simp [get_cons]) ?_
      simp only [goRules, coreRules, ← decide_not, Nat.reduceAdd, Nat.reduceSub, Nat.reduceMul, Nat.reduceLT, Nat.reduceLeDiff, Nat.reduceEqDiff, Int.reduceNeg, Int.reduceLT, Int.reduceLE, Int.reduceEq, Int.reduceNe, Int.cast_ofNat_Int, Int.reduceToNat, ↓reduceIte, reduceCtorEq, tiRules, unRules]
      refine call_put (by simp [get_cons]) ?_
      simp only [goRules, coreRules, ← decide_not, Nat.reduceAdd, Nat.reduceSub, Nat.reduceMul, Nat.reduceLT, Nat.reduceLeDiff, Nat.reduceEqDiff, Int.reduceNeg, Int.reduceLT, Int.reduceLE, Int.reduceEq, Int.reduceNe, Int.cast_ofNat_Int, Int.reduceToNat, ↓reduceIte, reduceCtorEq, tiRules, unRules]
      refine call_size (by simp [get_cons]) ?_
      simp only [goRules, coreRules, ← decide_not, Nat.reduceAdd, Nat.reduceSub, Nat.reduceMul, Nat.reduceLT, Nat.reduceLeDiff, Nat.reduceEqDiff, Int.reduceNeg, Int.reduceLT, Int.reduceLE, Int.reduceEq, Int.reduceNe, Int.cast_ofNat_Int, Int.reduceToNat, ↓reduceIte, reduceCtorEq, tiRules, unRules]
      refine call_put (by simp [get_cons]) ?_
      simp only [goRules, coreRules, ← decide_not, Nat.reduceAdd, Nat.reduceSub, Nat.reduceMul, Nat.reduceLT, Nat.reduceLeDiff, Nat.reduceEqDiff, Int.reduceNeg, Int.reduceLT, Int.reduceLE, Int.reduceEq, Int.reduceNe, Int.cast_ofNat_Int, Int.reduceToNat, ↓reduceIte, reduceCtorEq, tiRules, unRules, ints_len]
      refine call_fits (by simp [get_cons]) ?_
      simp only [goRules, coreRules, ← decide_not, Nat.reduceAdd, Nat.reduceSub, Nat.reduceMul, Nat.reduceLT, Nat.reduceLeDiff, Nat.reduceEqDiff, Int.reduceNeg, Int.reduceLT, Int.reduceLE, Int.reduceEq, Int.reduceNe, Int.cast_ofNat_Int, Int.reduceToNat, ↓reduceIte, reduceCtorEq, tiRules, unRules]
      refine call_fits (by simp [get_cons]) ?_
      simp only [goRules, coreRules, ← decide_not, Nat.reduceAdd, Nat.reduceSub, Nat.reduceMul, Nat.reduceLT, Nat.reduceLeDiff, Nat.reduceEqDiff, Int.reduceNeg, Int.reduceLT, Int.reduceLE, Int.reduceEq, Int.reduceNe, Int.cast_ofNat_Int, Int.reduceToNat, ↓reduceIte, reduceCtorEq, tiRules, unRules, beq_self_eq_true, show u > 0 from hu]
      refine call_awake (by simp [get_cons]) ?_
      simp only [goRules, coreRules, ← decide_not, Nat.reduceAdd, Nat.reduceSub, Nat.reduceMul, Nat.reduceLT, Nat.reduceLeDiff, Nat.reduceEqDiff, Int.reduceNeg, Int.reduceLT, Int.reduceLE, Int.reduceEq, Int.reduceNe, Int.cast_ofNat_Int, Int.reduceToNat, ↓reduceIte, reduceCtorEq, tiRules, unRules]
      exact ⟨rfl, fun _ => rfl⟩
    · simp only [goRules, coreRules, ← decide_not, Nat.reduceAdd, Nat.reduceSub, Nat.reduceMul, Nat.reduceLT, Nat.reduceLeDiff, Nat.reduceEqDiff, Int.reduceNeg, Int.reduceLT, Int.reduceLE, Int.reduceEq, Int.reduceNe, Int.cast_ofNat_Int, Int.reduceToNat, ↓reduceIte, reduceCtorEq, tiRules, getR, hg]
      refine call_rget (by simp [get_cons]) rfl h1 h2 ?_
      simp only [goRules, coreRules, ← decide_not, Nat.reduceAdd, Nat.reduceSub, Nat.reduceMul, Nat.reduceLT, Nat.reduceLeDiff, Nat.reduceEqDiff, Int.reduceNeg, Int.reduceLT, Int.reduceLE, Int.reduceEq, Int.reduceNe, Int.cast_ofNat_Int, Int.reduceToNat, ↓reduceIte, reduceCtorEq, tiRules, rgetR, hg]
      refine ⟨mixed1, by kernel_rfl, ?_⟩
      refine call_put (by simp [get_cons]) ?_
      simp only [goRules, coreRules, ← decide_not, Nat.reduceAdd, Nat.reduceSub, Nat.reduceMul, Nat.reduceLT, Nat.reduceLeDiff, Nat.reduceEqDiff, Int.reduceNeg, Int.reduceLT, Int.reduceLE, Int.reduceEq, Int.reduceNe, Int.cast_ofNat_Int, Int.reduceToNat, ↓reduceIte, reduceCtorEq, tiRules, unRules]
      refine call_put (by simp [get_cons]) ?_
      simp only [goRules, coreRules, ← decide_not, Nat.reduceAdd, Nat.reduceSub, Nat.reduceMul, Nat.reduceLT, Nat.reduceLeDiff, Nat.reduceEqDiff, Int.reduceNeg, Int.reduceLT, Int.reduceLE, Int.reduceEq, Int.reduceNe, Int.cast_ofNat_Int, Int.reduceToNat, ↓reduceIte, reduceCtorEq, tiRules, unRules]
      refine call_size (by simp [get_cons]) ?_
      simp only [goRules, coreRules, ← decide_not, Nat.reduceAdd, Nat.reduceSub, Nat.reduceMul, Nat.reduceLT, Nat.reduceLeDiff, Nat.reduceEqDiff, Int.reduceNeg, Int.reduceLT, Int.reduceLE, Int.reduceEq, Int.reduceNe, Int.cast_ofNat_Int, Int.reduceToNat, ↓reduceIte, reduceCtorEq, tiRules, unRules]
      refine call_put (by simp [get_cons]) ?_
      simp only [goRules, coreRules, ← decide_not, Nat.reduceAdd, Nat.reduceSub, Nat.reduceMul, Nat.reduceLT, Nat.reduceLeDiff, Nat.reduceEqDiff, Int.reduceNeg, Int.reduceLT, Int.reduceLE, Int.reduceEq, Int.reduceNe, Int.cast_ofNat_Int, Int.reduceToNat, ↓reduceIte, reduceCtorEq, tiRules, unRules, ints_len]
      refine call_fits (by simp [get_cons]) ?_
      simp only [goRules, coreRules, ← decide_not, Nat.reduceAdd, Nat.reduceSub, Nat.reduceMul, Nat.reduceLT, Nat.reduceLeDiff, Nat.reduceEqDiff, Int.reduceNeg, Int.reduceLT, Int.reduceLE, Int.reduceEq, Int.reduceNe, Int.cast_ofNat_Int, Int.reduceToNat, ↓reduceIte, reduceCtorEq, tiRules, unRules]
      refine call_fits (by simp [get_cons]) ?_
      simp only [goRules, coreRules, ← decide_not, Nat.reduceAdd, Nat.reduceSub, Nat.reduceMul, Nat.reduceLT, Nat.reduceLeDiff, Nat.reduceEqDiff, Int.reduceNeg, Int.reduceLT, Int.reduceLE, Int.reduceEq, Int.reduceNe, Int.cast_ofNat_Int, Int.reduceToNat, ↓reduceIte, reduceCtorEq, tiRules, unRules, beq_self_eq_true, Int.reduceGT]
      refine call_awake (by simp [get_cons]) ?_
      simp only [goRules, coreRules, ← decide_not, Nat.reduceAdd, Nat.reduceSub, Nat.reduceMul, Nat.reduceLT, Nat.reduceLeDiff, Nat.reduceEqDiff, Int.reduceNeg, Int.reduceLT, Int.reduceLE, Int.reduceEq, Int.reduceNe, Int.cast_ofNat_Int, Int.reduceToNat, ↓reduceIte, reduceCtorEq, tiRules, unRules]
      exact ⟨rfl, fun _ => rfl⟩
end Go.Proofs
end
