/-
  The reference's code points.
-/
import Derived.Test.YtknbfkmgoijncaaDoorXBUt3
set_option linter.unusedSimpArgs false
set_option linter.unusedVariables false
set_option linter.defProp false

-- BUt4
section
namespace Go.Proofs
open Go Go.Rw
open _root_.Nat renaming reduceAdd → N0, reduceSub → N1, reduceMul → N2, reduceLT → N3, reduceLeDiff → N4, reduceEqDiff → N5
open _root_.Int renaming reduceNeg → Z0, reduceAdd → Z1, reduceSub → Z2, reduceMul → Z3, reduceGT → Z4, reduceGE → Z5, reduceLT → Z6, reduceLE → Z7, reduceEq → Z8, reduceNe → Z9, reduceToNat → Z10, cast_ofNat_Int → Zc
set_option maxRecDepth 100000
set_option linter.unusedSimpArgs false
set_option linter.unusedVariables false

/-- Bits of a byte's number. -/
theorem andi {m k : Nat} {n : Int} (h0 : 0 ≤ n) (h1 : n < 256) (hk : ∀ m : Nat, m < 256 → (BitVec.ofInt IntKind.i64.bits (m : Int) &&& BitVec.ofInt IntKind.i64.bits (k : Int)).toNat = m % (k + 1)) :
    IntKind.wrap .i64 ((BitVec.ofInt IntKind.i64.bits n &&& BitVec.ofInt IntKind.i64.bits (k : Int)).toNat : Nat) = n % (k + 1) := by
  obtain ⟨m, rfl⟩ := Int.eq_ofNat_of_zero_le h0
  have hm : m % (k + 1) < 256 := Nat.lt_of_le_of_lt (Nat.mod_le _ _) (by omega)
  rw [hk m (by omega), wrap_i64 (by omega) (by omega)]; rfl
theorem and31 {n : Int} (h0 : 0 ≤ n) (h1 : n < 256) : IntKind.wrap .i64 ((BitVec.ofInt IntKind.i64.bits n &&& BitVec.ofInt IntKind.i64.bits 31).toNat : Nat) = n % 32 := andi (m := 0) (k := 31) h0 h1 (by decide +kernel)
theorem and15 {n : Int} (h0 : 0 ≤ n) (h1 : n < 256) : IntKind.wrap .i64 ((BitVec.ofInt IntKind.i64.bits n &&& BitVec.ofInt IntKind.i64.bits 15).toNat : Nat) = n % 16 := andi (m := 0) (k := 15) h0 h1 (by decide +kernel)
theorem andi7 {n : Int} (h0 : 0 ≤ n) (h1 : n < 256) : IntKind.wrap .i64 ((BitVec.ofInt IntKind.i64.bits n &&& BitVec.ofInt IntKind.i64.bits 7).toNat : Nat) = n % 8 := andi (m := 0) (k := 7) h0 h1 (by decide +kernel)
theorem and63 {n : Int} (h0 : 0 ≤ n) (h1 : n < 256) : IntKind.wrap .i64 ((BitVec.ofInt IntKind.i64.bits n &&& BitVec.ofInt IntKind.i64.bits 63).toNat : Nat) = n % 64 := andi (m := 0) (k := 63) h0 h1 (by decide +kernel)
theorem shl6 {n : Int} : n * 2 ^ min 6 IntKind.i64.bits = n * 64 := rfl
theorem or6 {n c : Int} (h1 : 0 ≤ n) (h2 : n ≤ 1000000000) (h3 : 0 ≤ c) (h4 : c < 64) : IntKind.wrap .i64 ((BitVec.ofInt IntKind.i64.bits (n * 64) ||| BitVec.ofInt IntKind.i64.bits c).toNat : Nat) = n * 64 + c := by
  obtain ⟨m, rfl⟩ := Int.eq_ofNat_of_zero_le h1
  obtain ⟨d, rfl⟩ := Int.eq_ofNat_of_zero_le h3
  have e : (BitVec.ofInt IntKind.i64.bits ((m : Int) * 64) ||| BitVec.ofInt IntKind.i64.bits (d : Int)).toNat = m * 64 + d := by
    rw [BitVec.toNat_or]
    have e1 : (BitVec.ofInt IntKind.i64.bits ((m : Int) * 64)).toNat = 2 ^ 6 * m := by
      rw [BitVec.toNat_ofInt]; simp only [IntKind.bits]; omega
    have e2 : (BitVec.ofInt IntKind.i64.bits (d : Int)).toNat = d := by
      rw [BitVec.toNat_ofInt]; simp only [IntKind.bits]; omega
    rw [e1, e2, ← Nat.two_pow_add_eq_or_of_lt (by omega)]; omega
  rw [e, wrap_i64 (by omega) (by omega)]; omega

def pntR (l : List UInt8) (i : Nat) : AV := .tup [.v (.int .i64 (pnt (l.drop i)).1), .v (.int .i64 (pnt (l.drop i)).2)]
abbrev pntCon : Con where
  ι := { p : Str × Nat // p.2 < p.1.1.length }
  args := fun p => [.v (sv p.1.1.1), .v (.int .i64 p.1.2)]
  post := fun p r => r = pntR p.1.1.1 p.1.2
  plain := true

def vv (s : List UInt8) (i m : Nat) : Nat → Nat
  | 0 => m
  | k + 1 => vv s i m k * 64 + (s.getD (i + k + 1) 0).toNat % 64
theorem vv_lt (s : List UInt8) (i m : Nat) (hm : m < 32) : ∀ k, k ≤ 3 → vv s i m k < 32 * 64 ^ k
  | 0, _ => by simpa [vv] using hm
  | k + 1, h => by
    have := vv_lt s i m hm k (by omega)
    simp only [vv]
    rw [Nat.pow_succ]; omega
theorem vv_le (s : List UInt8) (i m : Nat) (hm : m < 32) (k : Nat) (h : k ≤ 3) : vv s i m k < 8388608 := by
  have h1 := vv_lt s i m hm k h
  have h2 : 64 ^ k ≤ 64 ^ 3 := Nat.pow_le_pow_right (by omega) h
  omega
theorem point_good : Rw.Good Tryd.prog 53 pntCon := by
  have hΓ : GoodEnv Tryd.prog [] := goodEnv_nil
  refine good_fna (nn := 96) Tryd.func53 (by kernel_rfl) rfl (show Tryd.f53.results.toList = [.tmp 4, .tmp 5] from rfl) (fun _ => rfl) (fun _ => rfl) ?_
  rintro ⟨⟨⟨s, hs⟩, i⟩, hi⟩
  simp only at hi ⊢
  have k0 := (s.getD i 0).toNat_lt
  have hi1 : (0 : Int) ≤ i ∧ (i : Int) < s.length := by omega
  have hw := wrap_i64 (n := ((s.getD i 0).toNat : Int)) (by omega) (by omega)
  have hp := pnt_at s i
  have k1 := (s.getD (i + 1) 0).toNat_lt
  have k2 := (s.getD (i + 2) 0).toNat_lt
  have k3 := (s.getD (i + 3) 0).toNat_lt
  iterate 3
    refine awp_cut hΓ ?_
    simp only [goRules, coreRules, tiRules, unRules, AS_of_eq, ← decide_not, N0, N1, N2, N3, N4, N5, Z0, Z1, Z2, Z3, Z4, Z5, Z6, Z7, Z8, Z9, Z10, Zc, ↓reduceIte, reduceCtorEq, hi1, hw]
  obtain ⟨St, hSt⟩ : ∃ St : { p : Nat × Nat × Nat // (194 ≤ (s.getD i 0).toNat ∧ (s.getD i 0).toNat < 224 ∧ p = (2, (s.getD i 0).toNat % 32, 128)) ∨ (224 ≤ (s.getD i 0).toNat ∧ (s.getD i 0).toNat < 240 ∧ p = (3, (s.getD i 0).toNat % 16, 2048)) ∨ (240 ≤ (s.getD i 0).toNat ∧ (s.getD i 0).toNat < 245 ∧ p = (4, (s.getD i 0).toNat % 8, 65536)) } → AS,
    ∀ p, St p = AS.of 96 [(0, .v (sv s)), (1, .v (.int .i64 i)), (7, .v (.int .i64 p.1.1)), (8, .v (.int .i64 p.1.2.1)), (9, .v (.int .i64 p.1.2.2))] [] [] := ⟨_, fun _ => rfl⟩
  have bad : (pnt (s.drop i)).2 = 0 → pntR s i = .tup [.v (.int .i64 0), .v (.int .i64 0)] := fun h => by
    unfold pntR
    have : pnt (s.drop i) = (0, 0) := by
      unfold pnt at h ⊢
      split
      · rfl
      · rename_i hn
        rw [if_neg hn] at h
        have := Lib.decodeL_width (s.drop i)
        omega
    rw [this]; rfl
  refine awp_mid hΓ St ?_ ?_
  · simp only [goRules, coreRules, tiRules, unRules, AS_of_eq, ← decide_not, N0, N1, N2, N3, N4, N5, Z0, Z1, Z2, Z3, Z4, Z5, Z6, Z7, Z8, Z9, Z10, Zc, ↓reduceIte, reduceCtorEq]
    (try ((with_reducible first | refine branchP_dec (fun q1 => ?_) (fun q1 => ?_) | refine guardB_dec (fun q1 => ?_) (fun q1 => ?_)) <;> simp (disch := omega) only [goRules, coreRules, tiRules, unRules, AS_of_eq, ← decide_not, N0, N1, N2, N3, N4, N5, Z0, Z1, Z2, Z3, Z4, Z5, Z6, Z7, Z8, Z9, Z10, Zc, ↓reduceIte, reduceCtorEq, wrap_i64, q1, and31, and15, andi7] <;> (with_reducible first | (refine And.intro ?_ ?_; focus (first | omega | exact mixed1 | kernel_rfl)); (repeat (with_reducible refine And.intro ?_ ?_; focus (first | omega | exact mixed1 | kernel_rfl))); (try simp (disch := omega) only [goRules, coreRules, tiRules, unRules, AS_of_eq, ← decide_not, N0, N1, N2, N3, N4, N5, Z0, Z1, Z2, Z3, Z4, Z5, Z6, Z7, Z8, Z9, Z10, Zc, ↓reduceIte, reduceCtorEq, wrap_i64, q1, and31, and15, andi7]) | skip) <;> (try ((with_reducible first | refine branchP_dec (fun q2 => ?_) (fun q2 => ?_) | refine guardB_dec (fun q2 => ?_) (fun q2 => ?_)) <;> simp (disch := omega) only [goRules, coreRules, tiRules, unRules, AS_of_eq, ← decide_not, N0, N1, N2, N3, N4, N5, Z0, Z1, Z2, Z3, Z4, Z5, Z6, Z7, Z8, Z9, Z10, Zc, ↓reduceIte, reduceCtorEq, wrap_i64, q2, and31, and15, andi7] <;> (with_reducible first | (refine And.intro ?_ ?_; focus (first | omega | exact mixed1 | kernel_rfl)); (repeat (with_reducible refine And.intro ?_ ?_; focus (first | omega | exact mixed1 | kernel_rfl))); (try simp (disch := omega) only [goRules, coreRules, tiRules, unRules, AS_of_eq, ← decide_not, N0, N1, N2, N3, N4, N5, Z0, Z1, Z2, Z3, Z4, Z5, Z6, Z7, Z8, Z9, Z10, Zc, ↓reduceIte, reduceCtorEq, wrap_i64, q2, and31, and15, andi7]) | skip) <;> (try ((with_reducible first | refine branchP_dec (fun q3 => ?_) (fun q3 => ?_) | refine guardB_dec (fun q3 => ?_) (fun q3 => ?_)) <;> simp (disch := omega) only [goRules, coreRules, tiRules, unRules, AS_of_eq, ← decide_not, N0, N1, N2, N3, N4, N5, Z0, Z1, Z2, Z3, Z4, Z5, Z6, Z7, Z8, Z9, Z10, Zc, ↓reduceIte, reduceCtorEq, wrap_i64, q3, and31, and15, andi7] <;> (with_reducible first | (refine And.intro ?_ ?_; focus (first | omega | exact mixed1 | kernel_rfl)); (repeat (with_reducible refine And.intro ?_ ?_; focus (first | omega | exact mixed1 | kernel_rfl))); (try simp (disch := omega) only [goRules, coreRules, tiRules, unRules, AS_of_eq, ← decide_not, N0, N1, N2, N3, N4, N5, Z0, Z1, Z2, Z3, Z4, Z5, Z6, Z7, Z8, Z9, Z10, Zc, ↓reduceIte, reduceCtorEq, wrap_i64, q3, and31, and15, andi7]) | skip) <;> (try ((with_reducible first | refine branchP_dec (fun q4 => ?_) (fun q4 => ?_) | refine guardB_dec (fun q4 => ?_) (fun q4 => ?_)) <;> simp (disch := omega) only [goRules, coreRules, tiRules, unRules, AS_of_eq, ← decide_not, N0, N1, N2, N3, N4, N5, Z0, Z1, Z2, Z3, Z4, Z5, Z6, Z7, Z8, Z9, Z10, Zc, ↓reduceIte, reduceCtorEq, wrap_i64, q4, and31, and15, andi7] <;> (with_reducible first | (refine And.intro ?_ ?_; focus (first | omega | exact mixed1 | kernel_rfl)); (repeat (with_reducible refine And.intro ?_ ?_; focus (first | omega | exact mixed1 | kernel_rfl))); (try simp (disch := omega) only [goRules, coreRules, tiRules, unRules, AS_of_eq, ← decide_not, N0, N1, N2, N3, N4, N5, Z0, Z1, Z2, Z3, Z4, Z5, Z6, Z7, Z8, Z9, Z10, Zc, ↓reduceIte, reduceCtorEq, wrap_i64, q4, and31, and15, andi7]) | skip) <;> (try ((with_reducible first | refine branchP_dec (fun q5 => ?_) (fun q5 => ?_) | refine guardB_dec (fun q5 => ?_) (fun q5 => ?_)) <;> simp (disch := omega) only [goRules, coreRules, tiRules, unRules, AS_of_eq, ← decide_not, N0, N1, N2, N3, N4, N5, Z0, Z1, Z2, Z3, Z4, Z5, Z6, Z7, Z8, Z9, Z10, Zc, ↓reduceIte, reduceCtorEq, wrap_i64, q5, and31, and15, andi7] <;> (with_reducible first | (refine And.intro ?_ ?_; focus (first | omega | exact mixed1 | kernel_rfl)); (repeat (with_reducible refine And.intro ?_ ?_; focus (first | omega | exact mixed1 | kernel_rfl))); (try simp (disch := omega) only [goRules, coreRules, tiRules, unRules, AS_of_eq, ← decide_not, N0, N1, N2, N3, N4, N5, Z0, Z1, Z2, Z3, Z4, Z5, Z6, Z7, Z8, Z9, Z10, Zc, ↓reduceIte, reduceCtorEq, wrap_i64, q5, and31, and15, andi7]) | skip) <;> (try ((with_reducible first | refine branchP_dec (fun q6 => ?_) (fun q6 => ?_) | refine guardB_dec (fun q6 => ?_) (fun q6 => ?_)) <;> simp (disch := omega) only [goRules, coreRules, tiRules, unRules, AS_of_eq, ← decide_not, N0, N1, N2, N3, N4, N5, Z0, Z1, Z2, Z3, Z4, Z5, Z6, Z7, Z8, Z9, Z10, Zc, ↓reduceIte, reduceCtorEq, wrap_i64, q6, and31, and15, andi7] <;> (with_reducible first | (refine And.intro ?_ ?_; focus (first | omega | exact mixed1 | kernel_rfl)); (repeat (with_reducible refine And.intro ?_ ?_; focus (first | omega | exact mixed1 | kernel_rfl))); (try simp (disch := omega) only [goRules, coreRules, tiRules, unRules, AS_of_eq, ← decide_not, N0, N1, N2, N3, N4, N5, Z0, Z1, Z2, Z3, Z4, Z5, Z6, Z7, Z8, Z9, Z10, Zc, ↓reduceIte, reduceCtorEq, wrap_i64, q6, and31, and15, andi7]) | skip) <;> (try ((with_reducible first | refine branchP_dec (fun q7 => ?_) (fun q7 => ?_) | refine guardB_dec (fun q7 => ?_) (fun q7 => ?_)) <;> simp (disch := omega) only [goRules, coreRules, tiRules, unRules, AS_of_eq, ← decide_not, N0, N1, N2, N3, N4, N5, Z0, Z1, Z2, Z3, Z4, Z5, Z6, Z7, Z8, Z9, Z10, Zc, ↓reduceIte, reduceCtorEq, wrap_i64, q7, and31, and15, andi7] <;> (with_reducible first | (refine And.intro ?_ ?_; focus (first | omega | exact mixed1 | kernel_rfl)); (repeat (with_reducible refine And.intro ?_ ?_; focus (first | omega | exact mixed1 | kernel_rfl))); (try simp (disch := omega) only [goRules, coreRules, tiRules, unRules, AS_of_eq, ← decide_not, N0, N1, N2, N3, N4, N5, Z0, Z1, Z2, Z3, Z4, Z5, Z6, Z7, Z8, Z9, Z10, Zc, ↓reduceIte, reduceCtorEq, wrap_i64, q7, and31, and15, andi7]) | skip) <;> (try ((with_reducible first | refine branchP_dec (fun q8 => ?_) (fun q8 => ?_) | refine guardB_dec (fun q8 => ?_) (fun q8 => ?_)) <;> simp (disch := omega) only [goRules, coreRules, tiRules, unRules, AS_of_eq, ← decide_not, N0, N1, N2, N3, N4, N5, Z0, Z1, Z2, Z3, Z4, Z5, Z6, Z7, Z8, Z9, Z10, Zc, ↓reduceIte, reduceCtorEq, wrap_i64, q8, and31, and15, andi7] <;> (with_reducible first | (refine And.intro ?_ ?_; focus (first | omega | exact mixed1 | kernel_rfl)); (repeat (with_reducible refine And.intro ?_ ?_; focus (first | omega | exact mixed1 | kernel_rfl))); (try simp (disch := omega) only [goRules, coreRules, tiRules, unRules, AS_of_eq, ← decide_not, N0, N1, N2, N3, N4, N5, Z0, Z1, Z2, Z3, Z4, Z5, Z6, Z7, Z8, Z9, Z10, Zc, ↓reduceIte, reduceCtorEq, wrap_i64, q8, and31, and15, andi7]) | skip) <;> skip))))))))))))))))
    all_goals first
      | (exfalso; omega)
      | (unfold pntR; rw [hp, pntd_one k0 k1 k2 k3 (by omega) (by omega)]; rfl)
      | (rw [bad (by rw [hp, pntd_bad k0 k1 k2 k3 (by omega)])])
      | (refine ⟨⟨(2, (s.getD i 0).toNat % 32, 128), .inl ⟨by omega, by omega, rfl⟩⟩, ?_⟩
         rw [hSt]; refine weak_go [] [] ?_
         simp only [goRules, coreRules, tiRules, unRules, AS_of_eq, ← decide_not, N0, N1, N2, N3, N4, N5, Z0, Z1, Z2, Z3, Z4, Z5, Z6, Z7, Z8, Z9, Z10, Zc, ↓reduceIte, reduceCtorEq] <;> ((repeat' apply And.intro) <;> first | rfl | omega | trivial))
      | (refine ⟨⟨(3, (s.getD i 0).toNat % 16, 2048), .inr (.inl ⟨by omega, by omega, rfl⟩)⟩, ?_⟩
         rw [hSt]; refine weak_go [] [] ?_
         simp only [goRules, coreRules, tiRules, unRules, AS_of_eq, ← decide_not, N0, N1, N2, N3, N4, N5, Z0, Z1, Z2, Z3, Z4, Z5, Z6, Z7, Z8, Z9, Z10, Zc, ↓reduceIte, reduceCtorEq] <;> ((repeat' apply And.intro) <;> first | rfl | omega | trivial))
      | (refine ⟨⟨(4, (s.getD i 0).toNat % 8, 65536), .inr (.inr ⟨by omega, by omega, rfl⟩)⟩, ?_⟩
         rw [hSt]; refine weak_go [] [] ?_
         simp only [goRules, coreRules, tiRules, unRules, AS_of_eq, ← decide_not, N0, N1, N2, N3, N4, N5, Z0, Z1, Z2, Z3, Z4, Z5, Z6, Z7, Z8, Z9, Z10, Zc, ↓reduceIte, reduceCtorEq] <;> ((repeat' apply And.intro) <;> first | rfl | omega | trivial))
      | trace_state
  · rintro ⟨⟨n, m, low⟩, hcl⟩
    rw [hSt]
    refine vc_awp hΓ ?_
    simp only
    have hn : 2 ≤ n ∧ n ≤ 4 := by simp only [Prod.mk.injEq] at hcl; omega
    have hm : m < 32 := by simp only [Prod.mk.injEq] at hcl; omega
    simp (disch := omega) only [goRules, coreRules, tiRules, unRules, AS_of_eq, ← decide_not, N0, N1, N2, N3, N4, N5, Z0, Z1, Z2, Z3, Z4, Z5, Z6, Z7, Z8, Z9, Z10, Zc, ↓reduceIte, reduceCtorEq, wrap_i64, wrap_i64]
    (with_reducible first | refine branchP_dec (fun h1 => ?_) (fun h1 => ?_) | refine guardB_dec (fun h1 => ?_) (fun h1 => ?_))
    · simp (disch := omega) only [goRules, coreRules, tiRules, unRules, AS_of_eq, ← decide_not, N0, N1, N2, N3, N4, N5, Z0, Z1, Z2, Z3, Z4, Z5, Z6, Z7, Z8, Z9, Z10, Zc, ↓reduceIte, reduceCtorEq, wrap_i64, h1]
      rw [bad]
      rw [hp]
      simp only [Prod.mk.injEq] at hcl
      rcases hcl with ⟨ha, hb, rfl, rfl, rfl⟩ | ⟨ha, hb, rfl, rfl, rfl⟩ | ⟨ha, hb, rfl, rfl, rfl⟩
      · rw [pntd_two k0 k1 k2 k3 ⟨ha, hb⟩, if_neg (by omega)]
      · rw [pntd_three k0 k1 k2 k3 ⟨ha, hb⟩, if_neg (by omega)]
      · rw [pntd_four k0 k1 k2 k3 ⟨ha, hb⟩, if_neg (by omega)]
    · simp (disch := omega) only [goRules, coreRules, tiRules, unRules, AS_of_eq, ← decide_not, N0, N1, N2, N3, N4, N5, Z0, Z1, Z2, Z3, Z4, Z5, Z6, Z7, Z8, Z9, Z10, Zc, ↓reduceIte, reduceCtorEq, wrap_i64, h1]
      obtain ⟨St2, hSt2⟩ : ∃ St2 : { k : Nat // k + 1 ≤ n ∧ ∀ j, j < k → (s.getD (i + j + 1) 0).toNat / 64 = 2 } → AS, ∀ k, St2 k = AS.of 96 [(0, .v (sv s)), (1, .v (.int .i64 i)), (7, .v (.int .i64 n)), (8, .v (.int .i64 (vv s i m k.1))), (9, .v (.int .i64 low)), (10, .v (.int .i64 (k.1 + 1 : Nat)))] [] [] := ⟨_, fun _ => rfl⟩
      refine vc_loop hΓ St2 (fun k => n - k.1) ⟨0, by omega, by simp⟩ (by rw [hSt2]; refine weak_go [] [] ?_; simp only [goRules, coreRules, tiRules, unRules, AS_of_eq, ← decide_not, N0, N1, N2, N3, N4, N5, Z0, Z1, Z2, Z3, Z4, Z5, Z6, Z7, Z8, Z9, Z10, Zc, ↓reduceIte, reduceCtorEq, vv] <;> ((repeat' apply And.intro) <;> first | rfl | omega | trivial)) ?_
      rintro ⟨k, hk, hj⟩
      rw [hSt2]
      simp only
      have hv := vv_le s i m hm k (by omega)
      have hkb := (s.getD (i + k + 1) 0).toNat_lt
      simp only [goRules, coreRules, tiRules, unRules, AS_of_eq, ← decide_not, N0, N1, N2, N3, N4, N5, Z0, Z1, Z2, Z3, Z4, Z5, Z6, Z7, Z8, Z9, Z10, Zc, ↓reduceIte, reduceCtorEq]
      (with_reducible first | refine branchP_dec (fun h2 => ?_) (fun h2 => ?_) | refine guardB_dec (fun h2 => ?_) (fun h2 => ?_))
      · simp (disch := omega) only [goRules, coreRules, tiRules, unRules, AS_of_eq, ← decide_not, N0, N1, N2, N3, N4, N5, Z0, Z1, Z2, Z3, Z4, Z5, Z6, Z7, Z8, Z9, Z10, Zc, ↓reduceIte, reduceCtorEq, wrap_i64, h2, wrap_i64]
        have e1 : ((i : Int) + ((k + 1 : Nat) : Int)).toNat = i + k + 1 := by omega
        simp (disch := omega) only [goRules, coreRules, tiRules, unRules, AS_of_eq, ← decide_not, N0, N1, N2, N3, N4, N5, Z0, Z1, Z2, Z3, Z4, Z5, Z6, Z7, Z8, Z9, Z10, Zc, ↓reduceIte, reduceCtorEq, wrap_i64, e1]
        refine ⟨by omega, ?_⟩
        have badk : ¬ (s.getD (i + k + 1) 0).toNat / 64 = 2 → pntR s i = .tup [.v (.int .i64 0), .v (.int .i64 0)] := fun hb => by
          refine bad ?_
          rw [hp]
          simp only [Prod.mk.injEq] at hcl
          have hb1 : k = 0 → ¬ (s.getD (i + 1) 0).toNat / 64 = 2 := fun e => by subst e; exact hb
          have hb2 : k = 1 → ¬ (s.getD (i + 2) 0).toNat / 64 = 2 := fun e => by subst e; exact hb
          have hb3 : k = 2 → ¬ (s.getD (i + 3) 0).toNat / 64 = 2 := fun e => by subst e; exact hb
          rcases hcl with ⟨ha, hb, rfl, rfl, rfl⟩ | ⟨ha, hb, rfl, rfl, rfl⟩ | ⟨ha, hb, rfl, rfl, rfl⟩
          · rw [pntd_two k0 k1 k2 k3 ⟨ha, hb⟩, if_neg (by omega)]
          · rw [pntd_three k0 k1 k2 k3 ⟨ha, hb⟩, if_neg (by omega)]
          · rw [pntd_four k0 k1 k2 k3 ⟨ha, hb⟩, if_neg (by omega)]
        (try ((with_reducible first | refine branchP_dec (fun q1 => ?_) (fun q1 => ?_) | refine guardB_dec (fun q1 => ?_) (fun q1 => ?_)) <;> simp (disch := omega) only [goRules, coreRules, tiRules, unRules, AS_of_eq, ← decide_not, N0, N1, N2, N3, N4, N5, Z0, Z1, Z2, Z3, Z4, Z5, Z6, Z7, Z8, Z9, Z10, Zc, ↓reduceIte, reduceCtorEq, wrap_i64, q1, shl6, and63, or6] <;> (with_reducible first | (refine And.intro ?_ ?_; focus (first | omega | exact mixed1 | kernel_rfl)); (repeat (with_reducible refine And.intro ?_ ?_; focus (first | omega | exact mixed1 | kernel_rfl))); (try simp (disch := omega) only [goRules, coreRules, tiRules, unRules, AS_of_eq, ← decide_not, N0, N1, N2, N3, N4, N5, Z0, Z1, Z2, Z3, Z4, Z5, Z6, Z7, Z8, Z9, Z10, Zc, ↓reduceIte, reduceCtorEq, wrap_i64, q1, shl6, and63, or6]) | skip) <;> (try ((with_reducible first | refine branchP_dec (fun q2 => ?_) (fun q2 => ?_) | refine guardB_dec (fun q2 => ?_) (fun q2 => ?_)) <;> simp (disch := omega) only [goRules, coreRules, tiRules, unRules, AS_of_eq, ← decide_not, N0, N1, N2, N3, N4, N5, Z0, Z1, Z2, Z3, Z4, Z5, Z6, Z7, Z8, Z9, Z10, Zc, ↓reduceIte, reduceCtorEq, wrap_i64, q2, shl6, and63, or6] <;> (with_reducible first | (refine And.intro ?_ ?_; focus (first | omega | exact mixed1 | kernel_rfl)); (repeat (with_reducible refine And.intro ?_ ?_; focus (first | omega | exact mixed1 | kernel_rfl))); (try simp (disch := omega) only [goRules, coreRules, tiRules, unRules, AS_of_eq, ← decide_not, N0, N1, N2, N3, N4, N5, Z0, Z1, Z2, Z3, Z4, Z5, Z6, Z7, Z8, Z9, Z10, Zc, ↓reduceIte, reduceCtorEq, wrap_i64, q2, shl6, and63, or6]) | skip) <;> (try ((with_reducible first | refine branchP_dec (fun q3 => ?_) (fun q3 => ?_) | refine guardB_dec (fun q3 => ?_) (fun q3 => ?_)) <;> simp (disch := omega) only [goRules, coreRules, tiRules, unRules, AS_of_eq, ← decide_not, N0, N1, N2, N3, N4, N5, Z0, Z1, Z2, Z3, Z4, Z5, Z6, Z7, Z8, Z9, Z10, Zc, ↓reduceIte, reduceCtorEq, wrap_i64, q3, shl6, and63, or6] <;> (with_reducible first | (refine And.intro ?_ ?_; focus (first | omega | exact mixed1 | kernel_rfl)); (repeat (with_reducible refine And.intro ?_ ?_; focus (first | omega | exact mixed1 | kernel_rfl))); (try simp (disch := omega) only [goRules, coreRules, tiRules, unRules, AS_of_eq, ← decide_not, N0, N1, N2, N3, N4, N5, Z0, Z1, Z2, Z3, Z4, Z5, Z6, Z7, Z8, Z9, Z10, Zc, ↓reduceIte, reduceCtorEq, wrap_i64, q3, shl6, and63, or6]) | skip) <;> skip))))))
        all_goals first
          | (rw [badk (by omega)])
          | (refine weak_again ⟨k + 1, by omega, fun j hj' => ?_⟩ (by simp only; omega) ?_
             · rcases Nat.lt_or_ge j k with h5 | h5
               · exact hj j h5
               · rw [show j = k by omega]; omega
             · rw [hSt2]; refine weak_go [] [] ?_
               simp only [goRules, coreRules, tiRules, unRules, AS_of_eq, ← decide_not, N0, N1, N2, N3, N4, N5, Z0, Z1, Z2, Z3, Z4, Z5, Z6, Z7, Z8, Z9, Z10, Zc, ↓reduceIte, reduceCtorEq, vv] <;> ((repeat' apply And.intro) <;> first | rfl | omega | trivial))
          | trace_state
      · have hkn : k + 1 = n := by omega
        have hv1 : k = 1 → vv s i m k = m * 64 + (s.getD (i + 1) 0).toNat % 64 := fun e => by subst e; rfl
        have hv2 : k = 2 → vv s i m k = (m * 64 + (s.getD (i + 1) 0).toNat % 64) * 64 + (s.getD (i + 2) 0).toNat % 64 := fun e => by subst e; rfl
        have hv3 : k = 3 → vv s i m k = ((m * 64 + (s.getD (i + 1) 0).toNat % 64) * 64 + (s.getD (i + 2) 0).toNat % 64) * 64 + (s.getD (i + 3) 0).toNat % 64 := fun e => by subst e; rfl
        have hj0 := hj 0
        have hj1 := hj 1
        have hj2 := hj 2
        simp only [Nat.add_zero, show i + 1 + 1 = i + 2 from rfl, show i + 2 + 1 = i + 3 from rfl] at hj0 hj1 hj2
        generalize vv s i m k = V at *
        have fin : pntR s i = if V < low ∨ (55296 ≤ V ∧ V < 57344) ∨ V > 1114111 then .tup [.v (.int .i64 0), .v (.int .i64 0)] else .tup [.v (.int .i64 V), .v (.int .i64 n)] := by
          unfold pntR
          rw [hp]
          simp only [Prod.mk.injEq] at hcl
          rcases hcl with ⟨ha, hb, rfl, rfl, rfl⟩ | ⟨ha, hb, rfl, rfl, rfl⟩ | ⟨ha, hb, rfl, rfl, rfl⟩
          · rw [pntd_two k0 k1 k2 k3 ⟨ha, hb⟩, if_pos (by omega), if_neg (by omega), hv1 (by omega)]
          · rw [pntd_three k0 k1 k2 k3 ⟨ha, hb⟩]
            have e : V = (s.getD i 0).toNat % 16 * 4096 + (s.getD (i + 1) 0).toNat % 64 * 64 + (s.getD (i + 2) 0).toNat % 64 := by have := hv2 (by omega); omega
            by_cases hc : V < 2048 ∨ (55296 ≤ V ∧ V < 57344) ∨ V > 1114111
            · rw [if_pos hc, if_neg (by omega)]; rfl
            · rw [if_neg hc, if_pos (by omega), ← e]
          · rw [pntd_four k0 k1 k2 k3 ⟨ha, hb⟩]
            have e : V = (s.getD i 0).toNat % 8 * 262144 + (s.getD (i + 1) 0).toNat % 64 * 4096 + (s.getD (i + 2) 0).toNat % 64 * 64 + (s.getD (i + 3) 0).toNat % 64 := by have := hv3 (by omega); omega
            by_cases hc : V < 65536 ∨ (55296 ≤ V ∧ V < 57344) ∨ V > 1114111
            · rw [if_pos hc, if_neg (by omega)]; rfl
            · rw [if_neg hc, if_pos (by omega), ← e]
        simp (disch := omega) only [goRules, coreRules, tiRules, unRules, AS_of_eq, ← decide_not, N0, N1, N2, N3, N4, N5, Z0, Z1, Z2, Z3, Z4, Z5, Z6, Z7, Z8, Z9, Z10, Zc, ↓reduceIte, reduceCtorEq, wrap_i64, h2]
        (try ((with_reducible first | refine branchP_dec (fun q1 => ?_) (fun q1 => ?_) | refine guardB_dec (fun q1 => ?_) (fun q1 => ?_)) <;> simp (disch := omega) only [goRules, coreRules, tiRules, unRules, AS_of_eq, ← decide_not, N0, N1, N2, N3, N4, N5, Z0, Z1, Z2, Z3, Z4, Z5, Z6, Z7, Z8, Z9, Z10, Zc, ↓reduceIte, reduceCtorEq, wrap_i64, q1] <;> (with_reducible first | (refine And.intro ?_ ?_; focus (first | omega | exact mixed1 | kernel_rfl)); (repeat (with_reducible refine And.intro ?_ ?_; focus (first | omega | exact mixed1 | kernel_rfl))); (try simp (disch := omega) only [goRules, coreRules, tiRules, unRules, AS_of_eq, ← decide_not, N0, N1, N2, N3, N4, N5, Z0, Z1, Z2, Z3, Z4, Z5, Z6, Z7, Z8, Z9, Z10, Zc, ↓reduceIte, reduceCtorEq, wrap_i64, q1]) | skip) <;> (try ((with_reducible first | refine branchP_dec (fun q2 => ?_) (fun q2 => ?_) | refine guardB_dec (fun q2 => ?_) (fun q2 => ?_)) <;> simp (disch := omega) only [goRules, coreRules, tiRules, unRules, AS_of_eq, ← decide_not, N0, N1, N2, N3, N4, N5, Z0, Z1, Z2, Z3, Z4, Z5, Z6, Z7, Z8, Z9, Z10, Zc, ↓reduceIte, reduceCtorEq, wrap_i64, q2] <;> (with_reducible first | (refine And.intro ?_ ?_; focus (first | omega | exact mixed1 | kernel_rfl)); (repeat (with_reducible refine And.intro ?_ ?_; focus (first | omega | exact mixed1 | kernel_rfl))); (try simp (disch := omega) only [goRules, coreRules, tiRules, unRules, AS_of_eq, ← decide_not, N0, N1, N2, N3, N4, N5, Z0, Z1, Z2, Z3, Z4, Z5, Z6, Z7, Z8, Z9, Z10, Zc, ↓reduceIte, reduceCtorEq, wrap_i64, q2]) | skip) <;> (try ((with_reducible first | refine branchP_dec (fun q3 => ?_) (fun q3 => ?_) | refine guardB_dec (fun q3 => ?_) (fun q3 => ?_)) <;> simp (disch := omega) only [goRules, coreRules, tiRules, unRules, AS_of_eq, ← decide_not, N0, N1, N2, N3, N4, N5, Z0, Z1, Z2, Z3, Z4, Z5, Z6, Z7, Z8, Z9, Z10, Zc, ↓reduceIte, reduceCtorEq, wrap_i64, q3] <;> (with_reducible first | (refine And.intro ?_ ?_; focus (first | omega | exact mixed1 | kernel_rfl)); (repeat (with_reducible refine And.intro ?_ ?_; focus (first | omega | exact mixed1 | kernel_rfl))); (try simp (disch := omega) only [goRules, coreRules, tiRules, unRules, AS_of_eq, ← decide_not, N0, N1, N2, N3, N4, N5, Z0, Z1, Z2, Z3, Z4, Z5, Z6, Z7, Z8, Z9, Z10, Zc, ↓reduceIte, reduceCtorEq, wrap_i64, q3]) | skip) <;> (try ((with_reducible first | refine branchP_dec (fun q4 => ?_) (fun q4 => ?_) | refine guardB_dec (fun q4 => ?_) (fun q4 => ?_)) <;> simp (disch := omega) only [goRules, coreRules, tiRules, unRules, AS_of_eq, ← decide_not, N0, N1, N2, N3, N4, N5, Z0, Z1, Z2, Z3, Z4, Z5, Z6, Z7, Z8, Z9, Z10, Zc, ↓reduceIte, reduceCtorEq, wrap_i64, q4] <;> (with_reducible first | (refine And.intro ?_ ?_; focus (first | omega | exact mixed1 | kernel_rfl)); (repeat (with_reducible refine And.intro ?_ ?_; focus (first | omega | exact mixed1 | kernel_rfl))); (try simp (disch := omega) only [goRules, coreRules, tiRules, unRules, AS_of_eq, ← decide_not, N0, N1, N2, N3, N4, N5, Z0, Z1, Z2, Z3, Z4, Z5, Z6, Z7, Z8, Z9, Z10, Zc, ↓reduceIte, reduceCtorEq, wrap_i64, q4]) | skip) <;> (try ((with_reducible first | refine branchP_dec (fun q5 => ?_) (fun q5 => ?_) | refine guardB_dec (fun q5 => ?_) (fun q5 => ?_)) <;> simp (disch := omega) only [goRules, coreRules, tiRules, unRules, AS_of_eq, ← decide_not, N0, N1, N2, N3, N4, N5, Z0, Z1, Z2, Z3, Z4, Z5, Z6, Z7, Z8, Z9, Z10, Zc, ↓reduceIte, reduceCtorEq, wrap_i64, q5] <;> (with_reducible first | (refine And.intro ?_ ?_; focus (first | omega | exact mixed1 | kernel_rfl)); (repeat (with_reducible refine And.intro ?_ ?_; focus (first | omega | exact mixed1 | kernel_rfl))); (try simp (disch := omega) only [goRules, coreRules, tiRules, unRules, AS_of_eq, ← decide_not, N0, N1, N2, N3, N4, N5, Z0, Z1, Z2, Z3, Z4, Z5, Z6, Z7, Z8, Z9, Z10, Zc, ↓reduceIte, reduceCtorEq, wrap_i64, q5]) | skip) <;> skip))))))))))
        all_goals first
          | (rw [fin, if_pos (by omega)])
          | (rw [fin, if_neg (by omega)])
          | trace_state
end Go.Proofs
end
