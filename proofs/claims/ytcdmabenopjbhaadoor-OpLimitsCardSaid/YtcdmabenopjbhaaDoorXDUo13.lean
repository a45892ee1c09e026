/-
  OpLimits answers true.
-/
import Derived.Test.YtcdmabenopjbhaaDoorXDUo12
set_option linter.unusedSimpArgs false
set_option linter.unusedVariables false
set_option linter.defProp false

-- DUo13
section
namespace Go.Proofs
open Go Go.Rw
set_option maxRecDepth 100000
set_option linter.unusedSimpArgs false
set_option linter.unusedVariables false

def altK (i : Nat) : Int := if i % 2 = 1 then 3 else 1
def altF : Nat → Nat → List Cp
  | _, 0 => []
  | i, n + 1 => ⟨altK i, 1, []⟩ :: altF (i + 1) n
theorem altF_len : ∀ (n i : Nat), (altF i n).length = n
  | 0, _ => rfl
  | n + 1, i => by rw [altF, List.length_cons, altF_len n]
theorem altF_snoc : ∀ (n i : Nat), altF i (n + 1) = altF i n ++ [⟨altK (i + n), 1, []⟩]
  | 0, i => rfl
  | n + 1, i => by
    rw [altF, altF_snoc n (i + 1), altF, List.cons_append, show i + 1 + n = i + (n + 1) by omega]
theorem altK_or (i : Nat) : (altK i = 1 ∧ altK (i + 1) = 3) ∨ (altK i = 3 ∧ altK (i + 1) = 1) := by
  unfold altK
  rcases Nat.mod_two_eq_zero_or_one i with h | h
  · exact .inl ⟨by rw [if_neg (by omega)], by rw [if_pos (by omega)]⟩
  · exact .inr ⟨by rw [if_pos h], by rw [if_neg (by omega)]⟩
theorem altF_shape : ∀ (n i : Nat) (q : Int), (q = 0 ∨ q = altK (i + 1)) → shape q (altF i n) = true
  | 0, _, _, _ => rfl
  | n + 1, i, q, h => by
    rw [altF, shape]
    have ih := altF_shape n (i + 1) (altK i) (.inr (by rcases altK_or i with ⟨a, b⟩ | ⟨a, b⟩ <;> rcases altK_or (i + 1) with ⟨c, d⟩ | ⟨c, d⟩ <;> omega))
    rw [ih]
    rcases altK_or i with ⟨a, b⟩ | ⟨a, b⟩
    · rw [b] at h
      rw [a]
      rcases h with rfl | rfl <;> decide
    · rw [b] at h
      rw [a]
      rcases h with rfl | rfl <;> decide
theorem altF_texts : ∀ (n i : Nat), allV (altF i n) = true
  | 0, _ => rfl
  | n + 1, i => by
    rw [altF, allV, List.all_cons]
    have := altF_texts n (i + 1)
    unfold allV at this
    rw [this, pts_nil]; rfl
theorem altF_base : ∀ (n i : Nat) (m : Int), 0 ≤ m → m + n ≤ 1099511627776 → baseF m (altF i n) = m + n
  | 0, _, m, _, _ => by simp [altF, baseF]
  | n + 1, i, m, hm, h => by
    rw [altF, baseF]
    simp only
    rw [if_pos (by rcases altK_or i with ⟨a, _⟩ | ⟨a, _⟩ <;> omega), addI_eq (by omega), altF_base n (i + 1) _ (by omega) (by omega)]
    omega
theorem altF_out : ∀ (n i : Nat) (m : Int), 0 ≤ m → m + n ≤ 1099511627776 → outF m (altF i n) ≤ m + n
  | 0, _, m, _, _ => by simp [altF, outF]
  | n + 1, i, m, hm, h => by
    rw [altF, outF]
    simp only
    split
    · rw [addI_eq (by omega)]
      have := altF_out n (i + 1) (m + max 1 0) (by omega) (by omega)
      omega
    · rw [if_neg (by rcases altK_or i with ⟨a, _⟩ | ⟨a, _⟩ <;> omega)]
      have := altF_out n (i + 1) m (by omega) (by omega)
      omega
theorem altF_tot : ∀ (n i : Nat), tot (altF i n) = 0
  | 0, _ => rfl
  | n + 1, i => by rw [altF, tot, altF_tot n]; rfl
theorem altF_n : ∀ (n i : Nat), ∀ c ∈ altF i n, c.n = 1
  | 0, _, c, h => by cases h
  | n + 1, i, c, h => by
    rw [altF] at h
    rcases List.mem_cons.1 h with rfl | h
    · rfl
    · exact altF_n n (i + 1) c h
theorem altF_ok {n : Nat} (h : n ≤ 110) : okL (altF 0 n) := ⟨by rw [altF_len]; omega, by rw [altF_tot]; omega, fun c hc => by rw [altF_n n 0 c hc]; omega⟩
theorem altF_check {n : Nat} (h : n ≤ 110) : checkI (altF 0 n) = if (n : Int) > 100 then 3 else 0 := by
  split
  · rw [checkI, if_pos (by rw [altF_len]; omega)]
  · have h1 := altF_base n 0 0 (by omega) (by omega)
    have h2 := altF_out n 0 0 (by omega) (by omega)
    exact check_of (by rw [altF_len]; omega) (normal_shape _ none (altF_shape n 0 0 (.inl rfl)) (altF_texts n 0)) (by unfold baseL; omega) (by unfold outL; omega)
def longL (n m : Int) : List Cp := if m > 0 then [⟨2, 0, blk 2 m.toNat⟩, ⟨1, n, []⟩] else [⟨1, n, []⟩]
theorem longL_ok {n m : Int} (hn : 1 ≤ n ∧ n ≤ 2010) (hm : 0 ≤ m ∧ m ≤ 2010) : okL (longL n m) := by
  have hl := blk_len 2 m.toNat
  unfold longL
  split
  · exact ⟨by simp, by simp only [tot, hl, List.length_nil]; omega, by simp; omega⟩
  · exact ⟨by simp, by simp [tot], by simp; omega⟩
theorem longL_check {n m : Int} (hn : 1 ≤ n ∧ n ≤ 2010) (hm : 0 ≤ m ∧ m ≤ 2010) : checkI (longL n m) = if n + m > 2000 then 3 else 0 := by
  have hlc := blk_lc 2 m.toNat
  have hl := blk_len 2 m.toNat
  have hp := blk_pts 2 m.toNat
  have e : (1 ≤ (longL n m).length ∧ (longL n m).length ≤ 2) ∧ normalL (longL n m) = true ∧ baseL (longL n m) = n ∧ outL (longL n m) = n + m := by
    unfold longL
    split
    · have hne : blk 2 m.toNat ≠ [] := by intro h; rw [h] at hl; simp at hl; omega
      refine ⟨by simp, ?_, ?_, ?_⟩
      · simp [normalL, normalF, sound, follows, hne, hp]; omega
      · simp only [baseL, baseF, addI]; simp; omega
      · simp only [outL, outF, addI, hlc]; simp; omega
    · refine ⟨by simp, ?_, ?_, ?_⟩
      · simp [normalL, normalF, sound]; omega
      · simp only [baseL, baseF, addI]; simp; omega
      · simp only [outL, outF, addI]; simp; omega
  obtain ⟨e1, e2, e3, e4⟩ := e
  rw [checkI, if_neg (by omega), if_neg (by rw [e2]; decide), e3, e4]
  by_cases h : n + m > 2000
  · rw [if_pos (.inr h), if_pos h]
  · rw [if_neg (by omega), if_neg h]
def bads : List (List Cp) := [[⟨1, 0, []⟩], [⟨2, 0, []⟩], [⟨3, 1, []⟩, ⟨2, 0, [97]⟩], [⟨1, 1, []⟩, ⟨1, 1, []⟩], [⟨1, 1, [97]⟩], [⟨2, 1, [97]⟩], [⟨2, 0, [255]⟩], [⟨0, 0, []⟩]]
def badA : List AV := bads.map fun l => .sl 0 3 (comps l)
theorem bads_check : ∀ l ∈ bads, checkI l = 1 := by decide +kernel
theorem bads_ok : ∀ l ∈ bads, okL l := by
  intro l hl
  simp only [bads, List.mem_cons, List.not_mem_nil, or_false] at hl
  rcases hl with rfl | rfl | rfl | rfl | rfl | rfl | rfl | rfl <;> exact ⟨by decide, by decide, by simp⟩
abbrev limCon : Con where
  ι := I64 × I64 × I64
  args := fun p => [.v (.int .i64 p.1.1), .v (.int .i64 p.2.1.1), .v (.int .i64 p.2.2.1)]
  post := fun _ r => r = .v (.bool true)
  plain := true
theorem lim_good : Rw.Good Tryd.prog 8 limCon := by
  have hΓ : GoodEnv Tryd.prog [(24, trueCon), (31, blockCon), (28, checkCon)] := (goodEnv_cons awake7_good (goodEnv_cons block_good (goodEnv_cons check_good goodEnv_nil)))
  refine good_fn (nn := 112) hΓ Tryd.func8 (by kernel_rfl) rfl (show Tryd.f8.results.toList = [.tmp 6] from rfl) (fun _ => rfl) (fun _ => rfl) ?_
  rintro ⟨⟨p, hp⟩, ⟨n, hn⟩, ⟨m, hm⟩⟩
  simp only [goRules, coreRules, tiRules, unRules, AS_of_eq, ← decide_not, Nat.reduceAdd, Nat.reduceSub, Nat.reduceMul, Nat.reduceLT, Nat.reduceLeDiff, Nat.reduceEqDiff, Int.reduceNeg, Int.reduceAdd, Int.reduceSub, Int.reduceMul, Int.reduceGT, Int.reduceGE, Int.reduceLT, Int.reduceLE, Int.reduceEq, Int.reduceNe, Int.cast_ofNat_Int, Int.reduceToNat, ↓reduceIte, reduceCtorEq]
  by_cases hg : p < 0 ∨ p > 110 ∨ n < 1 ∨ n > 2010 ∨ m < 0 ∨ m > 2010
  · (try ((with_reducible first | refine branchP_dec (fun q1 => ?_) (fun q1 => ?_) | refine guardB_dec (fun q1 => ?_) (fun q1 => ?_)) <;> simp (disch := omega) only [goRules, coreRules, tiRules, unRules, AS_of_eq, ← decide_not, Nat.reduceAdd, Nat.reduceSub, Nat.reduceMul, Nat.reduceLT, Nat.reduceLeDiff, Nat.reduceEqDiff, Int.reduceNeg, Int.reduceAdd, Int.reduceSub, Int.reduceMul, Int.reduceGT, Int.reduceGE, Int.reduceLT, Int.reduceLE, Int.reduceEq, Int.reduceNe, Int.cast_ofNat_Int, Int.reduceToNat, ↓reduceIte, reduceCtorEq, wrap_i64, q1] <;> (with_reducible first | (refine And.intro ?_ ?_; focus (first | omega | exact mixed1 | kernel_rfl)); (repeat (with_reducible refine And.intro ?_ ?_; focus (first | omega | exact mixed1 | kernel_rfl))); (try simp (disch := omega) only [goRules, coreRules, tiRules, unRules, AS_of_eq, ← decide_not, Nat.reduceAdd, Nat.reduceSub, Nat.reduceMul, Nat.reduceLT, Nat.reduceLeDiff, Nat.reduceEqDiff, Int.reduceNeg, Int.reduceAdd, Int.reduceSub, Int.reduceMul, Int.reduceGT, Int.reduceGE, Int.reduceLT, Int.reduceLE, Int.reduceEq, Int.reduceNe, Int.cast_ofNat_Int, Int.reduceToNat, ↓reduceIte, reduceCtorEq, wrap_i64, q1]) | skip) <;> (try ((with_reducible first | refine branchP_dec (fun q2 => ?_) (fun q2 => ?_) | refine guardB_dec (fun q2 => ?_) (fun q2 => ?_)) <;> simp (disch := omega) only [goRules, coreRules, tiRules, unRules, AS_of_eq, ← decide_not, Nat.reduceAdd, Nat.reduceSub, Nat.reduceMul, Nat.reduceLT, Nat.reduceLeDiff, Nat.reduceEqDiff, Int.reduceNeg, Int.reduceAdd, Int.reduceSub, Int.reduceMul, Int.reduceGT, Int.reduceGE, Int.reduceLT, Int.reduceLE, Int.reduceEq, Int.reduceNe, Int.cast_ofNat_Int, Int.reduceToNat, ↓reduceIte, reduceCtorEq, wrap_i64, q2] <;> (with_reducible first | (refine And.intro ?_ ?_; focus (first | omega | exact mixed1 | kernel_rfl)); (repeat (with_reducible refine And.intro ?_ ?_; focus (first | omega | exact mixed1 | kernel_rfl))); (try simp (disch := omega) only [goRules, coreRules, tiRules, unRules, AS_of_eq, ← decide_not, Nat.reduceAdd, Nat.reduceSub, Nat.reduceMul, Nat.reduceLT, Nat.reduceLeDiff, Nat.reduceEqDiff, Int.reduceNeg, Int.reduceAdd, Int.reduceSub, Int.reduceMul, Int.reduceGT, Int.reduceGE, Int.reduceLT, Int.reduceLE, Int.reduceEq, Int.reduceNe, Int.cast_ofNat_Int, Int.reduceToNat, ↓reduceIte, reduceCtorEq, wrap_i64, q2]) | skip) <;> (try ((with_reducible first | refine branchP_dec (fun q3 => ?_) (fun q3 => ?_) | refine guardB_dec (fun q3 => ?_) (fun q3 => ?_)) <;> simp (disch := omega) only [goRules, coreRules, tiRules, unRules, AS_of_eq, ← decide_not, Nat.reduceAdd, Nat.reduceSub, Nat.reduceMul, Nat.reduceLT, Nat.reduceLeDiff, Nat.reduceEqDiff, Int.reduceNeg, Int.reduceAdd, Int.reduceSub, Int.reduceMul, Int.reduceGT, Int.reduceGE, Int.reduceLT, Int.reduceLE, Int.reduceEq, Int.reduceNe, Int.cast_ofNat_Int, Int.reduceToNat, ↓reduceIte, reduceCtorEq, wrap_i64, q3] <;> (with_reducible first | (refine And.intro ?_ ?_; focus (first | omega | exact mixed1 | kernel_rfl)); (repeat (with_reducible refine And.intro ?_ ?_; focus (first | omega | exact mixed1 | kernel_rfl))); (try simp (disch := omega) only [goRules, coreRules, tiRules, unRules, AS_of_eq, ← decide_not, Nat.reduceAdd, Nat.reduceSub, Nat.reduceMul, Nat.reduceLT, Nat.reduceLeDiff, Nat.reduceEqDiff, Int.reduceNeg, Int.reduceAdd, Int.reduceSub, Int.reduceMul, Int.reduceGT, Int.reduceGE, Int.reduceLT, Int.reduceLE, Int.reduceEq, Int.reduceNe, Int.cast_ofNat_Int, Int.reduceToNat, ↓reduceIte, reduceCtorEq, wrap_i64, q3]) | skip) <;> (try ((with_reducible first | refine branchP_dec (fun q4 => ?_) (fun q4 => ?_) | refine guardB_dec (fun q4 => ?_) (fun q4 => ?_)) <;> simp (disch := omega) only [goRules, coreRules, tiRules, unRules, AS_of_eq, ← decide_not, Nat.reduceAdd, Nat.reduceSub, Nat.reduceMul, Nat.reduceLT, Nat.reduceLeDiff, Nat.reduceEqDiff, Int.reduceNeg, Int.reduceAdd, Int.reduceSub, Int.reduceMul, Int.reduceGT, Int.reduceGE, Int.reduceLT, Int.reduceLE, Int.reduceEq, Int.reduceNe, Int.cast_ofNat_Int, Int.reduceToNat, ↓reduceIte, reduceCtorEq, wrap_i64, q4] <;> (with_reducible first | (refine And.intro ?_ ?_; focus (first | omega | exact mixed1 | kernel_rfl)); (repeat (with_reducible refine And.intro ?_ ?_; focus (first | omega | exact mixed1 | kernel_rfl))); (try simp (disch := omega) only [goRules, coreRules, tiRules, unRules, AS_of_eq, ← decide_not, Nat.reduceAdd, Nat.reduceSub, Nat.reduceMul, Nat.reduceLT, Nat.reduceLeDiff, Nat.reduceEqDiff, Int.reduceNeg, Int.reduceAdd, Int.reduceSub, Int.reduceMul, Int.reduceGT, Int.reduceGE, Int.reduceLT, Int.reduceLE, Int.reduceEq, Int.reduceNe, Int.cast_ofNat_Int, Int.reduceToNat, ↓reduceIte, reduceCtorEq, wrap_i64, q4]) | skip) <;> (try ((with_reducible first | refine branchP_dec (fun q5 => ?_) (fun q5 => ?_) | refine guardB_dec (fun q5 => ?_) (fun q5 => ?_)) <;> simp (disch := omega) only [goRules, coreRules, tiRules, unRules, AS_of_eq, ← decide_not, Nat.reduceAdd, Nat.reduceSub, Nat.reduceMul, Nat.reduceLT, Nat.reduceLeDiff, Nat.reduceEqDiff, Int.reduceNeg, Int.reduceAdd, Int.reduceSub, Int.reduceMul, Int.reduceGT, Int.reduceGE, Int.reduceLT, Int.reduceLE, Int.reduceEq, Int.reduceNe, Int.cast_ofNat_Int, Int.reduceToNat, ↓reduceIte, reduceCtorEq, wrap_i64, q5] <;> (with_reducible first | (refine And.intro ?_ ?_; focus (first | omega | exact mixed1 | kernel_rfl)); (repeat (with_reducible refine And.intro ?_ ?_; focus (first | omega | exact mixed1 | kernel_rfl))); (try simp (disch := omega) only [goRules, coreRules, tiRules, unRules, AS_of_eq, ← decide_not, Nat.reduceAdd, Nat.reduceSub, Nat.reduceMul, Nat.reduceLT, Nat.reduceLeDiff, Nat.reduceEqDiff, Int.reduceNeg, Int.reduceAdd, Int.reduceSub, Int.reduceMul, Int.reduceGT, Int.reduceGE, Int.reduceLT, Int.reduceLE, Int.reduceEq, Int.reduceNe, Int.cast_ofNat_Int, Int.reduceToNat, ↓reduceIte, reduceCtorEq, wrap_i64, q5]) | skip) <;> (try ((with_reducible first | refine branchP_dec (fun q6 => ?_) (fun q6 => ?_) | refine guardB_dec (fun q6 => ?_) (fun q6 => ?_)) <;> simp (disch := omega) only [goRules, coreRules, tiRules, unRules, AS_of_eq, ← decide_not, Nat.reduceAdd, Nat.reduceSub, Nat.reduceMul, Nat.reduceLT, Nat.reduceLeDiff, Nat.reduceEqDiff, Int.reduceNeg, Int.reduceAdd, Int.reduceSub, Int.reduceMul, Int.reduceGT, Int.reduceGE, Int.reduceLT, Int.reduceLE, Int.reduceEq, Int.reduceNe, Int.cast_ofNat_Int, Int.reduceToNat, ↓reduceIte, reduceCtorEq, wrap_i64, q6] <;> (with_reducible first | (refine And.intro ?_ ?_; focus (first | omega | exact mixed1 | kernel_rfl)); (repeat (with_reducible refine And.intro ?_ ?_; focus (first | omega | exact mixed1 | kernel_rfl))); (try simp (disch := omega) only [goRules, coreRules, tiRules, unRules, AS_of_eq, ← decide_not, Nat.reduceAdd, Nat.reduceSub, Nat.reduceMul, Nat.reduceLT, Nat.reduceLeDiff, Nat.reduceEqDiff, Int.reduceNeg, Int.reduceAdd, Int.reduceSub, Int.reduceMul, Int.reduceGT, Int.reduceGE, Int.reduceLT, Int.reduceLE, Int.reduceEq, Int.reduceNe, Int.cast_ofNat_Int, Int.reduceToNat, ↓reduceIte, reduceCtorEq, wrap_i64, q6]) | skip) <;> skip))))))))))))
    all_goals first
      | (refine call_awake7 (by simp [get_cons]) ?_
         simp only [goRules, coreRules, tiRules, unRules, AS_of_eq, ← decide_not, Nat.reduceAdd, Nat.reduceSub, Nat.reduceMul, Nat.reduceLT, Nat.reduceLeDiff, Nat.reduceEqDiff, Int.reduceNeg, Int.reduceAdd, Int.reduceSub, Int.reduceMul, Int.reduceGT, Int.reduceGE, Int.reduceLT, Int.reduceLE, Int.reduceEq, Int.reduceNe, Int.cast_ofNat_Int, Int.reduceToNat, ↓reduceIte, reduceCtorEq]
         done)
      | (exfalso; omega)
  · have g1 : ¬ p < 0 := by omega
    have g2 : ¬ p > 110 := by omega
    have g3 : ¬ n < 1 := by omega
    have g4 : ¬ n > 2010 := by omega
    have g5 : ¬ m < 0 := by omega
    have g6 : ¬ m > 2010 := by omega
    obtain ⟨k, rfl⟩ : ∃ k : Nat, p = k := ⟨p.toNat, by omega⟩
    simp only [goRules, coreRules, tiRules, unRules, AS_of_eq, ← decide_not, Nat.reduceAdd, Nat.reduceSub, Nat.reduceMul, Nat.reduceLT, Nat.reduceLeDiff, Nat.reduceEqDiff, Int.reduceNeg, Int.reduceAdd, Int.reduceSub, Int.reduceMul, Int.reduceGT, Int.reduceGE, Int.reduceLT, Int.reduceLE, Int.reduceEq, Int.reduceNe, Int.cast_ofNat_Int, Int.reduceToNat, ↓reduceIte, reduceCtorEq, g1, g2, g3, g4, g5, g6]
    obtain ⟨St, hSt⟩ : ∃ St : { i : Nat // i ≤ k } → AS, ∀ i, St i = AS.of 112 [(0, .v (.int .i64 k)), (1, .v (.int .i64 n)), (2, .v (.int .i64 m)), (7, .sl 2 3 (comps (altF 0 i.1))), (8, .v (.int .i64 i.1))] [] [(i.1, 57)] := ⟨_, fun _ => rfl⟩
    refine vc_loop hΓ St (fun i => k - i.1) ⟨0, by omega⟩ (by rw [hSt]; refine weak_go [] [.nil 3] ?_; simp only [goRules, coreRules, tiRules, unRules, AS_of_eq, ← decide_not, Nat.reduceAdd, Nat.reduceSub, Nat.reduceMul, Nat.reduceLT, Nat.reduceLeDiff, Nat.reduceEqDiff, Int.reduceNeg, Int.reduceAdd, Int.reduceSub, Int.reduceMul, Int.reduceGT, Int.reduceGE, Int.reduceLT, Int.reduceLE, Int.reduceEq, Int.reduceNe, Int.cast_ofNat_Int, Int.reduceToNat, ↓reduceIte, reduceCtorEq, altF, comps_nil] <;> ((repeat' apply And.intro) <;> first | rfl | omega | trivial)) ?_
    rintro ⟨i, hi⟩
    rw [hSt]
    simp only
    simp only [goRules, coreRules, tiRules, unRules, AS_of_eq, ← decide_not, Nat.reduceAdd, Nat.reduceSub, Nat.reduceMul, Nat.reduceLT, Nat.reduceLeDiff, Nat.reduceEqDiff, Int.reduceNeg, Int.reduceAdd, Int.reduceSub, Int.reduceMul, Int.reduceGT, Int.reduceGE, Int.reduceLT, Int.reduceLE, Int.reduceEq, Int.reduceNe, Int.cast_ofNat_Int, Int.reduceToNat, ↓reduceIte, reduceCtorEq, comps_len]
    (with_reducible first | refine branchP_dec (fun h => ?_) (fun h => ?_) | refine guardB_dec (fun h => ?_) (fun h => ?_))
    · have again : ∀ σ : AS, Weak σ (AS.of 112 [(0, .v (.int .i64 k)), (1, .v (.int .i64 n)), (2, .v (.int .i64 m)), (7, .sl 2 3 (comps (altF 0 i ++ [⟨altK i, 1, []⟩]))), (8, .v (.int .i64 (i + 1 : Nat)))] [] [(i + 1, 57)]) → ∃ y : { i : Nat // i ≤ k }, k - y.1 < k - i ∧ Weak σ (St y) := fun σ hw =>
        ⟨⟨i + 1, by omega⟩, by simp only; omega, by rw [hSt]; simp only; rw [altF_snoc, Nat.zero_add]; exact hw⟩
      have hal := altF_len i 0
      have htm : (i : Int).tmod 2 = (i : Int) % 2 := Int.tmod_eq_emod_of_nonneg (by omega)
      simp (disch := omega) only [goRules, coreRules, tiRules, unRules, AS_of_eq, ← decide_not, Nat.reduceAdd, Nat.reduceSub, Nat.reduceMul, Nat.reduceLT, Nat.reduceLeDiff, Nat.reduceEqDiff, Int.reduceNeg, Int.reduceAdd, Int.reduceSub, Int.reduceMul, Int.reduceGT, Int.reduceGE, Int.reduceLT, Int.reduceLE, Int.reduceEq, Int.reduceNe, Int.cast_ofNat_Int, Int.reduceToNat, ↓reduceIte, reduceCtorEq, wrap_i64, h]
      by_cases hi2 : i % 2 = 1
      · have h3 : (i : Int).tmod 2 = 1 := by omega
        have h4 : altK i = 3 := by rw [altK, if_pos hi2]
        simp (disch := omega) only [goRules, coreRules, tiRules, unRules, AS_of_eq, ← decide_not, Nat.reduceAdd, Nat.reduceSub, Nat.reduceMul, Nat.reduceLT, Nat.reduceLeDiff, Nat.reduceEqDiff, Int.reduceNeg, Int.reduceAdd, Int.reduceSub, Int.reduceMul, Int.reduceGT, Int.reduceGE, Int.reduceLT, Int.reduceLE, Int.reduceEq, Int.reduceNe, Int.cast_ofNat_Int, Int.reduceToNat, ↓reduceIte, reduceCtorEq, wrap_i64, h3, comps_len, comps_snoc, hal, List.map_cons, List.map_nil]
        (repeat (with_reducible refine And.intro ?_ ?_; focus (first | omega | exact mixed1 | kernel_rfl)))
        refine again _ ?_
        rw [h4]
        refine weak_go [] [.live 2] ?_
        simp only [goRules, coreRules, tiRules, unRules, AS_of_eq, ← decide_not, Nat.reduceAdd, Nat.reduceSub, Nat.reduceMul, Nat.reduceLT, Nat.reduceLeDiff, Nat.reduceEqDiff, Int.reduceNeg, Int.reduceAdd, Int.reduceSub, Int.reduceMul, Int.reduceGT, Int.reduceGE, Int.reduceLT, Int.reduceLE, Int.reduceEq, Int.reduceNe, Int.cast_ofNat_Int, Int.reduceToNat, ↓reduceIte, reduceCtorEq] <;> ((repeat' apply And.intro) <;> first | rfl | omega | trivial)
      · have h3 : ¬ (i : Int).tmod 2 = 1 := by omega
        have h4 : altK i = 1 := by rw [altK, if_neg hi2]
        simp (disch := omega) only [goRules, coreRules, tiRules, unRules, AS_of_eq, ← decide_not, Nat.reduceAdd, Nat.reduceSub, Nat.reduceMul, Nat.reduceLT, Nat.reduceLeDiff, Nat.reduceEqDiff, Int.reduceNeg, Int.reduceAdd, Int.reduceSub, Int.reduceMul, Int.reduceGT, Int.reduceGE, Int.reduceLT, Int.reduceLE, Int.reduceEq, Int.reduceNe, Int.cast_ofNat_Int, Int.reduceToNat, ↓reduceIte, reduceCtorEq, wrap_i64, h3, comps_len, comps_snoc, hal, List.map_cons, List.map_nil]
        (repeat (with_reducible refine And.intro ?_ ?_; focus (first | omega | exact mixed1 | kernel_rfl)))
        refine again _ ?_
        rw [h4]
        refine weak_go [] [.live 2] ?_
        simp only [goRules, coreRules, tiRules, unRules, AS_of_eq, ← decide_not, Nat.reduceAdd, Nat.reduceSub, Nat.reduceMul, Nat.reduceLT, Nat.reduceLeDiff, Nat.reduceEqDiff, Int.reduceNeg, Int.reduceAdd, Int.reduceSub, Int.reduceMul, Int.reduceGT, Int.reduceGE, Int.reduceLT, Int.reduceLE, Int.reduceEq, Int.reduceNe, Int.cast_ofNat_Int, Int.reduceToNat, ↓reduceIte, reduceCtorEq] <;> ((repeat' apply And.intro) <;> first | rfl | omega | trivial)
    · have hik : i = k := by omega
      subst hik
      obtain ⟨St2, hSt2⟩ : ∃ St2 : { j : Nat // j ≤ 8 } → AS, ∀ j, St2 j = AS.of 112 [(7, .sl 0 3 (comps (altF 0 i))), (10, .v (.int .i64 (if (i : Int) > 100 then 3 else 0))), (11, .sl 0 3 (comps (longL n m))), (12, .v (.int .i64 (if n + m > 2000 then 3 else 0))), (13, .sl 0 1 badA), (14, .v (.int .i64 j.1))] [] [] := ⟨_, fun _ => rfl⟩
      have wnm : IntKind.i64.wrap (n + m) = n + m := wrap_i64 (by omega) (by omega)
      by_cases h1 : (i : Int) > 100 <;> by_cases h2 : m > 0 <;> by_cases h3 : n + m > 2000
      all_goals
        simp only [goRules, coreRules, tiRules, unRules, AS_of_eq, ← decide_not, Nat.reduceAdd, Nat.reduceSub, Nat.reduceMul, Nat.reduceLT, Nat.reduceLeDiff, Nat.reduceEqDiff, Int.reduceNeg, Int.reduceAdd, Int.reduceSub, Int.reduceMul, Int.reduceGT, Int.reduceGE, Int.reduceLT, Int.reduceLE, Int.reduceEq, Int.reduceNe, Int.cast_ofNat_Int, Int.reduceToNat, ↓reduceIte, reduceCtorEq, h, h1, h2, h3, wnm, List.map_cons, List.map_nil]
        try (refine call_block (by simp [get_cons]) (by omega) (by omega) ?_)
        try simp only [goRules, coreRules, tiRules, unRules, AS_of_eq, ← decide_not, Nat.reduceAdd, Nat.reduceSub, Nat.reduceMul, Nat.reduceLT, Nat.reduceLeDiff, Nat.reduceEqDiff, Int.reduceNeg, Int.reduceAdd, Int.reduceSub, Int.reduceMul, Int.reduceGT, Int.reduceGE, Int.reduceLT, Int.reduceLE, Int.reduceEq, Int.reduceNe, Int.cast_ofNat_Int, Int.reduceToNat, ↓reduceIte, reduceCtorEq, h, h1, h2, h3, wnm, List.map_cons, List.map_nil]
        refine vc_loop hΓ St2 (fun j => 8 - j.1) ⟨0, by omega⟩ (by rw [hSt2]; refine weak_go [] [] ?_; simp only [goRules, coreRules, tiRules, unRules, AS_of_eq, ← decide_not, Nat.reduceAdd, Nat.reduceSub, Nat.reduceMul, Nat.reduceLT, Nat.reduceLeDiff, Nat.reduceEqDiff, Int.reduceNeg, Int.reduceAdd, Int.reduceSub, Int.reduceMul, Int.reduceGT, Int.reduceGE, Int.reduceLT, Int.reduceLE, Int.reduceEq, Int.reduceNe, Int.cast_ofNat_Int, Int.reduceToNat, ↓reduceIte, reduceCtorEq, longL, h1, h2, h3] <;> ((repeat' apply And.intro) <;> first | rfl | omega | trivial)) ?_
        rintro ⟨j, hj⟩
        rw [hSt2]
        simp only
        have hbl : badA.length = 8 := rfl
        simp only [goRules, coreRules, tiRules, unRules, AS_of_eq, ← decide_not, Nat.reduceAdd, Nat.reduceSub, Nat.reduceMul, Nat.reduceLT, Nat.reduceLeDiff, Nat.reduceEqDiff, Int.reduceNeg, Int.reduceAdd, Int.reduceSub, Int.reduceMul, Int.reduceGT, Int.reduceGE, Int.reduceLT, Int.reduceLE, Int.reduceEq, Int.reduceNe, Int.cast_ofNat_Int, Int.reduceToNat, ↓reduceIte, reduceCtorEq, hbl]
        by_cases h4 : (j : Int) < 8
        · have h5 : j < bads.length := by show j < 8; omega
          have e1 : badA.getD j .any = .sl 0 3 (comps bads[j]) := by
            unfold badA
            simp [List.getD_eq_getElem?_getD, h5]
          simp (disch := omega) only [goRules, coreRules, tiRules, unRules, AS_of_eq, ← decide_not, Nat.reduceAdd, Nat.reduceSub, Nat.reduceMul, Nat.reduceLT, Nat.reduceLeDiff, Nat.reduceEqDiff, Int.reduceNeg, Int.reduceAdd, Int.reduceSub, Int.reduceMul, Int.reduceGT, Int.reduceGE, Int.reduceLT, Int.reduceLE, Int.reduceEq, Int.reduceNe, Int.cast_ofNat_Int, Int.reduceToNat, ↓reduceIte, reduceCtorEq, wrap_i64, h4, e1, hbl]
          (repeat (with_reducible refine And.intro ?_ ?_; focus (first | omega | exact mixed1 | kernel_rfl)))
          refine call_check (by simp [get_cons]) rfl (bads_ok _ (List.getElem_mem h5)) ?_
          simp (disch := omega) only [goRules, coreRules, tiRules, unRules, AS_of_eq, ← decide_not, Nat.reduceAdd, Nat.reduceSub, Nat.reduceMul, Nat.reduceLT, Nat.reduceLeDiff, Nat.reduceEqDiff, Int.reduceNeg, Int.reduceAdd, Int.reduceSub, Int.reduceMul, Int.reduceGT, Int.reduceGE, Int.reduceLT, Int.reduceLE, Int.reduceEq, Int.reduceNe, Int.cast_ofNat_Int, Int.reduceToNat, ↓reduceIte, reduceCtorEq, wrap_i64, bads_check _ (List.getElem_mem h5)]
          refine weak_again ⟨j + 1, by omega⟩ (by simp only; omega) ?_
          rw [hSt2]; refine weak_go [] [] ?_
          simp only [goRules, coreRules, tiRules, unRules, AS_of_eq, ← decide_not, Nat.reduceAdd, Nat.reduceSub, Nat.reduceMul, Nat.reduceLT, Nat.reduceLeDiff, Nat.reduceEqDiff, Int.reduceNeg, Int.reduceAdd, Int.reduceSub, Int.reduceMul, Int.reduceGT, Int.reduceGE, Int.reduceLT, Int.reduceLE, Int.reduceEq, Int.reduceNe, Int.cast_ofNat_Int, Int.reduceToNat, ↓reduceIte, reduceCtorEq] <;> ((repeat' apply And.intro) <;> first | rfl | omega | trivial)
        · simp only [goRules, coreRules, tiRules, unRules, AS_of_eq, ← decide_not, Nat.reduceAdd, Nat.reduceSub, Nat.reduceMul, Nat.reduceLT, Nat.reduceLeDiff, Nat.reduceEqDiff, Int.reduceNeg, Int.reduceAdd, Int.reduceSub, Int.reduceMul, Int.reduceGT, Int.reduceGE, Int.reduceLT, Int.reduceLE, Int.reduceEq, Int.reduceNe, Int.cast_ofNat_Int, Int.reduceToNat, ↓reduceIte, reduceCtorEq, h4]
          refine call_check (by simp [get_cons]) rfl (altF_ok (by omega)) ?_
          simp only [goRules, coreRules, tiRules, unRules, AS_of_eq, ← decide_not, Nat.reduceAdd, Nat.reduceSub, Nat.reduceMul, Nat.reduceLT, Nat.reduceLeDiff, Nat.reduceEqDiff, Int.reduceNeg, Int.reduceAdd, Int.reduceSub, Int.reduceMul, Int.reduceGT, Int.reduceGE, Int.reduceLT, Int.reduceLE, Int.reduceEq, Int.reduceNe, Int.cast_ofNat_Int, Int.reduceToNat, ↓reduceIte, reduceCtorEq, altF_check (show i ≤ 110 by omega)]
          refine call_check (by simp [get_cons]) rfl (longL_ok (by omega) (by omega)) ?_
          simp only [goRules, coreRules, tiRules, unRules, AS_of_eq, ← decide_not, Nat.reduceAdd, Nat.reduceSub, Nat.reduceMul, Nat.reduceLT, Nat.reduceLeDiff, Nat.reduceEqDiff, Int.reduceNeg, Int.reduceAdd, Int.reduceSub, Int.reduceMul, Int.reduceGT, Int.reduceGE, Int.reduceLT, Int.reduceLE, Int.reduceEq, Int.reduceNe, Int.cast_ofNat_Int, Int.reduceToNat, ↓reduceIte, reduceCtorEq, longL_check (n := n) (m := m) (by omega) (by omega)]
          refine call_awake7 (by simp [get_cons]) ?_
          simp only [goRules, coreRules, tiRules, unRules, AS_of_eq, ← decide_not, Nat.reduceAdd, Nat.reduceSub, Nat.reduceMul, Nat.reduceLT, Nat.reduceLeDiff, Nat.reduceEqDiff, Int.reduceNeg, Int.reduceAdd, Int.reduceSub, Int.reduceMul, Int.reduceGT, Int.reduceGE, Int.reduceLT, Int.reduceLE, Int.reduceEq, Int.reduceNe, Int.cast_ofNat_Int, Int.reduceToNat, ↓reduceIte, reduceCtorEq]
end Go.Proofs
end
