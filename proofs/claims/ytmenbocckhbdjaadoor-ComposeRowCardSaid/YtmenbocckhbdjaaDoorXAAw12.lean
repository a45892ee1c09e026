/-
  ComposeRow answers true.
-/
import Derived.Test.YtmenbocckhbdjaaDoorXAAw10
set_option linter.unusedSimpArgs false
set_option linter.unusedVariables false
set_option linter.defProp false

-- AAw12
section
namespace Go.Proofs
open Go Go.Rw
set_option maxRecDepth 100000
set_option linter.unusedSimpArgs false
set_option linter.unusedVariables false

/-- Edits done one by one. -/
def runB : List UInt8 → List (List Cp) → Option (List UInt8)
  | s, [] => some s
  | s, a :: r => if errI s a = 0 then runB (doneB s a) r else none
theorem runB_app : ∀ (a b : List (List Cp)) (s : List UInt8), runB s (a ++ b) = (runB s a).bind fun y => runB y b
  | [], b, s => rfl
  | x :: a, b, s => by
    simp only [List.cons_append, runB]
    split
    · exact runB_app a b _
    · rfl
theorem allS_check : ∀ (r : List (List Cp)) (out : List Cp), (allS out r).2 = 0 → checkI (allS out r).1 = 0 → checkI out = 0
  | [], out, _, h => h
  | a :: r, out, h, _ => by
    rw [allS] at h
    by_cases he : twoE out a = 0
    · exact (twoE_zero he).1
    · rw [if_neg he] at h; exact absurd h he
theorem all_do : ∀ (r : List (List Cp)) (out : List Cp) (s x : List UInt8), okL out → (∀ y ∈ r, okL y) → errI s out = 0 → runB (doneB s out) r = some x → (allS out r).2 = 0 → checkI (allS out r).1 = 0 →
    errI s (allS out r).1 = 0 ∧ doneB s (allS out r).1 = x ∧ baseL (allS out r).1 = baseL out
  | [], out, s, x, _, _, h1, h2, _, _ => ⟨h1, Option.some.inj h2, rfl⟩
  | a :: r, out, s, x, ho, hr, h1, h2, h3, h4 => by
    have oa := hr a (by simp)
    rw [allS] at h3 h4 ⊢
    by_cases he : twoE out a = 0
    · rw [if_pos he] at h3 h4 ⊢
      rw [runB] at h2
      by_cases h5 : errI (doneB s out) a = 0
      · rw [if_pos h5] at h2
        obtain ⟨g1, g2⟩ := do_two h1 h5 ho oa (allS_check r _ h3 h4)
        rw [← g2] at h2
        obtain ⟨i1, i2, i3⟩ := all_do r (twoN out a) s x (okL_two he ho oa) (fun y hy => hr y (by simp [hy])) g1 h2 h3 h4
        exact ⟨i1, i2, by rw [i3]; exact (two_facts he ho oa).2.1⟩
      · rw [if_neg h5] at h2; cases h2
    · rw [if_neg he] at h3; exact absurd h3 he
theorem allS_take : ∀ (r : List (List Cp)) (out : List Cp) (k : Nat), (allS out r).2 = 0 → (allS out (r.take k)).2 = 0
  | [], out, k, h => by simpa using h
  | a :: r, out, 0, h => rfl
  | a :: r, out, k + 1, h => by
    simp only [List.take_succ_cons, allS] at h ⊢
    by_cases he : twoE out a = 0
    · rw [if_pos he] at h ⊢
      exact allS_take r _ k h
    · rw [if_neg he] at h; exact absurd h he
theorem keep_do {s : List UInt8} {cs : List Nat} (hp : pts s = some cs) (hl : cs.length ≤ 2000) : errI s (keepL cs.length) = 0 ∧ doneB s (keepL cs.length) = s := by
  obtain ⟨k1, k2, k3, k4⟩ := keep_facts (n := (cs.length : Int)) (by omega)
  have he := err_of k1 hp (by rw [k3])
  refine ⟨he, ?_⟩
  have hs := (check_cases k1).2.2.1
  unfold doneB
  rw [if_pos he, cpts_some hp, do_units _ _ hs, k2, Int.toNat_natCast]
  have h2 := doU_ret cs.length cs []
  rw [List.append_nil] at h2
  rw [h2, (pts_some hp).2]
  simp [doU]
theorem edits_take (l : List (List Cp)) {k : Nat} (h : k ≤ l.length) : partA 0 1 (edits l) 0 k = .sl 0 1 (edits (l.take k)) := by
  unfold partA
  split
  · rename_i h1
    rw [edits_len] at h1
    rw [List.take_of_length_le (by omega)]
  · simp [edits, List.map_take]
theorem edits_drop (l : List (List Cp)) {k : Nat} (h : k ≤ l.length) : partA 0 1 (edits l) k l.length = .sl 0 1 (edits (l.drop k)) := by
  unfold partA
  split
  · rename_i h1
    rw [h1.1, List.drop_zero]
  · simp only [edits, ← List.map_drop]
    rw [List.take_of_length_le (by simp)]
theorem outF_rng : ∀ (l : List Cp) (m : Int), (0 ≤ m ∧ m ≤ 1099511627776) → 0 ≤ outF m l ∧ outF m l ≤ 1099511627776
  | [], m, h => h
  | c :: r, m, h => by
    simp only [outF]
    refine outF_rng r _ ?_
    split
    · exact addI_range h.1 (by omega)
    · split
      · exact addI_range h.1 (by omega)
      · exact h
theorem allS_base : ∀ (r : List (List Cp)) (out : List Cp), okL out → (∀ y ∈ r, okL y) → (allS out r).2 = 0 → baseL (allS out r).1 = baseL out
  | [], out, _, _, _ => rfl
  | a :: r, out, ho, hr, h => by
    have oa := hr a (by simp)
    rw [allS] at h ⊢
    by_cases he : twoE out a = 0
    · rw [if_pos he] at h ⊢
      rw [allS_base r _ (okL_two he ho oa) (fun y hy => hr y (by simp [hy])) h]
      exact (two_facts he ho oa).2.1
    · rw [if_neg he] at h; exact absurd h he
abbrev row9Con : Con where
  ι := StrM × GivenE × Num
  args := fun p => [.v (sv p.1.1), .sl 0 1 (edits p.2.1.1), .v (.int .i64 p.2.2.1)]
  post := fun _ r => r = .v (.bool true)
  plain := true
theorem row9_good : Rw.Good Tryd.prog 9 row9Con := by
  have hΓ : GoodEnv Tryd.prog [(35, trueCon), (26, validCon), (21, rcountCon), (16, weighCon), (22, doCon), (38, allCon), (17, checkCon), (41, roundCon), (34, outCon), (36, twoCon)] := (goodEnv_cons awake9_good (goodEnv_cons rvalid_good (goodEnv_cons rcount_good (goodEnv_cons weigh_good (goodEnv_cons do_good (goodEnv_cons all_good (goodEnv_cons check_good (goodEnv_cons round_good (goodEnv_cons out_good (goodEnv_cons two_good goodEnv_nil))))))))))
  refine good_fn (nn := 168) hΓ Tryd.func9 (by kernel_rfl) rfl (show Tryd.f9.results.toList = [.tmp 6] from rfl) (fun _ => rfl) (fun _ => rfl) ?_
  rintro ⟨⟨s, hs⟩, ⟨l, hl, hcl⟩, ⟨at', hat⟩⟩
  simp only [goRules, coreRules, tiRules, unRules, AS_of_eq, ← decide_not, Nat.reduceAdd, Nat.reduceSub, Nat.reduceMul, Nat.reduceLT, Nat.reduceLeDiff, Nat.reduceEqDiff, Int.reduceNeg, Int.reduceAdd, Int.reduceSub, Int.reduceMul, Int.reduceGT, Int.reduceGE, Int.reduceLT, Int.reduceLE, Int.reduceEq, Int.reduceNe, Int.cast_ofNat_Int, Int.reduceToNat, ↓reduceIte, reduceCtorEq, edits_len]
  by_cases h1 : (s.length : Int) > 300
  · simp only [goRules, coreRules, tiRules, unRules, AS_of_eq, ← decide_not, Nat.reduceAdd, Nat.reduceSub, Nat.reduceMul, Nat.reduceLT, Nat.reduceLeDiff, Nat.reduceEqDiff, Int.reduceNeg, Int.reduceAdd, Int.reduceSub, Int.reduceMul, Int.reduceGT, Int.reduceGE, Int.reduceLT, Int.reduceLE, Int.reduceEq, Int.reduceNe, Int.cast_ofNat_Int, Int.reduceToNat, ↓reduceIte, reduceCtorEq, h1]
    refine call_awake9 (by simp [get_cons]) ?_
    simp only [goRules, coreRules, tiRules, unRules, AS_of_eq, ← decide_not, Nat.reduceAdd, Nat.reduceSub, Nat.reduceMul, Nat.reduceLT, Nat.reduceLeDiff, Nat.reduceEqDiff, Int.reduceNeg, Int.reduceAdd, Int.reduceSub, Int.reduceMul, Int.reduceGT, Int.reduceGE, Int.reduceLT, Int.reduceLE, Int.reduceEq, Int.reduceNe, Int.cast_ofNat_Int, Int.reduceToNat, ↓reduceIte, reduceCtorEq]
  simp only [goRules, coreRules, tiRules, unRules, AS_of_eq, ← decide_not, Nat.reduceAdd, Nat.reduceSub, Nat.reduceMul, Nat.reduceLT, Nat.reduceLeDiff, Nat.reduceEqDiff, Int.reduceNeg, Int.reduceAdd, Int.reduceSub, Int.reduceMul, Int.reduceGT, Int.reduceGE, Int.reduceLT, Int.reduceLE, Int.reduceEq, Int.reduceNe, Int.cast_ofNat_Int, Int.reduceToNat, ↓reduceIte, reduceCtorEq, h1, edits_len]
  by_cases h2 : (l.length : Int) > 8
  · simp only [goRules, coreRules, tiRules, unRules, AS_of_eq, ← decide_not, Nat.reduceAdd, Nat.reduceSub, Nat.reduceMul, Nat.reduceLT, Nat.reduceLeDiff, Nat.reduceEqDiff, Int.reduceNeg, Int.reduceAdd, Int.reduceSub, Int.reduceMul, Int.reduceGT, Int.reduceGE, Int.reduceLT, Int.reduceLE, Int.reduceEq, Int.reduceNe, Int.cast_ofNat_Int, Int.reduceToNat, ↓reduceIte, reduceCtorEq, h2]
    refine call_awake9 (by simp [get_cons]) ?_
    simp only [goRules, coreRules, tiRules, unRules, AS_of_eq, ← decide_not, Nat.reduceAdd, Nat.reduceSub, Nat.reduceMul, Nat.reduceLT, Nat.reduceLeDiff, Nat.reduceEqDiff, Int.reduceNeg, Int.reduceAdd, Int.reduceSub, Int.reduceMul, Int.reduceGT, Int.reduceGE, Int.reduceLT, Int.reduceLE, Int.reduceEq, Int.reduceNe, Int.cast_ofNat_Int, Int.reduceToNat, ↓reduceIte, reduceCtorEq]
  simp only [goRules, coreRules, tiRules, unRules, AS_of_eq, ← decide_not, Nat.reduceAdd, Nat.reduceSub, Nat.reduceMul, Nat.reduceLT, Nat.reduceLeDiff, Nat.reduceEqDiff, Int.reduceNeg, Int.reduceAdd, Int.reduceSub, Int.reduceMul, Int.reduceGT, Int.reduceGE, Int.reduceLT, Int.reduceLE, Int.reduceEq, Int.reduceNe, Int.cast_ofNat_Int, Int.reduceToNat, ↓reduceIte, reduceCtorEq, h2]
  refine call_rvalid (by simp [get_cons]) (by omega) ?_
  rcases opt_cases (pts s) with hp | ⟨cs, hp⟩
  · simp only [goRules, coreRules, tiRules, unRules, AS_of_eq, ← decide_not, Nat.reduceAdd, Nat.reduceSub, Nat.reduceMul, Nat.reduceLT, Nat.reduceLeDiff, Nat.reduceEqDiff, Int.reduceNeg, Int.reduceAdd, Int.reduceSub, Int.reduceMul, Int.reduceGT, Int.reduceGE, Int.reduceLT, Int.reduceLE, Int.reduceEq, Int.reduceNe, Int.cast_ofNat_Int, Int.reduceToNat, ↓reduceIte, reduceCtorEq, hp, Option.isSome]
    refine call_awake9 (by simp [get_cons]) ?_
    simp only [goRules, coreRules, tiRules, unRules, AS_of_eq, ← decide_not, Nat.reduceAdd, Nat.reduceSub, Nat.reduceMul, Nat.reduceLT, Nat.reduceLeDiff, Nat.reduceEqDiff, Int.reduceNeg, Int.reduceAdd, Int.reduceSub, Int.reduceMul, Int.reduceGT, Int.reduceGE, Int.reduceLT, Int.reduceLE, Int.reduceEq, Int.reduceNe, Int.cast_ofNat_Int, Int.reduceToNat, ↓reduceIte, reduceCtorEq]
  simp only [goRules, coreRules, tiRules, unRules, AS_of_eq, ← decide_not, Nat.reduceAdd, Nat.reduceSub, Nat.reduceMul, Nat.reduceLT, Nat.reduceLeDiff, Nat.reduceEqDiff, Int.reduceNeg, Int.reduceAdd, Int.reduceSub, Int.reduceMul, Int.reduceGT, Int.reduceGE, Int.reduceLT, Int.reduceLE, Int.reduceEq, Int.reduceNe, Int.cast_ofNat_Int, Int.reduceToNat, ↓reduceIte, reduceCtorEq, hp, Option.isSome]
  refine call_rcount (by simp [get_cons]) (by omega) ?_
  rw [cnt_pts hp]
  simp only [goRules, coreRules, tiRules, unRules, AS_of_eq, ← decide_not, Nat.reduceAdd, Nat.reduceSub, Nat.reduceMul, Nat.reduceLT, Nat.reduceLeDiff, Nat.reduceEqDiff, Int.reduceNeg, Int.reduceAdd, Int.reduceSub, Int.reduceMul, Int.reduceGT, Int.reduceGE, Int.reduceLT, Int.reduceLE, Int.reduceEq, Int.reduceNe, Int.cast_ofNat_Int, Int.reduceToNat, ↓reduceIte, reduceCtorEq]
  have lcs : cs.length ≤ s.length := by
    have := encs_le cs
    rw [← (pts_some hp).2] at this; exact this
  obtain ⟨St, hSt⟩ : ∃ St : { p : List UInt8 × Nat // p.2 ≤ l.length ∧ (∀ x ∈ l.take p.2, okL x) ∧ p.1.length ≤ 8000 ∧ runB s (l.take p.2) = some p.1 } → AS, ∀ p, St p = AS.of 168 [(0, .v (sv s)), (1, .sl 0 1 (edits l)), (2, .v (.int .i64 at')), (7, .v (.int .i64 cs.length)), (8, .v (sv p.1.1)), (9, .v (.int .i64 p.1.2))] [] [] := ⟨_, fun _ => rfl⟩
  refine vc_loop hΓ St (fun p => l.length - p.1.2) ⟨(s, 0), by simp, by simp, by simp only; omega, rfl⟩ (by rw [hSt]; refine weak_go [] [] ?_; simp only [goRules, coreRules, tiRules, unRules, AS_of_eq, ← decide_not, Nat.reduceAdd, Nat.reduceSub, Nat.reduceMul, Nat.reduceLT, Nat.reduceLeDiff, Nat.reduceEqDiff, Int.reduceNeg, Int.reduceAdd, Int.reduceSub, Int.reduceMul, Int.reduceGT, Int.reduceGE, Int.reduceLT, Int.reduceLE, Int.reduceEq, Int.reduceNe, Int.cast_ofNat_Int, Int.reduceToNat, ↓reduceIte, reduceCtorEq] <;> ((repeat' apply And.intro) <;> first | rfl | omega | trivial)) ?_
  rintro ⟨⟨x, i⟩, hi, hdone, hxl, hrun⟩
  simp only at hi hdone hxl hrun
  rw [hSt]
  simp only
  simp only [goRules, coreRules, tiRules, unRules, AS_of_eq, ← decide_not, Nat.reduceAdd, Nat.reduceSub, Nat.reduceMul, Nat.reduceLT, Nat.reduceLeDiff, Nat.reduceEqDiff, Int.reduceNeg, Int.reduceAdd, Int.reduceSub, Int.reduceMul, Int.reduceGT, Int.reduceGE, Int.reduceLT, Int.reduceLE, Int.reduceEq, Int.reduceNe, Int.cast_ofNat_Int, Int.reduceToNat, ↓reduceIte, reduceCtorEq, edits_len]
  (with_reducible first | refine branchP_dec (fun h => ?_) (fun h => ?_) | refine guardB_dec (fun h => ?_) (fun h => ?_))
  · have hlt : i < l.length := by omega
    have e1 := edits_getD l hlt
    obtain ⟨gx1, gx2⟩ := hcl _ (List.getElem_mem hlt)
    have etk := List.take_succ_eq_append_getElem hlt
    generalize l[i] = a at *
    simp (disch := omega) only [goRules, coreRules, tiRules, unRules, AS_of_eq, ← decide_not, Nat.reduceAdd, Nat.reduceSub, Nat.reduceMul, Nat.reduceLT, Nat.reduceLeDiff, Nat.reduceEqDiff, Int.reduceNeg, Int.reduceAdd, Int.reduceSub, Int.reduceMul, Int.reduceGT, Int.reduceGE, Int.reduceLT, Int.reduceLE, Int.reduceEq, Int.reduceNe, Int.cast_ofNat_Int, Int.reduceToNat, ↓reduceIte, reduceCtorEq, wrap_i64, h, e1, edits_len]
    (repeat (with_reducible refine And.intro ?_ ?_; focus (first | omega | exact mixed1 | kernel_rfl)))
    refine call_weigh (by simp [get_cons]) rfl gx1 (fun c h => (gx2 c h).2) (by omega) ?_
    by_cases h4 : compsF 500 0 a > 500
    · simp only [goRules, coreRules, tiRules, unRules, AS_of_eq, ← decide_not, Nat.reduceAdd, Nat.reduceSub, Nat.reduceMul, Nat.reduceLT, Nat.reduceLeDiff, Nat.reduceEqDiff, Int.reduceNeg, Int.reduceAdd, Int.reduceSub, Int.reduceMul, Int.reduceGT, Int.reduceGE, Int.reduceLT, Int.reduceLE, Int.reduceEq, Int.reduceNe, Int.cast_ofNat_Int, Int.reduceToNat, ↓reduceIte, reduceCtorEq, h4]
      refine call_awake9 (by simp [get_cons]) ?_
      simp only [goRules, coreRules, tiRules, unRules, AS_of_eq, ← decide_not, Nat.reduceAdd, Nat.reduceSub, Nat.reduceMul, Nat.reduceLT, Nat.reduceLeDiff, Nat.reduceEqDiff, Int.reduceNeg, Int.reduceAdd, Int.reduceSub, Int.reduceMul, Int.reduceGT, Int.reduceGE, Int.reduceLT, Int.reduceLE, Int.reduceEq, Int.reduceNe, Int.cast_ofNat_Int, Int.reduceToNat, ↓reduceIte, reduceCtorEq]
    have oa := (weigh_ok (by omega) gx2 (show compsF 500 0 a ≤ 500 by omega)).1
    simp only [goRules, coreRules, tiRules, unRules, AS_of_eq, ← decide_not, Nat.reduceAdd, Nat.reduceSub, Nat.reduceMul, Nat.reduceLT, Nat.reduceLeDiff, Nat.reduceEqDiff, Int.reduceNeg, Int.reduceAdd, Int.reduceSub, Int.reduceMul, Int.reduceGT, Int.reduceGE, Int.reduceLT, Int.reduceLE, Int.reduceEq, Int.reduceNe, Int.cast_ofNat_Int, Int.reduceToNat, ↓reduceIte, reduceCtorEq, h4, e1, edits_len]
    (repeat (with_reducible refine And.intro ?_ ?_; focus (first | omega | exact mixed1 | kernel_rfl)))
    refine call_do (by simp [get_cons]) rfl (by omega) oa ?_
    by_cases h5 : errI x a = 0
    · simp only [goRules, coreRules, tiRules, unRules, AS_of_eq, ← decide_not, Nat.reduceAdd, Nat.reduceSub, Nat.reduceMul, Nat.reduceLT, Nat.reduceLeDiff, Nat.reduceEqDiff, Int.reduceNeg, Int.reduceAdd, Int.reduceSub, Int.reduceMul, Int.reduceGT, Int.reduceGE, Int.reduceLT, Int.reduceLE, Int.reduceEq, Int.reduceNe, Int.cast_ofNat_Int, Int.reduceToNat, ↓reduceIte, reduceCtorEq, doR, res2, h5, wrap_i64 (n := (i : Int) + 1) (by omega) (by omega)]
      refine weak_again ⟨(doneB x a, i + 1), by simp only; omega, fun y hy => ?_, done_small x a, ?_⟩ (by simp only; omega) ?_
      · simp only at hy
        rw [etk] at hy
        rcases List.mem_append.1 hy with hy | hy
        · exact hdone y hy
        · rw [List.mem_singleton.1 hy]; exact oa
      · simp only
        rw [etk, runB_app, hrun]
        simp [runB, h5]
      · rw [hSt]; refine weak_go [] [] ?_
        simp only [goRules, coreRules, tiRules, unRules, AS_of_eq, ← decide_not, Nat.reduceAdd, Nat.reduceSub, Nat.reduceMul, Nat.reduceLT, Nat.reduceLeDiff, Nat.reduceEqDiff, Int.reduceNeg, Int.reduceAdd, Int.reduceSub, Int.reduceMul, Int.reduceGT, Int.reduceGE, Int.reduceLT, Int.reduceLE, Int.reduceEq, Int.reduceNe, Int.cast_ofNat_Int, Int.reduceToNat, ↓reduceIte, reduceCtorEq] <;> ((repeat' apply And.intro) <;> first | rfl | omega | trivial)
    · simp only [goRules, coreRules, tiRules, unRules, AS_of_eq, ← decide_not, Nat.reduceAdd, Nat.reduceSub, Nat.reduceMul, Nat.reduceLT, Nat.reduceLeDiff, Nat.reduceEqDiff, Int.reduceNeg, Int.reduceAdd, Int.reduceSub, Int.reduceMul, Int.reduceGT, Int.reduceGE, Int.reduceLT, Int.reduceLE, Int.reduceEq, Int.reduceNe, Int.cast_ofNat_Int, Int.reduceToNat, ↓reduceIte, reduceCtorEq, doR, res2, h5]
      refine call_awake9 (by simp [get_cons]) ?_
      simp only [goRules, coreRules, tiRules, unRules, AS_of_eq, ← decide_not, Nat.reduceAdd, Nat.reduceSub, Nat.reduceMul, Nat.reduceLT, Nat.reduceLeDiff, Nat.reduceEqDiff, Int.reduceNeg, Int.reduceAdd, Int.reduceSub, Int.reduceMul, Int.reduceGT, Int.reduceGE, Int.reduceLT, Int.reduceLE, Int.reduceEq, Int.reduceNe, Int.cast_ofNat_Int, Int.reduceToNat, ↓reduceIte, reduceCtorEq]
  rw [List.take_of_length_le (by omega)] at hdone hrun
  simp only [goRules, coreRules, tiRules, unRules, AS_of_eq, ← decide_not, Nat.reduceAdd, Nat.reduceSub, Nat.reduceMul, Nat.reduceLT, Nat.reduceLeDiff, Nat.reduceEqDiff, Int.reduceNeg, Int.reduceAdd, Int.reduceSub, Int.reduceMul, Int.reduceGT, Int.reduceGE, Int.reduceLT, Int.reduceLE, Int.reduceEq, Int.reduceNe, Int.cast_ofNat_Int, Int.reduceToNat, ↓reduceIte, reduceCtorEq, h]
  have hn : -9223372036854775808 ≤ ((cs.length : Nat) : Int) ∧ ((cs.length : Nat) : Int) ≤ 9223372036854775807 := by omega
  have hal := all_small l (keepL cs.length) (okL_keep hn) (by have := keep_len (cs.length : Int); omega) hdone
  refine call_all (by simp [get_cons]) (by omega) rfl hn (by omega) hdone ?_
  simp only [goRules, coreRules, tiRules, unRules, AS_of_eq, ← decide_not, Nat.reduceAdd, Nat.reduceSub, Nat.reduceMul, Nat.reduceLT, Nat.reduceLeDiff, Nat.reduceEqDiff, Int.reduceNeg, Int.reduceAdd, Int.reduceSub, Int.reduceMul, Int.reduceGT, Int.reduceGE, Int.reduceLT, Int.reduceLE, Int.reduceEq, Int.reduceNe, Int.cast_ofNat_Int, Int.reduceToNat, ↓reduceIte, reduceCtorEq, res2]
  by_cases h6 : (allS (keepL cs.length) l).2 = 0
  case neg =>
    simp only [goRules, coreRules, tiRules, unRules, AS_of_eq, ← decide_not, Nat.reduceAdd, Nat.reduceSub, Nat.reduceMul, Nat.reduceLT, Nat.reduceLeDiff, Nat.reduceEqDiff, Int.reduceNeg, Int.reduceAdd, Int.reduceSub, Int.reduceMul, Int.reduceGT, Int.reduceGE, Int.reduceLT, Int.reduceLE, Int.reduceEq, Int.reduceNe, Int.cast_ofNat_Int, Int.reduceToNat, ↓reduceIte, reduceCtorEq, h6]
    refine call_awake9 (by simp [get_cons]) ?_
    simp only [goRules, coreRules, tiRules, unRules, AS_of_eq, ← decide_not, Nat.reduceAdd, Nat.reduceSub, Nat.reduceMul, Nat.reduceLT, Nat.reduceLeDiff, Nat.reduceEqDiff, Int.reduceNeg, Int.reduceAdd, Int.reduceSub, Int.reduceMul, Int.reduceGT, Int.reduceGE, Int.reduceLT, Int.reduceLE, Int.reduceEq, Int.reduceNe, Int.cast_ofNat_Int, Int.reduceToNat, ↓reduceIte, reduceCtorEq]
  simp only [goRules, coreRules, tiRules, unRules, AS_of_eq, ← decide_not, Nat.reduceAdd, Nat.reduceSub, Nat.reduceMul, Nat.reduceLT, Nat.reduceLeDiff, Nat.reduceEqDiff, Int.reduceNeg, Int.reduceAdd, Int.reduceSub, Int.reduceMul, Int.reduceGT, Int.reduceGE, Int.reduceLT, Int.reduceLE, Int.reduceEq, Int.reduceNe, Int.cast_ofNat_Int, Int.reduceToNat, ↓reduceIte, reduceCtorEq, h6]
  refine call_check (by simp [get_cons]) rfl hal.2 ?_
  by_cases h7 : checkI (allS (keepL cs.length) l).1 = 0
  case neg =>
    simp only [goRules, coreRules, tiRules, unRules, AS_of_eq, ← decide_not, Nat.reduceAdd, Nat.reduceSub, Nat.reduceMul, Nat.reduceLT, Nat.reduceLeDiff, Nat.reduceEqDiff, Int.reduceNeg, Int.reduceAdd, Int.reduceSub, Int.reduceMul, Int.reduceGT, Int.reduceGE, Int.reduceLT, Int.reduceLE, Int.reduceEq, Int.reduceNe, Int.cast_ofNat_Int, Int.reduceToNat, ↓reduceIte, reduceCtorEq, h7]
    refine call_awake9 (by simp [get_cons]) ?_
    simp only [goRules, coreRules, tiRules, unRules, AS_of_eq, ← decide_not, Nat.reduceAdd, Nat.reduceSub, Nat.reduceMul, Nat.reduceLT, Nat.reduceLeDiff, Nat.reduceEqDiff, Int.reduceNeg, Int.reduceAdd, Int.reduceSub, Int.reduceMul, Int.reduceGT, Int.reduceGE, Int.reduceLT, Int.reduceLE, Int.reduceEq, Int.reduceNe, Int.cast_ofNat_Int, Int.reduceToNat, ↓reduceIte, reduceCtorEq]
  simp only [goRules, coreRules, tiRules, unRules, AS_of_eq, ← decide_not, Nat.reduceAdd, Nat.reduceSub, Nat.reduceMul, Nat.reduceLT, Nat.reduceLeDiff, Nat.reduceEqDiff, Int.reduceNeg, Int.reduceAdd, Int.reduceSub, Int.reduceMul, Int.reduceGT, Int.reduceGE, Int.reduceLT, Int.reduceLE, Int.reduceEq, Int.reduceNe, Int.cast_ofNat_Int, Int.reduceToNat, ↓reduceIte, reduceCtorEq, h7]
  obtain ⟨kd1, kd2⟩ := keep_do hp (by omega)
  obtain ⟨ad1, ad2, ad3⟩ := all_do l (keepL cs.length) s x (okL_keep hn) hdone kd1 (by rw [kd2]; exact hrun) h6 h7
  refine call_do (by simp [get_cons]) rfl (by omega) hal.2 ?_
  simp only [goRules, coreRules, tiRules, unRules, AS_of_eq, ← decide_not, Nat.reduceAdd, Nat.reduceSub, Nat.reduceMul, Nat.reduceLT, Nat.reduceLeDiff, Nat.reduceEqDiff, Int.reduceNeg, Int.reduceAdd, Int.reduceSub, Int.reduceMul, Int.reduceGT, Int.reduceGE, Int.reduceLT, Int.reduceLE, Int.reduceEq, Int.reduceNe, Int.cast_ofNat_Int, Int.reduceToNat, ↓reduceIte, reduceCtorEq, doR, res2, ad1, ad2, edits_len, wrap_i64 (n := (l.length : Int) + 1) (by omega) (by omega)]
  refine call_round (by simp [get_cons]) hat (by omega) ?_
  have hk1 := Int.emod_nonneg at' (show ((l.length : Int) + 1) ≠ 0 by omega)
  have hk2 := Int.emod_lt_of_pos at' (show 0 < (l.length : Int) + 1 by omega)
  obtain ⟨k, hk⟩ := Int.eq_ofNat_of_zero_le hk1
  rw [hk]
  have hkl : k ≤ l.length := by omega
  have hdt : ∀ y ∈ l.take k, okL y := fun y hy => hdone y (List.mem_of_mem_take hy)
  have hdd : ∀ y ∈ l.drop k, okL y := fun y hy => hdone y (List.mem_of_mem_drop hy)
  simp only [goRules, coreRules, tiRules, unRules, AS_of_eq, ← decide_not, Nat.reduceAdd, Nat.reduceSub, Nat.reduceMul, Nat.reduceLT, Nat.reduceLeDiff, Nat.reduceEqDiff, Int.reduceNeg, Int.reduceAdd, Int.reduceSub, Int.reduceMul, Int.reduceGT, Int.reduceGE, Int.reduceLT, Int.reduceLE, Int.reduceEq, Int.reduceNe, Int.cast_ofNat_Int, Int.reduceToNat, ↓reduceIte, reduceCtorEq, edits_len, edits_take l hkl]
  (repeat (with_reducible refine And.intro ?_ ?_; focus (first | omega | exact mixed1 | kernel_rfl)))
  have hal2 := all_small (l.take k) (keepL cs.length) (okL_keep hn) (by have := keep_len (cs.length : Int); omega) hdt
  have hA0 := allS_take l (keepL cs.length) k h6
  have hrk : ∃ x1, runB s (l.take k) = some x1 ∧ runB x1 (l.drop k) = some x := by
    have := hrun
    rw [← List.take_append_drop k l, runB_app] at this
    cases hx1 : runB s (l.take k) with
    | none => rw [hx1] at this; cases this
    | some x1 => rw [hx1] at this; exact ⟨x1, rfl, this⟩
  obtain ⟨x1, hx1, hx2⟩ := hrk
  have hAdo := fun hc => all_do (l.take k) (keepL cs.length) s x1 (okL_keep hn) hdt kd1 (by rw [kd2]; exact hx1) hA0 hc
  refine call_all (by simp [get_cons]) (by omega) rfl hn (by rw [List.length_take]; omega) hdt ?_
  generalize allS (keepL cs.length) (l.take k) = A at *
  obtain ⟨A, eA⟩ := A
  simp only at hA0 hal2 hAdo
  subst hA0
  have hor := outF_rng A 0 (by omega)
  have hor2 : 0 ≤ outL A ∧ outL A ≤ 1099511627776 := hor
  simp only [goRules, coreRules, tiRules, unRules, AS_of_eq, ← decide_not, Nat.reduceAdd, Nat.reduceSub, Nat.reduceMul, Nat.reduceLT, Nat.reduceLeDiff, Nat.reduceEqDiff, Int.reduceNeg, Int.reduceAdd, Int.reduceSub, Int.reduceMul, Int.reduceGT, Int.reduceGE, Int.reduceLT, Int.reduceLE, Int.reduceEq, Int.reduceNe, Int.cast_ofNat_Int, Int.reduceToNat, ↓reduceIte, reduceCtorEq, res2, edits_len, edits_drop l hkl]
  (repeat (with_reducible refine And.intro ?_ ?_; focus (first | omega | exact mixed1 | kernel_rfl)))
  refine call_out (by simp [get_cons]) rfl hal2.2 ?_
  simp only [goRules, coreRules, tiRules, unRules, AS_of_eq, ← decide_not, Nat.reduceAdd, Nat.reduceSub, Nat.reduceMul, Nat.reduceLT, Nat.reduceLeDiff, Nat.reduceEqDiff, Int.reduceNeg, Int.reduceAdd, Int.reduceSub, Int.reduceMul, Int.reduceGT, Int.reduceGE, Int.reduceLT, Int.reduceLE, Int.reduceEq, Int.reduceNe, Int.cast_ofNat_Int, Int.reduceToNat, ↓reduceIte, reduceCtorEq, edits_len, edits_drop l hkl]
  (repeat (with_reducible refine And.intro ?_ ?_; focus (first | omega | exact mixed1 | kernel_rfl)))
  have hal3 := all_small (l.drop k) (keepL (outL A)) (okL_keep (by omega)) (by have := keep_len (outL A); omega) hdd
  have hB0 := allS_base (l.drop k) (keepL (outL A)) (okL_keep (by omega)) hdd
  have hBdo := all_do (l.drop k) (keepL (outL A)) x1 x (okL_keep (by omega)) hdd
  refine call_all (by simp [get_cons]) (by omega) rfl (by omega) (by rw [List.length_drop]; omega) hdd ?_
  generalize allS (keepL (outL A)) (l.drop k) = B at *
  obtain ⟨B, eB⟩ := B
  simp only at hal3 hB0 hBdo
  simp only [goRules, coreRules, tiRules, unRules, AS_of_eq, ← decide_not, Nat.reduceAdd, Nat.reduceSub, Nat.reduceMul, Nat.reduceLT, Nat.reduceLeDiff, Nat.reduceEqDiff, Int.reduceNeg, Int.reduceAdd, Int.reduceSub, Int.reduceMul, Int.reduceGT, Int.reduceGE, Int.reduceLT, Int.reduceLE, Int.reduceEq, Int.reduceNe, Int.cast_ofNat_Int, Int.reduceToNat, ↓reduceIte, reduceCtorEq, res2]
  by_cases h8 : eB = 0
  case neg =>
    simp only [goRules, coreRules, tiRules, unRules, AS_of_eq, ← decide_not, Nat.reduceAdd, Nat.reduceSub, Nat.reduceMul, Nat.reduceLT, Nat.reduceLeDiff, Nat.reduceEqDiff, Int.reduceNeg, Int.reduceAdd, Int.reduceSub, Int.reduceMul, Int.reduceGT, Int.reduceGE, Int.reduceLT, Int.reduceLE, Int.reduceEq, Int.reduceNe, Int.cast_ofNat_Int, Int.reduceToNat, ↓reduceIte, reduceCtorEq, h8]
    refine call_awake9 (by simp [get_cons]) ?_
    simp only [goRules, coreRules, tiRules, unRules, AS_of_eq, ← decide_not, Nat.reduceAdd, Nat.reduceSub, Nat.reduceMul, Nat.reduceLT, Nat.reduceLeDiff, Nat.reduceEqDiff, Int.reduceNeg, Int.reduceAdd, Int.reduceSub, Int.reduceMul, Int.reduceGT, Int.reduceGE, Int.reduceLT, Int.reduceLE, Int.reduceEq, Int.reduceNe, Int.cast_ofNat_Int, Int.reduceToNat, ↓reduceIte, reduceCtorEq]
  subst h8
  simp only [goRules, coreRules, tiRules, unRules, AS_of_eq, ← decide_not, Nat.reduceAdd, Nat.reduceSub, Nat.reduceMul, Nat.reduceLT, Nat.reduceLeDiff, Nat.reduceEqDiff, Int.reduceNeg, Int.reduceAdd, Int.reduceSub, Int.reduceMul, Int.reduceGT, Int.reduceGE, Int.reduceLT, Int.reduceLE, Int.reduceEq, Int.reduceNe, Int.cast_ofNat_Int, Int.reduceToNat, ↓reduceIte, reduceCtorEq]
  refine call_check (by simp [get_cons]) rfl hal2.2 ?_
  by_cases h9 : checkI A = 0
  case neg =>
    simp only [goRules, coreRules, tiRules, unRules, AS_of_eq, ← decide_not, Nat.reduceAdd, Nat.reduceSub, Nat.reduceMul, Nat.reduceLT, Nat.reduceLeDiff, Nat.reduceEqDiff, Int.reduceNeg, Int.reduceAdd, Int.reduceSub, Int.reduceMul, Int.reduceGT, Int.reduceGE, Int.reduceLT, Int.reduceLE, Int.reduceEq, Int.reduceNe, Int.cast_ofNat_Int, Int.reduceToNat, ↓reduceIte, reduceCtorEq, h9]
    refine call_awake9 (by simp [get_cons]) ?_
    simp only [goRules, coreRules, tiRules, unRules, AS_of_eq, ← decide_not, Nat.reduceAdd, Nat.reduceSub, Nat.reduceMul, Nat.reduceLT, Nat.reduceLeDiff, Nat.reduceEqDiff, Int.reduceNeg, Int.reduceAdd, Int.reduceSub, Int.reduceMul, Int.reduceGT, Int.reduceGE, Int.reduceLT, Int.reduceLE, Int.reduceEq, Int.reduceNe, Int.cast_ofNat_Int, Int.reduceToNat, ↓reduceIte, reduceCtorEq]
  simp only [goRules, coreRules, tiRules, unRules, AS_of_eq, ← decide_not, Nat.reduceAdd, Nat.reduceSub, Nat.reduceMul, Nat.reduceLT, Nat.reduceLeDiff, Nat.reduceEqDiff, Int.reduceNeg, Int.reduceAdd, Int.reduceSub, Int.reduceMul, Int.reduceGT, Int.reduceGE, Int.reduceLT, Int.reduceLE, Int.reduceEq, Int.reduceNe, Int.cast_ofNat_Int, Int.reduceToNat, ↓reduceIte, reduceCtorEq, h9]
  refine call_check (by simp [get_cons]) rfl hal3.2 ?_
  by_cases h10 : checkI B = 0
  case neg =>
    simp only [goRules, coreRules, tiRules, unRules, AS_of_eq, ← decide_not, Nat.reduceAdd, Nat.reduceSub, Nat.reduceMul, Nat.reduceLT, Nat.reduceLeDiff, Nat.reduceEqDiff, Int.reduceNeg, Int.reduceAdd, Int.reduceSub, Int.reduceMul, Int.reduceGT, Int.reduceGE, Int.reduceLT, Int.reduceLE, Int.reduceEq, Int.reduceNe, Int.cast_ofNat_Int, Int.reduceToNat, ↓reduceIte, reduceCtorEq, h10]
    refine call_awake9 (by simp [get_cons]) ?_
    simp only [goRules, coreRules, tiRules, unRules, AS_of_eq, ← decide_not, Nat.reduceAdd, Nat.reduceSub, Nat.reduceMul, Nat.reduceLT, Nat.reduceLeDiff, Nat.reduceEqDiff, Int.reduceNeg, Int.reduceAdd, Int.reduceSub, Int.reduceMul, Int.reduceGT, Int.reduceGE, Int.reduceLT, Int.reduceLE, Int.reduceEq, Int.reduceNe, Int.cast_ofNat_Int, Int.reduceToNat, ↓reduceIte, reduceCtorEq]
  obtain ⟨A1, A2, A3⟩ := hAdo h9
  have cA := check_cases h9
  obtain ⟨kf1, kf2, kf3, kf4⟩ := keep_facts (n := outL A) (by omega)
  have hBb : baseL B = outL A := by rw [hB0 rfl, kf3]
  have tt : twoE A B = 0 := by unfold twoE; rw [if_pos h9, if_pos h10, if_pos hBb.symm]
  have ot := okL_two tt hal2.2 hal3.2
  obtain ⟨d1, d2, d3⟩ := done_law A1
  rw [A2] at d1
  have kx := keep_do d1 (by omega)
  rw [show (((doL (cpts s) A).length : Nat) : Int) = outL A from d2] at kx
  obtain ⟨B1, B2, B3⟩ := hBdo kx.1 (by rw [kx.2]; exact hx2) rfl h10
  simp only [goRules, coreRules, tiRules, unRules, AS_of_eq, ← decide_not, Nat.reduceAdd, Nat.reduceSub, Nat.reduceMul, Nat.reduceLT, Nat.reduceLeDiff, Nat.reduceEqDiff, Int.reduceNeg, Int.reduceAdd, Int.reduceSub, Int.reduceMul, Int.reduceGT, Int.reduceGE, Int.reduceLT, Int.reduceLE, Int.reduceEq, Int.reduceNe, Int.cast_ofNat_Int, Int.reduceToNat, ↓reduceIte, reduceCtorEq, h10]
  refine call_two (by simp [get_cons]) rfl rfl hal2.2 hal3.2 ?_
  simp only [goRules, coreRules, tiRules, unRules, AS_of_eq, ← decide_not, Nat.reduceAdd, Nat.reduceSub, Nat.reduceMul, Nat.reduceLT, Nat.reduceLeDiff, Nat.reduceEqDiff, Int.reduceNeg, Int.reduceAdd, Int.reduceSub, Int.reduceMul, Int.reduceGT, Int.reduceGE, Int.reduceLT, Int.reduceLE, Int.reduceEq, Int.reduceNe, Int.cast_ofNat_Int, Int.reduceToNat, ↓reduceIte, reduceCtorEq, two_zero tt, res2]
  refine call_check (by simp [get_cons]) rfl ot ?_
  by_cases h11 : checkI (twoN A B) = 0
  case neg =>
    simp only [goRules, coreRules, tiRules, unRules, AS_of_eq, ← decide_not, Nat.reduceAdd, Nat.reduceSub, Nat.reduceMul, Nat.reduceLT, Nat.reduceLeDiff, Nat.reduceEqDiff, Int.reduceNeg, Int.reduceAdd, Int.reduceSub, Int.reduceMul, Int.reduceGT, Int.reduceGE, Int.reduceLT, Int.reduceLE, Int.reduceEq, Int.reduceNe, Int.cast_ofNat_Int, Int.reduceToNat, ↓reduceIte, reduceCtorEq, h11]
    refine call_awake9 (by simp [get_cons]) ?_
    simp only [goRules, coreRules, tiRules, unRules, AS_of_eq, ← decide_not, Nat.reduceAdd, Nat.reduceSub, Nat.reduceMul, Nat.reduceLT, Nat.reduceLeDiff, Nat.reduceEqDiff, Int.reduceNeg, Int.reduceAdd, Int.reduceSub, Int.reduceMul, Int.reduceGT, Int.reduceGE, Int.reduceLT, Int.reduceLE, Int.reduceEq, Int.reduceNe, Int.cast_ofNat_Int, Int.reduceToNat, ↓reduceIte, reduceCtorEq]
  obtain ⟨z1, z2⟩ := do_two A1 (by rw [A2]; exact B1) hal2.2 hal3.2 h11
  rw [A2, B2] at z2
  simp only [goRules, coreRules, tiRules, unRules, AS_of_eq, ← decide_not, Nat.reduceAdd, Nat.reduceSub, Nat.reduceMul, Nat.reduceLT, Nat.reduceLeDiff, Nat.reduceEqDiff, Int.reduceNeg, Int.reduceAdd, Int.reduceSub, Int.reduceMul, Int.reduceGT, Int.reduceGE, Int.reduceLT, Int.reduceLE, Int.reduceEq, Int.reduceNe, Int.cast_ofNat_Int, Int.reduceToNat, ↓reduceIte, reduceCtorEq, h11]
  refine call_do (by simp [get_cons]) rfl (by omega) ot ?_
  simp only [goRules, coreRules, tiRules, unRules, AS_of_eq, ← decide_not, Nat.reduceAdd, Nat.reduceSub, Nat.reduceMul, Nat.reduceLT, Nat.reduceLeDiff, Nat.reduceEqDiff, Int.reduceNeg, Int.reduceAdd, Int.reduceSub, Int.reduceMul, Int.reduceGT, Int.reduceGE, Int.reduceLT, Int.reduceLE, Int.reduceEq, Int.reduceNe, Int.cast_ofNat_Int, Int.reduceToNat, ↓reduceIte, reduceCtorEq, doR, res2, z1, z2]
  refine call_awake9 (by simp [get_cons]) ?_
  simp only [goRules, coreRules, tiRules, unRules, AS_of_eq, ← decide_not, Nat.reduceAdd, Nat.reduceSub, Nat.reduceMul, Nat.reduceLT, Nat.reduceLeDiff, Nat.reduceEqDiff, Int.reduceNeg, Int.reduceAdd, Int.reduceSub, Int.reduceMul, Int.reduceGT, Int.reduceGE, Int.reduceLT, Int.reduceLE, Int.reduceEq, Int.reduceNe, Int.cast_ofNat_Int, Int.reduceToNat, ↓reduceIte, reduceCtorEq]
end Go.Proofs
end
