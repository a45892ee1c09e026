/-
  ApplyAsks answers true.
-/
import Derived.Test.YtmenbocckhbdjaaDoorXAAp8
set_option linter.unusedSimpArgs false
set_option linter.unusedVariables false
set_option linter.defProp false

-- AAp9
section
namespace Go.Proofs
open Go Go.Rw
set_option maxRecDepth 100000
set_option linter.unusedSimpArgs false
set_option linter.unusedVariables false

theorem err_a : errI [97, 98, 99] [⟨1, 1, []⟩, ⟨3, 1, []⟩, ⟨1, 1, []⟩] = 0 := by decide +kernel
theorem done_a : doneB [97, 98, 99] [⟨1, 1, []⟩, ⟨3, 1, []⟩, ⟨1, 1, []⟩] = [97, 99] := by decide +kernel
theorem err_b : errI [97, 98] [⟨1, 1, []⟩] = 11 := by decide +kernel
theorem done_b : doneB [97, 98] [⟨1, 1, []⟩] = [] := by decide +kernel
theorem diff_a : diffR [97, 98, 99] [97, 120, 99] = res2 (.sl 0 3 (comps [⟨1, 1, []⟩, ⟨2, 0, [120]⟩, ⟨3, 1, []⟩, ⟨1, 1, []⟩])) 0 := by
  unfold diffR
  rw [show pts [97, 98, 99] = some [97, 98, 99] by decide +kernel, show pts [97, 120, 99] = some [97, 120, 99] by decide +kernel]
  simp only
  rw [show pfx [97, 98, 99] [97, 120, 99] = 1 by decide +kernel, show sfx [97, 98, 99] [97, 120, 99] = 1 by decide +kernel, show encs (midL [97, 98, 99] [97, 120, 99]) = [120] by decide +kernel]
  exact of_b
theorem awake8_good : Rw.Good Tryd.prog 19 trueCon := by
  have hΓ : GoodEnv Tryd.prog [(22, doCon), (25, diffCon)] := (goodEnv_cons do_good (goodEnv_cons diff_good goodEnv_nil))
  refine good_fn (nn := 44) hΓ Tryd.func19 (by kernel_rfl) rfl (show Tryd.f19.results.toList = [.tmp 0] from rfl) (fun _ => rfl) (fun _ => rfl) ?_
  intro _
  simp only [goRules, coreRules, tiRules, unRules, AS_of_eq, ← decide_not, Nat.reduceAdd, Nat.reduceSub, Nat.reduceMul, Nat.reduceLT, Nat.reduceLeDiff, Nat.reduceEqDiff, Int.reduceNeg, Int.reduceAdd, Int.reduceSub, Int.reduceMul, Int.reduceGT, Int.reduceGE, Int.reduceLT, Int.reduceLE, Int.reduceEq, Int.reduceNe, Int.cast_ofNat_Int, Int.reduceToNat, ↓reduceIte, reduceCtorEq, List.map_cons, List.map_nil]
  refine call_do (by simp [get_cons]) (l := [⟨1, 1, []⟩, ⟨3, 1, []⟩, ⟨1, 1, []⟩]) rfl (by simp) ⟨by decide, by decide, by simp⟩ ?_
  simp only [goRules, coreRules, tiRules, unRules, AS_of_eq, ← decide_not, Nat.reduceAdd, Nat.reduceSub, Nat.reduceMul, Nat.reduceLT, Nat.reduceLeDiff, Nat.reduceEqDiff, Int.reduceNeg, Int.reduceAdd, Int.reduceSub, Int.reduceMul, Int.reduceGT, Int.reduceGE, Int.reduceLT, Int.reduceLE, Int.reduceEq, Int.reduceNe, Int.cast_ofNat_Int, Int.reduceToNat, ↓reduceIte, reduceCtorEq, doR, err_a, done_a, res2, List.map_cons, List.map_nil]
  refine call_do (by simp [get_cons]) (l := [⟨1, 1, []⟩]) rfl (by simp) ⟨by decide, by decide, by simp⟩ ?_
  simp only [goRules, coreRules, tiRules, unRules, AS_of_eq, ← decide_not, Nat.reduceAdd, Nat.reduceSub, Nat.reduceMul, Nat.reduceLT, Nat.reduceLeDiff, Nat.reduceEqDiff, Int.reduceNeg, Int.reduceAdd, Int.reduceSub, Int.reduceMul, Int.reduceGT, Int.reduceGE, Int.reduceLT, Int.reduceLE, Int.reduceEq, Int.reduceNe, Int.cast_ofNat_Int, Int.reduceToNat, ↓reduceIte, reduceCtorEq, doR, err_b, done_b, res2]
  refine call_diff (by simp [get_cons]) (by simp) (by simp) ?_
  simp only [goRules, coreRules, tiRules, unRules, AS_of_eq, ← decide_not, Nat.reduceAdd, Nat.reduceSub, Nat.reduceMul, Nat.reduceLT, Nat.reduceLeDiff, Nat.reduceEqDiff, Int.reduceNeg, Int.reduceAdd, Int.reduceSub, Int.reduceMul, Int.reduceGT, Int.reduceGE, Int.reduceLT, Int.reduceLE, Int.reduceEq, Int.reduceNe, Int.cast_ofNat_Int, Int.reduceToNat, ↓reduceIte, reduceCtorEq, diff_a, res2, comps_len]
  try (exact ⟨mixed1, by kernel_rfl⟩)
theorem call_awake8 {Γ : Env} (hf : Γ.get 19 = some trueCon) {σ : AS} {dr : Bool} {d : Option Nat} {K : AS → Prop}
    (hk : cont σ d (.v (.bool true)) K) : vcCall Tryd.prog Γ dr σ 19 [] d K :=
  vcCall_plain (C := trueCon) (i := ()) hf rfl rfl rfl rfl (fun _ h => h) rfl hk
abbrev StrM := { l : List UInt8 // l.length ≤ 9223372036854775807 }
abbrev Given := { l : List Cp // l.length ≤ 9223372036854775807 ∧ ∀ c ∈ l, (-9223372036854775808 ≤ c.n ∧ c.n ≤ 9223372036854775807) ∧ c.t.length ≤ 9223372036854775807 }
abbrev asks8Con : Con where
  ι := StrM × Given × StrM
  args := fun p => [.v (sv p.1.1), .sl 0 3 (comps p.2.1.1), .v (sv p.2.2.1)]
  post := fun _ r => r = .v (.bool true)
  plain := true
theorem ofL_len (n a b : Int) (t : List UInt8) : (ofL n a b t).length ≤ 15 := (nfF_ok _ 0 [] 0 (by omega) (by omega)).1
theorem diff_form (a b : List UInt8) : ∃ (l : List Cp) (e : Int), diffR a b = res2 (.sl 0 3 (comps l)) e ∧ l.length ≤ 15 := by
  unfold diffR
  split
  · unfold ofR
    split
    · exact ⟨[], 1, rfl, by simp⟩
    · exact ⟨_, 0, rfl, ofL_len _ _ _ _⟩
  · exact ⟨[], 2, rfl, by simp⟩
theorem undone_len (s : List UInt8) (l : List Cp) : (undone s l).length ≤ 303 := by
  unfold undone
  split
  · rename_i he
    have h1 := (nfF_ok (undoL (cpts s) l) 0 [] 0 (by omega) (by omega)).1
    rw [undo_len] at h1
    have := (check_cases (err_zero he).1).1
    unfold nf
    omega
  · simp
theorem weigh_ok {l : List Cp} {m : Int} (hm : m ≤ 1000000) (hc : ∀ c ∈ l, (-9223372036854775808 ≤ c.n ∧ c.n ≤ 9223372036854775807) ∧ c.t.length ≤ 9223372036854775807) (h : compsF m 0 l ≤ m) : okL l ∧ (tot l : Int) + 2 * l.length ≤ m := by
  have hle := compsF_le (m := m) (by omega) l (s := 0) (by omega) h
  exact ⟨⟨by omega, by omega, fun c hc' => (hc c hc').1⟩, by omega⟩
theorem asks8_good : Rw.Good Tryd.prog 5 asks8Con := by
  have hΓ : GoodEnv Tryd.prog [(19, trueCon), (16, weighCon), (22, doCon), (28, doCon), (29, undoCon), (30, undoCon), (25, diffCon), (31, diffCon), (32, sameCon)] := (goodEnv_cons awake8_good (goodEnv_cons weigh_good (goodEnv_cons do_good (goodEnv_cons rdo_good (goodEnv_cons undo_good (goodEnv_cons rundo_good (goodEnv_cons diff_good (goodEnv_cons rdiff_good (goodEnv_cons rsame_good goodEnv_nil)))))))))
  refine good_fn (nn := 100) hΓ Tryd.func5 (by kernel_rfl) rfl (show Tryd.f5.results.toList = [.tmp 6] from rfl) (fun _ => rfl) (fun _ => rfl) ?_
  rintro ⟨⟨s, hs⟩, ⟨l, hl, hc⟩, ⟨t, ht⟩⟩
  simp only [goRules, coreRules, tiRules, unRules, AS_of_eq, ← decide_not, Nat.reduceAdd, Nat.reduceSub, Nat.reduceMul, Nat.reduceLT, Nat.reduceLeDiff, Nat.reduceEqDiff, Int.reduceNeg, Int.reduceAdd, Int.reduceSub, Int.reduceMul, Int.reduceGT, Int.reduceGE, Int.reduceLT, Int.reduceLE, Int.reduceEq, Int.reduceNe, Int.cast_ofNat_Int, Int.reduceToNat, ↓reduceIte, reduceCtorEq]
  by_cases h1 : (s.length : Int) > 1000
  · simp only [goRules, coreRules, tiRules, unRules, AS_of_eq, ← decide_not, Nat.reduceAdd, Nat.reduceSub, Nat.reduceMul, Nat.reduceLT, Nat.reduceLeDiff, Nat.reduceEqDiff, Int.reduceNeg, Int.reduceAdd, Int.reduceSub, Int.reduceMul, Int.reduceGT, Int.reduceGE, Int.reduceLT, Int.reduceLE, Int.reduceEq, Int.reduceNe, Int.cast_ofNat_Int, Int.reduceToNat, ↓reduceIte, reduceCtorEq, h1]
    refine call_awake8 (by simp [get_cons]) ?_
    simp only [goRules, coreRules, tiRules, unRules, AS_of_eq, ← decide_not, Nat.reduceAdd, Nat.reduceSub, Nat.reduceMul, Nat.reduceLT, Nat.reduceLeDiff, Nat.reduceEqDiff, Int.reduceNeg, Int.reduceAdd, Int.reduceSub, Int.reduceMul, Int.reduceGT, Int.reduceGE, Int.reduceLT, Int.reduceLE, Int.reduceEq, Int.reduceNe, Int.cast_ofNat_Int, Int.reduceToNat, ↓reduceIte, reduceCtorEq]
  by_cases h2 : (t.length : Int) > 1000
  · simp only [goRules, coreRules, tiRules, unRules, AS_of_eq, ← decide_not, Nat.reduceAdd, Nat.reduceSub, Nat.reduceMul, Nat.reduceLT, Nat.reduceLeDiff, Nat.reduceEqDiff, Int.reduceNeg, Int.reduceAdd, Int.reduceSub, Int.reduceMul, Int.reduceGT, Int.reduceGE, Int.reduceLT, Int.reduceLE, Int.reduceEq, Int.reduceNe, Int.cast_ofNat_Int, Int.reduceToNat, ↓reduceIte, reduceCtorEq, h1, h2]
    refine call_awake8 (by simp [get_cons]) ?_
    simp only [goRules, coreRules, tiRules, unRules, AS_of_eq, ← decide_not, Nat.reduceAdd, Nat.reduceSub, Nat.reduceMul, Nat.reduceLT, Nat.reduceLeDiff, Nat.reduceEqDiff, Int.reduceNeg, Int.reduceAdd, Int.reduceSub, Int.reduceMul, Int.reduceGT, Int.reduceGE, Int.reduceLT, Int.reduceLE, Int.reduceEq, Int.reduceNe, Int.cast_ofNat_Int, Int.reduceToNat, ↓reduceIte, reduceCtorEq]
  simp only [goRules, coreRules, tiRules, unRules, AS_of_eq, ← decide_not, Nat.reduceAdd, Nat.reduceSub, Nat.reduceMul, Nat.reduceLT, Nat.reduceLeDiff, Nat.reduceEqDiff, Int.reduceNeg, Int.reduceAdd, Int.reduceSub, Int.reduceMul, Int.reduceGT, Int.reduceGE, Int.reduceLT, Int.reduceLE, Int.reduceEq, Int.reduceNe, Int.cast_ofNat_Int, Int.reduceToNat, ↓reduceIte, reduceCtorEq, h1, h2]
  refine call_weigh (by simp [get_cons]) rfl hl (fun c h => (hc c h).2) (by omega) ?_
  simp only [goRules, coreRules, tiRules, unRules, AS_of_eq, ← decide_not, Nat.reduceAdd, Nat.reduceSub, Nat.reduceMul, Nat.reduceLT, Nat.reduceLeDiff, Nat.reduceEqDiff, Int.reduceNeg, Int.reduceAdd, Int.reduceSub, Int.reduceMul, Int.reduceGT, Int.reduceGE, Int.reduceLT, Int.reduceLE, Int.reduceEq, Int.reduceNe, Int.cast_ofNat_Int, Int.reduceToNat, ↓reduceIte, reduceCtorEq]
  by_cases h3 : compsF 3000 0 l > 3000
  · simp only [goRules, coreRules, tiRules, unRules, AS_of_eq, ← decide_not, Nat.reduceAdd, Nat.reduceSub, Nat.reduceMul, Nat.reduceLT, Nat.reduceLeDiff, Nat.reduceEqDiff, Int.reduceNeg, Int.reduceAdd, Int.reduceSub, Int.reduceMul, Int.reduceGT, Int.reduceGE, Int.reduceLT, Int.reduceLE, Int.reduceEq, Int.reduceNe, Int.cast_ofNat_Int, Int.reduceToNat, ↓reduceIte, reduceCtorEq, h3]
    refine call_awake8 (by simp [get_cons]) ?_
    simp only [goRules, coreRules, tiRules, unRules, AS_of_eq, ← decide_not, Nat.reduceAdd, Nat.reduceSub, Nat.reduceMul, Nat.reduceLT, Nat.reduceLeDiff, Nat.reduceEqDiff, Int.reduceNeg, Int.reduceAdd, Int.reduceSub, Int.reduceMul, Int.reduceGT, Int.reduceGE, Int.reduceLT, Int.reduceLE, Int.reduceEq, Int.reduceNe, Int.cast_ofNat_Int, Int.reduceToNat, ↓reduceIte, reduceCtorEq]
  · obtain ⟨hok, hw⟩ := weigh_ok (by omega) hc (show compsF 3000 0 l ≤ 3000 by omega)
    have hs2 : s.length ≤ 1099511627776 := by omega
    have ht2 : t.length ≤ 1099511627776 := by omega
    have hun := undone_len s l
    obtain ⟨lq, eq, hq, hql⟩ := diff_form s t
    simp only [goRules, coreRules, tiRules, unRules, AS_of_eq, ← decide_not, Nat.reduceAdd, Nat.reduceSub, Nat.reduceMul, Nat.reduceLT, Nat.reduceLeDiff, Nat.reduceEqDiff, Int.reduceNeg, Int.reduceAdd, Int.reduceSub, Int.reduceMul, Int.reduceGT, Int.reduceGE, Int.reduceLT, Int.reduceLE, Int.reduceEq, Int.reduceNe, Int.cast_ofNat_Int, Int.reduceToNat, ↓reduceIte, reduceCtorEq, h3]
    refine call_do (by simp [get_cons]) rfl hs2 hok ?_
    simp only [goRules, coreRules, tiRules, unRules, AS_of_eq, ← decide_not, Nat.reduceAdd, Nat.reduceSub, Nat.reduceMul, Nat.reduceLT, Nat.reduceLeDiff, Nat.reduceEqDiff, Int.reduceNeg, Int.reduceAdd, Int.reduceSub, Int.reduceMul, Int.reduceGT, Int.reduceGE, Int.reduceLT, Int.reduceLE, Int.reduceEq, Int.reduceNe, Int.cast_ofNat_Int, Int.reduceToNat, ↓reduceIte, reduceCtorEq, doR, res2]
    refine call_do (by simp [get_cons]) rfl hs2 hok ?_
    simp only [goRules, coreRules, tiRules, unRules, AS_of_eq, ← decide_not, Nat.reduceAdd, Nat.reduceSub, Nat.reduceMul, Nat.reduceLT, Nat.reduceLeDiff, Nat.reduceEqDiff, Int.reduceNeg, Int.reduceAdd, Int.reduceSub, Int.reduceMul, Int.reduceGT, Int.reduceGE, Int.reduceLT, Int.reduceLE, Int.reduceEq, Int.reduceNe, Int.cast_ofNat_Int, Int.reduceToNat, ↓reduceIte, reduceCtorEq, doR, res2]
    refine call_undo (by simp [get_cons]) rfl hs2 hok (by omega) ?_
    simp only [goRules, coreRules, tiRules, unRules, AS_of_eq, ← decide_not, Nat.reduceAdd, Nat.reduceSub, Nat.reduceMul, Nat.reduceLT, Nat.reduceLeDiff, Nat.reduceEqDiff, Int.reduceNeg, Int.reduceAdd, Int.reduceSub, Int.reduceMul, Int.reduceGT, Int.reduceGE, Int.reduceLT, Int.reduceLE, Int.reduceEq, Int.reduceNe, Int.cast_ofNat_Int, Int.reduceToNat, ↓reduceIte, reduceCtorEq, undoR, res2]
    refine call_undo (by simp [get_cons]) rfl hs2 hok (by omega) ?_
    simp only [goRules, coreRules, tiRules, unRules, AS_of_eq, ← decide_not, Nat.reduceAdd, Nat.reduceSub, Nat.reduceMul, Nat.reduceLT, Nat.reduceLeDiff, Nat.reduceEqDiff, Int.reduceNeg, Int.reduceAdd, Int.reduceSub, Int.reduceMul, Int.reduceGT, Int.reduceGE, Int.reduceLT, Int.reduceLE, Int.reduceEq, Int.reduceNe, Int.cast_ofNat_Int, Int.reduceToNat, ↓reduceIte, reduceCtorEq, undoR, res2]
    refine call_diff (by simp [get_cons]) hs2 ht2 ?_
    simp only [goRules, coreRules, tiRules, unRules, AS_of_eq, ← decide_not, Nat.reduceAdd, Nat.reduceSub, Nat.reduceMul, Nat.reduceLT, Nat.reduceLeDiff, Nat.reduceEqDiff, Int.reduceNeg, Int.reduceAdd, Int.reduceSub, Int.reduceMul, Int.reduceGT, Int.reduceGE, Int.reduceLT, Int.reduceLE, Int.reduceEq, Int.reduceNe, Int.cast_ofNat_Int, Int.reduceToNat, ↓reduceIte, reduceCtorEq, hq, res2]
    refine call_diff (by simp [get_cons]) hs2 ht2 ?_
    simp only [goRules, coreRules, tiRules, unRules, AS_of_eq, ← decide_not, Nat.reduceAdd, Nat.reduceSub, Nat.reduceMul, Nat.reduceLT, Nat.reduceLeDiff, Nat.reduceEqDiff, Int.reduceNeg, Int.reduceAdd, Int.reduceSub, Int.reduceMul, Int.reduceGT, Int.reduceGE, Int.reduceLT, Int.reduceLE, Int.reduceEq, Int.reduceNe, Int.cast_ofNat_Int, Int.reduceToNat, ↓reduceIte, reduceCtorEq, hq, res2]
    try (repeat (with_reducible refine And.intro ?_ ?_; focus (first | omega | exact mixed1 | kernel_rfl)))
    refine call_same (by simp [get_cons]) rfl rfl (by omega) (by omega) ?_
    simp only [goRules, coreRules, tiRules, unRules, AS_of_eq, ← decide_not, Nat.reduceAdd, Nat.reduceSub, Nat.reduceMul, Nat.reduceLT, Nat.reduceLeDiff, Nat.reduceEqDiff, Int.reduceNeg, Int.reduceAdd, Int.reduceSub, Int.reduceMul, Int.reduceGT, Int.reduceGE, Int.reduceLT, Int.reduceLE, Int.reduceEq, Int.reduceNe, Int.cast_ofNat_Int, Int.reduceToNat, ↓reduceIte, reduceCtorEq]
    refine call_same (by simp [get_cons]) rfl rfl (by omega) (by omega) ?_
    simp only [goRules, coreRules, tiRules, unRules, AS_of_eq, ← decide_not, Nat.reduceAdd, Nat.reduceSub, Nat.reduceMul, Nat.reduceLT, Nat.reduceLeDiff, Nat.reduceEqDiff, Int.reduceNeg, Int.reduceAdd, Int.reduceSub, Int.reduceMul, Int.reduceGT, Int.reduceGE, Int.reduceLT, Int.reduceLE, Int.reduceEq, Int.reduceNe, Int.cast_ofNat_Int, Int.reduceToNat, ↓reduceIte, reduceCtorEq]
    refine call_awake8 (by simp [get_cons]) ?_
    simp only [goRules, coreRules, tiRules, unRules, AS_of_eq, ← decide_not, Nat.reduceAdd, Nat.reduceSub, Nat.reduceMul, Nat.reduceLT, Nat.reduceLeDiff, Nat.reduceEqDiff, Int.reduceNeg, Int.reduceAdd, Int.reduceSub, Int.reduceMul, Int.reduceGT, Int.reduceGE, Int.reduceLT, Int.reduceLE, Int.reduceEq, Int.reduceNe, Int.cast_ofNat_Int, Int.reduceToNat, ↓reduceIte, reduceCtorEq]
end Go.Proofs
end
