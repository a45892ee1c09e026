/-
  ApplyDiffs answers true.
-/
import Derived.Test.YtmenbocckhbdjaaDoorXAAp14
set_option linter.unusedSimpArgs false
set_option linter.unusedVariables false
set_option linter.defProp false

-- AAp15
section
namespace Go.Proofs
open Go Go.Rw
set_option maxRecDepth 100000
set_option linter.unusedSimpArgs false
set_option linter.unusedVariables false

theorem diffs_kept {hd a b tl : List UInt8} {x y hc tc : List Nat} (hx : pts (hd ++ a ++ tl) = some x) (hy : pts (hd ++ b ++ tl) = some y) (hh : pts hd = some hc) (ht : pts tl = some tc) (hl : (hd ++ a ++ tl).length ≤ 1099511627776) : (hc.length : Int) + tc.length ≤ kp (diffL x y) := by
  obtain ⟨oh, rfl⟩ := pts_some hh
  obtain ⟨ot, rfl⟩ := pts_some ht
  have lx : x.length ≤ 1099511627776 := by
    obtain ⟨ox, ex⟩ := pts_some hx
    have := encs_le x
    rw [← ex] at this; omega
  rw [kp_diff lx]
  rw [List.append_assoc] at hx hy
  obtain ⟨rx, rfl, e1⟩ := pts_head hc _ x oh hx
  obtain ⟨ry, rfl, e2⟩ := pts_head hc _ y oh hy
  obtain ⟨o1, e3⟩ := pts_some e1
  obtain ⟨o2, e4⟩ := pts_some e2
  obtain ⟨ac, rfl, rfl, _⟩ := pts_tail rx a tc o1 ot e3
  obtain ⟨bc, rfl, rfl, _⟩ := pts_tail ry b tc o2 ot e4
  have := kept_ge hc ac bc tc
  omega
theorem kp_le {l : List Cp} {i : Nat} : kp (l.take i) ≤ kp l := by
  have h1 := kp_app (l.take i) (l.drop i)
  have h2 := kp_pos (l.drop i)
  rw [List.take_append_drop] at h1
  omega
theorem kp_next {l : List Cp} {i : Nat} (h : i < l.length) (hs : ∀ c ∈ l, sound c = true) : kp (l.take (i + 1)) = if l[i].k = 1 then kp (l.take i) + l[i].n else kp (l.take i) := by
  have hc := hs _ (List.getElem_mem h)
  rw [List.take_succ_eq_append_getElem h, kp_app]
  generalize l[i] = c at *
  simp only [kp]
  split
  · rename_i h1
    rw [sound, if_neg (by omega), if_pos (.inl h1)] at hc
    simp at hc
    omega
  · omega
abbrev Sm1 := { p : Int × List Int // (0 ≤ p.1 ∧ p.1 ≤ 9223372036854775807) ∧ (∀ y ∈ p.2, 0 ≤ y ∧ y ≤ 9223372036854775807) ∧ p.2.length ≤ 9223372036854775807 ∧ p.2 ≠ [] }
abbrev sum1Con : Con where
  ι := Sm1
  args := fun p => [.v (.int .i64 p.1.1), .sl 0 1 (ints .i64 p.1.2)]
  post := fun p r => r = .v (.int .i64 (sumF (min p.1.1 1099511627776) p.1.2))
  plain := true
theorem sum1_good : Rw.Good Tryd.prog 24 sum1Con := by
  have hΓ : GoodEnv Tryd.prog [] := goodEnv_nil
  refine good_fn (nn := 30) hΓ Tryd.func24 (by kernel_rfl) rfl (show Tryd.f24.results.toList = [.tmp 4] from rfl) (fun _ => rfl) (fun _ => rfl) ?_
  rintro ⟨⟨x, ys⟩, hx, hy, hl, hne⟩
  simp only at hx hy hl hne
  simp only [goRules, coreRules, tiRules, unRules, AS_of_eq, ← decide_not, Nat.reduceAdd, Nat.reduceSub, Nat.reduceMul, Nat.reduceLT, Nat.reduceLeDiff, Nat.reduceEqDiff, Int.reduceNeg, Int.reduceAdd, Int.reduceSub, Int.reduceMul, Int.reduceGT, Int.reduceGE, Int.reduceLT, Int.reduceLE, Int.reduceEq, Int.reduceNe, Int.cast_ofNat_Int, Int.reduceToNat, ↓reduceIte, reduceCtorEq, ints_length]
  obtain ⟨St, hSt⟩ : ∃ St : { p : Int × Nat // p.2 ≤ ys.length ∧ (0 ≤ p.1 ∧ p.1 ≤ 9223372036854775807 ∧ (1099511627776 < p.1 → p.2 = 0 ∧ p.1 = x)) ∧ sumF (min x 1099511627776) ys = sumF (min p.1 1099511627776) (ys.drop p.2) } → AS, ∀ p, St p = AS.of 30 [(0, .v (.int .i64 p.1.1)), (1, .sl 0 1 (ints .i64 ys)), (5, .v (.int .i64 p.1.2))] [] [] := ⟨_, fun _ => rfl⟩
  refine vc_loop hΓ St (fun p => ys.length - p.1.2) ⟨(x, 0), by omega, ⟨hx.1, hx.2, fun _ => ⟨rfl, rfl⟩⟩, rfl⟩ (by rw [hSt]; refine weak_go [] [] ?_; simp only [goRules, coreRules, tiRules, unRules, AS_of_eq, ← decide_not, Nat.reduceAdd, Nat.reduceSub, Nat.reduceMul, Nat.reduceLT, Nat.reduceLeDiff, Nat.reduceEqDiff, Int.reduceNeg, Int.reduceAdd, Int.reduceSub, Int.reduceMul, Int.reduceGT, Int.reduceGE, Int.reduceLT, Int.reduceLE, Int.reduceEq, Int.reduceNe, Int.cast_ofNat_Int, Int.reduceToNat, ↓reduceIte, reduceCtorEq] <;> ((repeat' apply And.intro) <;> first | rfl | omega | trivial)) ?_
  rintro ⟨⟨s, i⟩, hi, ⟨hs, hs9, hs0⟩, hb⟩
  simp only at hi hs hs9 hs0 hb
  rw [hSt]
  simp only
  simp only [goRules, coreRules, tiRules, unRules, AS_of_eq, ← decide_not, Nat.reduceAdd, Nat.reduceSub, Nat.reduceMul, Nat.reduceLT, Nat.reduceLeDiff, Nat.reduceEqDiff, Int.reduceNeg, Int.reduceAdd, Int.reduceSub, Int.reduceMul, Int.reduceGT, Int.reduceGE, Int.reduceLT, Int.reduceLE, Int.reduceEq, Int.reduceNe, Int.cast_ofNat_Int, Int.reduceToNat, ↓reduceIte, reduceCtorEq, ints_length]
  (with_reducible first | refine branchP_dec (fun h => ?_) (fun h => ?_) | refine guardB_dec (fun h => ?_) (fun h => ?_))
  · have hlt : i < ys.length := by omega
    have hyi := hy ys[i] (List.getElem_mem hlt)
    have hge : ∀ y ∈ ys.drop i, 0 ≤ y := fun y hm => (hy y (List.mem_of_mem_drop hm)).1
    rw [List.drop_eq_getElem_cons hlt] at hb hge
    have e1 : (ints .i64 ys).getD i .any = .v (.int .i64 ys[i]) := by simp [ints, List.getD_eq_getElem?_getD, hlt]
    have early : s > 1099511627776 ∨ ys[i] > 1099511627776 - s → sumF (min x 1099511627776) ys = 1099511627776 := fun h => by
      rw [hb]
      show sumF (addI (min s 1099511627776) ys[i]) _ = _
      rw [show addI (min s 1099511627776) ys[i] = 1099511627776 by unfold addI; omega, sumF_top _ fun z hz => hge z (List.mem_cons_of_mem _ hz)]
    generalize ys[i] = y at *
    by_cases hs2 : s > 1099511627776
    · simp (disch := omega) only [goRules, coreRules, tiRules, unRules, AS_of_eq, ← decide_not, Nat.reduceAdd, Nat.reduceSub, Nat.reduceMul, Nat.reduceLT, Nat.reduceLeDiff, Nat.reduceEqDiff, Int.reduceNeg, Int.reduceAdd, Int.reduceSub, Int.reduceMul, Int.reduceGT, Int.reduceGE, Int.reduceLT, Int.reduceLE, Int.reduceEq, Int.reduceNe, Int.cast_ofNat_Int, Int.reduceToNat, ↓reduceIte, reduceCtorEq, wrap_i64, h, hs2, e1, ints_length]
      rw [early (.inl hs2)]
    simp (disch := omega) only [goRules, coreRules, tiRules, unRules, AS_of_eq, ← decide_not, Nat.reduceAdd, Nat.reduceSub, Nat.reduceMul, Nat.reduceLT, Nat.reduceLeDiff, Nat.reduceEqDiff, Int.reduceNeg, Int.reduceAdd, Int.reduceSub, Int.reduceMul, Int.reduceGT, Int.reduceGE, Int.reduceLT, Int.reduceLE, Int.reduceEq, Int.reduceNe, Int.cast_ofNat_Int, Int.reduceToNat, ↓reduceIte, reduceCtorEq, wrap_i64, h, hs2, e1, ints_length]
    (repeat (with_reducible refine And.intro ?_ ?_; focus (first | omega | exact mixed1 | kernel_rfl)))
    (with_reducible first | refine branchP_dec (fun h2 => ?_) (fun h2 => ?_) | refine guardB_dec (fun h2 => ?_) (fun h2 => ?_))
    · simp (disch := omega) only [goRules, coreRules, tiRules, unRules, AS_of_eq, ← decide_not, Nat.reduceAdd, Nat.reduceSub, Nat.reduceMul, Nat.reduceLT, Nat.reduceLeDiff, Nat.reduceEqDiff, Int.reduceNeg, Int.reduceAdd, Int.reduceSub, Int.reduceMul, Int.reduceGT, Int.reduceGE, Int.reduceLT, Int.reduceLE, Int.reduceEq, Int.reduceNe, Int.cast_ofNat_Int, Int.reduceToNat, ↓reduceIte, reduceCtorEq, wrap_i64, h2, e1, ints_length]
      rw [early (.inr h2)]
    · simp (disch := omega) only [goRules, coreRules, tiRules, unRules, AS_of_eq, ← decide_not, Nat.reduceAdd, Nat.reduceSub, Nat.reduceMul, Nat.reduceLT, Nat.reduceLeDiff, Nat.reduceEqDiff, Int.reduceNeg, Int.reduceAdd, Int.reduceSub, Int.reduceMul, Int.reduceGT, Int.reduceGE, Int.reduceLT, Int.reduceLE, Int.reduceEq, Int.reduceNe, Int.cast_ofNat_Int, Int.reduceToNat, ↓reduceIte, reduceCtorEq, wrap_i64, h2, e1, ints_length]
      (repeat (with_reducible refine And.intro ?_ ?_; focus (first | omega | exact mixed1 | kernel_rfl)))
      have hr : addI s y = s + y := addI_eq (by omega)
      refine weak_again ⟨(s + y, i + 1), by simp only; omega, by simp only; omega, by rw [hb, show min s 1099511627776 = s by omega, show min (s + y) 1099511627776 = s + y by omega, ← hr]; rfl⟩ (by simp only; omega) ?_
      rw [hSt]; refine weak_go [] [] ?_
      simp only [goRules, coreRules, tiRules, unRules, AS_of_eq, ← decide_not, Nat.reduceAdd, Nat.reduceSub, Nat.reduceMul, Nat.reduceLT, Nat.reduceLeDiff, Nat.reduceEqDiff, Int.reduceNeg, Int.reduceAdd, Int.reduceSub, Int.reduceMul, Int.reduceGT, Int.reduceGE, Int.reduceLT, Int.reduceLE, Int.reduceEq, Int.reduceNe, Int.cast_ofNat_Int, Int.reduceToNat, ↓reduceIte, reduceCtorEq] <;> ((repeat' apply And.intro) <;> first | rfl | omega | trivial)
  · simp only [goRules, coreRules, tiRules, unRules, AS_of_eq, ← decide_not, Nat.reduceAdd, Nat.reduceSub, Nat.reduceMul, Nat.reduceLT, Nat.reduceLeDiff, Nat.reduceEqDiff, Int.reduceNeg, Int.reduceAdd, Int.reduceSub, Int.reduceMul, Int.reduceGT, Int.reduceGE, Int.reduceLT, Int.reduceLE, Int.reduceEq, Int.reduceNe, Int.cast_ofNat_Int, Int.reduceToNat, ↓reduceIte, reduceCtorEq, h]
    rw [List.drop_of_length_le (by omega)] at hb
    have hne2 : 0 < ys.length := List.length_pos_iff.2 hne
    have h3 : min s 1099511627776 = s := by
      rcases Nat.eq_zero_or_pos i with h0 | h0
      · omega
      · omega
    rw [hb, h3]; rfl
theorem call_sum1 {Γ : Env} (hf : Γ.get 24 = some sum1Con) {σ : AS} {dr : Bool} {x : Int} {y : List Int} {t : Nat} {ys : List AV} {d : Option Nat} {K : AS → Prop} (hy : ys = ints .i64 y) (h1 : 0 ≤ x ∧ x ≤ 9223372036854775807) (h2 : ∀ z ∈ y, 0 ≤ z ∧ z ≤ 9223372036854775807) (h3 : y.length ≤ 9223372036854775807) (h4 : y ≠ [])
    (hk : cont σ d (.v (.int .i64 (sumF (min x 1099511627776) y))) K) : vcCall Tryd.prog Γ dr σ 24 [.v (.int .i64 x), .sl t 1 ys] d K := by
  subst hy
  exact vcCall_plain (C := sum1Con) (i := ⟨(x, y), h1, h2, h3, h4⟩) hf rfl rfl rfl rfl (fun _ h => h) rfl hk
theorem bad_e : (.v (.int .i64 2) : AV) = .v (.int .i64 2) := rfl
abbrev diffs8Con : Con where
  ι := StrM × StrM × StrM × StrM
  args := fun p => [.v (sv p.1.1), .v (sv p.2.1.1), .v (sv p.2.2.1.1), .v (sv p.2.2.2.1)]
  post := fun _ r => r = .v (.bool true)
  plain := true
theorem diffs8_good : Rw.Good Tryd.prog 4 diffs8Con := by
  have hΓ : GoodEnv Tryd.prog [(19, trueCon), (24, sum1Con), (25, diffCon), (26, validCon), (22, doCon), (21, rcountCon), (27, idleCon)] := (goodEnv_cons awake8_good (goodEnv_cons sum1_good (goodEnv_cons diff_good (goodEnv_cons rvalid_good (goodEnv_cons do_good (goodEnv_cons rcount_good (goodEnv_cons idle_good goodEnv_nil)))))))
  refine good_fn (nn := 133) hΓ Tryd.func4 (by kernel_rfl) rfl (show Tryd.f4.results.toList = [.tmp 8] from rfl) (fun _ => rfl) (fun _ => rfl) ?_
  rintro ⟨⟨hd, h1⟩, ⟨a, h2⟩, ⟨b, h3⟩, ⟨tl, h4⟩⟩
  simp only [goRules, coreRules, tiRules, unRules, AS_of_eq, ← decide_not, Nat.reduceAdd, Nat.reduceSub, Nat.reduceMul, Nat.reduceLT, Nat.reduceLeDiff, Nat.reduceEqDiff, Int.reduceNeg, Int.reduceAdd, Int.reduceSub, Int.reduceMul, Int.reduceGT, Int.reduceGE, Int.reduceLT, Int.reduceLE, Int.reduceEq, Int.reduceNe, Int.cast_ofNat_Int, Int.reduceToNat, ↓reduceIte, reduceCtorEq]
  refine call_sum1 (by simp [get_cons]) (y := [(a.length : Int), b.length, tl.length]) rfl (by omega) (by simp; omega) (by simp) (by simp) ?_
  have e0 : sumF (min (hd.length : Int) 1099511627776) [(a.length : Int), b.length, tl.length] = min ((hd.length : Int) + a.length + b.length + tl.length) 1099511627776 := by
    simp only [sumF, List.foldl, addI]; omega
  rw [e0]
  simp only [goRules, coreRules, tiRules, unRules, AS_of_eq, ← decide_not, Nat.reduceAdd, Nat.reduceSub, Nat.reduceMul, Nat.reduceLT, Nat.reduceLeDiff, Nat.reduceEqDiff, Int.reduceNeg, Int.reduceAdd, Int.reduceSub, Int.reduceMul, Int.reduceGT, Int.reduceGE, Int.reduceLT, Int.reduceLE, Int.reduceEq, Int.reduceNe, Int.cast_ofNat_Int, Int.reduceToNat, ↓reduceIte, reduceCtorEq]
  by_cases h5 : min ((hd.length : Int) + a.length + b.length + tl.length) 1099511627776 > 600
  · simp only [goRules, coreRules, tiRules, unRules, AS_of_eq, ← decide_not, Nat.reduceAdd, Nat.reduceSub, Nat.reduceMul, Nat.reduceLT, Nat.reduceLeDiff, Nat.reduceEqDiff, Int.reduceNeg, Int.reduceAdd, Int.reduceSub, Int.reduceMul, Int.reduceGT, Int.reduceGE, Int.reduceLT, Int.reduceLE, Int.reduceEq, Int.reduceNe, Int.cast_ofNat_Int, Int.reduceToNat, ↓reduceIte, reduceCtorEq, h5]
    refine call_awake8 (by simp [get_cons]) ?_
    simp only [goRules, coreRules, tiRules, unRules, AS_of_eq, ← decide_not, Nat.reduceAdd, Nat.reduceSub, Nat.reduceMul, Nat.reduceLT, Nat.reduceLeDiff, Nat.reduceEqDiff, Int.reduceNeg, Int.reduceAdd, Int.reduceSub, Int.reduceMul, Int.reduceGT, Int.reduceGE, Int.reduceLT, Int.reduceLE, Int.reduceEq, Int.reduceNe, Int.cast_ofNat_Int, Int.reduceToNat, ↓reduceIte, reduceCtorEq]
  simp only [goRules, coreRules, tiRules, unRules, AS_of_eq, ← decide_not, Nat.reduceAdd, Nat.reduceSub, Nat.reduceMul, Nat.reduceLT, Nat.reduceLeDiff, Nat.reduceEqDiff, Int.reduceNeg, Int.reduceAdd, Int.reduceSub, Int.reduceMul, Int.reduceGT, Int.reduceGE, Int.reduceLT, Int.reduceLE, Int.reduceEq, Int.reduceNe, Int.cast_ofNat_Int, Int.reduceToNat, ↓reduceIte, reduceCtorEq, h5]
  have ls : (hd ++ a ++ tl).length ≤ 600 := by simp only [List.length_append]; omega
  have lt : (hd ++ b ++ tl).length ≤ 600 := by simp only [List.length_append]; omega
  have lsum : hd.length + a.length + b.length + tl.length ≤ 600 := by omega
  simp only [goRules, coreRules, tiRules, unRules, AS_of_eq, ← decide_not, Nat.reduceAdd, Nat.reduceSub, Nat.reduceMul, Nat.reduceLT, Nat.reduceLeDiff, Nat.reduceEqDiff, Int.reduceNeg, Int.reduceAdd, Int.reduceSub, Int.reduceMul, Int.reduceGT, Int.reduceGE, Int.reduceLT, Int.reduceLE, Int.reduceEq, Int.reduceNe, Int.cast_ofNat_Int, Int.reduceToNat, ↓reduceIte, reduceCtorEq, bin_sadd (show hd.length + a.length ≤ 9223372036854775807 by omega), bin_sadd (show (hd ++ a).length + tl.length ≤ 9223372036854775807 by rw [List.length_append]; omega), bin_sadd (show hd.length + b.length ≤ 9223372036854775807 by omega), bin_sadd (show (hd ++ b).length + tl.length ≤ 9223372036854775807 by rw [List.length_append]; omega)]
  refine call_diff (by simp [get_cons]) (by omega) (by omega) ?_
  rcases opt_cases (pts (hd ++ a ++ tl)) with hp | ⟨x, hp⟩
  · simp only [goRules, coreRules, tiRules, unRules, AS_of_eq, ← decide_not, Nat.reduceAdd, Nat.reduceSub, Nat.reduceMul, Nat.reduceLT, Nat.reduceLeDiff, Nat.reduceEqDiff, Int.reduceNeg, Int.reduceAdd, Int.reduceSub, Int.reduceMul, Int.reduceGT, Int.reduceGE, Int.reduceLT, Int.reduceLE, Int.reduceEq, Int.reduceNe, Int.cast_ofNat_Int, Int.reduceToNat, ↓reduceIte, reduceCtorEq, diff_none (.inl hp), res2]
    refine call_rvalid (by simp [get_cons]) (by omega) ?_
    simp only [goRules, coreRules, tiRules, unRules, AS_of_eq, ← decide_not, Nat.reduceAdd, Nat.reduceSub, Nat.reduceMul, Nat.reduceLT, Nat.reduceLeDiff, Nat.reduceEqDiff, Int.reduceNeg, Int.reduceAdd, Int.reduceSub, Int.reduceMul, Int.reduceGT, Int.reduceGE, Int.reduceLT, Int.reduceLE, Int.reduceEq, Int.reduceNe, Int.cast_ofNat_Int, Int.reduceToNat, ↓reduceIte, reduceCtorEq, hp, Option.isSome]
    refine call_awake8 (by simp [get_cons]) ?_
    simp only [goRules, coreRules, tiRules, unRules, AS_of_eq, ← decide_not, Nat.reduceAdd, Nat.reduceSub, Nat.reduceMul, Nat.reduceLT, Nat.reduceLeDiff, Nat.reduceEqDiff, Int.reduceNeg, Int.reduceAdd, Int.reduceSub, Int.reduceMul, Int.reduceGT, Int.reduceGE, Int.reduceLT, Int.reduceLE, Int.reduceEq, Int.reduceNe, Int.cast_ofNat_Int, Int.reduceToNat, ↓reduceIte, reduceCtorEq]
  rcases opt_cases (pts (hd ++ b ++ tl)) with hq | ⟨y, hq⟩
  · simp only [goRules, coreRules, tiRules, unRules, AS_of_eq, ← decide_not, Nat.reduceAdd, Nat.reduceSub, Nat.reduceMul, Nat.reduceLT, Nat.reduceLeDiff, Nat.reduceEqDiff, Int.reduceNeg, Int.reduceAdd, Int.reduceSub, Int.reduceMul, Int.reduceGT, Int.reduceGE, Int.reduceLT, Int.reduceLE, Int.reduceEq, Int.reduceNe, Int.cast_ofNat_Int, Int.reduceToNat, ↓reduceIte, reduceCtorEq, diff_none (.inr hq), res2]
    refine call_rvalid (by simp [get_cons]) (by omega) ?_
    simp only [goRules, coreRules, tiRules, unRules, AS_of_eq, ← decide_not, Nat.reduceAdd, Nat.reduceSub, Nat.reduceMul, Nat.reduceLT, Nat.reduceLeDiff, Nat.reduceEqDiff, Int.reduceNeg, Int.reduceAdd, Int.reduceSub, Int.reduceMul, Int.reduceGT, Int.reduceGE, Int.reduceLT, Int.reduceLE, Int.reduceEq, Int.reduceNe, Int.cast_ofNat_Int, Int.reduceToNat, ↓reduceIte, reduceCtorEq, hp, Option.isSome]
    refine call_rvalid (by simp [get_cons]) (by omega) ?_
    simp only [goRules, coreRules, tiRules, unRules, AS_of_eq, ← decide_not, Nat.reduceAdd, Nat.reduceSub, Nat.reduceMul, Nat.reduceLT, Nat.reduceLeDiff, Nat.reduceEqDiff, Int.reduceNeg, Int.reduceAdd, Int.reduceSub, Int.reduceMul, Int.reduceGT, Int.reduceGE, Int.reduceLT, Int.reduceLE, Int.reduceEq, Int.reduceNe, Int.cast_ofNat_Int, Int.reduceToNat, ↓reduceIte, reduceCtorEq, hq, Option.isSome]
    refine call_awake8 (by simp [get_cons]) ?_
    simp only [goRules, coreRules, tiRules, unRules, AS_of_eq, ← decide_not, Nat.reduceAdd, Nat.reduceSub, Nat.reduceMul, Nat.reduceLT, Nat.reduceLeDiff, Nat.reduceEqDiff, Int.reduceNeg, Int.reduceAdd, Int.reduceSub, Int.reduceMul, Int.reduceGT, Int.reduceGE, Int.reduceLT, Int.reduceLE, Int.reduceEq, Int.reduceNe, Int.cast_ofNat_Int, Int.reduceToNat, ↓reduceIte, reduceCtorEq]
  obtain ⟨ox, ex⟩ := pts_some hp
  obtain ⟨oy, ey⟩ := pts_some hq
  have lx := encs_le x
  rw [← ex] at lx
  have ly := encs_le y
  rw [← ey] at ly
  have hok := diff_okL (x := x) (y := y) (by omega) (by rw [← ey]; omega)
  have hsound := sound_all (diff_texts (x := x) oy)
  have hch := diff_check (x := x) (y := y) (by omega) oy (by omega) (by rw [← ey]; omega)
  obtain ⟨d1, d2⟩ := diff_law hp hq (by omega) hch
  have hkp := kp_diff (x := x) (y := y) (by omega)
  have hpf := sfx_le x y
  have hsame : hd ++ a ++ tl = hd ++ b ++ tl → (diffL x y).any busy = false := fun h => by
    rw [h, hq] at hp
    rw [← (Option.some.inj hp)]
    exact diff_same y
  have hkept : ∀ hc tc, pts hd = some hc → pts tl = some tc → (hc.length : Int) + tc.length ≤ kp (diffL x y) := fun hc tc h1 h2 => diffs_kept hp hq h1 h2 (by omega)
  simp only [goRules, coreRules, tiRules, unRules, AS_of_eq, ← decide_not, Nat.reduceAdd, Nat.reduceSub, Nat.reduceMul, Nat.reduceLT, Nat.reduceLeDiff, Nat.reduceEqDiff, Int.reduceNeg, Int.reduceAdd, Int.reduceSub, Int.reduceMul, Int.reduceGT, Int.reduceGE, Int.reduceLT, Int.reduceLE, Int.reduceEq, Int.reduceNe, Int.cast_ofNat_Int, Int.reduceToNat, ↓reduceIte, reduceCtorEq, diff_some hp hq, res2]
  refine call_rvalid (by simp [get_cons]) (by omega) ?_
  simp only [goRules, coreRules, tiRules, unRules, AS_of_eq, ← decide_not, Nat.reduceAdd, Nat.reduceSub, Nat.reduceMul, Nat.reduceLT, Nat.reduceLeDiff, Nat.reduceEqDiff, Int.reduceNeg, Int.reduceAdd, Int.reduceSub, Int.reduceMul, Int.reduceGT, Int.reduceGE, Int.reduceLT, Int.reduceLE, Int.reduceEq, Int.reduceNe, Int.cast_ofNat_Int, Int.reduceToNat, ↓reduceIte, reduceCtorEq, hp, Option.isSome]
  refine call_rvalid (by simp [get_cons]) (by omega) ?_
  simp only [goRules, coreRules, tiRules, unRules, AS_of_eq, ← decide_not, Nat.reduceAdd, Nat.reduceSub, Nat.reduceMul, Nat.reduceLT, Nat.reduceLeDiff, Nat.reduceEqDiff, Int.reduceNeg, Int.reduceAdd, Int.reduceSub, Int.reduceMul, Int.reduceGT, Int.reduceGE, Int.reduceLT, Int.reduceLE, Int.reduceEq, Int.reduceNe, Int.cast_ofNat_Int, Int.reduceToNat, ↓reduceIte, reduceCtorEq, hq, Option.isSome]
  refine call_rvalid (by simp [get_cons]) (by omega) ?_
  rcases opt_cases (pts hd) with hr | ⟨hc, hr⟩
  · simp only [goRules, coreRules, tiRules, unRules, AS_of_eq, ← decide_not, Nat.reduceAdd, Nat.reduceSub, Nat.reduceMul, Nat.reduceLT, Nat.reduceLeDiff, Nat.reduceEqDiff, Int.reduceNeg, Int.reduceAdd, Int.reduceSub, Int.reduceMul, Int.reduceGT, Int.reduceGE, Int.reduceLT, Int.reduceLE, Int.reduceEq, Int.reduceNe, Int.cast_ofNat_Int, Int.reduceToNat, ↓reduceIte, reduceCtorEq, hr, Option.isSome]
    refine call_awake8 (by simp [get_cons]) ?_
    simp only [goRules, coreRules, tiRules, unRules, AS_of_eq, ← decide_not, Nat.reduceAdd, Nat.reduceSub, Nat.reduceMul, Nat.reduceLT, Nat.reduceLeDiff, Nat.reduceEqDiff, Int.reduceNeg, Int.reduceAdd, Int.reduceSub, Int.reduceMul, Int.reduceGT, Int.reduceGE, Int.reduceLT, Int.reduceLE, Int.reduceEq, Int.reduceNe, Int.cast_ofNat_Int, Int.reduceToNat, ↓reduceIte, reduceCtorEq]
  simp only [goRules, coreRules, tiRules, unRules, AS_of_eq, ← decide_not, Nat.reduceAdd, Nat.reduceSub, Nat.reduceMul, Nat.reduceLT, Nat.reduceLeDiff, Nat.reduceEqDiff, Int.reduceNeg, Int.reduceAdd, Int.reduceSub, Int.reduceMul, Int.reduceGT, Int.reduceGE, Int.reduceLT, Int.reduceLE, Int.reduceEq, Int.reduceNe, Int.cast_ofNat_Int, Int.reduceToNat, ↓reduceIte, reduceCtorEq, hr, Option.isSome]
  refine call_rvalid (by simp [get_cons]) (by omega) ?_
  rcases opt_cases (pts tl) with ht | ⟨tc, ht⟩
  · simp only [goRules, coreRules, tiRules, unRules, AS_of_eq, ← decide_not, Nat.reduceAdd, Nat.reduceSub, Nat.reduceMul, Nat.reduceLT, Nat.reduceLeDiff, Nat.reduceEqDiff, Int.reduceNeg, Int.reduceAdd, Int.reduceSub, Int.reduceMul, Int.reduceGT, Int.reduceGE, Int.reduceLT, Int.reduceLE, Int.reduceEq, Int.reduceNe, Int.cast_ofNat_Int, Int.reduceToNat, ↓reduceIte, reduceCtorEq, ht, Option.isSome]
    refine call_awake8 (by simp [get_cons]) ?_
    simp only [goRules, coreRules, tiRules, unRules, AS_of_eq, ← decide_not, Nat.reduceAdd, Nat.reduceSub, Nat.reduceMul, Nat.reduceLT, Nat.reduceLeDiff, Nat.reduceEqDiff, Int.reduceNeg, Int.reduceAdd, Int.reduceSub, Int.reduceMul, Int.reduceGT, Int.reduceGE, Int.reduceLT, Int.reduceLE, Int.reduceEq, Int.reduceNe, Int.cast_ofNat_Int, Int.reduceToNat, ↓reduceIte, reduceCtorEq]
  simp only [goRules, coreRules, tiRules, unRules, AS_of_eq, ← decide_not, Nat.reduceAdd, Nat.reduceSub, Nat.reduceMul, Nat.reduceLT, Nat.reduceLeDiff, Nat.reduceEqDiff, Int.reduceNeg, Int.reduceAdd, Int.reduceSub, Int.reduceMul, Int.reduceGT, Int.reduceGE, Int.reduceLT, Int.reduceLE, Int.reduceEq, Int.reduceNe, Int.cast_ofNat_Int, Int.reduceToNat, ↓reduceIte, reduceCtorEq, ht, Option.isSome]
  have hkk := hkept hc tc hr ht
  generalize diffL x y = l at *
  have hml : l.length ≤ 1099511627776 := hok.1
  obtain ⟨St, hSt⟩ : ∃ St : { i : Nat // i ≤ l.length } → AS, ∀ i, St i = AS.of 133 [(0, .v (sv hd)), (3, .v (sv tl)), (9, .v (sv (hd ++ a ++ tl))), (10, .v (sv (hd ++ b ++ tl))), (11, .sl 0 3 (comps l)), (12, .v (.int .i64 0)), (13, .v (.int .i64 (kp (l.take i.1)))), (14, .v (.int .i64 i.1))] [] [] := ⟨_, fun _ => rfl⟩
  refine vc_loop hΓ St (fun i => l.length - i.1) ⟨0, by omega⟩ (by rw [hSt]; refine weak_go [] [] ?_; simp only [goRules, coreRules, tiRules, unRules, AS_of_eq, ← decide_not, Nat.reduceAdd, Nat.reduceSub, Nat.reduceMul, Nat.reduceLT, Nat.reduceLeDiff, Nat.reduceEqDiff, Int.reduceNeg, Int.reduceAdd, Int.reduceSub, Int.reduceMul, Int.reduceGT, Int.reduceGE, Int.reduceLT, Int.reduceLE, Int.reduceEq, Int.reduceNe, Int.cast_ofNat_Int, Int.reduceToNat, ↓reduceIte, reduceCtorEq, List.take_zero, kp] <;> ((repeat' apply And.intro) <;> first | rfl | omega | trivial)) ?_
  rintro ⟨i, hi⟩
  rw [hSt]
  simp only
  simp only [goRules, coreRules, tiRules, unRules, AS_of_eq, ← decide_not, Nat.reduceAdd, Nat.reduceSub, Nat.reduceMul, Nat.reduceLT, Nat.reduceLeDiff, Nat.reduceEqDiff, Int.reduceNeg, Int.reduceAdd, Int.reduceSub, Int.reduceMul, Int.reduceGT, Int.reduceGE, Int.reduceLT, Int.reduceLE, Int.reduceEq, Int.reduceNe, Int.cast_ofNat_Int, Int.reduceToNat, ↓reduceIte, reduceCtorEq, comps_len]
  (with_reducible first | refine branchP_dec (fun h => ?_) (fun h => ?_) | refine guardB_dec (fun h => ?_) (fun h => ?_))
  · have hlt : i < l.length := by omega
    have hk1 := kp_next hlt hsound
    have e1 := comps_getD l hlt
    have hb1 := kp_le (l := l) (i := i)
    have hb2 := kp_le (l := l) (i := i + 1)
    have hb3 := kp_pos (l.take i)
    have hb4 := kp_pos (l.take (i + 1))
    generalize l[i] = c at *
    obtain ⟨k, n, t⟩ := c
    simp only at hk1 e1
    simp (disch := omega) only [goRules, coreRules, tiRules, unRules, AS_of_eq, ← decide_not, Nat.reduceAdd, Nat.reduceSub, Nat.reduceMul, Nat.reduceLT, Nat.reduceLeDiff, Nat.reduceEqDiff, Int.reduceNeg, Int.reduceAdd, Int.reduceSub, Int.reduceMul, Int.reduceGT, Int.reduceGE, Int.reduceLT, Int.reduceLE, Int.reduceEq, Int.reduceNe, Int.cast_ofNat_Int, Int.reduceToNat, ↓reduceIte, reduceCtorEq, wrap_i64, h, e1, comps_len]
    (repeat (with_reducible refine And.intro ?_ ?_; focus (first | omega | exact mixed1 | kernel_rfl)))
    (with_reducible first | refine branchP_dec (fun h6 => ?_) (fun h6 => ?_) | refine guardB_dec (fun h6 => ?_) (fun h6 => ?_))
    · simp (disch := omega) only [goRules, coreRules, tiRules, unRules, AS_of_eq, ← decide_not, Nat.reduceAdd, Nat.reduceSub, Nat.reduceMul, Nat.reduceLT, Nat.reduceLeDiff, Nat.reduceEqDiff, Int.reduceNeg, Int.reduceAdd, Int.reduceSub, Int.reduceMul, Int.reduceGT, Int.reduceGE, Int.reduceLT, Int.reduceLE, Int.reduceEq, Int.reduceNe, Int.cast_ofNat_Int, Int.reduceToNat, ↓reduceIte, reduceCtorEq, wrap_i64, h6, e1, comps_len]
      (repeat (with_reducible refine And.intro ?_ ?_; focus (first | omega | exact mixed1 | kernel_rfl)))
      rw [if_pos h6] at hk1
      refine weak_again ⟨i + 1, by omega⟩ (by simp only; omega) ?_
      rw [hSt, hk1]; refine weak_go [] [] ?_
      simp only [goRules, coreRules, tiRules, unRules, AS_of_eq, ← decide_not, Nat.reduceAdd, Nat.reduceSub, Nat.reduceMul, Nat.reduceLT, Nat.reduceLeDiff, Nat.reduceEqDiff, Int.reduceNeg, Int.reduceAdd, Int.reduceSub, Int.reduceMul, Int.reduceGT, Int.reduceGE, Int.reduceLT, Int.reduceLE, Int.reduceEq, Int.reduceNe, Int.cast_ofNat_Int, Int.reduceToNat, ↓reduceIte, reduceCtorEq] <;> ((repeat' apply And.intro) <;> first | rfl | omega | trivial)
    · simp (disch := omega) only [goRules, coreRules, tiRules, unRules, AS_of_eq, ← decide_not, Nat.reduceAdd, Nat.reduceSub, Nat.reduceMul, Nat.reduceLT, Nat.reduceLeDiff, Nat.reduceEqDiff, Int.reduceNeg, Int.reduceAdd, Int.reduceSub, Int.reduceMul, Int.reduceGT, Int.reduceGE, Int.reduceLT, Int.reduceLE, Int.reduceEq, Int.reduceNe, Int.cast_ofNat_Int, Int.reduceToNat, ↓reduceIte, reduceCtorEq, wrap_i64, h6, e1, comps_len]
      (repeat (with_reducible refine And.intro ?_ ?_; focus (first | omega | exact mixed1 | kernel_rfl)))
      rw [if_neg h6] at hk1
      refine weak_again ⟨i + 1, by omega⟩ (by simp only; omega) ?_
      rw [hSt, hk1]; refine weak_go [] [] ?_
      simp only [goRules, coreRules, tiRules, unRules, AS_of_eq, ← decide_not, Nat.reduceAdd, Nat.reduceSub, Nat.reduceMul, Nat.reduceLT, Nat.reduceLeDiff, Nat.reduceEqDiff, Int.reduceNeg, Int.reduceAdd, Int.reduceSub, Int.reduceMul, Int.reduceGT, Int.reduceGE, Int.reduceLT, Int.reduceLE, Int.reduceEq, Int.reduceNe, Int.cast_ofNat_Int, Int.reduceToNat, ↓reduceIte, reduceCtorEq] <;> ((repeat' apply And.intro) <;> first | rfl | omega | trivial)
  · rw [List.take_of_length_le (by omega)]
    simp only [goRules, coreRules, tiRules, unRules, AS_of_eq, ← decide_not, Nat.reduceAdd, Nat.reduceSub, Nat.reduceMul, Nat.reduceLT, Nat.reduceLeDiff, Nat.reduceEqDiff, Int.reduceNeg, Int.reduceAdd, Int.reduceSub, Int.reduceMul, Int.reduceGT, Int.reduceGE, Int.reduceLT, Int.reduceLE, Int.reduceEq, Int.reduceNe, Int.cast_ofNat_Int, Int.reduceToNat, ↓reduceIte, reduceCtorEq, h]
    refine call_do (by simp [get_cons]) rfl (by omega) hok ?_
    simp only [goRules, coreRules, tiRules, unRules, AS_of_eq, ← decide_not, Nat.reduceAdd, Nat.reduceSub, Nat.reduceMul, Nat.reduceLT, Nat.reduceLeDiff, Nat.reduceEqDiff, Int.reduceNeg, Int.reduceAdd, Int.reduceSub, Int.reduceMul, Int.reduceGT, Int.reduceGE, Int.reduceLT, Int.reduceLE, Int.reduceEq, Int.reduceNe, Int.cast_ofNat_Int, Int.reduceToNat, ↓reduceIte, reduceCtorEq, doR, res2, d1, d2]
    refine call_rcount (by simp [get_cons]) (by omega) ?_
    simp only [goRules, coreRules, tiRules, unRules, AS_of_eq, ← decide_not, Nat.reduceAdd, Nat.reduceSub, Nat.reduceMul, Nat.reduceLT, Nat.reduceLeDiff, Nat.reduceEqDiff, Int.reduceNeg, Int.reduceAdd, Int.reduceSub, Int.reduceMul, Int.reduceGT, Int.reduceGE, Int.reduceLT, Int.reduceLE, Int.reduceEq, Int.reduceNe, Int.cast_ofNat_Int, Int.reduceToNat, ↓reduceIte, reduceCtorEq]
    refine call_rcount (by simp [get_cons]) (by omega) ?_
    rw [cnt_pts hr, cnt_pts ht]
    have lh := encs_le hc
    rw [← (pts_some hr).2] at lh
    have lt2 := encs_le tc
    rw [← (pts_some ht).2] at lt2
    simp only [goRules, coreRules, tiRules, unRules, AS_of_eq, ← decide_not, Nat.reduceAdd, Nat.reduceSub, Nat.reduceMul, Nat.reduceLT, Nat.reduceLeDiff, Nat.reduceEqDiff, Int.reduceNeg, Int.reduceAdd, Int.reduceSub, Int.reduceMul, Int.reduceGT, Int.reduceGE, Int.reduceLT, Int.reduceLE, Int.reduceEq, Int.reduceNe, Int.cast_ofNat_Int, Int.reduceToNat, ↓reduceIte, reduceCtorEq, wrap_i64 (show -9223372036854775808 ≤ (hc.length : Int) + tc.length by omega) (by omega), show (kp l ≥ (hc.length : Int) + tc.length) = True from eq_true hkk]
    by_cases hst : hd ++ a ++ tl = hd ++ b ++ tl
    · have hid := hsame hst
      simp only [goRules, coreRules, tiRules, unRules, AS_of_eq, ← decide_not, Nat.reduceAdd, Nat.reduceSub, Nat.reduceMul, Nat.reduceLT, Nat.reduceLeDiff, Nat.reduceEqDiff, Int.reduceNeg, Int.reduceAdd, Int.reduceSub, Int.reduceMul, Int.reduceGT, Int.reduceGE, Int.reduceLT, Int.reduceLE, Int.reduceEq, Int.reduceNe, Int.cast_ofNat_Int, Int.reduceToNat, ↓reduceIte, reduceCtorEq, hst]
      refine call_idle (by simp [get_cons]) rfl hok ?_
      simp only [goRules, coreRules, tiRules, unRules, AS_of_eq, ← decide_not, Nat.reduceAdd, Nat.reduceSub, Nat.reduceMul, Nat.reduceLT, Nat.reduceLeDiff, Nat.reduceEqDiff, Int.reduceNeg, Int.reduceAdd, Int.reduceSub, Int.reduceMul, Int.reduceGT, Int.reduceGE, Int.reduceLT, Int.reduceLE, Int.reduceEq, Int.reduceNe, Int.cast_ofNat_Int, Int.reduceToNat, ↓reduceIte, reduceCtorEq, hid]
      refine call_awake8 (by simp [get_cons]) ?_
      simp only [goRules, coreRules, tiRules, unRules, AS_of_eq, ← decide_not, Nat.reduceAdd, Nat.reduceSub, Nat.reduceMul, Nat.reduceLT, Nat.reduceLeDiff, Nat.reduceEqDiff, Int.reduceNeg, Int.reduceAdd, Int.reduceSub, Int.reduceMul, Int.reduceGT, Int.reduceGE, Int.reduceLT, Int.reduceLE, Int.reduceEq, Int.reduceNe, Int.cast_ofNat_Int, Int.reduceToNat, ↓reduceIte, reduceCtorEq]
    · simp only [goRules, coreRules, tiRules, unRules, AS_of_eq, ← decide_not, Nat.reduceAdd, Nat.reduceSub, Nat.reduceMul, Nat.reduceLT, Nat.reduceLeDiff, Nat.reduceEqDiff, Int.reduceNeg, Int.reduceAdd, Int.reduceSub, Int.reduceMul, Int.reduceGT, Int.reduceGE, Int.reduceLT, Int.reduceLE, Int.reduceEq, Int.reduceNe, Int.cast_ofNat_Int, Int.reduceToNat, ↓reduceIte, reduceCtorEq, hst]
      refine call_awake8 (by simp [get_cons]) ?_
      simp only [goRules, coreRules, tiRules, unRules, AS_of_eq, ← decide_not, Nat.reduceAdd, Nat.reduceSub, Nat.reduceMul, Nat.reduceLT, Nat.reduceLeDiff, Nat.reduceEqDiff, Int.reduceNeg, Int.reduceAdd, Int.reduceSub, Int.reduceMul, Int.reduceGT, Int.reduceGE, Int.reduceLT, Int.reduceLE, Int.reduceEq, Int.reduceNe, Int.cast_ofNat_Int, Int.reduceToNat, ↓reduceIte, reduceCtorEq]
end Go.Proofs
end
