/-
  UtfForms and UtfBack answer true.
-/
import Derived.Test.YtcdmabenopjbhaaDoorXDUb2
set_option linter.unusedSimpArgs false
set_option linter.unusedVariables false
set_option linter.defProp false

-- DUb3
section
namespace Go.Proofs
open Go Go.Rw
set_option maxRecDepth 100000
set_option linter.unusedSimpArgs false
set_option linter.unusedVariables false

abbrev formsCon : Con where
  ι := I64 × I64
  args := fun p => [.v (.int .i64 p.1.1), .v (.int .i64 p.2.1)]
  post := fun _ r => r = .v (.bool true)
  plain := true
theorem textN_one (v : Int) : textN [v] = if okn v then some (enc v.toNat) else none := by
  rw [textN_cons, textN_nil]; simp
theorem enc_pts {c : Nat} (h : okc c) : pts (enc c) = some [c] := by
  have := pts_enc (cs := [c]) (by simpa using h)
  rwa [show encs [c] = enc c by simp [encs]] at this
theorem forms_good : Rw.Good Tryd.prog 3 formsCon := by
  have hΓ : GoodEnv Tryd.prog [(10, textCon), (11, trueCon), (12, validCon), (13, roundCon)] := (goodEnv_cons text_good (goodEnv_cons awake3_good (goodEnv_cons valid_good (goodEnv_cons round_good goodEnv_nil))))
  refine good_fn (nn := 107) hΓ Tryd.func3 (by kernel_rfl) rfl (show Tryd.f3.results.toList = [.tmp 4] from rfl) (fun _ => rfl) (fun _ => rfl) ?_
  rintro ⟨⟨v, hv⟩, ⟨m, hm⟩⟩
  simp only [goRules, coreRules, tiRules, unRules, AS_of_eq, ← decide_not, Nat.reduceAdd, Nat.reduceSub, Nat.reduceMul, Nat.reduceLT, Nat.reduceLeDiff, Nat.reduceEqDiff, Int.reduceNeg, Int.reduceAdd, Int.reduceSub, Int.reduceMul, Int.reduceGT, Int.reduceGE, Int.reduceLT, Int.reduceLE, Int.reduceEq, Int.reduceNe, Int.cast_ofNat_Int, Int.reduceToNat, ↓reduceIte, reduceCtorEq, List.map_cons, List.map_nil]
  refine call_text (l := [v]) (by simp [get_cons]) rfl (by simp) (by simpa using hv) ?_
  have hok : okn v ↔ 1 ≤ v ∧ v ≤ 1114111 ∧ ¬ (55296 ≤ v ∧ v ≤ 57343) := Iff.rfl
  by_cases h : okn v
  · have e1 : textR [v] = res2 (.v (sv (enc v.toNat))) 0 := by unfold textR; rw [textN_one, if_pos h]
    obtain ⟨hc, hcv⟩ := okn_okc h
    have h0 := hok.1 h
    have h1 : v ≥ 1 := by omega
    have h2 : v ≤ 1114111 := by omega
    have h3 : v < 55296 ∨ v > 57343 := by omega
    have hl := enc_len v.toNat
    have hp := enc_pts hc
    have hle := wid_le v.toNat
    have hpos := wid_pos v.toNat
    obtain ⟨n, hn⟩ : ∃ n, n = wid v.toNat := ⟨_, rfl⟩
    have wn : (v < 128 ∧ n = 1) ∨ (128 ≤ v ∧ v < 2048 ∧ n = 2) ∨ (2048 ≤ v ∧ v < 65536 ∧ n = 3) ∨ (65536 ≤ v ∧ n = 4) := by
      rw [hn]; unfold wid
      repeat' split
      all_goals omega
    rw [← hn] at hl hle hpos
    have hpv : pts (enc v.toNat ++ enc v.toNat) = some [v.toNat, v.toNat] := by
      have := pts_enc (cs := [v.toNat, v.toNat]) (by simpa using hc)
      rwa [show encs [v.toNat, v.toNat] = enc v.toNat ++ enc v.toNat by simp [encs]] at this
    have cut : 1 < n → (pts ((enc v.toNat).take (n - 1))).isSome = false := fun h => by rw [cut_form hc (by omega) (by omega)]; rfl
    have tl : ∀ k, 1 ≤ k → k < n → (pts ((enc v.toNat).drop k)).isSome = false := fun k a b => by
      have := tail_form hc a (by omega) []
      rw [List.append_nil] at this
      rw [this]; rfl
    have tk : ∀ k j, 1 ≤ k → k < n → n - k ≤ j → (pts (((enc v.toNat).drop k).take j)).isSome = false := fun k j a b c => by
      rw [List.take_of_length_le (by rw [List.length_drop]; omega)]; exact tl k a b
    generalize hE : enc v.toNat = E at *
    have hcs : (v < 55296 ↔ True) ∨ ((v < 55296 ↔ False) ∧ (v > 57343 ↔ True)) := by
      by_cases h4 : v < 55296
      · exact .inl (by simp [h4])
      · exact .inr ⟨by simp [h4], by simp; omega⟩
    rcases hcs with h5 | ⟨h5, h6⟩
    · rcases wn with ⟨a1, rfl⟩ | ⟨a1, a2, rfl⟩ | ⟨a1, a2, rfl⟩ | ⟨a1, rfl⟩
      · first
          | (exfalso; have := h5.1; omega)
          | skip
        simp (disch := omega) only [goRules, coreRules, tiRules, unRules, AS_of_eq, ← decide_not, Nat.reduceAdd, Nat.reduceSub, Nat.reduceMul, Nat.reduceLT, Nat.reduceLeDiff, Nat.reduceEqDiff, Int.reduceNeg, Int.reduceAdd, Int.reduceSub, Int.reduceMul, Int.reduceGT, Int.reduceGE, Int.reduceLT, Int.reduceLE, Int.reduceEq, Int.reduceNe, Int.cast_ofNat_Int, Int.reduceToNat, ↓reduceIte, reduceCtorEq, wrap_i64, e1, res2, h1, h2, h5, show ¬ v ≥ 128 by omega, show ¬ v ≥ 2048 by omega, show ¬ v ≥ 65536 by omega, bne_self_eq_false, hl]
        refine call_valid (by simp [get_cons]) (by omega) ?_
        simp (disch := omega) only [goRules, coreRules, tiRules, unRules, AS_of_eq, ← decide_not, Nat.reduceAdd, Nat.reduceSub, Nat.reduceMul, Nat.reduceLT, Nat.reduceLeDiff, Nat.reduceEqDiff, Int.reduceNeg, Int.reduceAdd, Int.reduceSub, Int.reduceMul, Int.reduceGT, Int.reduceGE, Int.reduceLT, Int.reduceLE, Int.reduceEq, Int.reduceNe, Int.cast_ofNat_Int, Int.reduceToNat, ↓reduceIte, reduceCtorEq, wrap_i64, hp, Option.isSome_some, hl]
        refine call_round (by simp [get_cons]) hm (by omega) ?_
        have c1 := Int.emod_nonneg m (show (1 : Int) ≠ 0 by omega)
        have c2 := Int.emod_lt_of_pos m (show 0 < (1 : Int) by omega)
        generalize m % 1 = C at *
        simp (disch := omega) only [goRules, coreRules, tiRules, unRules, AS_of_eq, ← decide_not, Nat.reduceAdd, Nat.reduceSub, Nat.reduceMul, Nat.reduceLT, Nat.reduceLeDiff, Nat.reduceEqDiff, Int.reduceNeg, Int.reduceAdd, Int.reduceSub, Int.reduceMul, Int.reduceGT, Int.reduceGE, Int.reduceLT, Int.reduceLE, Int.reduceEq, Int.reduceNe, Int.cast_ofNat_Int, Int.reduceToNat, ↓reduceIte, reduceCtorEq, wrap_i64, hl]
        refine call_valid (by simp [get_cons]) (by rw [List.length_append]; omega) ?_
        simp (disch := omega) only [goRules, coreRules, tiRules, unRules, AS_of_eq, ← decide_not, Nat.reduceAdd, Nat.reduceSub, Nat.reduceMul, Nat.reduceLT, Nat.reduceLeDiff, Nat.reduceEqDiff, Int.reduceNeg, Int.reduceAdd, Int.reduceSub, Int.reduceMul, Int.reduceGT, Int.reduceGE, Int.reduceLT, Int.reduceLE, Int.reduceEq, Int.reduceNe, Int.cast_ofNat_Int, Int.reduceToNat, ↓reduceIte, reduceCtorEq, wrap_i64, hpv, Option.isSome_some, show C = 0 by omega]
        refine call_awake3 (by simp [get_cons]) ?_
        simp (disch := omega) only [goRules, coreRules, tiRules, unRules, AS_of_eq, ← decide_not, Nat.reduceAdd, Nat.reduceSub, Nat.reduceMul, Nat.reduceLT, Nat.reduceLeDiff, Nat.reduceEqDiff, Int.reduceNeg, Int.reduceAdd, Int.reduceSub, Int.reduceMul, Int.reduceGT, Int.reduceGE, Int.reduceLT, Int.reduceLE, Int.reduceEq, Int.reduceNe, Int.cast_ofNat_Int, Int.reduceToNat, ↓reduceIte, reduceCtorEq, wrap_i64]
      · first
          | (exfalso; have := h5.1; omega)
          | skip
        simp (disch := omega) only [goRules, coreRules, tiRules, unRules, AS_of_eq, ← decide_not, Nat.reduceAdd, Nat.reduceSub, Nat.reduceMul, Nat.reduceLT, Nat.reduceLeDiff, Nat.reduceEqDiff, Int.reduceNeg, Int.reduceAdd, Int.reduceSub, Int.reduceMul, Int.reduceGT, Int.reduceGE, Int.reduceLT, Int.reduceLE, Int.reduceEq, Int.reduceNe, Int.cast_ofNat_Int, Int.reduceToNat, ↓reduceIte, reduceCtorEq, wrap_i64, e1, res2, h1, h2, h5, show v ≥ 128 by omega, show ¬ v ≥ 2048 by omega, show ¬ v ≥ 65536 by omega, bne_self_eq_false, hl]
        refine call_valid (by simp [get_cons]) (by omega) ?_
        simp (disch := omega) only [goRules, coreRules, tiRules, unRules, AS_of_eq, ← decide_not, Nat.reduceAdd, Nat.reduceSub, Nat.reduceMul, Nat.reduceLT, Nat.reduceLeDiff, Nat.reduceEqDiff, Int.reduceNeg, Int.reduceAdd, Int.reduceSub, Int.reduceMul, Int.reduceGT, Int.reduceGE, Int.reduceLT, Int.reduceLE, Int.reduceEq, Int.reduceNe, Int.cast_ofNat_Int, Int.reduceToNat, ↓reduceIte, reduceCtorEq, wrap_i64, hp, Option.isSome_some, hl]
        refine call_round (by simp [get_cons]) hm (by omega) ?_
        have c1 := Int.emod_nonneg m (show (2 : Int) ≠ 0 by omega)
        have c2 := Int.emod_lt_of_pos m (show 0 < (2 : Int) by omega)
        generalize m % 2 = C at *
        simp (disch := omega) only [goRules, coreRules, tiRules, unRules, AS_of_eq, ← decide_not, Nat.reduceAdd, Nat.reduceSub, Nat.reduceMul, Nat.reduceLT, Nat.reduceLeDiff, Nat.reduceEqDiff, Int.reduceNeg, Int.reduceAdd, Int.reduceSub, Int.reduceMul, Int.reduceGT, Int.reduceGE, Int.reduceLT, Int.reduceLE, Int.reduceEq, Int.reduceNe, Int.cast_ofNat_Int, Int.reduceToNat, ↓reduceIte, reduceCtorEq, wrap_i64, hl]
        have u1 : (pts (E.take 1)).isSome = false := cut (by omega)
        have u2 : (pts ((E.drop 1).take 1)).isSome = false := tk 1 1 (by omega) (by omega) (by omega)
        (repeat (with_reducible refine And.intro ?_ ?_; focus (first | omega | exact mixed1 | kernel_rfl)))
        refine call_valid (by simp [get_cons]) (by rw [List.length_take]; omega) ?_
        simp (disch := omega) only [goRules, coreRules, tiRules, unRules, AS_of_eq, ← decide_not, Nat.reduceAdd, Nat.reduceSub, Nat.reduceMul, Nat.reduceLT, Nat.reduceLeDiff, Nat.reduceEqDiff, Int.reduceNeg, Int.reduceAdd, Int.reduceSub, Int.reduceMul, Int.reduceGT, Int.reduceGE, Int.reduceLT, Int.reduceLE, Int.reduceEq, Int.reduceNe, Int.cast_ofNat_Int, Int.reduceToNat, ↓reduceIte, reduceCtorEq, wrap_i64, u1, hl]
        (repeat (with_reducible refine And.intro ?_ ?_; focus (first | omega | exact mixed1 | kernel_rfl)))
        refine call_valid (by simp [get_cons]) (by simp only [List.length_drop, List.length_take]; omega) ?_
        simp (disch := omega) only [goRules, coreRules, tiRules, unRules, AS_of_eq, ← decide_not, Nat.reduceAdd, Nat.reduceSub, Nat.reduceMul, Nat.reduceLT, Nat.reduceLeDiff, Nat.reduceEqDiff, Int.reduceNeg, Int.reduceAdd, Int.reduceSub, Int.reduceMul, Int.reduceGT, Int.reduceGE, Int.reduceLT, Int.reduceLE, Int.reduceEq, Int.reduceNe, Int.cast_ofNat_Int, Int.reduceToNat, ↓reduceIte, reduceCtorEq, wrap_i64, u2, hl]
        (repeat (with_reducible refine And.intro ?_ ?_; focus (first | omega | exact mixed1 | kernel_rfl)))
        refine call_valid (by simp [get_cons]) (by rw [List.length_append]; omega) ?_
        simp (disch := omega) only [goRules, coreRules, tiRules, unRules, AS_of_eq, ← decide_not, Nat.reduceAdd, Nat.reduceSub, Nat.reduceMul, Nat.reduceLT, Nat.reduceLeDiff, Nat.reduceEqDiff, Int.reduceNeg, Int.reduceAdd, Int.reduceSub, Int.reduceMul, Int.reduceGT, Int.reduceGE, Int.reduceLT, Int.reduceLE, Int.reduceEq, Int.reduceNe, Int.cast_ofNat_Int, Int.reduceToNat, ↓reduceIte, reduceCtorEq, wrap_i64, hpv, Option.isSome_some]
        (with_reducible first | refine branchP_dec (fun q => ?_) (fun q => ?_) | refine guardB_dec (fun q => ?_) (fun q => ?_))
        · simp (disch := omega) only [goRules, coreRules, tiRules, unRules, AS_of_eq, ← decide_not, Nat.reduceAdd, Nat.reduceSub, Nat.reduceMul, Nat.reduceLT, Nat.reduceLeDiff, Nat.reduceEqDiff, Int.reduceNeg, Int.reduceAdd, Int.reduceSub, Int.reduceMul, Int.reduceGT, Int.reduceGE, Int.reduceLT, Int.reduceLE, Int.reduceEq, Int.reduceNe, Int.cast_ofNat_Int, Int.reduceToNat, ↓reduceIte, reduceCtorEq, wrap_i64, q]
          refine call_awake3 (by simp [get_cons]) ?_
          simp (disch := omega) only [goRules, coreRules, tiRules, unRules, AS_of_eq, ← decide_not, Nat.reduceAdd, Nat.reduceSub, Nat.reduceMul, Nat.reduceLT, Nat.reduceLeDiff, Nat.reduceEqDiff, Int.reduceNeg, Int.reduceAdd, Int.reduceSub, Int.reduceMul, Int.reduceGT, Int.reduceGE, Int.reduceLT, Int.reduceLE, Int.reduceEq, Int.reduceNe, Int.cast_ofNat_Int, Int.reduceToNat, ↓reduceIte, reduceCtorEq, wrap_i64]
        · simp (disch := omega) only [goRules, coreRules, tiRules, unRules, AS_of_eq, ← decide_not, Nat.reduceAdd, Nat.reduceSub, Nat.reduceMul, Nat.reduceLT, Nat.reduceLeDiff, Nat.reduceEqDiff, Int.reduceNeg, Int.reduceAdd, Int.reduceSub, Int.reduceMul, Int.reduceGT, Int.reduceGE, Int.reduceLT, Int.reduceLE, Int.reduceEq, Int.reduceNe, Int.cast_ofNat_Int, Int.reduceToNat, ↓reduceIte, reduceCtorEq, wrap_i64, q, hl]
          (repeat (with_reducible refine And.intro ?_ ?_; focus (first | omega | exact mixed1 | kernel_rfl)))
          refine call_valid (by simp [get_cons]) (by simp only [List.length_drop, List.length_take]; omega) ?_
          have u3 := fun j hj => tk C.toNat j (by omega) (by omega) hj
          simp (disch := omega) only [goRules, coreRules, tiRules, unRules, AS_of_eq, ← decide_not, Nat.reduceAdd, Nat.reduceSub, Nat.reduceMul, Nat.reduceLT, Nat.reduceLeDiff, Nat.reduceEqDiff, Int.reduceNeg, Int.reduceAdd, Int.reduceSub, Int.reduceMul, Int.reduceGT, Int.reduceGE, Int.reduceLT, Int.reduceLE, Int.reduceEq, Int.reduceNe, Int.cast_ofNat_Int, Int.reduceToNat, ↓reduceIte, reduceCtorEq, wrap_i64, u3]
          refine call_awake3 (by simp [get_cons]) ?_
          simp (disch := omega) only [goRules, coreRules, tiRules, unRules, AS_of_eq, ← decide_not, Nat.reduceAdd, Nat.reduceSub, Nat.reduceMul, Nat.reduceLT, Nat.reduceLeDiff, Nat.reduceEqDiff, Int.reduceNeg, Int.reduceAdd, Int.reduceSub, Int.reduceMul, Int.reduceGT, Int.reduceGE, Int.reduceLT, Int.reduceLE, Int.reduceEq, Int.reduceNe, Int.cast_ofNat_Int, Int.reduceToNat, ↓reduceIte, reduceCtorEq, wrap_i64]
      · first
          | (exfalso; have := h5.1; omega)
          | skip
        simp (disch := omega) only [goRules, coreRules, tiRules, unRules, AS_of_eq, ← decide_not, Nat.reduceAdd, Nat.reduceSub, Nat.reduceMul, Nat.reduceLT, Nat.reduceLeDiff, Nat.reduceEqDiff, Int.reduceNeg, Int.reduceAdd, Int.reduceSub, Int.reduceMul, Int.reduceGT, Int.reduceGE, Int.reduceLT, Int.reduceLE, Int.reduceEq, Int.reduceNe, Int.cast_ofNat_Int, Int.reduceToNat, ↓reduceIte, reduceCtorEq, wrap_i64, e1, res2, h1, h2, h5, show v ≥ 128 by omega, show v ≥ 2048 by omega, show ¬ v ≥ 65536 by omega, bne_self_eq_false, hl]
        refine call_valid (by simp [get_cons]) (by omega) ?_
        simp (disch := omega) only [goRules, coreRules, tiRules, unRules, AS_of_eq, ← decide_not, Nat.reduceAdd, Nat.reduceSub, Nat.reduceMul, Nat.reduceLT, Nat.reduceLeDiff, Nat.reduceEqDiff, Int.reduceNeg, Int.reduceAdd, Int.reduceSub, Int.reduceMul, Int.reduceGT, Int.reduceGE, Int.reduceLT, Int.reduceLE, Int.reduceEq, Int.reduceNe, Int.cast_ofNat_Int, Int.reduceToNat, ↓reduceIte, reduceCtorEq, wrap_i64, hp, Option.isSome_some, hl]
        refine call_round (by simp [get_cons]) hm (by omega) ?_
        have c1 := Int.emod_nonneg m (show (3 : Int) ≠ 0 by omega)
        have c2 := Int.emod_lt_of_pos m (show 0 < (3 : Int) by omega)
        generalize m % 3 = C at *
        simp (disch := omega) only [goRules, coreRules, tiRules, unRules, AS_of_eq, ← decide_not, Nat.reduceAdd, Nat.reduceSub, Nat.reduceMul, Nat.reduceLT, Nat.reduceLeDiff, Nat.reduceEqDiff, Int.reduceNeg, Int.reduceAdd, Int.reduceSub, Int.reduceMul, Int.reduceGT, Int.reduceGE, Int.reduceLT, Int.reduceLE, Int.reduceEq, Int.reduceNe, Int.cast_ofNat_Int, Int.reduceToNat, ↓reduceIte, reduceCtorEq, wrap_i64, hl]
        have u1 : (pts (E.take 2)).isSome = false := cut (by omega)
        have u2 : (pts ((E.drop 2).take 1)).isSome = false := tk 2 1 (by omega) (by omega) (by omega)
        (repeat (with_reducible refine And.intro ?_ ?_; focus (first | omega | exact mixed1 | kernel_rfl)))
        refine call_valid (by simp [get_cons]) (by rw [List.length_take]; omega) ?_
        simp (disch := omega) only [goRules, coreRules, tiRules, unRules, AS_of_eq, ← decide_not, Nat.reduceAdd, Nat.reduceSub, Nat.reduceMul, Nat.reduceLT, Nat.reduceLeDiff, Nat.reduceEqDiff, Int.reduceNeg, Int.reduceAdd, Int.reduceSub, Int.reduceMul, Int.reduceGT, Int.reduceGE, Int.reduceLT, Int.reduceLE, Int.reduceEq, Int.reduceNe, Int.cast_ofNat_Int, Int.reduceToNat, ↓reduceIte, reduceCtorEq, wrap_i64, u1, hl]
        (repeat (with_reducible refine And.intro ?_ ?_; focus (first | omega | exact mixed1 | kernel_rfl)))
        refine call_valid (by simp [get_cons]) (by simp only [List.length_drop, List.length_take]; omega) ?_
        simp (disch := omega) only [goRules, coreRules, tiRules, unRules, AS_of_eq, ← decide_not, Nat.reduceAdd, Nat.reduceSub, Nat.reduceMul, Nat.reduceLT, Nat.reduceLeDiff, Nat.reduceEqDiff, Int.reduceNeg, Int.reduceAdd, Int.reduceSub, Int.reduceMul, Int.reduceGT, Int.reduceGE, Int.reduceLT, Int.reduceLE, Int.reduceEq, Int.reduceNe, Int.cast_ofNat_Int, Int.reduceToNat, ↓reduceIte, reduceCtorEq, wrap_i64, u2, hl]
        (repeat (with_reducible refine And.intro ?_ ?_; focus (first | omega | exact mixed1 | kernel_rfl)))
        refine call_valid (by simp [get_cons]) (by rw [List.length_append]; omega) ?_
        simp (disch := omega) only [goRules, coreRules, tiRules, unRules, AS_of_eq, ← decide_not, Nat.reduceAdd, Nat.reduceSub, Nat.reduceMul, Nat.reduceLT, Nat.reduceLeDiff, Nat.reduceEqDiff, Int.reduceNeg, Int.reduceAdd, Int.reduceSub, Int.reduceMul, Int.reduceGT, Int.reduceGE, Int.reduceLT, Int.reduceLE, Int.reduceEq, Int.reduceNe, Int.cast_ofNat_Int, Int.reduceToNat, ↓reduceIte, reduceCtorEq, wrap_i64, hpv, Option.isSome_some]
        (with_reducible first | refine branchP_dec (fun q => ?_) (fun q => ?_) | refine guardB_dec (fun q => ?_) (fun q => ?_))
        · simp (disch := omega) only [goRules, coreRules, tiRules, unRules, AS_of_eq, ← decide_not, Nat.reduceAdd, Nat.reduceSub, Nat.reduceMul, Nat.reduceLT, Nat.reduceLeDiff, Nat.reduceEqDiff, Int.reduceNeg, Int.reduceAdd, Int.reduceSub, Int.reduceMul, Int.reduceGT, Int.reduceGE, Int.reduceLT, Int.reduceLE, Int.reduceEq, Int.reduceNe, Int.cast_ofNat_Int, Int.reduceToNat, ↓reduceIte, reduceCtorEq, wrap_i64, q]
          refine call_awake3 (by simp [get_cons]) ?_
          simp (disch := omega) only [goRules, coreRules, tiRules, unRules, AS_of_eq, ← decide_not, Nat.reduceAdd, Nat.reduceSub, Nat.reduceMul, Nat.reduceLT, Nat.reduceLeDiff, Nat.reduceEqDiff, Int.reduceNeg, Int.reduceAdd, Int.reduceSub, Int.reduceMul, Int.reduceGT, Int.reduceGE, Int.reduceLT, Int.reduceLE, Int.reduceEq, Int.reduceNe, Int.cast_ofNat_Int, Int.reduceToNat, ↓reduceIte, reduceCtorEq, wrap_i64]
        · simp (disch := omega) only [goRules, coreRules, tiRules, unRules, AS_of_eq, ← decide_not, Nat.reduceAdd, Nat.reduceSub, Nat.reduceMul, Nat.reduceLT, Nat.reduceLeDiff, Nat.reduceEqDiff, Int.reduceNeg, Int.reduceAdd, Int.reduceSub, Int.reduceMul, Int.reduceGT, Int.reduceGE, Int.reduceLT, Int.reduceLE, Int.reduceEq, Int.reduceNe, Int.cast_ofNat_Int, Int.reduceToNat, ↓reduceIte, reduceCtorEq, wrap_i64, q, hl]
          (repeat (with_reducible refine And.intro ?_ ?_; focus (first | omega | exact mixed1 | kernel_rfl)))
          refine call_valid (by simp [get_cons]) (by simp only [List.length_drop, List.length_take]; omega) ?_
          have u3 := fun j hj => tk C.toNat j (by omega) (by omega) hj
          simp (disch := omega) only [goRules, coreRules, tiRules, unRules, AS_of_eq, ← decide_not, Nat.reduceAdd, Nat.reduceSub, Nat.reduceMul, Nat.reduceLT, Nat.reduceLeDiff, Nat.reduceEqDiff, Int.reduceNeg, Int.reduceAdd, Int.reduceSub, Int.reduceMul, Int.reduceGT, Int.reduceGE, Int.reduceLT, Int.reduceLE, Int.reduceEq, Int.reduceNe, Int.cast_ofNat_Int, Int.reduceToNat, ↓reduceIte, reduceCtorEq, wrap_i64, u3]
          refine call_awake3 (by simp [get_cons]) ?_
          simp (disch := omega) only [goRules, coreRules, tiRules, unRules, AS_of_eq, ← decide_not, Nat.reduceAdd, Nat.reduceSub, Nat.reduceMul, Nat.reduceLT, Nat.reduceLeDiff, Nat.reduceEqDiff, Int.reduceNeg, Int.reduceAdd, Int.reduceSub, Int.reduceMul, Int.reduceGT, Int.reduceGE, Int.reduceLT, Int.reduceLE, Int.reduceEq, Int.reduceNe, Int.cast_ofNat_Int, Int.reduceToNat, ↓reduceIte, reduceCtorEq, wrap_i64]
      · first
          | (exfalso; have := h5.1; omega)
          | skip
        simp (disch := omega) only [goRules, coreRules, tiRules, unRules, AS_of_eq, ← decide_not, Nat.reduceAdd, Nat.reduceSub, Nat.reduceMul, Nat.reduceLT, Nat.reduceLeDiff, Nat.reduceEqDiff, Int.reduceNeg, Int.reduceAdd, Int.reduceSub, Int.reduceMul, Int.reduceGT, Int.reduceGE, Int.reduceLT, Int.reduceLE, Int.reduceEq, Int.reduceNe, Int.cast_ofNat_Int, Int.reduceToNat, ↓reduceIte, reduceCtorEq, wrap_i64, e1, res2, h1, h2, h5, show v ≥ 128 by omega, show v ≥ 2048 by omega, show v ≥ 65536 by omega, bne_self_eq_false, hl]
        refine call_valid (by simp [get_cons]) (by omega) ?_
        simp (disch := omega) only [goRules, coreRules, tiRules, unRules, AS_of_eq, ← decide_not, Nat.reduceAdd, Nat.reduceSub, Nat.reduceMul, Nat.reduceLT, Nat.reduceLeDiff, Nat.reduceEqDiff, Int.reduceNeg, Int.reduceAdd, Int.reduceSub, Int.reduceMul, Int.reduceGT, Int.reduceGE, Int.reduceLT, Int.reduceLE, Int.reduceEq, Int.reduceNe, Int.cast_ofNat_Int, Int.reduceToNat, ↓reduceIte, reduceCtorEq, wrap_i64, hp, Option.isSome_some, hl]
        refine call_round (by simp [get_cons]) hm (by omega) ?_
        have c1 := Int.emod_nonneg m (show (4 : Int) ≠ 0 by omega)
        have c2 := Int.emod_lt_of_pos m (show 0 < (4 : Int) by omega)
        generalize m % 4 = C at *
        simp (disch := omega) only [goRules, coreRules, tiRules, unRules, AS_of_eq, ← decide_not, Nat.reduceAdd, Nat.reduceSub, Nat.reduceMul, Nat.reduceLT, Nat.reduceLeDiff, Nat.reduceEqDiff, Int.reduceNeg, Int.reduceAdd, Int.reduceSub, Int.reduceMul, Int.reduceGT, Int.reduceGE, Int.reduceLT, Int.reduceLE, Int.reduceEq, Int.reduceNe, Int.cast_ofNat_Int, Int.reduceToNat, ↓reduceIte, reduceCtorEq, wrap_i64, hl]
        have u1 : (pts (E.take 3)).isSome = false := cut (by omega)
        have u2 : (pts ((E.drop 3).take 1)).isSome = false := tk 3 1 (by omega) (by omega) (by omega)
        (repeat (with_reducible refine And.intro ?_ ?_; focus (first | omega | exact mixed1 | kernel_rfl)))
        refine call_valid (by simp [get_cons]) (by rw [List.length_take]; omega) ?_
        simp (disch := omega) only [goRules, coreRules, tiRules, unRules, AS_of_eq, ← decide_not, Nat.reduceAdd, Nat.reduceSub, Nat.reduceMul, Nat.reduceLT, Nat.reduceLeDiff, Nat.reduceEqDiff, Int.reduceNeg, Int.reduceAdd, Int.reduceSub, Int.reduceMul, Int.reduceGT, Int.reduceGE, Int.reduceLT, Int.reduceLE, Int.reduceEq, Int.reduceNe, Int.cast_ofNat_Int, Int.reduceToNat, ↓reduceIte, reduceCtorEq, wrap_i64, u1, hl]
        (repeat (with_reducible refine And.intro ?_ ?_; focus (first | omega | exact mixed1 | kernel_rfl)))
        refine call_valid (by simp [get_cons]) (by simp only [List.length_drop, List.length_take]; omega) ?_
        simp (disch := omega) only [goRules, coreRules, tiRules, unRules, AS_of_eq, ← decide_not, Nat.reduceAdd, Nat.reduceSub, Nat.reduceMul, Nat.reduceLT, Nat.reduceLeDiff, Nat.reduceEqDiff, Int.reduceNeg, Int.reduceAdd, Int.reduceSub, Int.reduceMul, Int.reduceGT, Int.reduceGE, Int.reduceLT, Int.reduceLE, Int.reduceEq, Int.reduceNe, Int.cast_ofNat_Int, Int.reduceToNat, ↓reduceIte, reduceCtorEq, wrap_i64, u2, hl]
        (repeat (with_reducible refine And.intro ?_ ?_; focus (first | omega | exact mixed1 | kernel_rfl)))
        refine call_valid (by simp [get_cons]) (by rw [List.length_append]; omega) ?_
        simp (disch := omega) only [goRules, coreRules, tiRules, unRules, AS_of_eq, ← decide_not, Nat.reduceAdd, Nat.reduceSub, Nat.reduceMul, Nat.reduceLT, Nat.reduceLeDiff, Nat.reduceEqDiff, Int.reduceNeg, Int.reduceAdd, Int.reduceSub, Int.reduceMul, Int.reduceGT, Int.reduceGE, Int.reduceLT, Int.reduceLE, Int.reduceEq, Int.reduceNe, Int.cast_ofNat_Int, Int.reduceToNat, ↓reduceIte, reduceCtorEq, wrap_i64, hpv, Option.isSome_some]
        (with_reducible first | refine branchP_dec (fun q => ?_) (fun q => ?_) | refine guardB_dec (fun q => ?_) (fun q => ?_))
        · simp (disch := omega) only [goRules, coreRules, tiRules, unRules, AS_of_eq, ← decide_not, Nat.reduceAdd, Nat.reduceSub, Nat.reduceMul, Nat.reduceLT, Nat.reduceLeDiff, Nat.reduceEqDiff, Int.reduceNeg, Int.reduceAdd, Int.reduceSub, Int.reduceMul, Int.reduceGT, Int.reduceGE, Int.reduceLT, Int.reduceLE, Int.reduceEq, Int.reduceNe, Int.cast_ofNat_Int, Int.reduceToNat, ↓reduceIte, reduceCtorEq, wrap_i64, q]
          refine call_awake3 (by simp [get_cons]) ?_
          simp (disch := omega) only [goRules, coreRules, tiRules, unRules, AS_of_eq, ← decide_not, Nat.reduceAdd, Nat.reduceSub, Nat.reduceMul, Nat.reduceLT, Nat.reduceLeDiff, Nat.reduceEqDiff, Int.reduceNeg, Int.reduceAdd, Int.reduceSub, Int.reduceMul, Int.reduceGT, Int.reduceGE, Int.reduceLT, Int.reduceLE, Int.reduceEq, Int.reduceNe, Int.cast_ofNat_Int, Int.reduceToNat, ↓reduceIte, reduceCtorEq, wrap_i64]
        · simp (disch := omega) only [goRules, coreRules, tiRules, unRules, AS_of_eq, ← decide_not, Nat.reduceAdd, Nat.reduceSub, Nat.reduceMul, Nat.reduceLT, Nat.reduceLeDiff, Nat.reduceEqDiff, Int.reduceNeg, Int.reduceAdd, Int.reduceSub, Int.reduceMul, Int.reduceGT, Int.reduceGE, Int.reduceLT, Int.reduceLE, Int.reduceEq, Int.reduceNe, Int.cast_ofNat_Int, Int.reduceToNat, ↓reduceIte, reduceCtorEq, wrap_i64, q, hl]
          (repeat (with_reducible refine And.intro ?_ ?_; focus (first | omega | exact mixed1 | kernel_rfl)))
          refine call_valid (by simp [get_cons]) (by simp only [List.length_drop, List.length_take]; omega) ?_
          have u3 := fun j hj => tk C.toNat j (by omega) (by omega) hj
          simp (disch := omega) only [goRules, coreRules, tiRules, unRules, AS_of_eq, ← decide_not, Nat.reduceAdd, Nat.reduceSub, Nat.reduceMul, Nat.reduceLT, Nat.reduceLeDiff, Nat.reduceEqDiff, Int.reduceNeg, Int.reduceAdd, Int.reduceSub, Int.reduceMul, Int.reduceGT, Int.reduceGE, Int.reduceLT, Int.reduceLE, Int.reduceEq, Int.reduceNe, Int.cast_ofNat_Int, Int.reduceToNat, ↓reduceIte, reduceCtorEq, wrap_i64, u3]
          refine call_awake3 (by simp [get_cons]) ?_
          simp (disch := omega) only [goRules, coreRules, tiRules, unRules, AS_of_eq, ← decide_not, Nat.reduceAdd, Nat.reduceSub, Nat.reduceMul, Nat.reduceLT, Nat.reduceLeDiff, Nat.reduceEqDiff, Int.reduceNeg, Int.reduceAdd, Int.reduceSub, Int.reduceMul, Int.reduceGT, Int.reduceGE, Int.reduceLT, Int.reduceLE, Int.reduceEq, Int.reduceNe, Int.cast_ofNat_Int, Int.reduceToNat, ↓reduceIte, reduceCtorEq, wrap_i64]
    · rcases wn with ⟨a1, rfl⟩ | ⟨a1, a2, rfl⟩ | ⟨a1, a2, rfl⟩ | ⟨a1, rfl⟩
      · first
          | (exfalso; have := h5.1; omega)
          | skip
        simp (disch := omega) only [goRules, coreRules, tiRules, unRules, AS_of_eq, ← decide_not, Nat.reduceAdd, Nat.reduceSub, Nat.reduceMul, Nat.reduceLT, Nat.reduceLeDiff, Nat.reduceEqDiff, Int.reduceNeg, Int.reduceAdd, Int.reduceSub, Int.reduceMul, Int.reduceGT, Int.reduceGE, Int.reduceLT, Int.reduceLE, Int.reduceEq, Int.reduceNe, Int.cast_ofNat_Int, Int.reduceToNat, ↓reduceIte, reduceCtorEq, wrap_i64, e1, res2, h1, h2, h5, h6, show ¬ v ≥ 128 by omega, show ¬ v ≥ 2048 by omega, show ¬ v ≥ 65536 by omega, bne_self_eq_false, hl]
        refine call_valid (by simp [get_cons]) (by omega) ?_
        simp (disch := omega) only [goRules, coreRules, tiRules, unRules, AS_of_eq, ← decide_not, Nat.reduceAdd, Nat.reduceSub, Nat.reduceMul, Nat.reduceLT, Nat.reduceLeDiff, Nat.reduceEqDiff, Int.reduceNeg, Int.reduceAdd, Int.reduceSub, Int.reduceMul, Int.reduceGT, Int.reduceGE, Int.reduceLT, Int.reduceLE, Int.reduceEq, Int.reduceNe, Int.cast_ofNat_Int, Int.reduceToNat, ↓reduceIte, reduceCtorEq, wrap_i64, hp, Option.isSome_some, hl]
        refine call_round (by simp [get_cons]) hm (by omega) ?_
        have c1 := Int.emod_nonneg m (show (1 : Int) ≠ 0 by omega)
        have c2 := Int.emod_lt_of_pos m (show 0 < (1 : Int) by omega)
        generalize m % 1 = C at *
        simp (disch := omega) only [goRules, coreRules, tiRules, unRules, AS_of_eq, ← decide_not, Nat.reduceAdd, Nat.reduceSub, Nat.reduceMul, Nat.reduceLT, Nat.reduceLeDiff, Nat.reduceEqDiff, Int.reduceNeg, Int.reduceAdd, Int.reduceSub, Int.reduceMul, Int.reduceGT, Int.reduceGE, Int.reduceLT, Int.reduceLE, Int.reduceEq, Int.reduceNe, Int.cast_ofNat_Int, Int.reduceToNat, ↓reduceIte, reduceCtorEq, wrap_i64, hl]
        refine call_valid (by simp [get_cons]) (by rw [List.length_append]; omega) ?_
        simp (disch := omega) only [goRules, coreRules, tiRules, unRules, AS_of_eq, ← decide_not, Nat.reduceAdd, Nat.reduceSub, Nat.reduceMul, Nat.reduceLT, Nat.reduceLeDiff, Nat.reduceEqDiff, Int.reduceNeg, Int.reduceAdd, Int.reduceSub, Int.reduceMul, Int.reduceGT, Int.reduceGE, Int.reduceLT, Int.reduceLE, Int.reduceEq, Int.reduceNe, Int.cast_ofNat_Int, Int.reduceToNat, ↓reduceIte, reduceCtorEq, wrap_i64, hpv, Option.isSome_some, show C = 0 by omega]
        refine call_awake3 (by simp [get_cons]) ?_
        simp (disch := omega) only [goRules, coreRules, tiRules, unRules, AS_of_eq, ← decide_not, Nat.reduceAdd, Nat.reduceSub, Nat.reduceMul, Nat.reduceLT, Nat.reduceLeDiff, Nat.reduceEqDiff, Int.reduceNeg, Int.reduceAdd, Int.reduceSub, Int.reduceMul, Int.reduceGT, Int.reduceGE, Int.reduceLT, Int.reduceLE, Int.reduceEq, Int.reduceNe, Int.cast_ofNat_Int, Int.reduceToNat, ↓reduceIte, reduceCtorEq, wrap_i64]
      · first
          | (exfalso; have := h5.1; omega)
          | skip
        simp (disch := omega) only [goRules, coreRules, tiRules, unRules, AS_of_eq, ← decide_not, Nat.reduceAdd, Nat.reduceSub, Nat.reduceMul, Nat.reduceLT, Nat.reduceLeDiff, Nat.reduceEqDiff, Int.reduceNeg, Int.reduceAdd, Int.reduceSub, Int.reduceMul, Int.reduceGT, Int.reduceGE, Int.reduceLT, Int.reduceLE, Int.reduceEq, Int.reduceNe, Int.cast_ofNat_Int, Int.reduceToNat, ↓reduceIte, reduceCtorEq, wrap_i64, e1, res2, h1, h2, h5, h6, show v ≥ 128 by omega, show ¬ v ≥ 2048 by omega, show ¬ v ≥ 65536 by omega, bne_self_eq_false, hl]
        refine call_valid (by simp [get_cons]) (by omega) ?_
        simp (disch := omega) only [goRules, coreRules, tiRules, unRules, AS_of_eq, ← decide_not, Nat.reduceAdd, Nat.reduceSub, Nat.reduceMul, Nat.reduceLT, Nat.reduceLeDiff, Nat.reduceEqDiff, Int.reduceNeg, Int.reduceAdd, Int.reduceSub, Int.reduceMul, Int.reduceGT, Int.reduceGE, Int.reduceLT, Int.reduceLE, Int.reduceEq, Int.reduceNe, Int.cast_ofNat_Int, Int.reduceToNat, ↓reduceIte, reduceCtorEq, wrap_i64, hp, Option.isSome_some, hl]
        refine call_round (by simp [get_cons]) hm (by omega) ?_
        have c1 := Int.emod_nonneg m (show (2 : Int) ≠ 0 by omega)
        have c2 := Int.emod_lt_of_pos m (show 0 < (2 : Int) by omega)
        generalize m % 2 = C at *
        simp (disch := omega) only [goRules, coreRules, tiRules, unRules, AS_of_eq, ← decide_not, Nat.reduceAdd, Nat.reduceSub, Nat.reduceMul, Nat.reduceLT, Nat.reduceLeDiff, Nat.reduceEqDiff, Int.reduceNeg, Int.reduceAdd, Int.reduceSub, Int.reduceMul, Int.reduceGT, Int.reduceGE, Int.reduceLT, Int.reduceLE, Int.reduceEq, Int.reduceNe, Int.cast_ofNat_Int, Int.reduceToNat, ↓reduceIte, reduceCtorEq, wrap_i64, hl]
        have u1 : (pts (E.take 1)).isSome = false := cut (by omega)
        have u2 : (pts ((E.drop 1).take 1)).isSome = false := tk 1 1 (by omega) (by omega) (by omega)
        (repeat (with_reducible refine And.intro ?_ ?_; focus (first | omega | exact mixed1 | kernel_rfl)))
        refine call_valid (by simp [get_cons]) (by rw [List.length_take]; omega) ?_
        simp (disch := omega) only [goRules, coreRules, tiRules, unRules, AS_of_eq, ← decide_not, Nat.reduceAdd, Nat.reduceSub, Nat.reduceMul, Nat.reduceLT, Nat.reduceLeDiff, Nat.reduceEqDiff, Int.reduceNeg, Int.reduceAdd, Int.reduceSub, Int.reduceMul, Int.reduceGT, Int.reduceGE, Int.reduceLT, Int.reduceLE, Int.reduceEq, Int.reduceNe, Int.cast_ofNat_Int, Int.reduceToNat, ↓reduceIte, reduceCtorEq, wrap_i64, u1, hl]
        (repeat (with_reducible refine And.intro ?_ ?_; focus (first | omega | exact mixed1 | kernel_rfl)))
        refine call_valid (by simp [get_cons]) (by simp only [List.length_drop, List.length_take]; omega) ?_
        simp (disch := omega) only [goRules, coreRules, tiRules, unRules, AS_of_eq, ← decide_not, Nat.reduceAdd, Nat.reduceSub, Nat.reduceMul, Nat.reduceLT, Nat.reduceLeDiff, Nat.reduceEqDiff, Int.reduceNeg, Int.reduceAdd, Int.reduceSub, Int.reduceMul, Int.reduceGT, Int.reduceGE, Int.reduceLT, Int.reduceLE, Int.reduceEq, Int.reduceNe, Int.cast_ofNat_Int, Int.reduceToNat, ↓reduceIte, reduceCtorEq, wrap_i64, u2, hl]
        (repeat (with_reducible refine And.intro ?_ ?_; focus (first | omega | exact mixed1 | kernel_rfl)))
        refine call_valid (by simp [get_cons]) (by rw [List.length_append]; omega) ?_
        simp (disch := omega) only [goRules, coreRules, tiRules, unRules, AS_of_eq, ← decide_not, Nat.reduceAdd, Nat.reduceSub, Nat.reduceMul, Nat.reduceLT, Nat.reduceLeDiff, Nat.reduceEqDiff, Int.reduceNeg, Int.reduceAdd, Int.reduceSub, Int.reduceMul, Int.reduceGT, Int.reduceGE, Int.reduceLT, Int.reduceLE, Int.reduceEq, Int.reduceNe, Int.cast_ofNat_Int, Int.reduceToNat, ↓reduceIte, reduceCtorEq, wrap_i64, hpv, Option.isSome_some]
        (with_reducible first | refine branchP_dec (fun q => ?_) (fun q => ?_) | refine guardB_dec (fun q => ?_) (fun q => ?_))
        · simp (disch := omega) only [goRules, coreRules, tiRules, unRules, AS_of_eq, ← decide_not, Nat.reduceAdd, Nat.reduceSub, Nat.reduceMul, Nat.reduceLT, Nat.reduceLeDiff, Nat.reduceEqDiff, Int.reduceNeg, Int.reduceAdd, Int.reduceSub, Int.reduceMul, Int.reduceGT, Int.reduceGE, Int.reduceLT, Int.reduceLE, Int.reduceEq, Int.reduceNe, Int.cast_ofNat_Int, Int.reduceToNat, ↓reduceIte, reduceCtorEq, wrap_i64, q]
          refine call_awake3 (by simp [get_cons]) ?_
          simp (disch := omega) only [goRules, coreRules, tiRules, unRules, AS_of_eq, ← decide_not, Nat.reduceAdd, Nat.reduceSub, Nat.reduceMul, Nat.reduceLT, Nat.reduceLeDiff, Nat.reduceEqDiff, Int.reduceNeg, Int.reduceAdd, Int.reduceSub, Int.reduceMul, Int.reduceGT, Int.reduceGE, Int.reduceLT, Int.reduceLE, Int.reduceEq, Int.reduceNe, Int.cast_ofNat_Int, Int.reduceToNat, ↓reduceIte, reduceCtorEq, wrap_i64]
        · simp (disch := omega) only [goRules, coreRules, tiRules, unRules, AS_of_eq, ← decide_not, Nat.reduceAdd, Nat.reduceSub, Nat.reduceMul, Nat.reduceLT, Nat.reduceLeDiff, Nat.reduceEqDiff, Int.reduceNeg, Int.reduceAdd, Int.reduceSub, Int.reduceMul, Int.reduceGT, Int.reduceGE, Int.reduceLT, Int.reduceLE, Int.reduceEq, Int.reduceNe, Int.cast_ofNat_Int, Int.reduceToNat, ↓reduceIte, reduceCtorEq, wrap_i64, q, hl]
          (repeat (with_reducible refine And.intro ?_ ?_; focus (first | omega | exact mixed1 | kernel_rfl)))
          refine call_valid (by simp [get_cons]) (by simp only [List.length_drop, List.length_take]; omega) ?_
          have u3 := fun j hj => tk C.toNat j (by omega) (by omega) hj
          simp (disch := omega) only [goRules, coreRules, tiRules, unRules, AS_of_eq, ← decide_not, Nat.reduceAdd, Nat.reduceSub, Nat.reduceMul, Nat.reduceLT, Nat.reduceLeDiff, Nat.reduceEqDiff, Int.reduceNeg, Int.reduceAdd, Int.reduceSub, Int.reduceMul, Int.reduceGT, Int.reduceGE, Int.reduceLT, Int.reduceLE, Int.reduceEq, Int.reduceNe, Int.cast_ofNat_Int, Int.reduceToNat, ↓reduceIte, reduceCtorEq, wrap_i64, u3]
          refine call_awake3 (by simp [get_cons]) ?_
          simp (disch := omega) only [goRules, coreRules, tiRules, unRules, AS_of_eq, ← decide_not, Nat.reduceAdd, Nat.reduceSub, Nat.reduceMul, Nat.reduceLT, Nat.reduceLeDiff, Nat.reduceEqDiff, Int.reduceNeg, Int.reduceAdd, Int.reduceSub, Int.reduceMul, Int.reduceGT, Int.reduceGE, Int.reduceLT, Int.reduceLE, Int.reduceEq, Int.reduceNe, Int.cast_ofNat_Int, Int.reduceToNat, ↓reduceIte, reduceCtorEq, wrap_i64]
      · first
          | (exfalso; have := h5.1; omega)
          | skip
        simp (disch := omega) only [goRules, coreRules, tiRules, unRules, AS_of_eq, ← decide_not, Nat.reduceAdd, Nat.reduceSub, Nat.reduceMul, Nat.reduceLT, Nat.reduceLeDiff, Nat.reduceEqDiff, Int.reduceNeg, Int.reduceAdd, Int.reduceSub, Int.reduceMul, Int.reduceGT, Int.reduceGE, Int.reduceLT, Int.reduceLE, Int.reduceEq, Int.reduceNe, Int.cast_ofNat_Int, Int.reduceToNat, ↓reduceIte, reduceCtorEq, wrap_i64, e1, res2, h1, h2, h5, h6, show v ≥ 128 by omega, show v ≥ 2048 by omega, show ¬ v ≥ 65536 by omega, bne_self_eq_false, hl]
        refine call_valid (by simp [get_cons]) (by omega) ?_
        simp (disch := omega) only [goRules, coreRules, tiRules, unRules, AS_of_eq, ← decide_not, Nat.reduceAdd, Nat.reduceSub, Nat.reduceMul, Nat.reduceLT, Nat.reduceLeDiff, Nat.reduceEqDiff, Int.reduceNeg, Int.reduceAdd, Int.reduceSub, Int.reduceMul, Int.reduceGT, Int.reduceGE, Int.reduceLT, Int.reduceLE, Int.reduceEq, Int.reduceNe, Int.cast_ofNat_Int, Int.reduceToNat, ↓reduceIte, reduceCtorEq, wrap_i64, hp, Option.isSome_some, hl]
        refine call_round (by simp [get_cons]) hm (by omega) ?_
        have c1 := Int.emod_nonneg m (show (3 : Int) ≠ 0 by omega)
        have c2 := Int.emod_lt_of_pos m (show 0 < (3 : Int) by omega)
        generalize m % 3 = C at *
        simp (disch := omega) only [goRules, coreRules, tiRules, unRules, AS_of_eq, ← decide_not, Nat.reduceAdd, Nat.reduceSub, Nat.reduceMul, Nat.reduceLT, Nat.reduceLeDiff, Nat.reduceEqDiff, Int.reduceNeg, Int.reduceAdd, Int.reduceSub, Int.reduceMul, Int.reduceGT, Int.reduceGE, Int.reduceLT, Int.reduceLE, Int.reduceEq, Int.reduceNe, Int.cast_ofNat_Int, Int.reduceToNat, ↓reduceIte, reduceCtorEq, wrap_i64, hl]
        have u1 : (pts (E.take 2)).isSome = false := cut (by omega)
        have u2 : (pts ((E.drop 2).take 1)).isSome = false := tk 2 1 (by omega) (by omega) (by omega)
        (repeat (with_reducible refine And.intro ?_ ?_; focus (first | omega | exact mixed1 | kernel_rfl)))
        refine call_valid (by simp [get_cons]) (by rw [List.length_take]; omega) ?_
        simp (disch := omega) only [goRules, coreRules, tiRules, unRules, AS_of_eq, ← decide_not, Nat.reduceAdd, Nat.reduceSub, Nat.reduceMul, Nat.reduceLT, Nat.reduceLeDiff, Nat.reduceEqDiff, Int.reduceNeg, Int.reduceAdd, Int.reduceSub, Int.reduceMul, Int.reduceGT, Int.reduceGE, Int.reduceLT, Int.reduceLE, Int.reduceEq, Int.reduceNe, Int.cast_ofNat_Int, Int.reduceToNat, ↓reduceIte, reduceCtorEq, wrap_i64, u1, hl]
        (repeat (with_reducible refine And.intro ?_ ?_; focus (first | omega | exact mixed1 | kernel_rfl)))
        refine call_valid (by simp [get_cons]) (by simp only [List.length_drop, List.length_take]; omega) ?_
        simp (disch := omega) only [goRules, coreRules, tiRules, unRules, AS_of_eq, ← decide_not, Nat.reduceAdd, Nat.reduceSub, Nat.reduceMul, Nat.reduceLT, Nat.reduceLeDiff, Nat.reduceEqDiff, Int.reduceNeg, Int.reduceAdd, Int.reduceSub, Int.reduceMul, Int.reduceGT, Int.reduceGE, Int.reduceLT, Int.reduceLE, Int.reduceEq, Int.reduceNe, Int.cast_ofNat_Int, Int.reduceToNat, ↓reduceIte, reduceCtorEq, wrap_i64, u2, hl]
        (repeat (with_reducible refine And.intro ?_ ?_; focus (first | omega | exact mixed1 | kernel_rfl)))
        refine call_valid (by simp [get_cons]) (by rw [List.length_append]; omega) ?_
        simp (disch := omega) only [goRules, coreRules, tiRules, unRules, AS_of_eq, ← decide_not, Nat.reduceAdd, Nat.reduceSub, Nat.reduceMul, Nat.reduceLT, Nat.reduceLeDiff, Nat.reduceEqDiff, Int.reduceNeg, Int.reduceAdd, Int.reduceSub, Int.reduceMul, Int.reduceGT, Int.reduceGE, Int.reduceLT, Int.reduceLE, Int.reduceEq, Int.reduceNe, Int.cast_ofNat_Int, Int.reduceToNat, ↓reduceIte, reduceCtorEq, wrap_i64, hpv, Option.isSome_some]
        (with_reducible first | refine branchP_dec (fun q => ?_) (fun q => ?_) | refine guardB_dec (fun q => ?_) (fun q => ?_))
        · simp (disch := omega) only [goRules, coreRules, tiRules, unRules, AS_of_eq, ← decide_not, Nat.reduceAdd, Nat.reduceSub, Nat.reduceMul, Nat.reduceLT, Nat.reduceLeDiff, Nat.reduceEqDiff, Int.reduceNeg, Int.reduceAdd, Int.reduceSub, Int.reduceMul, Int.reduceGT, Int.reduceGE, Int.reduceLT, Int.reduceLE, Int.reduceEq, Int.reduceNe, Int.cast_ofNat_Int, Int.reduceToNat, ↓reduceIte, reduceCtorEq, wrap_i64, q]
          refine call_awake3 (by simp [get_cons]) ?_
          simp (disch := omega) only [goRules, coreRules, tiRules, unRules, AS_of_eq, ← decide_not, Nat.reduceAdd, Nat.reduceSub, Nat.reduceMul, Nat.reduceLT, Nat.reduceLeDiff, Nat.reduceEqDiff, Int.reduceNeg, Int.reduceAdd, Int.reduceSub, Int.reduceMul, Int.reduceGT, Int.reduceGE, Int.reduceLT, Int.reduceLE, Int.reduceEq, Int.reduceNe, Int.cast_ofNat_Int, Int.reduceToNat, ↓reduceIte, reduceCtorEq, wrap_i64]
        · simp (disch := omega) only [goRules, coreRules, tiRules, unRules, AS_of_eq, ← decide_not, Nat.reduceAdd, Nat.reduceSub, Nat.reduceMul, Nat.reduceLT, Nat.reduceLeDiff, Nat.reduceEqDiff, Int.reduceNeg, Int.reduceAdd, Int.reduceSub, Int.reduceMul, Int.reduceGT, Int.reduceGE, Int.reduceLT, Int.reduceLE, Int.reduceEq, Int.reduceNe, Int.cast_ofNat_Int, Int.reduceToNat, ↓reduceIte, reduceCtorEq, wrap_i64, q, hl]
          (repeat (with_reducible refine And.intro ?_ ?_; focus (first | omega | exact mixed1 | kernel_rfl)))
          refine call_valid (by simp [get_cons]) (by simp only [List.length_drop, List.length_take]; omega) ?_
          have u3 := fun j hj => tk C.toNat j (by omega) (by omega) hj
          simp (disch := omega) only [goRules, coreRules, tiRules, unRules, AS_of_eq, ← decide_not, Nat.reduceAdd, Nat.reduceSub, Nat.reduceMul, Nat.reduceLT, Nat.reduceLeDiff, Nat.reduceEqDiff, Int.reduceNeg, Int.reduceAdd, Int.reduceSub, Int.reduceMul, Int.reduceGT, Int.reduceGE, Int.reduceLT, Int.reduceLE, Int.reduceEq, Int.reduceNe, Int.cast_ofNat_Int, Int.reduceToNat, ↓reduceIte, reduceCtorEq, wrap_i64, u3]
          refine call_awake3 (by simp [get_cons]) ?_
          simp (disch := omega) only [goRules, coreRules, tiRules, unRules, AS_of_eq, ← decide_not, Nat.reduceAdd, Nat.reduceSub, Nat.reduceMul, Nat.reduceLT, Nat.reduceLeDiff, Nat.reduceEqDiff, Int.reduceNeg, Int.reduceAdd, Int.reduceSub, Int.reduceMul, Int.reduceGT, Int.reduceGE, Int.reduceLT, Int.reduceLE, Int.reduceEq, Int.reduceNe, Int.cast_ofNat_Int, Int.reduceToNat, ↓reduceIte, reduceCtorEq, wrap_i64]
      · first
          | (exfalso; have := h5.1; omega)
          | skip
        simp (disch := omega) only [goRules, coreRules, tiRules, unRules, AS_of_eq, ← decide_not, Nat.reduceAdd, Nat.reduceSub, Nat.reduceMul, Nat.reduceLT, Nat.reduceLeDiff, Nat.reduceEqDiff, Int.reduceNeg, Int.reduceAdd, Int.reduceSub, Int.reduceMul, Int.reduceGT, Int.reduceGE, Int.reduceLT, Int.reduceLE, Int.reduceEq, Int.reduceNe, Int.cast_ofNat_Int, Int.reduceToNat, ↓reduceIte, reduceCtorEq, wrap_i64, e1, res2, h1, h2, h5, h6, show v ≥ 128 by omega, show v ≥ 2048 by omega, show v ≥ 65536 by omega, bne_self_eq_false, hl]
        refine call_valid (by simp [get_cons]) (by omega) ?_
        simp (disch := omega) only [goRules, coreRules, tiRules, unRules, AS_of_eq, ← decide_not, Nat.reduceAdd, Nat.reduceSub, Nat.reduceMul, Nat.reduceLT, Nat.reduceLeDiff, Nat.reduceEqDiff, Int.reduceNeg, Int.reduceAdd, Int.reduceSub, Int.reduceMul, Int.reduceGT, Int.reduceGE, Int.reduceLT, Int.reduceLE, Int.reduceEq, Int.reduceNe, Int.cast_ofNat_Int, Int.reduceToNat, ↓reduceIte, reduceCtorEq, wrap_i64, hp, Option.isSome_some, hl]
        refine call_round (by simp [get_cons]) hm (by omega) ?_
        have c1 := Int.emod_nonneg m (show (4 : Int) ≠ 0 by omega)
        have c2 := Int.emod_lt_of_pos m (show 0 < (4 : Int) by omega)
        generalize m % 4 = C at *
        simp (disch := omega) only [goRules, coreRules, tiRules, unRules, AS_of_eq, ← decide_not, Nat.reduceAdd, Nat.reduceSub, Nat.reduceMul, Nat.reduceLT, Nat.reduceLeDiff, Nat.reduceEqDiff, Int.reduceNeg, Int.reduceAdd, Int.reduceSub, Int.reduceMul, Int.reduceGT, Int.reduceGE, Int.reduceLT, Int.reduceLE, Int.reduceEq, Int.reduceNe, Int.cast_ofNat_Int, Int.reduceToNat, ↓reduceIte, reduceCtorEq, wrap_i64, hl]
        have u1 : (pts (E.take 3)).isSome = false := cut (by omega)
        have u2 : (pts ((E.drop 3).take 1)).isSome = false := tk 3 1 (by omega) (by omega) (by omega)
        (repeat (with_reducible refine And.intro ?_ ?_; focus (first | omega | exact mixed1 | kernel_rfl)))
        refine call_valid (by simp [get_cons]) (by rw [List.length_take]; omega) ?_
        simp (disch := omega) only [goRules, coreRules, tiRules, unRules, AS_of_eq, ← decide_not, Nat.reduceAdd, Nat.reduceSub, Nat.reduceMul, Nat.reduceLT, Nat.reduceLeDiff, Nat.reduceEqDiff, Int.reduceNeg, Int.reduceAdd, Int.reduceSub, Int.reduceMul, Int.reduceGT, Int.reduceGE, Int.reduceLT, Int.reduceLE, Int.reduceEq, Int.reduceNe, Int.cast_ofNat_Int, Int.reduceToNat, ↓reduceIte, reduceCtorEq, wrap_i64, u1, hl]
        (repeat (with_reducible refine And.intro ?_ ?_; focus (first | omega | exact mixed1 | kernel_rfl)))
        refine call_valid (by simp [get_cons]) (by simp only [List.length_drop, List.length_take]; omega) ?_
        simp (disch := omega) only [goRules, coreRules, tiRules, unRules, AS_of_eq, ← decide_not, Nat.reduceAdd, Nat.reduceSub, Nat.reduceMul, Nat.reduceLT, Nat.reduceLeDiff, Nat.reduceEqDiff, Int.reduceNeg, Int.reduceAdd, Int.reduceSub, Int.reduceMul, Int.reduceGT, Int.reduceGE, Int.reduceLT, Int.reduceLE, Int.reduceEq, Int.reduceNe, Int.cast_ofNat_Int, Int.reduceToNat, ↓reduceIte, reduceCtorEq, wrap_i64, u2, hl]
        (repeat (with_reducible refine And.intro ?_ ?_; focus (first | omega | exact mixed1 | kernel_rfl)))
        refine call_valid (by simp [get_cons]) (by rw [List.length_append]; omega) ?_
        simp (disch := omega) only [goRules, coreRules, tiRules, unRules, AS_of_eq, ← decide_not, Nat.reduceAdd, Nat.reduceSub, Nat.reduceMul, Nat.reduceLT, Nat.reduceLeDiff, Nat.reduceEqDiff, Int.reduceNeg, Int.reduceAdd, Int.reduceSub, Int.reduceMul, Int.reduceGT, Int.reduceGE, Int.reduceLT, Int.reduceLE, Int.reduceEq, Int.reduceNe, Int.cast_ofNat_Int, Int.reduceToNat, ↓reduceIte, reduceCtorEq, wrap_i64, hpv, Option.isSome_some]
        (with_reducible first | refine branchP_dec (fun q => ?_) (fun q => ?_) | refine guardB_dec (fun q => ?_) (fun q => ?_))
        · simp (disch := omega) only [goRules, coreRules, tiRules, unRules, AS_of_eq, ← decide_not, Nat.reduceAdd, Nat.reduceSub, Nat.reduceMul, Nat.reduceLT, Nat.reduceLeDiff, Nat.reduceEqDiff, Int.reduceNeg, Int.reduceAdd, Int.reduceSub, Int.reduceMul, Int.reduceGT, Int.reduceGE, Int.reduceLT, Int.reduceLE, Int.reduceEq, Int.reduceNe, Int.cast_ofNat_Int, Int.reduceToNat, ↓reduceIte, reduceCtorEq, wrap_i64, q]
          refine call_awake3 (by simp [get_cons]) ?_
          simp (disch := omega) only [goRules, coreRules, tiRules, unRules, AS_of_eq, ← decide_not, Nat.reduceAdd, Nat.reduceSub, Nat.reduceMul, Nat.reduceLT, Nat.reduceLeDiff, Nat.reduceEqDiff, Int.reduceNeg, Int.reduceAdd, Int.reduceSub, Int.reduceMul, Int.reduceGT, Int.reduceGE, Int.reduceLT, Int.reduceLE, Int.reduceEq, Int.reduceNe, Int.cast_ofNat_Int, Int.reduceToNat, ↓reduceIte, reduceCtorEq, wrap_i64]
        · simp (disch := omega) only [goRules, coreRules, tiRules, unRules, AS_of_eq, ← decide_not, Nat.reduceAdd, Nat.reduceSub, Nat.reduceMul, Nat.reduceLT, Nat.reduceLeDiff, Nat.reduceEqDiff, Int.reduceNeg, Int.reduceAdd, Int.reduceSub, Int.reduceMul, Int.reduceGT, Int.reduceGE, Int.reduceLT, Int.reduceLE, Int.reduceEq, Int.reduceNe, Int.cast_ofNat_Int, Int.reduceToNat, ↓reduceIte, reduceCtorEq, wrap_i64, q, hl]
          (repeat (with_reducible refine And.intro ?_ ?_; focus (first | omega | exact mixed1 | kernel_rfl)))
          refine call_valid (by simp [get_cons]) (by simp only [List.length_drop, List.length_take]; omega) ?_
          have u3 := fun j hj => tk C.toNat j (by omega) (by omega) hj
          simp (disch := omega) only [goRules, coreRules, tiRules, unRules, AS_of_eq, ← decide_not, Nat.reduceAdd, Nat.reduceSub, Nat.reduceMul, Nat.reduceLT, Nat.reduceLeDiff, Nat.reduceEqDiff, Int.reduceNeg, Int.reduceAdd, Int.reduceSub, Int.reduceMul, Int.reduceGT, Int.reduceGE, Int.reduceLT, Int.reduceLE, Int.reduceEq, Int.reduceNe, Int.cast_ofNat_Int, Int.reduceToNat, ↓reduceIte, reduceCtorEq, wrap_i64, u3]
          refine call_awake3 (by simp [get_cons]) ?_
          simp (disch := omega) only [goRules, coreRules, tiRules, unRules, AS_of_eq, ← decide_not, Nat.reduceAdd, Nat.reduceSub, Nat.reduceMul, Nat.reduceLT, Nat.reduceLeDiff, Nat.reduceEqDiff, Int.reduceNeg, Int.reduceAdd, Int.reduceSub, Int.reduceMul, Int.reduceGT, Int.reduceGE, Int.reduceLT, Int.reduceLE, Int.reduceEq, Int.reduceNe, Int.cast_ofNat_Int, Int.reduceToNat, ↓reduceIte, reduceCtorEq, wrap_i64]
  · have e1 : textR [v] = res2 (.v (sv [])) 2 := by unfold textR; rw [textN_one, if_neg h]
    simp only [goRules, coreRules, tiRules, unRules, AS_of_eq, ← decide_not, Nat.reduceAdd, Nat.reduceSub, Nat.reduceMul, Nat.reduceLT, Nat.reduceLeDiff, Nat.reduceEqDiff, Int.reduceNeg, Int.reduceAdd, Int.reduceSub, Int.reduceMul, Int.reduceGT, Int.reduceGE, Int.reduceLT, Int.reduceLE, Int.reduceEq, Int.reduceNe, Int.cast_ofNat_Int, Int.reduceToNat, ↓reduceIte, reduceCtorEq, e1, res2]
    by_cases h1 : v ≥ 1 <;> by_cases h2 : v ≤ 1114111 <;> by_cases h3 : v < 55296 <;> by_cases h4 : v > 57343
    all_goals first
      | (exfalso; exact h (hok.2 (by omega)))
      | (simp only [goRules, coreRules, tiRules, unRules, AS_of_eq, ← decide_not, Nat.reduceAdd, Nat.reduceSub, Nat.reduceMul, Nat.reduceLT, Nat.reduceLeDiff, Nat.reduceEqDiff, Int.reduceNeg, Int.reduceAdd, Int.reduceSub, Int.reduceMul, Int.reduceGT, Int.reduceGE, Int.reduceLT, Int.reduceLE, Int.reduceEq, Int.reduceNe, Int.cast_ofNat_Int, Int.reduceToNat, ↓reduceIte, reduceCtorEq, h1, h2, h3, h4, bne_self_eq_false]
         refine call_awake3 (by simp [get_cons]) ?_
         simp only [goRules, coreRules, tiRules, unRules, AS_of_eq, ← decide_not, Nat.reduceAdd, Nat.reduceSub, Nat.reduceMul, Nat.reduceLT, Nat.reduceLeDiff, Nat.reduceEqDiff, Int.reduceNeg, Int.reduceAdd, Int.reduceSub, Int.reduceMul, Int.reduceGT, Int.reduceGE, Int.reduceLT, Int.reduceLE, Int.reduceEq, Int.reduceNe, Int.cast_ofNat_Int, Int.reduceToNat, ↓reduceIte, reduceCtorEq])
theorem call_rtext {Γ : Env} (hf : Γ.get 22 = some rtextCon) {σ : AS} {dr : Bool} {l : List Int} {t : Nat} {ys : List AV} {d : Option Nat} {K : AS → Prop} (hy : ys = ints .i64 l) (h : l.length ≤ 1099511627776) (h2 : ∀ x ∈ l, -9223372036854775808 ≤ x ∧ x ≤ 9223372036854775807)
    (hk : cont σ d (rtextR l) K) : vcCall Tryd.prog Γ dr σ 22 [.sl t 1 ys] d K := by
  subst hy
  exact vcCall_plain (C := rtextCon) (i := ⟨l, h, h2⟩) hf rfl rfl rfl rfl (fun _ h => h) (rtextR_plain l) hk
abbrev StrB := { l : List UInt8 // l.length ≤ 9223372036854775807 }
theorem nats_intsB (l : List Nat) : nats l = ints .i64 (l.map fun (c : Nat) => (c : Int)) := rfl
abbrev backCon : Con where
  ι := StrB × I64 × { l : List Int // l.length ≤ 9223372036854775807 ∧ ∀ x ∈ l, -9223372036854775808 ≤ x ∧ x ≤ 9223372036854775807 }
  args := fun p => [.v (sv p.1.1), .v (.int .i64 p.2.1.1), .sl 0 1 (ints .i64 p.2.2.1)]
  post := fun _ r => r = .v (.bool true)
  plain := true
theorem encs_parts (cs : List Nat) (k : Nat) : encs (cs.take k) ++ encs (cs.drop k) = encs cs := by rw [← encs_app, List.take_append_drop]
theorem back_good : Rw.Good Tryd.prog 5 backCon := by
  have hΓ : GoodEnv Tryd.prog [(10, textCon), (22, rtextCon), (11, trueCon), (12, validCon), (16, pointsCon), (15, countCon), (13, roundCon), (17, sliceCon), (18, offCon)] := (goodEnv_cons text_good (goodEnv_cons rtext_good (goodEnv_cons awake3_good (goodEnv_cons valid_good (goodEnv_cons points_good (goodEnv_cons count_good (goodEnv_cons round_good (goodEnv_cons slice_good (goodEnv_cons off_good goodEnv_nil)))))))))
  refine good_fn (nn := 141) hΓ Tryd.func5 (by kernel_rfl) rfl (show Tryd.f5.results.toList = [.tmp 6] from rfl) (fun _ => rfl) (fun _ => rfl) ?_
  rintro ⟨⟨s, hs⟩, ⟨at_, ha⟩, ⟨l, hl, hr⟩⟩
  simp only at hs ha hl hr ⊢
  simp only [goRules, coreRules, tiRules, unRules, AS_of_eq, ← decide_not, Nat.reduceAdd, Nat.reduceSub, Nat.reduceMul, Nat.reduceLT, Nat.reduceLeDiff, Nat.reduceEqDiff, Int.reduceNeg, Int.reduceAdd, Int.reduceSub, Int.reduceMul, Int.reduceGT, Int.reduceGE, Int.reduceLT, Int.reduceLE, Int.reduceEq, Int.reduceNe, Int.cast_ofNat_Int, Int.reduceToNat, ↓reduceIte, reduceCtorEq, ints_len]
  by_cases h1 : (s.length : Int) > 500
  · simp only [goRules, coreRules, tiRules, unRules, AS_of_eq, ← decide_not, Nat.reduceAdd, Nat.reduceSub, Nat.reduceMul, Nat.reduceLT, Nat.reduceLeDiff, Nat.reduceEqDiff, Int.reduceNeg, Int.reduceAdd, Int.reduceSub, Int.reduceMul, Int.reduceGT, Int.reduceGE, Int.reduceLT, Int.reduceLE, Int.reduceEq, Int.reduceNe, Int.cast_ofNat_Int, Int.reduceToNat, ↓reduceIte, reduceCtorEq, h1, ints_len]
    refine call_awake3 (by simp [get_cons]) ?_
    simp only [goRules, coreRules, tiRules, unRules, AS_of_eq, ← decide_not, Nat.reduceAdd, Nat.reduceSub, Nat.reduceMul, Nat.reduceLT, Nat.reduceLeDiff, Nat.reduceEqDiff, Int.reduceNeg, Int.reduceAdd, Int.reduceSub, Int.reduceMul, Int.reduceGT, Int.reduceGE, Int.reduceLT, Int.reduceLE, Int.reduceEq, Int.reduceNe, Int.cast_ofNat_Int, Int.reduceToNat, ↓reduceIte, reduceCtorEq]
  by_cases h2 : (l.length : Int) > 200
  · simp only [goRules, coreRules, tiRules, unRules, AS_of_eq, ← decide_not, Nat.reduceAdd, Nat.reduceSub, Nat.reduceMul, Nat.reduceLT, Nat.reduceLeDiff, Nat.reduceEqDiff, Int.reduceNeg, Int.reduceAdd, Int.reduceSub, Int.reduceMul, Int.reduceGT, Int.reduceGE, Int.reduceLT, Int.reduceLE, Int.reduceEq, Int.reduceNe, Int.cast_ofNat_Int, Int.reduceToNat, ↓reduceIte, reduceCtorEq, h1, h2, ints_len]
    refine call_awake3 (by simp [get_cons]) ?_
    simp only [goRules, coreRules, tiRules, unRules, AS_of_eq, ← decide_not, Nat.reduceAdd, Nat.reduceSub, Nat.reduceMul, Nat.reduceLT, Nat.reduceLeDiff, Nat.reduceEqDiff, Int.reduceNeg, Int.reduceAdd, Int.reduceSub, Int.reduceMul, Int.reduceGT, Int.reduceGE, Int.reduceLT, Int.reduceLE, Int.reduceEq, Int.reduceNe, Int.cast_ofNat_Int, Int.reduceToNat, ↓reduceIte, reduceCtorEq]
  have hs2 : s.length ≤ 1099511627776 := by omega
  simp only [goRules, coreRules, tiRules, unRules, AS_of_eq, ← decide_not, Nat.reduceAdd, Nat.reduceSub, Nat.reduceMul, Nat.reduceLT, Nat.reduceLeDiff, Nat.reduceEqDiff, Int.reduceNeg, Int.reduceAdd, Int.reduceSub, Int.reduceMul, Int.reduceGT, Int.reduceGE, Int.reduceLT, Int.reduceLE, Int.reduceEq, Int.reduceNe, Int.cast_ofNat_Int, Int.reduceToNat, ↓reduceIte, reduceCtorEq, h1, h2, ints_len]
  refine call_text (by simp [get_cons]) rfl (by omega) hr ?_
  have key : ∀ t b, (textR l = res2 (.v (sv t)) (if b then 0 else 2) ∧ rtextR l = .tup [.v (sv t), .v (.bool b)]) → True := fun _ _ _ => trivial
  obtain ⟨t, b, e1, e2⟩ : ∃ (t : List UInt8) (b : Bool), textR l = res2 (.v (sv t)) (if b then 0 else 2) ∧ rtextR l = .tup [.v (sv t), .v (.bool b)] := by
    rcases opt_cases (textN l) with hx | ⟨t, hx⟩
    · exact ⟨[], false, by unfold textR; rw [hx]; rfl, by unfold rtextR; rw [hx]⟩
    · exact ⟨t, true, by unfold textR; rw [hx]; rfl, by unfold rtextR; rw [hx]⟩
  cases b
  all_goals
    simp only [goRules, coreRules, tiRules, unRules, AS_of_eq, ← decide_not, Nat.reduceAdd, Nat.reduceSub, Nat.reduceMul, Nat.reduceLT, Nat.reduceLeDiff, Nat.reduceEqDiff, Int.reduceNeg, Int.reduceAdd, Int.reduceSub, Int.reduceMul, Int.reduceGT, Int.reduceGE, Int.reduceLT, Int.reduceLE, Int.reduceEq, Int.reduceNe, Int.cast_ofNat_Int, Int.reduceToNat, ↓reduceIte, reduceCtorEq, e1, res2]
    refine call_rtext (by simp [get_cons]) rfl (by omega) hr ?_
    simp only [goRules, coreRules, tiRules, unRules, AS_of_eq, ← decide_not, Nat.reduceAdd, Nat.reduceSub, Nat.reduceMul, Nat.reduceLT, Nat.reduceLeDiff, Nat.reduceEqDiff, Int.reduceNeg, Int.reduceAdd, Int.reduceSub, Int.reduceMul, Int.reduceGT, Int.reduceGE, Int.reduceLT, Int.reduceLE, Int.reduceEq, Int.reduceNe, Int.cast_ofNat_Int, Int.reduceToNat, ↓reduceIte, reduceCtorEq, e2, bne_self_eq_false]
    refine call_valid (by simp [get_cons]) hs2 ?_
    rcases opt_cases (pts s) with hp | ⟨cs, hp⟩
    · simp only [goRules, coreRules, tiRules, unRules, AS_of_eq, ← decide_not, Nat.reduceAdd, Nat.reduceSub, Nat.reduceMul, Nat.reduceLT, Nat.reduceLeDiff, Nat.reduceEqDiff, Int.reduceNeg, Int.reduceAdd, Int.reduceSub, Int.reduceMul, Int.reduceGT, Int.reduceGE, Int.reduceLT, Int.reduceLE, Int.reduceEq, Int.reduceNe, Int.cast_ofNat_Int, Int.reduceToNat, ↓reduceIte, reduceCtorEq, hp, Option.isSome_none]
      refine call_awake3 (by simp [get_cons]) ?_
      simp only [goRules, coreRules, tiRules, unRules, AS_of_eq, ← decide_not, Nat.reduceAdd, Nat.reduceSub, Nat.reduceMul, Nat.reduceLT, Nat.reduceLeDiff, Nat.reduceEqDiff, Int.reduceNeg, Int.reduceAdd, Int.reduceSub, Int.reduceMul, Int.reduceGT, Int.reduceGE, Int.reduceLT, Int.reduceLE, Int.reduceEq, Int.reduceNe, Int.cast_ofNat_Int, Int.reduceToNat, ↓reduceIte, reduceCtorEq]
    · obtain ⟨hok, hse⟩ := pts_some hp
      have hcl := encs_le cs
      have hsl := congrArg List.length hse
      have hl2 := nats_len cs
      have hx : textR (cs.map fun (c : Nat) => (c : Int)) = res2 (.v (sv (encs cs))) 0 := by unfold textR; rw [textN_nats hok]
      simp only [goRules, coreRules, tiRules, unRules, AS_of_eq, ← decide_not, Nat.reduceAdd, Nat.reduceSub, Nat.reduceMul, Nat.reduceLT, Nat.reduceLeDiff, Nat.reduceEqDiff, Int.reduceNeg, Int.reduceAdd, Int.reduceSub, Int.reduceMul, Int.reduceGT, Int.reduceGE, Int.reduceLT, Int.reduceLE, Int.reduceEq, Int.reduceNe, Int.cast_ofNat_Int, Int.reduceToNat, ↓reduceIte, reduceCtorEq, hp, Option.isSome_some]
      refine call_points (by simp [get_cons]) hs2 ?_
      simp only [goRules, coreRules, tiRules, unRules, AS_of_eq, ← decide_not, Nat.reduceAdd, Nat.reduceSub, Nat.reduceMul, Nat.reduceLT, Nat.reduceLeDiff, Nat.reduceEqDiff, Int.reduceNeg, Int.reduceAdd, Int.reduceSub, Int.reduceMul, Int.reduceGT, Int.reduceGE, Int.reduceLT, Int.reduceLE, Int.reduceEq, Int.reduceNe, Int.cast_ofNat_Int, Int.reduceToNat, ↓reduceIte, reduceCtorEq, pointsR, hp, res2]
      refine call_text (by simp [get_cons]) (nats_intsB cs) (by simp; omega) (fun x hx => by
        simp only [List.mem_map] at hx
        obtain ⟨c, hc, rfl⟩ := hx
        have := (hok c hc).2.1
        omega) ?_
      simp only [goRules, coreRules, tiRules, unRules, AS_of_eq, ← decide_not, Nat.reduceAdd, Nat.reduceSub, Nat.reduceMul, Nat.reduceLT, Nat.reduceLeDiff, Nat.reduceEqDiff, Int.reduceNeg, Int.reduceAdd, Int.reduceSub, Int.reduceMul, Int.reduceGT, Int.reduceGE, Int.reduceLT, Int.reduceLE, Int.reduceEq, Int.reduceNe, Int.cast_ofNat_Int, Int.reduceToNat, ↓reduceIte, reduceCtorEq, hx, res2]
      refine call_count (by simp [get_cons]) hs2 ?_
      simp (disch := omega) only [goRules, coreRules, tiRules, unRules, AS_of_eq, ← decide_not, Nat.reduceAdd, Nat.reduceSub, Nat.reduceMul, Nat.reduceLT, Nat.reduceLeDiff, Nat.reduceEqDiff, Int.reduceNeg, Int.reduceAdd, Int.reduceSub, Int.reduceMul, Int.reduceGT, Int.reduceGE, Int.reduceLT, Int.reduceLE, Int.reduceEq, Int.reduceNe, Int.cast_ofNat_Int, Int.reduceToNat, ↓reduceIte, reduceCtorEq, wrap_i64, countR, hp, res2]
      refine call_round (by simp [get_cons]) ha (by omega) ?_
      have a1 := Int.emod_nonneg at_ (show (cs.length : Int) + 1 ≠ 0 by omega)
      have a2 := Int.emod_lt_of_pos at_ (show 0 < (cs.length : Int) + 1 by omega)
      generalize at_ % ((cs.length : Int) + 1) = C at *
      have i1 : 0 ≤ (0 : Int) ∧ 0 ≤ C ∧ C ≤ (cs.length : Int) := by omega
      have i2 : 0 ≤ C ∧ C ≤ (cs.length : Int) ∧ (cs.length : Int) ≤ (cs.length : Int) := by omega
      have i3 : ¬ (C < 0 ∨ C > (cs.length : Int)) := by omega
      have e3 : (cs.drop C.toNat).take (cs.length - C.toNat) = cs.drop C.toNat := List.take_of_length_le (by rw [List.length_drop]; omega)
      have e4 : encs (cs.take C.toNat) ++ encs (cs.drop C.toNat) = s := by rw [encs_parts, ← hse]
      have e5 := congrArg List.length e4
      rw [List.length_append] at e5
      simp (disch := omega) only [goRules, coreRules, tiRules, unRules, AS_of_eq, ← decide_not, Nat.reduceAdd, Nat.reduceSub, Nat.reduceMul, Nat.reduceLT, Nat.reduceLeDiff, Nat.reduceEqDiff, Int.reduceNeg, Int.reduceAdd, Int.reduceSub, Int.reduceMul, Int.reduceGT, Int.reduceGE, Int.reduceLT, Int.reduceLE, Int.reduceEq, Int.reduceNe, Int.cast_ofNat_Int, Int.reduceToNat, ↓reduceIte, reduceCtorEq, wrap_i64]
      refine call_slice (by simp [get_cons]) hs2 (by omega) (by omega) ?_
      simp (disch := omega) only [goRules, coreRules, tiRules, unRules, AS_of_eq, ← decide_not, Nat.reduceAdd, Nat.reduceSub, Nat.reduceMul, Nat.reduceLT, Nat.reduceLeDiff, Nat.reduceEqDiff, Int.reduceNeg, Int.reduceAdd, Int.reduceSub, Int.reduceMul, Int.reduceGT, Int.reduceGE, Int.reduceLT, Int.reduceLE, Int.reduceEq, Int.reduceNe, Int.cast_ofNat_Int, Int.reduceToNat, ↓reduceIte, reduceCtorEq, wrap_i64, sliceR, hp, res2, i1, Nat.sub_zero, Int.toNat_zero]
      refine call_slice (by simp [get_cons]) hs2 (by omega) (by omega) ?_
      simp (disch := omega) only [goRules, coreRules, tiRules, unRules, AS_of_eq, ← decide_not, Nat.reduceAdd, Nat.reduceSub, Nat.reduceMul, Nat.reduceLT, Nat.reduceLeDiff, Nat.reduceEqDiff, Int.reduceNeg, Int.reduceAdd, Int.reduceSub, Int.reduceMul, Int.reduceGT, Int.reduceGE, Int.reduceLT, Int.reduceLE, Int.reduceEq, Int.reduceNe, Int.cast_ofNat_Int, Int.reduceToNat, ↓reduceIte, reduceCtorEq, wrap_i64, sliceR, hp, res2, i2, e3, Int.toNat_natCast]
      refine call_off (by simp [get_cons]) hs2 (by omega) (by omega) ?_
      simp (disch := omega) only [goRules, coreRules, tiRules, unRules, AS_of_eq, ← decide_not, Nat.reduceAdd, Nat.reduceSub, Nat.reduceMul, Nat.reduceLT, Nat.reduceLeDiff, Nat.reduceEqDiff, Int.reduceNeg, Int.reduceAdd, Int.reduceSub, Int.reduceMul, Int.reduceGT, Int.reduceGE, Int.reduceLT, Int.reduceLE, Int.reduceEq, Int.reduceNe, Int.cast_ofNat_Int, Int.reduceToNat, ↓reduceIte, reduceCtorEq, wrap_i64, offR, hp, res2, i3, hse.symm, e4]
      refine call_awake3 (by simp [get_cons]) ?_
      simp only [goRules, coreRules, tiRules, unRules, AS_of_eq, ← decide_not, Nat.reduceAdd, Nat.reduceSub, Nat.reduceMul, Nat.reduceLT, Nat.reduceLeDiff, Nat.reduceEqDiff, Int.reduceNeg, Int.reduceAdd, Int.reduceSub, Int.reduceMul, Int.reduceGT, Int.reduceGE, Int.reduceLT, Int.reduceLE, Int.reduceEq, Int.reduceNe, Int.cast_ofNat_Int, Int.reduceToNat, ↓reduceIte, reduceCtorEq]
end Go.Proofs
end
