/-
  Edits undone, by the document; what makes one text of another one.
-/
import Derived.Test.YtmenbocckhbdjaaDoorXAAp5
import Derived.Test.YtmenbocckhbdjaaDoorXAAq0
set_option linter.unusedSimpArgs false
set_option linter.unusedVariables false
set_option linter.defProp false

-- AAp6
section
namespace Go.Proofs
open Go Go.Rw
set_option maxRecDepth 100000
set_option linter.unusedSimpArgs false
set_option linter.unusedVariables false

abbrev RUn (cs : List Nat) (l : List Cp) := { p : List Cp × Nat × Nat // p.2.2 ≤ l.length ∧ fit (cs.drop p.2.1) (l.drop p.2.2) ∧ p.2.1 ≤ cs.length ∧ p.1 ++ undoL (cs.drop p.2.1) (l.drop p.2.2) = undoL cs l }
theorem undo_len (cs : List Nat) (l : List Cp) : (undoL cs l).length = l.length := by unfold undoL; rw [List.length_map, steps_len]
theorem undo_cons (cs : List Nat) (c : Cp) (r : List Cp) : undoL cs (c :: r) = undoS ⟨c, if c.k = 2 then [] else encs (cs.take c.n.toNat), if c.k = 2 then c.t else if c.k = 3 then [] else encs (cs.take c.n.toNat)⟩ :: undoL (cs.drop c.n.toNat) r := by
  unfold undoL; rw [stepsL, List.map_cons]
theorem rundo_good : Rw.Good Tryd.prog 30 undoCon := by
  have hΓ : GoodEnv Tryd.prog [(28, doCon), (21, rcountCon), (60, rsliceCon), (63, normCon)] := (goodEnv_cons rdo_good (goodEnv_cons rcount_good (goodEnv_cons rslice_good (goodEnv_cons rnorm_good goodEnv_nil))))
  refine good_fn (nn := 84) hΓ Tryd.func30 (by kernel_rfl) rfl (show Tryd.f30.results.toList = [.tmp 4, .tmp 5] from rfl) (fun _ => rfl) (fun _ => rfl) ?_
  rintro ⟨⟨s, hs⟩, ⟨l, hl⟩⟩
  simp only [goRules, coreRules, tiRules, unRules, AS_of_eq, ← decide_not, Nat.reduceAdd, Nat.reduceSub, Nat.reduceMul, Nat.reduceLT, Nat.reduceLeDiff, Nat.reduceEqDiff, Int.reduceNeg, Int.reduceAdd, Int.reduceSub, Int.reduceMul, Int.reduceGT, Int.reduceGE, Int.reduceLT, Int.reduceLE, Int.reduceEq, Int.reduceNe, Int.cast_ofNat_Int, Int.reduceToNat, ↓reduceIte, reduceCtorEq]
  refine call_do (by simp [get_cons]) rfl hs hl ?_
  by_cases he : errI s l = 0
  · obtain ⟨hc, hp, hb, hfit⟩ := err_zero he
    have hcc := check_cases hc
    have hok2 := und_ok (s := s) hl
    have hse : stp s l = stepsL (cpts s) l := by unfold stp; rw [if_pos he]
    rw [hse] at hok2
    have hun : undone s l = nf (undoL (cpts s) l) := by unfold undone; rw [if_pos he]
    have hll := undo_len (cpts s) l
    obtain ⟨hok, hss⟩ := pts_some hp
    generalize cpts s = cs at *
    simp only [goRules, coreRules, tiRules, unRules, AS_of_eq, ← decide_not, Nat.reduceAdd, Nat.reduceSub, Nat.reduceMul, Nat.reduceLT, Nat.reduceLeDiff, Nat.reduceEqDiff, Int.reduceNeg, Int.reduceAdd, Int.reduceSub, Int.reduceMul, Int.reduceGT, Int.reduceGE, Int.reduceLT, Int.reduceLE, Int.reduceEq, Int.reduceNe, Int.cast_ofNat_Int, Int.reduceToNat, ↓reduceIte, reduceCtorEq, doR, res2, he]
    obtain ⟨St, hSt⟩ : ∃ St : RUn cs l → AS, ∀ p, St p = AS.of 84 [(0, .v (sv s)), (1, .sl 0 3 (comps l)), (8, .sl 2 3 (comps p.1.1)), (9, .v (.int .i64 p.1.2.1)), (10, .v (.int .i64 p.1.2.2))] [] [(p.1.1.length, 32)] := ⟨_, fun _ => rfl⟩
    refine vc_loop hΓ St (fun p => l.length - p.1.2.2) ⟨([], 0, 0), by simp, by simpa using hfit, by simp, by simp⟩ (by rw [hSt]; refine weak_go [] [.nil 3] ?_; simp only [goRules, coreRules, tiRules, unRules, AS_of_eq, ← decide_not, Nat.reduceAdd, Nat.reduceSub, Nat.reduceMul, Nat.reduceLT, Nat.reduceLeDiff, Nat.reduceEqDiff, Int.reduceNeg, Int.reduceAdd, Int.reduceSub, Int.reduceMul, Int.reduceGT, Int.reduceGE, Int.reduceLT, Int.reduceLE, Int.reduceEq, Int.reduceNe, Int.cast_ofNat_Int, Int.reduceToNat, ↓reduceIte, reduceCtorEq, comps_nil] <;> ((repeat' apply And.intro) <;> first | rfl | omega | trivial)) ?_
    rintro ⟨⟨out, a, i⟩, hi, hf, ha, ho⟩
    simp only at hi hf ha ho
    have hle : out.length ≤ 100 := by
      have := congrArg List.length ho
      rw [List.length_append] at this
      omega
    rw [hSt]
    simp only
    simp only [goRules, coreRules, tiRules, unRules, AS_of_eq, ← decide_not, Nat.reduceAdd, Nat.reduceSub, Nat.reduceMul, Nat.reduceLT, Nat.reduceLeDiff, Nat.reduceEqDiff, Int.reduceNeg, Int.reduceAdd, Int.reduceSub, Int.reduceMul, Int.reduceGT, Int.reduceGE, Int.reduceLT, Int.reduceLE, Int.reduceEq, Int.reduceNe, Int.cast_ofNat_Int, Int.reduceToNat, ↓reduceIte, reduceCtorEq, comps_len]
    (with_reducible first | refine branchP_dec (fun h => ?_) (fun h => ?_) | refine guardB_dec (fun h => ?_) (fun h => ?_))
    · have hlt : i < l.length := by omega
      have e1 := comps_getD l hlt
      have hct := okL.text hl (List.getElem_mem hlt)
      rw [List.drop_eq_getElem_cons hlt] at hf ho
      obtain ⟨hso, hn0, hnl, hf2⟩ := fit_cons hf
      have hcs := sound_cases hso
      rw [undo_cons, List.drop_drop] at ho
      rw [List.drop_drop] at hf2
      rw [List.length_drop] at hnl
      generalize l[i] = c at *
      obtain ⟨k, n, t⟩ := c
      simp only at *
      have again : ∀ (σ : AS) (c2 : Cp) (a2 : Nat), Weak σ (AS.of 84 [(0, .v (sv s)), (1, .sl 0 3 (comps l)), (8, .sl 2 3 (comps (out ++ [c2]))), (9, .v (.int .i64 a2)), (10, .v (.int .i64 (i + 1 : Nat)))] [] [((out ++ [c2]).length, 32)]) → a2 = a + n.toNat → undoS ⟨⟨k, n, t⟩, if k = 2 then [] else encs ((cs.drop a).take n.toNat), if k = 2 then t else if k = 3 then [] else encs ((cs.drop a).take n.toNat)⟩ = c2 → ∃ y : RUn cs l, l.length - y.1.2.2 < l.length - i ∧ Weak σ (St y) := fun σ c2 a2 hw h1 h2 =>
        ⟨⟨(out ++ [c2], a2, i + 1), by simp only; omega, by simp only; rw [h1]; exact hf2, by simp only; omega, by simp only; rw [h1, ← ho, ← h2]; simp⟩, by simp only; omega, by rw [hSt]; exact hw⟩
      simp (disch := omega) only [goRules, coreRules, tiRules, unRules, AS_of_eq, ← decide_not, Nat.reduceAdd, Nat.reduceSub, Nat.reduceMul, Nat.reduceLT, Nat.reduceLeDiff, Nat.reduceEqDiff, Int.reduceNeg, Int.reduceAdd, Int.reduceSub, Int.reduceMul, Int.reduceGT, Int.reduceGE, Int.reduceLT, Int.reduceLE, Int.reduceEq, Int.reduceNe, Int.cast_ofNat_Int, Int.reduceToNat, ↓reduceIte, reduceCtorEq, wrap_i64, h, e1, comps_len]
      (repeat (with_reducible refine And.intro ?_ ?_; focus (first | omega | exact mixed1 | kernel_rfl)))
      (with_reducible first | refine branchP_dec (fun h1 => ?_) (fun h1 => ?_) | refine guardB_dec (fun h1 => ?_) (fun h1 => ?_))
      · subst h1
        simp (disch := omega) only [goRules, coreRules, tiRules, unRules, AS_of_eq, ← decide_not, Nat.reduceAdd, Nat.reduceSub, Nat.reduceMul, Nat.reduceLT, Nat.reduceLeDiff, Nat.reduceEqDiff, Int.reduceNeg, Int.reduceAdd, Int.reduceSub, Int.reduceMul, Int.reduceGT, Int.reduceGE, Int.reduceLT, Int.reduceLE, Int.reduceEq, Int.reduceNe, Int.cast_ofNat_Int, Int.reduceToNat, ↓reduceIte, reduceCtorEq, wrap_i64, e1, comps_len, comps_snoc, List.map_cons, List.map_nil]
        (repeat (with_reducible refine And.intro ?_ ?_; focus (first | omega | exact mixed1 | kernel_rfl)))
        refine again _ ⟨1, n, t⟩ (a + n.toNat) ?_ rfl (by simp [undoS])
        refine weak_go [] [.live 2] ?_
        simp only [goRules, coreRules, tiRules, unRules, AS_of_eq, ← decide_not, Nat.reduceAdd, Nat.reduceSub, Nat.reduceMul, Nat.reduceLT, Nat.reduceLeDiff, Nat.reduceEqDiff, Int.reduceNeg, Int.reduceAdd, Int.reduceSub, Int.reduceMul, Int.reduceGT, Int.reduceGE, Int.reduceLT, Int.reduceLE, Int.reduceEq, Int.reduceNe, Int.cast_ofNat_Int, Int.reduceToNat, ↓reduceIte, reduceCtorEq, comps_len, List.length_append] <;> ((repeat' apply And.intro) <;> first | rfl | omega | trivial)
      · simp (disch := omega) only [goRules, coreRules, tiRules, unRules, AS_of_eq, ← decide_not, Nat.reduceAdd, Nat.reduceSub, Nat.reduceMul, Nat.reduceLT, Nat.reduceLeDiff, Nat.reduceEqDiff, Int.reduceNeg, Int.reduceAdd, Int.reduceSub, Int.reduceMul, Int.reduceGT, Int.reduceGE, Int.reduceLT, Int.reduceLE, Int.reduceEq, Int.reduceNe, Int.cast_ofNat_Int, Int.reduceToNat, ↓reduceIte, reduceCtorEq, wrap_i64, h1]
        (with_reducible first | refine branchP_dec (fun h2 => ?_) (fun h2 => ?_) | refine guardB_dec (fun h2 => ?_) (fun h2 => ?_))
        · subst h2
          rcases hcs with ⟨_, hz, _, hv⟩ | ⟨h13, _⟩
          · subst hz
            have hpt := isSome_cpts hv
            simp (disch := omega) only [goRules, coreRules, tiRules, unRules, AS_of_eq, ← decide_not, Nat.reduceAdd, Nat.reduceSub, Nat.reduceMul, Nat.reduceLT, Nat.reduceLeDiff, Nat.reduceEqDiff, Int.reduceNeg, Int.reduceAdd, Int.reduceSub, Int.reduceMul, Int.reduceGT, Int.reduceGE, Int.reduceLT, Int.reduceLE, Int.reduceEq, Int.reduceNe, Int.cast_ofNat_Int, Int.reduceToNat, ↓reduceIte, reduceCtorEq, wrap_i64, e1, comps_len]
            (repeat (with_reducible refine And.intro ?_ ?_; focus (first | omega | exact mixed1 | kernel_rfl)))
            refine call_rcount (by simp [get_cons]) hct ?_
            simp (disch := omega) only [goRules, coreRules, tiRules, unRules, AS_of_eq, ← decide_not, Nat.reduceAdd, Nat.reduceSub, Nat.reduceMul, Nat.reduceLT, Nat.reduceLeDiff, Nat.reduceEqDiff, Int.reduceNeg, Int.reduceAdd, Int.reduceSub, Int.reduceMul, Int.reduceGT, Int.reduceGE, Int.reduceLT, Int.reduceLE, Int.reduceEq, Int.reduceNe, Int.cast_ofNat_Int, Int.reduceToNat, ↓reduceIte, reduceCtorEq, wrap_i64, cnt, hpt, comps_len, comps_snoc, List.map_cons, List.map_nil]
            (repeat (with_reducible refine And.intro ?_ ?_; focus (first | omega | exact mixed1 | kernel_rfl)))
            refine again _ ⟨3, (cpts t).length, []⟩ a ?_ (by simp) (by simp [undoS])
            refine weak_go [] [.live 2] ?_
            simp only [goRules, coreRules, tiRules, unRules, AS_of_eq, ← decide_not, Nat.reduceAdd, Nat.reduceSub, Nat.reduceMul, Nat.reduceLT, Nat.reduceLeDiff, Nat.reduceEqDiff, Int.reduceNeg, Int.reduceAdd, Int.reduceSub, Int.reduceMul, Int.reduceGT, Int.reduceGE, Int.reduceLT, Int.reduceLE, Int.reduceEq, Int.reduceNe, Int.cast_ofNat_Int, Int.reduceToNat, ↓reduceIte, reduceCtorEq, comps_len, List.length_append] <;> ((repeat' apply And.intro) <;> first | rfl | omega | trivial)
          · omega
        · simp (disch := omega) only [goRules, coreRules, tiRules, unRules, AS_of_eq, ← decide_not, Nat.reduceAdd, Nat.reduceSub, Nat.reduceMul, Nat.reduceLT, Nat.reduceLeDiff, Nat.reduceEqDiff, Int.reduceNeg, Int.reduceAdd, Int.reduceSub, Int.reduceMul, Int.reduceGT, Int.reduceGE, Int.reduceLT, Int.reduceLE, Int.reduceEq, Int.reduceNe, Int.cast_ofNat_Int, Int.reduceToNat, ↓reduceIte, reduceCtorEq, wrap_i64, h2]
          have h3 : k = 3 := by omega
          subst h3
          have hab : 0 ≤ (a : Int) ∧ (a : Int) ≤ (a : Int) + n ∧ (a : Int) + n ≤ (cs.length : Int) := by omega
          have hsl : ((a : Int) + n).toNat - a = n.toNat := by omega
          simp (disch := omega) only [goRules, coreRules, tiRules, unRules, AS_of_eq, ← decide_not, Nat.reduceAdd, Nat.reduceSub, Nat.reduceMul, Nat.reduceLT, Nat.reduceLeDiff, Nat.reduceEqDiff, Int.reduceNeg, Int.reduceAdd, Int.reduceSub, Int.reduceMul, Int.reduceGT, Int.reduceGE, Int.reduceLT, Int.reduceLE, Int.reduceEq, Int.reduceNe, Int.cast_ofNat_Int, Int.reduceToNat, ↓reduceIte, reduceCtorEq, wrap_i64, e1, comps_len]
          (repeat (with_reducible refine And.intro ?_ ?_; focus (first | omega | exact mixed1 | kernel_rfl)))
          subst hss
          refine call_rslice (by simp [get_cons]) hok hs hab ?_
          simp (disch := omega) only [goRules, coreRules, tiRules, unRules, AS_of_eq, ← decide_not, Nat.reduceAdd, Nat.reduceSub, Nat.reduceMul, Nat.reduceLT, Nat.reduceLeDiff, Nat.reduceEqDiff, Int.reduceNeg, Int.reduceAdd, Int.reduceSub, Int.reduceMul, Int.reduceGT, Int.reduceGE, Int.reduceLT, Int.reduceLE, Int.reduceEq, Int.reduceNe, Int.cast_ofNat_Int, Int.reduceToNat, ↓reduceIte, reduceCtorEq, wrap_i64, hsl, e1, comps_len, comps_snoc, List.map_cons, List.map_nil]
          (repeat (with_reducible refine And.intro ?_ ?_; focus (first | omega | exact mixed1 | kernel_rfl)))
          refine again _ ⟨2, 0, encs ((cs.drop a).take n.toNat)⟩ (a + n.toNat) ?_ rfl (by simp [undoS])
          refine weak_go [] [.live 2] ?_
          simp only [goRules, coreRules, tiRules, unRules, AS_of_eq, ← decide_not, Nat.reduceAdd, Nat.reduceSub, Nat.reduceMul, Nat.reduceLT, Nat.reduceLeDiff, Nat.reduceEqDiff, Int.reduceNeg, Int.reduceAdd, Int.reduceSub, Int.reduceMul, Int.reduceGT, Int.reduceGE, Int.reduceLT, Int.reduceLE, Int.reduceEq, Int.reduceNe, Int.cast_ofNat_Int, Int.reduceToNat, ↓reduceIte, reduceCtorEq, comps_len, List.length_append] <;> ((repeat' apply And.intro) <;> first | rfl | omega | trivial)
    · have hin : i = l.length := by omega
      simp only [goRules, coreRules, tiRules, unRules, AS_of_eq, ← decide_not, Nat.reduceAdd, Nat.reduceSub, Nat.reduceMul, Nat.reduceLT, Nat.reduceLeDiff, Nat.reduceEqDiff, Int.reduceNeg, Int.reduceAdd, Int.reduceSub, Int.reduceMul, Int.reduceGT, Int.reduceGE, Int.reduceLT, Int.reduceLE, Int.reduceEq, Int.reduceNe, Int.cast_ofNat_Int, Int.reduceToNat, ↓reduceIte, reduceCtorEq, h]
      rw [hin, List.drop_length] at ho
      have ho2 : out = undoL cs l := by rw [← ho]; unfold undoL; simp [stepsL]
      subst ho2
      refine call_norm (by simp [get_cons]) (by omega) rfl hok2 ?_
      simp only [goRules, coreRules, tiRules, unRules, AS_of_eq, ← decide_not, Nat.reduceAdd, Nat.reduceSub, Nat.reduceMul, Nat.reduceLT, Nat.reduceLeDiff, Nat.reduceEqDiff, Int.reduceNeg, Int.reduceAdd, Int.reduceSub, Int.reduceMul, Int.reduceGT, Int.reduceGE, Int.reduceLT, Int.reduceLE, Int.reduceEq, Int.reduceNe, Int.cast_ofNat_Int, Int.reduceToNat, ↓reduceIte, reduceCtorEq]
      unfold undoR
      rw [he, hun]; rfl
  · simp only [goRules, coreRules, tiRules, unRules, AS_of_eq, ← decide_not, Nat.reduceAdd, Nat.reduceSub, Nat.reduceMul, Nat.reduceLT, Nat.reduceLeDiff, Nat.reduceEqDiff, Int.reduceNeg, Int.reduceAdd, Int.reduceSub, Int.reduceMul, Int.reduceGT, Int.reduceGE, Int.reduceLT, Int.reduceLE, Int.reduceEq, Int.reduceNe, Int.cast_ofNat_Int, Int.reduceToNat, ↓reduceIte, reduceCtorEq, doR, res2, he]
    unfold undoR undone
    rw [if_neg he]; rfl

def diffR (a b : List UInt8) : AV := match pts a, pts b with
  | some x, some y => ofR x.length (pfx x y) ((x.length : Int) - sfx x y) (encs (midL x y))
  | _, _ => res2 (.sl 0 3 []) 2
theorem diffR_er (a b : List UInt8) : (diffR a b).er = diffR a b := by
  unfold diffR
  split
  · exact ofR_er _ _ _ _
  · rfl
abbrev diffCon : Con where
  ι := Str × Str
  args := fun p => [.v (sv p.1.1), .v (sv p.2.1)]
  post := fun p r => r = diffR p.1.1 p.2.1
theorem rev_get {x : List Nat} {p j : Nat} (h : j < x.length - p) : (x.drop p).reverse[j]'(by simp; omega) = x[x.length - 1 - j]'(by omega) := by
  rw [List.getElem_reverse, List.getElem_drop]
  congr 1
  simp only [List.length_drop]; omega
theorem mid_len (x y : List Nat) : (midL x y).length ≤ y.length := by
  unfold midL; rw [List.length_take, List.length_drop]; omega
theorem mid_ok {x y : List Nat} (h : ∀ c ∈ y, okc c) : ∀ c ∈ midL x y, okc c := okc_take (okc_drop h _) _
theorem encs_mid_le (x y : List Nat) : (encs (midL x y)).length ≤ (encs y).length := by
  unfold midL
  have h1 : encs y = encs (y.take (pfx x y)) ++ (encs (midL x y) ++ encs ((y.drop (pfx x y)).drop (y.length - sfx x y - pfx x y))) := by
    unfold midL
    rw [← encs_app, List.take_append_drop, ← encs_app, List.take_append_drop]
  have h2 := congrArg List.length h1
  rw [List.length_append, List.length_append] at h2
  unfold midL at h2
  omega
end Go.Proofs
end
