/-
  Edits done by the program.
-/
import Derived.Test.YtmenbocckhbdjaaDoorXAAp0
set_option linter.unusedSimpArgs false
set_option linter.unusedVariables false
set_option linter.defProp false

-- AAp1
section
namespace Go.Proofs
open Go Go.Rw
open _root_.Nat renaming reduceAdd → N0, reduceSub → N1, reduceMul → N2, reduceLT → N3, reduceLeDiff → N4, reduceEqDiff → N5
open _root_.Int renaming reduceNeg → Z0, reduceAdd → Z1, reduceSub → Z2, reduceMul → Z3, reduceGT → Z4, reduceGE → Z5, reduceLT → Z6, reduceLE → Z7, reduceEq → Z8, reduceNe → Z9, reduceToNat → Z10, cast_ofNat_Int → Zc
set_option maxRecDepth 100000
set_option linter.unusedSimpArgs false
set_option linter.unusedVariables false

def stA (x : Sp) : AV := .agg [.v (.int .i64 x.c.k), .v (.int .i64 x.c.n), .v (sv x.c.t), .v (sv x.was), .v (sv x.puts)]
def sts (l : List Sp) : List AV := l.map stA
theorem sts_nil : sts [] = [] := rfl
theorem sts_len (l : List Sp) : (sts l).length = l.length := by simp [sts]
theorem sts_snoc (l : List Sp) (k n : Int) (t w p : List UInt8) : sts l ++ [.agg [.v (.int .i64 k), .v (.int .i64 n), .v (sv t), .v (sv w), .v (sv p)]] = sts (l ++ [⟨⟨k, n, t⟩, w, p⟩]) := by simp [sts, stA]
theorem sts_getD (l : List Sp) {i : Nat} (h : i < l.length) : (sts l).getD i .any = .agg [.v (.int .i64 l[i].c.k), .v (.int .i64 l[i].c.n), .v (sv l[i].c.t), .v (sv l[i].was), .v (sv l[i].puts)] := by
  simp [sts, stA, List.getD_eq_getElem?_getD, h]
theorem part_le {l sz i j : Nat} {xs : List AV} (h : j ≤ xs.length) : partA l sz xs i j = .sl l sz ((xs.drop i).take (j - i)) := by
  unfold partA
  split
  · rename_i hc
    obtain ⟨rfl, rfl⟩ := hc
    simp
  · rfl
def stepsR (s : List UInt8) (l : List Cp) : AV := res2 (.sl 0 5 (sts (stp s l))) (errI s l)
theorem stepsR_er (s : List UInt8) (l : List Cp) : (stepsR s l).er = stepsR s l := by
  have : ∀ l : List Sp, AV.erL (sts l) = sts l := fun l => by
    induction l with
    | nil => rfl
    | cons c r ih => show AV.er (stA c) :: AV.erL (sts r) = _; rw [ih]; rfl
  rfl
abbrev stepsCon : Con where
  ι := Str × Ed
  args := fun p => [.v (sv p.1.1), .sl 0 3 (comps p.2.1)]
  post := fun p r => r = stepsR p.1.1 p.2.1
abbrev SSt (cs : List Nat) (l : List Cp) := { p : List Sp × List Nat × Nat // p.2.2 ≤ l.length ∧ fit p.2.1 (l.drop p.2.2) ∧ p.1 ++ stepsL p.2.1 (l.drop p.2.2) = stepsL cs l ∧ ∀ c ∈ p.2.1, okc c }
theorem steps_good : Rw.Good Tryd.prog 53 stepsCon := by
  have hΓ : GoodEnv Tryd.prog [(17, checkCon), (61, countCon), (18, baseCon)] := (goodEnv_cons check_good (goodEnv_cons count_good (goodEnv_cons base_good goodEnv_nil)))
  refine good_fn (nn := 72) hΓ Tryd.func53 (by kernel_rfl) rfl (show Tryd.f53.results.toList = [.tmp 4, .tmp 5] from rfl) (fun _ => rfl) (fun _ => rfl) ?_
  rintro ⟨⟨s, hs⟩, ⟨l, hl⟩⟩
  simp only [goRules, coreRules, tiRules, unRules, AS_of_eq, ← decide_not, N0, N1, N2, N3, N4, N5, Z0, Z1, Z2, Z3, Z4, Z5, Z6, Z7, Z8, Z9, Z10, Zc, ↓reduceIte, reduceCtorEq]
  refine vc_scope hΓ 1 ?_
  simp only [goRules, coreRules, tiRules, unRules, AS_of_eq, ← decide_not, N0, N1, N2, N3, N4, N5, Z0, Z1, Z2, Z3, Z4, Z5, Z6, Z7, Z8, Z9, Z10, Zc, ↓reduceIte, reduceCtorEq]
  refine call_check (by simp [get_cons]) rfl hl ?_
  by_cases hc : checkI l = 0
  · simp only [goRules, coreRules, tiRules, unRules, AS_of_eq, ← decide_not, N0, N1, N2, N3, N4, N5, Z0, Z1, Z2, Z3, Z4, Z5, Z6, Z7, Z8, Z9, Z10, Zc, ↓reduceIte, reduceCtorEq, hc]
    refine call_count (by simp [get_cons]) hs ?_
    rcases opt_cases (pts s) with hp | ⟨cs, hp⟩
    · have he : errI s l = 2 := by unfold errI; rw [if_pos hc, hp]
      simp only [goRules, coreRules, tiRules, unRules, AS_of_eq, ← decide_not, N0, N1, N2, N3, N4, N5, Z0, Z1, Z2, Z3, Z4, Z5, Z6, Z7, Z8, Z9, Z10, Zc, ↓reduceIte, reduceCtorEq, countR, hp, res2]
      refine ⟨_, rfl, ?_⟩
      simp only [goRules, coreRules, tiRules, unRules, AS_of_eq, ← decide_not, N0, N1, N2, N3, N4, N5, Z0, Z1, Z2, Z3, Z4, Z5, Z6, Z7, Z8, Z9, Z10, Zc, ↓reduceIte, reduceCtorEq]
      unfold stepsR stp
      rw [he]; rfl
    · simp only [goRules, coreRules, tiRules, unRules, AS_of_eq, ← decide_not, N0, N1, N2, N3, N4, N5, Z0, Z1, Z2, Z3, Z4, Z5, Z6, Z7, Z8, Z9, Z10, Zc, ↓reduceIte, reduceCtorEq, countR, hp, res2]
      refine call_base (by simp [get_cons]) rfl hl ?_
      by_cases hb : (cs.length : Int) = baseL l
      · have he : errI s l = 0 := by unfold errI; rw [if_pos hc, hp]; simp only; rw [if_pos hb]
        have hfit := fit_check hc hb
        obtain ⟨hok, hse⟩ := pts_some hp
        have hr := runesA_pts hp
        have hlen := (check_cases hc).1
        have hcl := cpts_some hp
        simp only [goRules, coreRules, tiRules, unRules, AS_of_eq, ← decide_not, N0, N1, N2, N3, N4, N5, Z0, Z1, Z2, Z3, Z4, Z5, Z6, Z7, Z8, Z9, Z10, Zc, ↓reduceIte, reduceCtorEq, hb, hr, i32s_len]
        refine ⟨by omega, ?_⟩
        obtain ⟨St, hSt⟩ : ∃ St : SSt cs l → AS, ∀ p, St p = AS.of 72 [(4, .sl 2 5 (sts p.1.1)), (5, .v (.int .i64 0)), (7, .sl 0 1 (i32s p.1.2.1)), (28, .sl 0 3 (comps l)), (29, .v (.int .i64 l.length)), (30, .v (.int .i64 p.1.2.2))] [] [(p.1.1.length, 84)] := ⟨_, fun _ => rfl⟩
        refine vc_loop hΓ St (fun p => l.length - p.1.2.2) ⟨([], cs, 0), by simp, hfit, rfl, hok⟩ (by rw [hSt]; refine weak_go [] [.nil 5] ?_; simp only [goRules, coreRules, tiRules, unRules, AS_of_eq, ← decide_not, N0, N1, N2, N3, N4, N5, Z0, Z1, Z2, Z3, Z4, Z5, Z6, Z7, Z8, Z9, Z10, Zc, ↓reduceIte, reduceCtorEq, sts_nil, comps_len] <;> ((repeat' apply And.intro) <;> first | rfl | omega | trivial)) ?_
        rintro ⟨⟨out, ds, i⟩, hi, hf, ho, hdk⟩
        simp only at hi hf ho hdk
        rw [hSt]
        simp only
        simp only [goRules, coreRules, tiRules, unRules, AS_of_eq, ← decide_not, N0, N1, N2, N3, N4, N5, Z0, Z1, Z2, Z3, Z4, Z5, Z6, Z7, Z8, Z9, Z10, Zc, ↓reduceIte, reduceCtorEq, comps_len]
        (with_reducible first | refine branchP_dec (fun h => ?_) (fun h => ?_) | refine guardB_dec (fun h => ?_) (fun h => ?_))
        · have hlt : i < l.length := by omega
          have e1 := comps_getD l hlt
          have hct := okL.text hl (List.getElem_mem hlt)
          rw [List.drop_eq_getElem_cons hlt] at hf ho
          obtain ⟨hso, hn0, hnl, hf2⟩ := fit_cons hf
          rw [stepsL] at ho
          have hcs := sound_cases hso
          have hol : out.length ≤ 100 := by
            have := congrArg List.length ho
            rw [List.length_append, steps_len] at this
            omega
          generalize l[i] = c at *
          obtain ⟨k, n, t⟩ := c
          simp only at *
          have htk : utfL ((ds.take n.toNat).map fun (c : Nat) => (c : Int)) = encs (ds.take n.toNat) := utfL_encs (okc_take hdk _)
          have again : ∀ (σ : AS) (x : Sp), x = ⟨⟨k, n, t⟩, if k = 2 then [] else encs (ds.take n.toNat), if k = 2 then t else if k = 3 then [] else encs (ds.take n.toNat)⟩ → Weak σ (AS.of 72 [(4, .sl 2 5 (sts (out ++ [x]))), (5, .v (.int .i64 0)), (7, .sl 0 1 (i32s (ds.drop n.toNat))), (28, .sl 0 3 (comps l)), (29, .v (.int .i64 l.length)), (30, .v (.int .i64 (i + 1 : Nat)))] [] [((out ++ [x]).length, 84)]) → ∃ y : SSt cs l, l.length - y.1.2.2 < l.length - i ∧ Weak σ (St y) := fun σ x hx hw =>
            ⟨⟨(out ++ [x], ds.drop n.toNat, i + 1), by simp only; omega, hf2, by simp only; rw [← ho, hx]; simp, okc_drop hdk _⟩, by simp only; omega, by rw [hSt]; exact hw⟩
          have p1 : partA 0 1 (i32s ds) 0 n.toNat = .sl 0 1 (i32s (ds.take n.toNat)) := by rw [part_le (by rw [i32s_len]; omega), i32s_part]; simp
          have p2 : partA 0 1 (i32s ds) n.toNat ds.length = .sl 0 1 (i32s (ds.drop n.toNat)) := by rw [part_le (by rw [i32s_len]; omega), i32s_part, List.take_of_length_le (by rw [List.length_drop]; omega)]
          simp (disch := omega) only [goRules, coreRules, tiRules, unRules, AS_of_eq, ← decide_not, N0, N1, N2, N3, N4, N5, Z0, Z1, Z2, Z3, Z4, Z5, Z6, Z7, Z8, Z9, Z10, Zc, ↓reduceIte, reduceCtorEq, wrap_i64, h, e1, comps_len, i32s_len, p1, p2, i32sOf_i32s, htk, Int.toNat_natCast]
          (repeat (with_reducible refine And.intro ?_ ?_; focus (first | omega | exact mixed1 | kernel_rfl)))
          (with_reducible first | refine branchP_dec (fun h2 => ?_) (fun h2 => ?_) | refine guardB_dec (fun h2 => ?_) (fun h2 => ?_))
          · subst h2
            simp (disch := omega) only [goRules, coreRules, tiRules, unRules, AS_of_eq, ← decide_not, N0, N1, N2, N3, N4, N5, Z0, Z1, Z2, Z3, Z4, Z5, Z6, Z7, Z8, Z9, Z10, Zc, ↓reduceIte, reduceCtorEq, wrap_i64, sts_len, sts_snoc, List.map_cons, List.map_nil]
            (repeat (with_reducible refine And.intro ?_ ?_; focus (first | omega | exact mixed1 | kernel_rfl)))
            refine again _ ⟨⟨2, n, t⟩, [], t⟩ ?_ ?_
            rotate_left
            · refine weak_go [] [.live 2] ?_
              simp only [goRules, coreRules, tiRules, unRules, AS_of_eq, ← decide_not, N0, N1, N2, N3, N4, N5, Z0, Z1, Z2, Z3, Z4, Z5, Z6, Z7, Z8, Z9, Z10, Zc, ↓reduceIte, reduceCtorEq, sts_len, List.length_append] <;> ((repeat' apply And.intro) <;> first | rfl | omega | trivial)
            · simp
          · simp (disch := omega) only [goRules, coreRules, tiRules, unRules, AS_of_eq, ← decide_not, N0, N1, N2, N3, N4, N5, Z0, Z1, Z2, Z3, Z4, Z5, Z6, Z7, Z8, Z9, Z10, Zc, ↓reduceIte, reduceCtorEq, wrap_i64, h2]
            (with_reducible first | refine branchP_dec (fun h3 => ?_) (fun h3 => ?_) | refine guardB_dec (fun h3 => ?_) (fun h3 => ?_))
            · subst h3
              simp (disch := omega) only [goRules, coreRules, tiRules, unRules, AS_of_eq, ← decide_not, N0, N1, N2, N3, N4, N5, Z0, Z1, Z2, Z3, Z4, Z5, Z6, Z7, Z8, Z9, Z10, Zc, ↓reduceIte, reduceCtorEq, wrap_i64, sts_len, sts_snoc, List.map_cons, List.map_nil]
              (repeat (with_reducible refine And.intro ?_ ?_; focus (first | omega | exact mixed1 | kernel_rfl)))
              refine again _ ⟨⟨3, n, t⟩, encs (ds.take n.toNat), []⟩ ?_ ?_
              rotate_left
              · refine weak_go [] [.live 2] ?_
                simp only [goRules, coreRules, tiRules, unRules, AS_of_eq, ← decide_not, N0, N1, N2, N3, N4, N5, Z0, Z1, Z2, Z3, Z4, Z5, Z6, Z7, Z8, Z9, Z10, Zc, ↓reduceIte, reduceCtorEq, sts_len, List.length_append] <;> ((repeat' apply And.intro) <;> first | rfl | omega | trivial)
              · simp
            · simp (disch := omega) only [goRules, coreRules, tiRules, unRules, AS_of_eq, ← decide_not, N0, N1, N2, N3, N4, N5, Z0, Z1, Z2, Z3, Z4, Z5, Z6, Z7, Z8, Z9, Z10, Zc, ↓reduceIte, reduceCtorEq, wrap_i64, h3, sts_len, sts_snoc, List.map_cons, List.map_nil]
              (repeat (with_reducible refine And.intro ?_ ?_; focus (first | omega | exact mixed1 | kernel_rfl)))
              refine again _ ⟨⟨k, n, t⟩, encs (ds.take n.toNat), encs (ds.take n.toNat)⟩ ?_ ?_
              rotate_left
              · refine weak_go [] [.live 2] ?_
                simp only [goRules, coreRules, tiRules, unRules, AS_of_eq, ← decide_not, N0, N1, N2, N3, N4, N5, Z0, Z1, Z2, Z3, Z4, Z5, Z6, Z7, Z8, Z9, Z10, Zc, ↓reduceIte, reduceCtorEq, sts_len, List.length_append] <;> ((repeat' apply And.intro) <;> first | rfl | omega | trivial)
              · simp [h2, h3]
        · have hin : i = l.length := by omega
          simp only [goRules, coreRules, tiRules, unRules, AS_of_eq, ← decide_not, N0, N1, N2, N3, N4, N5, Z0, Z1, Z2, Z3, Z4, Z5, Z6, Z7, Z8, Z9, Z10, Zc, ↓reduceIte, reduceCtorEq, h]
          rw [hin, List.drop_length, stepsL, List.append_nil] at ho
          unfold stepsR stp
          rw [if_pos he, he, hcl, ho]; rfl
      · have he : errI s l = 11 := by unfold errI; rw [if_pos hc, hp]; simp only; rw [if_neg hb]
        simp only [goRules, coreRules, tiRules, unRules, AS_of_eq, ← decide_not, N0, N1, N2, N3, N4, N5, Z0, Z1, Z2, Z3, Z4, Z5, Z6, Z7, Z8, Z9, Z10, Zc, ↓reduceIte, reduceCtorEq, hb]
        refine ⟨_, rfl, ?_⟩
        simp only [goRules, coreRules, tiRules, unRules, AS_of_eq, ← decide_not, N0, N1, N2, N3, N4, N5, Z0, Z1, Z2, Z3, Z4, Z5, Z6, Z7, Z8, Z9, Z10, Zc, ↓reduceIte, reduceCtorEq]
        unfold stepsR stp
        rw [he]; rfl
  · have he : errI s l = checkI l := by unfold errI; rw [if_neg hc]
    simp only [goRules, coreRules, tiRules, unRules, AS_of_eq, ← decide_not, N0, N1, N2, N3, N4, N5, Z0, Z1, Z2, Z3, Z4, Z5, Z6, Z7, Z8, Z9, Z10, Zc, ↓reduceIte, reduceCtorEq, hc]
    refine ⟨_, rfl, ?_⟩
    simp only [goRules, coreRules, tiRules, unRules, AS_of_eq, ← decide_not, N0, N1, N2, N3, N4, N5, Z0, Z1, Z2, Z3, Z4, Z5, Z6, Z7, Z8, Z9, Z10, Zc, ↓reduceIte, reduceCtorEq]
    unfold stepsR stp
    rw [he, if_neg hc]; rfl
theorem call_steps {Γ : Env} (hf : Γ.get 53 = some stepsCon) {σ : AS} {dr : Bool} {s : List UInt8} {l : List Cp} {t : Nat} {ys : List AV} {d : Option Nat} {K : AS → Prop} (hy : ys = comps l) (hs : s.length ≤ 1099511627776) (hl : okL l) (ht : t < 2)
    (hk : cont σ d (stepsR s l) K) : vcCall Tryd.prog Γ dr σ 53 [.v (sv s), .sl t 3 ys] d K := by
  subst hy
  refine vcCall_fn (C := stepsCon) (i := (⟨s, hs⟩, ⟨l, hl⟩)) (r := stepsR s l) hf rfl rfl rfl ?_ (fun _ h => h) (by rw [stepsR_er]; exact hk) <;> simp [AV.erL, AV.er, AV.tagsL, AV.tags, comps_er] <;> omega
end Go.Proofs
end
