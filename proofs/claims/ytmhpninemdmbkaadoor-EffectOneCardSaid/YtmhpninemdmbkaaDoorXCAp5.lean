/-
  Edits undone, by the program; both, by the document.
-/
import Derived.Test.YtmhpninemdmbkaaDoorXCAp0
set_option linter.unusedSimpArgs false
set_option linter.unusedVariables false
set_option linter.defProp false

-- CAp5
section
namespace Go.Proofs
open Go Go.Rw
open _root_.Nat renaming reduceAdd → N0, reduceSub → N1, reduceMul → N2, reduceLT → N3, reduceLeDiff → N4, reduceEqDiff → N5
open _root_.Int renaming reduceNeg → Z0, reduceAdd → Z1, reduceSub → Z2, reduceMul → Z3, reduceGT → Z4, reduceGE → Z5, reduceLT → Z6, reduceLE → Z7, reduceEq → Z8, reduceNe → Z9, reduceToNat → Z10, cast_ofNat_Int → Zc
set_option maxRecDepth 100000
set_option linter.unusedSimpArgs false
set_option linter.unusedVariables false

theorem cpts_len_le (t : List UInt8) : (cpts t).length ≤ t.length := by
  cases h : (pts t).isSome with
  | true =>
    have := encs_le (cpts t)
    rw [(encs_cpts h).1] at this
    exact this
  | false =>
    have : pts t = none := by simpa using h
    unfold cpts; rw [this]; simp
theorem stp_und {s : List UInt8} {l : List Cp} (hl : okL l) : ∀ x ∈ stp s l, (undoS x).t.length ≤ 8000 ∧ (-9223372036854775808 ≤ (undoS x).n ∧ (undoS x).n ≤ 9223372036854775807) := by
  intro x hx
  obtain ⟨h1, h2, h3⟩ := stp_mem x hx
  have h4 := hl.2.2 _ h1
  have h5 := okL.text hl h1
  unfold undoS
  split
  · rename_i hk
    have h6 := cpts_len_le x.puts
    rw [(h3 hk).1] at h6
    rw [(h3 hk).1]
    exact ⟨by simp, by simp only; omega⟩
  · split
    · exact ⟨h2, by simp only; omega⟩
    · rename_i hk2 hk3
      refine ⟨?_, h4⟩
      have he : errI s l = 0 := by
        unfold stp at hx
        split at hx
        · assumption
        · cases hx
      have := (err_zero he).2.2.2.1 _ h1
      rcases sound_cases this with ⟨h, _⟩ | ⟨_, _, ht⟩
      · exact absurd h hk2
      · rw [ht]; simp
theorem und_ok {s : List UInt8} {l : List Cp} (hl : okL l) : okL ((stp s l).map undoS) := by
  have hlen := stp_len s l
  have hu := stp_und (s := s) hl
  generalize stp s l = S at *
  have key : ∀ S : List Sp, (∀ x ∈ S, (undoS x).t.length ≤ 8000) → tot (S.map undoS) ≤ 8000 * S.length := by
    intro S
    induction S with
    | nil => intro _; simp [tot]
    | cons x r ih =>
      intro h
      have h1 := h x (by simp)
      have h2 := ih fun y hy => h y (by simp [hy])
      simp only [List.map_cons, tot, List.length_cons]; omega
  have h1 := key S fun x hx => (hu x hx).1
  refine ⟨by simp; omega, by omega, fun c hc => ?_⟩
  simp only [List.mem_map] at hc
  obtain ⟨x, hx, rfl⟩ := hc
  exact (hu x hx).2
theorem und_nf (s : List UInt8) (l : List Cp) : nf ((stp s l).map undoS) = undone s l := by
  unfold stp undone
  by_cases he : errI s l = 0
  · rw [if_pos he, if_pos he]; rfl
  · rw [if_neg he, if_neg he]; rfl
theorem take_und (S : List Sp) (i : Nat) (h : i < S.length) : (S.take (i + 1)).map undoS = (S.take i).map undoS ++ [undoS S[i]] := by
  rw [List.take_succ_eq_append_getElem h, List.map_append]; simp
theorem call_undo {Γ : Env} {f : Nat} (hf : Γ.get f = some undoCon) {σ : AS} {dr : Bool} {s : List UInt8} {l : List Cp} {t : Nat} {ys : List AV} {d : Option Nat} {K : AS → Prop} (hy : ys = comps l) (hs : s.length ≤ 1099511627776) (hl : okL l) (ht : t < 2)
    (hk : cont σ d (undoR s l) K) : vcCall Tryd.prog Γ dr σ f [.v (sv s), .sl t 3 ys] d K := by
  subst hy
  refine vcCall_fn (C := undoCon) (i := (⟨s, hs⟩, ⟨l, hl⟩)) (r := undoR s l) hf rfl rfl rfl ?_ (fun _ h => h) (by rw [undoR_er]; exact hk) <;> simp [AV.erL, AV.er, AV.tagsL, AV.tags, comps_er] <;> omega

/-- What comes of an edit, from a part on. -/
abbrev RDo (cs : List Nat) (l : List Cp) := { p : List UInt8 × Nat × Nat // p.2.2 ≤ l.length ∧ fit (cs.drop p.2.1) (l.drop p.2.2) ∧ p.2.1 ≤ cs.length ∧ p.1 ++ encs (doL (cs.drop p.2.1) (l.drop p.2.2)) = encs (doL cs l) }
theorem rdo_good : Rw.Good Tryd.prog 10 doCon := by
  have hΓ : GoodEnv Tryd.prog [(14, checkCon), (28, validCon), (29, rcountCon), (30, baseCon), (31, rsliceCon)] := (goodEnv_cons rcheck_good (goodEnv_cons rvalid_good (goodEnv_cons rcount_good (goodEnv_cons rbase_good (goodEnv_cons rslice_good goodEnv_nil)))))
  refine good_fn (nn := 74) hΓ Tryd.func10 (by kernel_rfl) rfl (show Tryd.f10.results.toList = [.tmp 4, .tmp 5] from rfl) (fun _ => rfl) (fun _ => rfl) ?_
  rintro ⟨⟨s, hs⟩, ⟨l, hl⟩⟩
  have e0 : ∀ e, errI s l = e → e ≠ 0 → doR s l = res2 (.v (sv [])) e := fun e h h2 => by unfold doR doneB; rw [h, if_neg h2]
  simp only [goRules, coreRules, tiRules, unRules, AS_of_eq, ← decide_not, N0, N1, N2, N3, N4, N5, Z0, Z1, Z2, Z3, Z4, Z5, Z6, Z7, Z8, Z9, Z10, Zc, ↓reduceIte, reduceCtorEq]
  refine call_rcheck (by simp [get_cons]) rfl hl ?_
  by_cases hc : checkI l = 0
  · simp only [goRules, coreRules, tiRules, unRules, AS_of_eq, ← decide_not, N0, N1, N2, N3, N4, N5, Z0, Z1, Z2, Z3, Z4, Z5, Z6, Z7, Z8, Z9, Z10, Zc, ↓reduceIte, reduceCtorEq, hc]
    refine call_rvalid (by simp [get_cons]) hs ?_
    rcases opt_cases (pts s) with hp | ⟨cs, hp⟩
    · have he : errI s l = 2 := by unfold errI; rw [if_pos hc, hp]
      simp only [goRules, coreRules, tiRules, unRules, AS_of_eq, ← decide_not, N0, N1, N2, N3, N4, N5, Z0, Z1, Z2, Z3, Z4, Z5, Z6, Z7, Z8, Z9, Z10, Zc, ↓reduceIte, reduceCtorEq, hp, Option.isSome_none]
      rw [e0 2 he (by decide)]; rfl
    · simp only [goRules, coreRules, tiRules, unRules, AS_of_eq, ← decide_not, N0, N1, N2, N3, N4, N5, Z0, Z1, Z2, Z3, Z4, Z5, Z6, Z7, Z8, Z9, Z10, Zc, ↓reduceIte, reduceCtorEq, hp, Option.isSome_some]
      refine call_rcount (by simp [get_cons]) hs ?_
      simp only [goRules, coreRules, tiRules, unRules, AS_of_eq, ← decide_not, N0, N1, N2, N3, N4, N5, Z0, Z1, Z2, Z3, Z4, Z5, Z6, Z7, Z8, Z9, Z10, Zc, ↓reduceIte, reduceCtorEq, cnt, hp]
      refine call_rbase (by simp [get_cons]) rfl hl ?_
      by_cases hb : (cs.length : Int) = baseL l
      · have he : errI s l = 0 := by unfold errI; rw [if_pos hc, hp]; simp only; rw [if_pos hb]
        have hfit := fit_check hc hb
        obtain ⟨hok, hse⟩ := pts_some hp
        have hcl := cpts_some hp
        have hcc := check_cases hc
        have hen := encs_len_le (cs := doL cs l)
        have hou := out_do l cs 0 (by omega) hfit hcc.2.2.2.2.2
        have ho2 : outL l = outF 0 l := rfl
        simp only [goRules, coreRules, tiRules, unRules, AS_of_eq, ← decide_not, N0, N1, N2, N3, N4, N5, Z0, Z1, Z2, Z3, Z4, Z5, Z6, Z7, Z8, Z9, Z10, Zc, ↓reduceIte, reduceCtorEq, hb, comps_len]
        obtain ⟨St, hSt⟩ : ∃ St : RDo cs l → AS, ∀ p, St p = AS.of 74 [(0, .v (sv s)), (1, .sl 0 3 (comps l)), (7, .v (sv p.1.1)), (8, .v (.int .i64 p.1.2.1)), (9, .v (.int .i64 p.1.2.2))] [] [] := ⟨_, fun _ => rfl⟩
        refine vc_loop hΓ St (fun p => l.length - p.1.2.2) ⟨([], 0, 0), by simp, by simpa using hfit, by simp, by simp⟩ (by rw [hSt]; refine weak_go [] [] ?_; simp only [goRules, coreRules, tiRules, unRules, AS_of_eq, ← decide_not, N0, N1, N2, N3, N4, N5, Z0, Z1, Z2, Z3, Z4, Z5, Z6, Z7, Z8, Z9, Z10, Zc, ↓reduceIte, reduceCtorEq] <;> ((repeat' apply And.intro) <;> first | rfl | omega | trivial)) ?_
        rintro ⟨⟨out, a, i⟩, hi, hf, ha, ho⟩
        simp only at hi hf ha ho
        have hle : out.length ≤ 8000 := by
          have := congrArg List.length ho
          rw [List.length_append] at this
          omega
        rw [hSt]
        simp only
        simp only [goRules, coreRules, tiRules, unRules, AS_of_eq, ← decide_not, N0, N1, N2, N3, N4, N5, Z0, Z1, Z2, Z3, Z4, Z5, Z6, Z7, Z8, Z9, Z10, Zc, ↓reduceIte, reduceCtorEq, comps_len]
        (with_reducible first | refine branchP_dec (fun h => ?_) (fun h => ?_) | refine guardB_dec (fun h => ?_) (fun h => ?_))
        · have hlt : i < l.length := by omega
          have e1 := comps_getD l hlt
          have hct := okL.text hl (List.getElem_mem hlt)
          rw [List.drop_eq_getElem_cons hlt] at hf ho
          obtain ⟨hso, hn0, hnl, hf2⟩ := fit_cons hf
          have hso2 := sound_some hso
          have hcs := sound_cases hso
          rw [List.drop_drop] at hf2
          rw [List.length_drop] at hnl
          have d1 := fun h => do_ins (cs := cs.drop a) (r := l.drop (i + 1)) hso2 h
          have d2 := fun h => do_del (cs := cs.drop a) (r := l.drop (i + 1)) hso2 h
          have d3 := fun h h' => do_ret (cs := cs.drop a) (r := l.drop (i + 1)) hso2 h h'
          generalize l[i] = c at *
          obtain ⟨k, n, t⟩ := c
          simp only at *
          have again : ∀ (σ : AS) (out2 : List UInt8) (a2 : Nat), Weak σ (AS.of 74 [(0, .v (sv s)), (1, .sl 0 3 (comps l)), (7, .v (sv out2)), (8, .v (.int .i64 a2)), (9, .v (.int .i64 (i + 1 : Nat)))] [] []) → fit (cs.drop a2) (l.drop (i + 1)) → a2 ≤ cs.length → out2 ++ encs (doL (cs.drop a2) (l.drop (i + 1))) = encs (doL cs l) → ∃ y : RDo cs l, l.length - y.1.2.2 < l.length - i ∧ Weak σ (St y) := fun σ o2 a2 hw h1 h2 h3 =>
            ⟨⟨(o2, a2, i + 1), by simp only; omega, h1, h2, h3⟩, by simp only; omega, by rw [hSt]; exact hw⟩
          simp (disch := omega) only [goRules, coreRules, tiRules, unRules, AS_of_eq, ← decide_not, N0, N1, N2, N3, N4, N5, Z0, Z1, Z2, Z3, Z4, Z5, Z6, Z7, Z8, Z9, Z10, Zc, ↓reduceIte, reduceCtorEq, wrap_i64, h, e1, comps_len]
          (repeat (with_reducible refine And.intro ?_ ?_; focus (first | omega | exact mixed1 | kernel_rfl)))
          (with_reducible first | refine branchP_dec (fun h1 => ?_) (fun h1 => ?_) | refine guardB_dec (fun h1 => ?_) (fun h1 => ?_))
          · subst h1
            rw [d3 (by decide) (by decide), List.drop_drop] at ho
            have hab : 0 ≤ (a : Int) ∧ (a : Int) ≤ (a : Int) + n ∧ (a : Int) + n ≤ (cs.length : Int) := by omega
            have hsl : ((a : Int) + n).toNat - a = n.toNat := by omega
            have hlen4 := encs_len_le (cs := (cs.drop a).take n.toNat)
            rw [List.length_take] at hlen4
            simp (disch := omega) only [goRules, coreRules, tiRules, unRules, AS_of_eq, ← decide_not, N0, N1, N2, N3, N4, N5, Z0, Z1, Z2, Z3, Z4, Z5, Z6, Z7, Z8, Z9, Z10, Zc, ↓reduceIte, reduceCtorEq, wrap_i64, e1, comps_len]
            (repeat (with_reducible refine And.intro ?_ ?_; focus (first | omega | exact mixed1 | kernel_rfl)))
            subst hse
            refine call_rslice (by simp [get_cons]) hok hs hab ?_
            simp (disch := omega) only [goRules, coreRules, tiRules, unRules, AS_of_eq, ← decide_not, N0, N1, N2, N3, N4, N5, Z0, Z1, Z2, Z3, Z4, Z5, Z6, Z7, Z8, Z9, Z10, Zc, ↓reduceIte, reduceCtorEq, wrap_i64, hsl, e1, comps_len]
            (repeat (with_reducible refine And.intro ?_ ?_; focus (first | omega | exact mixed1 | kernel_rfl)))
            refine again _ (out ++ encs ((cs.drop a).take n.toNat)) (a + n.toNat) ?_ hf2 (by omega) (by rw [← ho, encs_app, List.append_assoc])
            refine weak_go [] [] ?_
            simp only [goRules, coreRules, tiRules, unRules, AS_of_eq, ← decide_not, N0, N1, N2, N3, N4, N5, Z0, Z1, Z2, Z3, Z4, Z5, Z6, Z7, Z8, Z9, Z10, Zc, ↓reduceIte, reduceCtorEq] <;> ((repeat' apply And.intro) <;> first | rfl | omega | trivial)
          · simp (disch := omega) only [goRules, coreRules, tiRules, unRules, AS_of_eq, ← decide_not, N0, N1, N2, N3, N4, N5, Z0, Z1, Z2, Z3, Z4, Z5, Z6, Z7, Z8, Z9, Z10, Zc, ↓reduceIte, reduceCtorEq, wrap_i64, h1]
            (with_reducible first | refine branchP_dec (fun h2 => ?_) (fun h2 => ?_) | refine guardB_dec (fun h2 => ?_) (fun h2 => ?_))
            · subst h2
              rw [d1 rfl] at ho
              rcases hcs with ⟨_, hz, _, hv⟩ | ⟨h13, _⟩
              · subst hz
                simp (disch := omega) only [goRules, coreRules, tiRules, unRules, AS_of_eq, ← decide_not, N0, N1, N2, N3, N4, N5, Z0, Z1, Z2, Z3, Z4, Z5, Z6, Z7, Z8, Z9, Z10, Zc, ↓reduceIte, reduceCtorEq, wrap_i64, e1, comps_len]
                (repeat (with_reducible refine And.intro ?_ ?_; focus (first | omega | exact mixed1 | kernel_rfl)))
                refine again _ (out ++ t) a ?_ (by simpa using hf2) ha (by rw [← ho, encs_app, List.append_assoc, (encs_cpts hv).1])
                refine weak_go [] [] ?_
                simp only [goRules, coreRules, tiRules, unRules, AS_of_eq, ← decide_not, N0, N1, N2, N3, N4, N5, Z0, Z1, Z2, Z3, Z4, Z5, Z6, Z7, Z8, Z9, Z10, Zc, ↓reduceIte, reduceCtorEq] <;> ((repeat' apply And.intro) <;> first | rfl | omega | trivial)
              · omega
            · simp (disch := omega) only [goRules, coreRules, tiRules, unRules, AS_of_eq, ← decide_not, N0, N1, N2, N3, N4, N5, Z0, Z1, Z2, Z3, Z4, Z5, Z6, Z7, Z8, Z9, Z10, Zc, ↓reduceIte, reduceCtorEq, wrap_i64, h2]
              have h3 : k = 3 := by omega
              subst h3
              rw [d2 rfl, List.drop_drop] at ho
              simp (disch := omega) only [goRules, coreRules, tiRules, unRules, AS_of_eq, ← decide_not, N0, N1, N2, N3, N4, N5, Z0, Z1, Z2, Z3, Z4, Z5, Z6, Z7, Z8, Z9, Z10, Zc, ↓reduceIte, reduceCtorEq, wrap_i64, e1, comps_len]
              (repeat (with_reducible refine And.intro ?_ ?_; focus (first | omega | exact mixed1 | kernel_rfl)))
              refine again _ out (a + n.toNat) ?_ hf2 (by omega) ho
              refine weak_go [] [] ?_
              simp only [goRules, coreRules, tiRules, unRules, AS_of_eq, ← decide_not, N0, N1, N2, N3, N4, N5, Z0, Z1, Z2, Z3, Z4, Z5, Z6, Z7, Z8, Z9, Z10, Zc, ↓reduceIte, reduceCtorEq] <;> ((repeat' apply And.intro) <;> first | rfl | omega | trivial)
        · have hin : i = l.length := by omega
          simp only [goRules, coreRules, tiRules, unRules, AS_of_eq, ← decide_not, N0, N1, N2, N3, N4, N5, Z0, Z1, Z2, Z3, Z4, Z5, Z6, Z7, Z8, Z9, Z10, Zc, ↓reduceIte, reduceCtorEq, h]
          rw [hin, List.drop_length, doL, encs_nil, List.append_nil] at ho
          unfold doR doneB
          rw [he, if_pos rfl, hcl, ho]; rfl
      · have he : errI s l = 11 := by unfold errI; rw [if_pos hc, hp]; simp only; rw [if_neg hb]
        simp only [goRules, coreRules, tiRules, unRules, AS_of_eq, ← decide_not, N0, N1, N2, N3, N4, N5, Z0, Z1, Z2, Z3, Z4, Z5, Z6, Z7, Z8, Z9, Z10, Zc, ↓reduceIte, reduceCtorEq, hb]
        rw [e0 11 he (by decide)]; rfl
  · have he : errI s l = checkI l := by unfold errI; rw [if_neg hc]
    simp only [goRules, coreRules, tiRules, unRules, AS_of_eq, ← decide_not, N0, N1, N2, N3, N4, N5, Z0, Z1, Z2, Z3, Z4, Z5, Z6, Z7, Z8, Z9, Z10, Zc, ↓reduceIte, reduceCtorEq, hc]
    rw [e0 _ he hc]; rfl
end Go.Proofs
end
