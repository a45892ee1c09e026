/-
  compose.Two, walked.
-/
import Derived.Test.YtmenbocckhbdjaaDoorXAAw3
set_option linter.unusedSimpArgs false
set_option linter.unusedVariables false
set_option linter.defProp false

-- AAw4
section
namespace Go.Proofs
open Go Go.Rw
open _root_.Nat renaming reduceAdd → N0, reduceSub → N1, reduceMul → N2, reduceLT → N3, reduceLeDiff → N4, reduceEqDiff → N5
open _root_.Int renaming reduceNeg → Z0, reduceAdd → Z1, reduceSub → Z2, reduceMul → Z3, reduceGT → Z4, reduceGE → Z5, reduceLT → Z6, reduceLE → Z7, reduceEq → Z8, reduceNe → Z9, reduceToNat → Z10, cast_ofNat_Int → Zc
set_option maxRecDepth 100000
set_option linter.unusedSimpArgs false
set_option linter.unusedVariables false

theorem twoE_zero {a b : List Cp} (h : twoE a b = 0) : checkI a = 0 ∧ checkI b = 0 ∧ outL a = baseL b := by
  unfold twoE at h
  split at h
  · split at h
    · split at h
      · exact ⟨by assumption, by assumption, by assumption⟩
      · cases h
    · exact absurd h (by assumption)
  · exact absurd h (by assumption)
abbrev TwSt (e : Prop) (raw : List Cp) := { p : List Cp × (List Cp × Nat) × (List Cp × Nat) × Nat // e ∧ WOK p.2.1 ∧ WOK p.2.2.1 ∧ (wU p.2.1).length + (wU p.2.2.1).length ≤ p.2.2.2 ∧ p.1.length + p.2.2.2 ≤ 10000 ∧ p.1 ++ twoF p.2.2.2 p.2.1 p.2.2.1 = raw }
theorem two_good : Rw.Good Tryd.prog 36 twoCon := by
  have hΓ : GoodEnv Tryd.prog [(17, checkCon), (34, outCon), (18, baseCon), (62, normCon), (66, rcCon), (88, sliceCon)] := (goodEnv_cons check_good (goodEnv_cons out_good (goodEnv_cons base_good (goodEnv_cons norm_good (goodEnv_cons rc_good (goodEnv_cons slice_good goodEnv_nil))))))
  refine good_fn (nn := 87) hΓ Tryd.func36 (by kernel_rfl) rfl (show Tryd.f36.results.toList = [.tmp 4, .tmp 5] from rfl) (fun _ => rfl) (fun _ => rfl) ?_
  rintro ⟨⟨a, oa⟩, ⟨b, ob⟩⟩
  simp only [goRules, coreRules, tiRules, unRules, AS_of_eq, ← decide_not, N0, N1, N2, N3, N4, N5, Z0, Z1, Z2, Z3, Z4, Z5, Z6, Z7, Z8, Z9, Z10, Zc, ↓reduceIte, reduceCtorEq, comps_len]
  generalize hF : (unL a).length + (unL b).length = F
  generalize hraw : twoF F (a, 0) (b, 0) = raw
  obtain ⟨St, hSt⟩ : ∃ St : TwSt (twoE a b = 0) raw → AS, ∀ p, St p = AS.of 87 [(4, .sl 2 3 (comps p.1.1)), (6, .ptr 0 0), (7, .ptr 1 0), (9, .ptr 2 0), (10, .ptr 3 0)] [.cells [.sl 0 3 (comps p.1.2.1.1), .v (.int .i64 p.1.2.1.2)], .cells [.sl 0 3 (comps p.1.2.2.1.1), .v (.int .i64 p.1.2.2.1.2)], .cells [.any, .any, .any], .cells [.any, .any, .any]] [(p.1.1.length, 32)] := ⟨_, fun _ => rfl⟩
  refine vc_lab hΓ 0 St (fun p => p.1.2.2.2) 1 rfl rfl ?_ ?_
  · rintro ⟨⟨out, x, y, f⟩, he, hx, hy, hf, hlen, hr⟩
    simp only at hx hy hf hlen hr
    have fin : raw = out → okL out ∧ AV.tup [.sl 0 3 (comps (nf out)), .v (.int .i64 0)] = twoR a b := fun h => by
      obtain ⟨f1, f2, f3⟩ := twoE_zero he
      have f4 := (two_raw f1 f2 oa ob).2.2
      rw [hF, hraw, h] at f4
      refine ⟨f4, ?_⟩
      unfold twoR twoN
      rw [if_pos he, hF, hraw, h]
      rfl
    rw [hSt]
    simp only
    simp only [goRules, coreRules, tiRules, unRules, AS_of_eq, ← decide_not, N0, N1, N2, N3, N4, N5, Z0, Z1, Z2, Z3, Z4, Z5, Z6, Z7, Z8, Z9, Z10, Zc, ↓reduceIte, reduceCtorEq, comps_len]
    refine call_wkd hΓ (by simp [get_cons, get_nil]) hx rfl ?_
    by_cases c1 : kindL x.1 = 3
    · have hp := lenW_pos hx.1 (by omega)
      obtain ⟨e1, e2, e3, e4, e5, e6⟩ := wU_split hx.1 (by omega) hp (Nat.le_refl _)
      obtain ⟨f, rfl⟩ : ∃ g, f = g + 1 := ⟨f - 1, by omega⟩
      rw [twoF, if_pos c1] at hr
      simp only [goRules, coreRules, tiRules, unRules, AS_of_eq, ← decide_not, N0, N1, N2, N3, N4, N5, Z0, Z1, Z2, Z3, Z4, Z5, Z6, Z7, Z8, Z9, Z10, Zc, ↓reduceIte, reduceCtorEq, c1]
      refine call_wln hΓ (by simp [get_cons, get_nil]) (by simp [get_cons, get_nil]) (by simp [get_cons]) hx rfl ?_
      simp only [goRules, coreRules, tiRules, unRules, AS_of_eq, ← decide_not, N0, N1, N2, N3, N4, N5, Z0, Z1, Z2, Z3, Z4, Z5, Z6, Z7, Z8, Z9, Z10, Zc, ↓reduceIte, reduceCtorEq]
      refine call_wtk hΓ (by simp [get_cons, get_nil]) (by simp [get_cons, get_nil]) (by simp [get_cons, get_nil]) (by simp [get_cons]) (by simp [get_cons]) (by omega) hx (by omega) (Nat.le_refl _) rfl ?_
      intro h' g0 g
      have g1 := g 1 (by omega) (by omega)
      have g2 := g 2 (by omega) (by omega)
      have g3 := g 3 (by omega) (by omega)
      have hx2 := WOK_adv hx (by omega) hp (Nat.le_refl _)
      generalize piece x (lenW x.1 x.2) = pc at *
      generalize adv x (lenW x.1 x.2) = x2 at *
      obtain ⟨pk, pn, pt⟩ := pc
      simp only [goRules, coreRules, tiRules, unRules, AS_of_eq, ← decide_not, N0, N1, N2, N3, N4, N5, Z0, Z1, Z2, Z3, Z4, Z5, Z6, Z7, Z8, Z9, Z10, Zc, ↓reduceIte, reduceCtorEq, comps_len, g0, g1, g2, g3, cA, comps_snoc]
      (repeat (with_reducible refine And.intro ?_ ?_; focus (first | omega | exact mixed1 | kernel_rfl)))
      refine weak_again ⟨(out ++ [⟨pk, pn, pt⟩], x2, y, f), he, hx2, hy, by simp only; omega, by simp only [List.length_append, List.length_singleton]; omega, by simp only; rw [← hr]; simp⟩ (by simp only; omega) ?_
      rw [hSt]
      refine weak_go [0, 1, 2, 3] [.live 2] ?_
      simp only [goRules, coreRules, tiRules, unRules, AS_of_eq, ← decide_not, N0, N1, N2, N3, N4, N5, Z0, Z1, Z2, Z3, Z4, Z5, Z6, Z7, Z8, Z9, Z10, Zc, ↓reduceIte, reduceCtorEq, comps_len, List.length_append, g0, g1, g2, g3] <;> ((repeat' apply And.intro) <;> first | rfl | omega | trivial)
    simp only [goRules, coreRules, tiRules, unRules, AS_of_eq, ← decide_not, N0, N1, N2, N3, N4, N5, Z0, Z1, Z2, Z3, Z4, Z5, Z6, Z7, Z8, Z9, Z10, Zc, ↓reduceIte, reduceCtorEq, c1]
    refine call_wkd hΓ (by simp [get_cons, get_nil]) hy rfl ?_
    by_cases c2 : kindL y.1 = 2
    · have hp := lenW_pos hy.1 (by omega)
      obtain ⟨e1, e2, e3, e4, e5, e6⟩ := wU_split hy.1 (by omega) hp (Nat.le_refl _)
      obtain ⟨f, rfl⟩ : ∃ g, f = g + 1 := ⟨f - 1, by omega⟩
      rw [twoF, if_neg c1, if_pos c2] at hr
      simp only [goRules, coreRules, tiRules, unRules, AS_of_eq, ← decide_not, N0, N1, N2, N3, N4, N5, Z0, Z1, Z2, Z3, Z4, Z5, Z6, Z7, Z8, Z9, Z10, Zc, ↓reduceIte, reduceCtorEq, c2]
      refine call_wln hΓ (by simp [get_cons, get_nil]) (by simp [get_cons, get_nil]) (by simp [get_cons]) hy rfl ?_
      simp only [goRules, coreRules, tiRules, unRules, AS_of_eq, ← decide_not, N0, N1, N2, N3, N4, N5, Z0, Z1, Z2, Z3, Z4, Z5, Z6, Z7, Z8, Z9, Z10, Zc, ↓reduceIte, reduceCtorEq]
      refine call_wtk hΓ (by simp [get_cons, get_nil]) (by simp [get_cons, get_nil]) (by simp [get_cons, get_nil]) (by simp [get_cons]) (by simp [get_cons]) (by omega) hy (by omega) (Nat.le_refl _) rfl ?_
      intro h' g1 g
      have g0 := g 0 (by omega) (by omega)
      have g2 := g 2 (by omega) (by omega)
      have g3 := g 3 (by omega) (by omega)
      have hy2 := WOK_adv hy (by omega) hp (Nat.le_refl _)
      generalize piece y (lenW y.1 y.2) = pc at *
      generalize adv y (lenW y.1 y.2) = y2 at *
      obtain ⟨pk, pn, pt⟩ := pc
      simp only [goRules, coreRules, tiRules, unRules, AS_of_eq, ← decide_not, N0, N1, N2, N3, N4, N5, Z0, Z1, Z2, Z3, Z4, Z5, Z6, Z7, Z8, Z9, Z10, Zc, ↓reduceIte, reduceCtorEq, comps_len, g0, g1, g2, g3, cA, comps_snoc]
      (repeat (with_reducible refine And.intro ?_ ?_; focus (first | omega | exact mixed1 | kernel_rfl)))
      refine weak_again ⟨(out ++ [⟨pk, pn, pt⟩], x, y2, f), he, hx, hy2, by simp only; omega, by simp only [List.length_append, List.length_singleton]; omega, by simp only; rw [← hr]; simp⟩ (by simp only; omega) ?_
      rw [hSt]
      refine weak_go [0, 1, 2, 3] [.live 2] ?_
      simp only [goRules, coreRules, tiRules, unRules, AS_of_eq, ← decide_not, N0, N1, N2, N3, N4, N5, Z0, Z1, Z2, Z3, Z4, Z5, Z6, Z7, Z8, Z9, Z10, Zc, ↓reduceIte, reduceCtorEq, comps_len, List.length_append, g0, g1, g2, g3] <;> ((repeat' apply And.intro) <;> first | rfl | omega | trivial)
    simp only [goRules, coreRules, tiRules, unRules, AS_of_eq, ← decide_not, N0, N1, N2, N3, N4, N5, Z0, Z1, Z2, Z3, Z4, Z5, Z6, Z7, Z8, Z9, Z10, Zc, ↓reduceIte, reduceCtorEq, c2]
    refine call_wkd hΓ (by simp [get_cons, get_nil]) hx rfl ?_
    by_cases c3 : kindL x.1 = 0
    · have hend : raw = out := by
        rw [← hr]
        cases f with
        | zero => simp [twoF]
        | succ f => rw [twoF, if_neg c1, if_neg c2, if_pos (.inl c3)]; simp
      obtain ⟨f1, f2⟩ := fin hend
      simp only [goRules, coreRules, tiRules, unRules, AS_of_eq, ← decide_not, N0, N1, N2, N3, N4, N5, Z0, Z1, Z2, Z3, Z4, Z5, Z6, Z7, Z8, Z9, Z10, Zc, ↓reduceIte, reduceCtorEq, c3]
      refine ⟨_, rfl, ?_⟩
      simp only [goRules, coreRules, tiRules, unRules, AS_of_eq, ← decide_not, N0, N1, N2, N3, N4, N5, Z0, Z1, Z2, Z3, Z4, Z5, Z6, Z7, Z8, Z9, Z10, Zc, ↓reduceIte, reduceCtorEq]
      refine call_norm (by simp [get_cons]) (by omega) rfl f1 ?_
      simp only [goRules, coreRules, tiRules, unRules, AS_of_eq, ← decide_not, N0, N1, N2, N3, N4, N5, Z0, Z1, Z2, Z3, Z4, Z5, Z6, Z7, Z8, Z9, Z10, Zc, ↓reduceIte, reduceCtorEq]
      exact f2
    simp only [goRules, coreRules, tiRules, unRules, AS_of_eq, ← decide_not, N0, N1, N2, N3, N4, N5, Z0, Z1, Z2, Z3, Z4, Z5, Z6, Z7, Z8, Z9, Z10, Zc, ↓reduceIte, reduceCtorEq, c3]
    refine call_wkd hΓ (by simp [get_cons, get_nil]) hy rfl ?_
    by_cases c4 : kindL y.1 = 0
    · have hend : raw = out := by
        rw [← hr]
        cases f with
        | zero => simp [twoF]
        | succ f => rw [twoF, if_neg c1, if_neg c2, if_pos (.inr c4)]; simp
      obtain ⟨f1, f2⟩ := fin hend
      simp only [goRules, coreRules, tiRules, unRules, AS_of_eq, ← decide_not, N0, N1, N2, N3, N4, N5, Z0, Z1, Z2, Z3, Z4, Z5, Z6, Z7, Z8, Z9, Z10, Zc, ↓reduceIte, reduceCtorEq, c4]
      refine ⟨_, rfl, ?_⟩
      simp only [goRules, coreRules, tiRules, unRules, AS_of_eq, ← decide_not, N0, N1, N2, N3, N4, N5, Z0, Z1, Z2, Z3, Z4, Z5, Z6, Z7, Z8, Z9, Z10, Zc, ↓reduceIte, reduceCtorEq]
      refine call_norm (by simp [get_cons]) (by omega) rfl f1 ?_
      simp only [goRules, coreRules, tiRules, unRules, AS_of_eq, ← decide_not, N0, N1, N2, N3, N4, N5, Z0, Z1, Z2, Z3, Z4, Z5, Z6, Z7, Z8, Z9, Z10, Zc, ↓reduceIte, reduceCtorEq]
      exact f2
    simp only [goRules, coreRules, tiRules, unRules, AS_of_eq, ← decide_not, N0, N1, N2, N3, N4, N5, Z0, Z1, Z2, Z3, Z4, Z5, Z6, Z7, Z8, Z9, Z10, Zc, ↓reduceIte, reduceCtorEq, c4]
    refine call_wln hΓ (by simp [get_cons, get_nil]) (by simp [get_cons, get_nil]) (by simp [get_cons]) hx rfl ?_
    simp only [goRules, coreRules, tiRules, unRules, AS_of_eq, ← decide_not, N0, N1, N2, N3, N4, N5, Z0, Z1, Z2, Z3, Z4, Z5, Z6, Z7, Z8, Z9, Z10, Zc, ↓reduceIte, reduceCtorEq]
    refine call_wln hΓ (by simp [get_cons, get_nil]) (by simp [get_cons, get_nil]) (by simp [get_cons]) hy rfl ?_
    have hpx := lenW_pos hx.1 c3
    have hpy := lenW_pos hy.1 c4
    have hmin : min ((lenW x.1 x.2 : Nat) : Int) ((lenW y.1 y.2 : Nat) : Int) = ((min (lenW x.1 x.2) (lenW y.1 y.2) : Nat) : Int) := by omega
    obtain ⟨f, rfl⟩ : ∃ g, f = g + 1 := ⟨f - 1, by
      have := (wU_split hx.1 c3 hpx (Nat.le_refl _)).2.2.2.2.2
      omega⟩
    rw [twoF, if_neg c1, if_neg c2, if_neg (by simp [c3, c4])] at hr
    simp only at hr
    generalize hm : min (lenW x.1 x.2) (lenW y.1 y.2) = m at *
    simp only [goRules, coreRules, tiRules, unRules, AS_of_eq, ← decide_not, N0, N1, N2, N3, N4, N5, Z0, Z1, Z2, Z3, Z4, Z5, Z6, Z7, Z8, Z9, Z10, Zc, ↓reduceIte, reduceCtorEq, min2_int, hmin]
    obtain ⟨e1, e2, e3, e4, e5, e6⟩ := wU_split (n := m) hx.1 c3 (by omega) (by omega)
    obtain ⟨u1, u2, u3, u4, u5, u6⟩ := wU_split (n := m) hy.1 c4 (by omega) (by omega)
    refine call_wtk hΓ (by simp [get_cons, get_nil]) (by simp [get_cons, get_nil]) (by simp [get_cons, get_nil]) (by simp [get_cons]) (by simp [get_cons]) (by omega) hx c3 (by omega) rfl ?_
    intro h' g0 g
    have g1 := g 1 (by omega) (by omega)
    have g2 := g 2 (by omega) (by omega)
    have g3 := g 3 (by omega) (by omega)
    have hx2 := WOK_adv hx c3 (n := m) (by omega) (by omega)
    simp only [goRules, coreRules, tiRules, unRules, AS_of_eq, ← decide_not, N0, N1, N2, N3, N4, N5, Z0, Z1, Z2, Z3, Z4, Z5, Z6, Z7, Z8, Z9, Z10, Zc, ↓reduceIte, reduceCtorEq]
    refine call_wtk hΓ (by simp [get_cons, get_nil]) (by simp [get_cons, get_nil]) (by simp [get_cons, get_nil]) (by simp [get_cons]) (by simp [get_cons]) (by omega) hy c4 (by omega) g1 ?_
    intro h2 v1 v
    have v0 := v 0 (by omega) (by omega)
    have v2 := v 2 (by omega) (by omega)
    have v3 := v 3 (by omega) (by omega)
    rw [g0] at v0
    rw [g2] at v2
    rw [g3] at v3
    have hy2 := WOK_adv hy c4 (n := m) (by omega) (by omega)
    generalize piece x m = pc at *
    generalize adv x m = x2 at *
    generalize piece y m = qc at *
    generalize adv y m = y2 at *
    obtain ⟨pk, pn, pt⟩ := pc
    obtain ⟨qk, qn, qt⟩ := qc
    simp only at e5 u5
    rw [← e5, ← u5] at hr
    clear hmin
    by_cases c5 : qk = 1
    · rw [if_pos c5] at hr
      simp only [goRules, coreRules, tiRules, unRules, AS_of_eq, ← decide_not, N0, N1, N2, N3, N4, N5, Z0, Z1, Z2, Z3, Z4, Z5, Z6, Z7, Z8, Z9, Z10, Zc, ↓reduceIte, reduceCtorEq, comps_len, v0, v1, v2, v3, cA, comps_snoc, c5]
      (repeat (with_reducible refine And.intro ?_ ?_; focus (first | omega | exact mixed1 | kernel_rfl)))
      refine weak_again ⟨(out ++ [⟨pk, pn, pt⟩], x2, y2, f), he, hx2, hy2, by simp only; omega, by simp only [List.length_append, List.length_singleton]; omega, by simp only; rw [← hr]; simp⟩ (by simp only; omega) ?_
      rw [hSt]
      refine weak_go [0, 1, 2, 3] [.live 2] ?_
      simp only [goRules, coreRules, tiRules, unRules, AS_of_eq, ← decide_not, N0, N1, N2, N3, N4, N5, Z0, Z1, Z2, Z3, Z4, Z5, Z6, Z7, Z8, Z9, Z10, Zc, ↓reduceIte, reduceCtorEq, comps_len, List.length_append, v0, v1, v2, v3] <;> ((repeat' apply And.intro) <;> first | rfl | omega | trivial)
    rw [if_neg c5] at hr
    by_cases c6 : pk = 1
    · rw [if_pos c6] at hr
      simp only [goRules, coreRules, tiRules, unRules, AS_of_eq, ← decide_not, N0, N1, N2, N3, N4, N5, Z0, Z1, Z2, Z3, Z4, Z5, Z6, Z7, Z8, Z9, Z10, Zc, ↓reduceIte, reduceCtorEq, comps_len, v0, v1, v2, v3, cA, comps_snoc, c5, c6]
      (repeat (with_reducible refine And.intro ?_ ?_; focus (first | omega | exact mixed1 | kernel_rfl)))
      refine weak_again ⟨(out ++ [⟨qk, qn, qt⟩], x2, y2, f), he, hx2, hy2, by simp only; omega, by simp only [List.length_append, List.length_singleton]; omega, by simp only; rw [← hr]; simp⟩ (by simp only; omega) ?_
      rw [hSt]
      refine weak_go [0, 1, 2, 3] [.live 2] ?_
      simp only [goRules, coreRules, tiRules, unRules, AS_of_eq, ← decide_not, N0, N1, N2, N3, N4, N5, Z0, Z1, Z2, Z3, Z4, Z5, Z6, Z7, Z8, Z9, Z10, Zc, ↓reduceIte, reduceCtorEq, comps_len, List.length_append, v0, v1, v2, v3] <;> ((repeat' apply And.intro) <;> first | rfl | omega | trivial)
    rw [if_neg c6, List.nil_append] at hr
    simp only [goRules, coreRules, tiRules, unRules, AS_of_eq, ← decide_not, N0, N1, N2, N3, N4, N5, Z0, Z1, Z2, Z3, Z4, Z5, Z6, Z7, Z8, Z9, Z10, Zc, ↓reduceIte, reduceCtorEq, comps_len, v0, v1, v2, v3, cA, comps_snoc, c5, c6]
    refine weak_again ⟨(out, x2, y2, f), he, hx2, hy2, by simp only; omega, by simp only; omega, hr⟩ (by simp only; omega) ?_
    rw [hSt]
    refine weak_go [0, 1, 2, 3] [.live 2] ?_
    simp only [goRules, coreRules, tiRules, unRules, AS_of_eq, ← decide_not, N0, N1, N2, N3, N4, N5, Z0, Z1, Z2, Z3, Z4, Z5, Z6, Z7, Z8, Z9, Z10, Zc, ↓reduceIte, reduceCtorEq, comps_len, List.length_append, v0, v1, v2, v3] <;> ((repeat' apply And.intro) <;> first | rfl | omega | trivial)
  · simp only [goRules, coreRules, tiRules, unRules, AS_of_eq, ← decide_not, N0, N1, N2, N3, N4, N5, Z0, Z1, Z2, Z3, Z4, Z5, Z6, Z7, Z8, Z9, Z10, Zc, ↓reduceIte, reduceCtorEq, comps_len]
    refine vcCall_inl (nn := 6) hΓ (by first | assumption | simp [get_cons, get_nil]) Tryd.func67 (by kernel_rfl) rfl (show Tryd.f67.results.toList = [.tmp 2] from rfl) rfl ?_
    simp only [goRules, coreRules, tiRules, unRules, AS_of_eq, ← decide_not, N0, N1, N2, N3, N4, N5, Z0, Z1, Z2, Z3, Z4, Z5, Z6, Z7, Z8, Z9, Z10, Zc, ↓reduceIte, reduceCtorEq, comps_len, List.map_cons, List.map_nil]
    refine vcCall_inl (nn := 6) hΓ (by first | assumption | simp [get_cons, get_nil]) Tryd.func67 (by kernel_rfl) rfl (show Tryd.f67.results.toList = [.tmp 2] from rfl) rfl ?_
    simp only [goRules, coreRules, tiRules, unRules, AS_of_eq, ← decide_not, N0, N1, N2, N3, N4, N5, Z0, Z1, Z2, Z3, Z4, Z5, Z6, Z7, Z8, Z9, Z10, Zc, ↓reduceIte, reduceCtorEq, comps_len, List.map_cons, List.map_nil]
    refine call_check (by simp [get_cons]) rfl oa ?_
    by_cases d1 : checkI a = 0
    case neg =>
      simp only [goRules, coreRules, tiRules, unRules, AS_of_eq, ← decide_not, N0, N1, N2, N3, N4, N5, Z0, Z1, Z2, Z3, Z4, Z5, Z6, Z7, Z8, Z9, Z10, Zc, ↓reduceIte, reduceCtorEq, d1]
      have he : twoE a b = checkI a := by unfold twoE; rw [if_neg d1]
      unfold twoR
      rw [he, if_neg d1]; rfl
    simp only [goRules, coreRules, tiRules, unRules, AS_of_eq, ← decide_not, N0, N1, N2, N3, N4, N5, Z0, Z1, Z2, Z3, Z4, Z5, Z6, Z7, Z8, Z9, Z10, Zc, ↓reduceIte, reduceCtorEq, d1]
    refine call_check (by simp [get_cons]) rfl ob ?_
    by_cases d2 : checkI b = 0
    case neg =>
      simp only [goRules, coreRules, tiRules, unRules, AS_of_eq, ← decide_not, N0, N1, N2, N3, N4, N5, Z0, Z1, Z2, Z3, Z4, Z5, Z6, Z7, Z8, Z9, Z10, Zc, ↓reduceIte, reduceCtorEq, d2]
      have he : twoE a b = checkI b := by unfold twoE; rw [if_pos d1, if_neg d2]
      unfold twoR
      rw [he, if_neg d2]; rfl
    simp only [goRules, coreRules, tiRules, unRules, AS_of_eq, ← decide_not, N0, N1, N2, N3, N4, N5, Z0, Z1, Z2, Z3, Z4, Z5, Z6, Z7, Z8, Z9, Z10, Zc, ↓reduceIte, reduceCtorEq, d2]
    refine call_out (by simp [get_cons]) rfl oa ?_
    simp only [goRules, coreRules, tiRules, unRules, AS_of_eq, ← decide_not, N0, N1, N2, N3, N4, N5, Z0, Z1, Z2, Z3, Z4, Z5, Z6, Z7, Z8, Z9, Z10, Zc, ↓reduceIte, reduceCtorEq]
    refine call_base (by simp [get_cons]) rfl ob ?_
    by_cases d3 : outL a = baseL b
    case neg =>
      simp only [goRules, coreRules, tiRules, unRules, AS_of_eq, ← decide_not, N0, N1, N2, N3, N4, N5, Z0, Z1, Z2, Z3, Z4, Z5, Z6, Z7, Z8, Z9, Z10, Zc, ↓reduceIte, reduceCtorEq, d3]
      have he : twoE a b = 11 := by unfold twoE; rw [if_pos d1, if_pos d2, if_neg d3]
      unfold twoR
      rw [he]; rfl
    simp only [goRules, coreRules, tiRules, unRules, AS_of_eq, ← decide_not, N0, N1, N2, N3, N4, N5, Z0, Z1, Z2, Z3, Z4, Z5, Z6, Z7, Z8, Z9, Z10, Zc, ↓reduceIte, reduceCtorEq, d3]
    have he : twoE a b = 0 := by unfold twoE; rw [if_pos d1, if_pos d2, if_pos d3]
    have f1 := (out_units d1).2.2
    have f2 := (out_units d2).2.2
    refine ⟨⟨([], (a, 0), (b, 0), F), he, WOK_init d1 oa, WOK_init d2 ob, by simp only [wU, List.drop_zero]; omega, by simp only [List.length_nil]; omega, hraw⟩, ?_⟩
    rw [hSt]
    refine weak_go [0, 1, 2, 3] [.nil 3] ?_
    simp only [goRules, coreRules, tiRules, unRules, AS_of_eq, ← decide_not, N0, N1, N2, N3, N4, N5, Z0, Z1, Z2, Z3, Z4, Z5, Z6, Z7, Z8, Z9, Z10, Zc, ↓reduceIte, reduceCtorEq, comps_nil] <;> ((repeat' apply And.intro) <;> first | rfl | omega | trivial)
end Go.Proofs
end
