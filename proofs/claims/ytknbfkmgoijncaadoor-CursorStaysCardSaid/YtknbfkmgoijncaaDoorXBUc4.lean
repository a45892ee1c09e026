/-
  The document's Through; what the document fixes of chapter 11.
-/
import Derived.Test.YtknbfkmgoijncaaDoorXBUc3
set_option linter.unusedSimpArgs false
set_option linter.unusedVariables false
set_option linter.defProp false

-- BUc4
section
namespace Go.Proofs
open Go Go.Rw
open _root_.Nat renaming reduceAdd → N0, reduceSub → N1, reduceMul → N2, reduceLT → N3, reduceLeDiff → N4, reduceEqDiff → N5
open _root_.Int renaming reduceNeg → Z0, reduceAdd → Z1, reduceSub → Z2, reduceMul → Z3, reduceGT → Z4, reduceGE → Z5, reduceLT → Z6, reduceLE → Z7, reduceEq → Z8, reduceNe → Z9, reduceToNat → Z10, cast_ofNat_Int → Zc
set_option maxRecDepth 100000
set_option linter.unusedSimpArgs false
set_option linter.unusedVariables false

theorem call_through {Γ : Env} (hf : Γ.get 26 = some thrCon) {σ : AS} {dr : Bool} {z w : Int} {l : List Cp} {af : Bool} {t : Nat} {ys : List AV} {d : Option Nat} {K : AS → Prop} (hz : -2251799813685248 < z ∧ z < 2251799813685248) (hw : -2251799813685248 < w ∧ w < 2251799813685248) (hy : ys = comps l) (ol : okL l) (ht : tot l ≤ 1000000)
    (hk : cont σ d (thrR z w l af) K) : vcCall Tryd.prog Γ dr σ 26 [.v (.complex .f64 (qf z) (qf w)), .sl t 3 ys, .v (.bool af)] d K := by
  subst hy
  exact vcCall_plain (C := thrCon) (i := (⟨(z, w), hz, hw⟩, ⟨l, ol, ht⟩, af)) hf rfl rfl rfl rfl (fun _ h => h) (thrR_plain _ _ _ _) hk
abbrev rthrCon : Con where
  ι := { q : Int × List Cp × Bool // (0 ≤ q.1 ∧ q.1 ≤ 1099511627776) ∧ okL q.2.1 ∧ checkI q.2.1 = 0 }
  args := fun q => [.v (.int .i64 q.1.1), .sl 0 3 (comps q.1.2.1), .v (.bool q.1.2.2)]
  post := fun q r => r = .v (.int .i64 (thr q.1.1 q.1.2.1 q.1.2.2))
  plain := true
theorem rthrough_good : Rw.Good Tryd.prog 31 rthrCon := by
  have hΓ : GoodEnv Tryd.prog [(13, rcountCon)] := (goodEnv_cons rcount_good goodEnv_nil)
  refine good_fn (nn := 73) hΓ Tryd.func31 (by kernel_rfl) rfl (show Tryd.f31.results.toList = [.tmp 6] from rfl) (fun _ => rfl) (fun _ => rfl) ?_
  rintro ⟨⟨p, l, af⟩, hp, ol, hc⟩
  simp only at hp ol hc
  have hcc := check_cases hc
  simp only [goRules, coreRules, tiRules, unRules, AS_of_eq, ← decide_not, N0, N1, N2, N3, N4, N5, Z0, Z1, Z2, Z3, Z4, Z5, Z6, Z7, Z8, Z9, Z10, Zc, ↓reduceIte, reduceCtorEq]
  obtain ⟨St, hSt⟩ : ∃ St : { x : Int × Int × Nat // x.2.2 ≤ l.length ∧ 0 ≤ x.1 ∧ x.1 + tn (l.drop x.2.2) = tn l ∧ thF p af x.1 x.2.1 (l.drop x.2.2) = thr p l af ∧ 0 ≤ x.2.1 ∧ x.2.1 + oN (l.drop x.2.2) ≤ 100000 } → AS, ∀ x, St x = AS.of 73 [(0, .v (.int .i64 p)), (1, .sl 0 3 (comps l)), (2, .v (.bool af)), (7, .v (.int .i64 x.1.1)), (8, .v (.int .i64 x.1.2.1)), (9, .v (.int .i64 x.1.2.2))] [] [] := ⟨_, fun _ => rfl⟩
  refine vc_loop hΓ St (fun x => l.length - x.1.2.2) ⟨(0, 0, 0), by simp, by simp, by simp, rfl, by simp, by rw [List.drop_zero, oN_units l hcc.2.2.1]; have := (out_units hc).1; simp only; omega⟩ (by rw [hSt]; refine weak_go [] [] ?_; simp only [goRules, coreRules, tiRules, unRules, AS_of_eq, ← decide_not, N0, N1, N2, N3, N4, N5, Z0, Z1, Z2, Z3, Z4, Z5, Z6, Z7, Z8, Z9, Z10, Zc, ↓reduceIte, reduceCtorEq] <;> ((repeat' apply And.intro) <;> first | rfl | omega | trivial)) ?_
  rintro ⟨⟨o, n, i⟩, hi, ho, htt, hth, hn0, hn1⟩
  simp only at hi ho htt hth hn0 hn1
  rw [hSt]
  simp only
  simp only [goRules, coreRules, tiRules, unRules, AS_of_eq, ← decide_not, N0, N1, N2, N3, N4, N5, Z0, Z1, Z2, Z3, Z4, Z5, Z6, Z7, Z8, Z9, Z10, Zc, ↓reduceIte, reduceCtorEq, comps_len]
  (with_reducible first | refine branchP_dec (fun h => ?_) (fun h => ?_) | refine guardB_dec (fun h => ?_) (fun h => ?_))
  · have hlt : i < l.length := by omega
    have e1 := comps_getD l hlt
    have hs := hcc.2.2.1 _ (List.getElem_mem hlt)
    have htm := tot_mem (List.getElem_mem hlt)
    have hto := ol.2.1
    have htp := tn_pos (l.drop (i + 1))
    have hop := oN_pos (l.drop (i + 1)) (fun c hc' => hcc.2.2.1 c (List.mem_of_mem_drop hc'))
    rw [List.drop_eq_getElem_cons hlt] at htt hth hn1
    rw [thF_cons p af o n hs] at hth
    rw [oN_cons hs] at hn1
    simp only [tn] at htt
    generalize l[i] = c at *
    have hcl := cpts_len c.t
    rcases sound_cases hs with ⟨h2, h0, _, hv⟩ | ⟨h1 | h3, h0, _⟩
    · simp only [h2, Int.reduceEq, if_true, if_false] at hth hn1
      have hmax : max c.n 0 = 0 := by omega
      rw [hmax] at htt
      simp (disch := omega) only [goRules, coreRules, tiRules, unRules, AS_of_eq, ← decide_not, N0, N1, N2, N3, N4, N5, Z0, Z1, Z2, Z3, Z4, Z5, Z6, Z7, Z8, Z9, Z10, Zc, ↓reduceIte, reduceCtorEq, wrap_i64, h, h2, e1, comps_len]
      (repeat (with_reducible refine And.intro ?_ ?_; focus (first | omega | exact mixed1 | kernel_rfl)))
      by_cases h5 : o < p
      · rw [if_pos (.inl h5)] at hth
        simp (disch := omega) only [goRules, coreRules, tiRules, unRules, AS_of_eq, ← decide_not, N0, N1, N2, N3, N4, N5, Z0, Z1, Z2, Z3, Z4, Z5, Z6, Z7, Z8, Z9, Z10, Zc, ↓reduceIte, reduceCtorEq, wrap_i64, h, h2, h5, e1, comps_len]
        (repeat (with_reducible refine And.intro ?_ ?_; focus (first | omega | exact mixed1 | kernel_rfl)))
        refine call_rcount (by simp [get_cons]) (by omega) ?_
        rw [cnt_cpts]
        simp only [goRules, coreRules, tiRules, unRules, AS_of_eq, ← decide_not, N0, N1, N2, N3, N4, N5, Z0, Z1, Z2, Z3, Z4, Z5, Z6, Z7, Z8, Z9, Z10, Zc, ↓reduceIte, reduceCtorEq, wrap_i64 (n := n + ((cpts c.t).length : Nat)) (by omega) (by omega), wrap_i64 (n := (i : Int) + 1) (by omega) (by omega)]
        refine weak_again ⟨(o, n + (cpts c.t).length, i + 1), by simp only; omega, ho, by simp only; omega, hth, by simp only; omega, by simp only; omega⟩ (by simp only; omega) ?_
        rw [hSt]; refine weak_go [] [] ?_
        simp only [goRules, coreRules, tiRules, unRules, AS_of_eq, ← decide_not, N0, N1, N2, N3, N4, N5, Z0, Z1, Z2, Z3, Z4, Z5, Z6, Z7, Z8, Z9, Z10, Zc, ↓reduceIte, reduceCtorEq] <;> ((repeat' apply And.intro) <;> first | rfl | omega | trivial)
      · by_cases h6 : o = p
        · cases af with
          | true =>
            rw [if_pos (.inr ⟨h6, rfl⟩)] at hth
            simp (disch := omega) only [goRules, coreRules, tiRules, unRules, AS_of_eq, ← decide_not, N0, N1, N2, N3, N4, N5, Z0, Z1, Z2, Z3, Z4, Z5, Z6, Z7, Z8, Z9, Z10, Zc, ↓reduceIte, reduceCtorEq, wrap_i64, h, h2, h5, eq_true h6, e1, comps_len]
            (repeat (with_reducible refine And.intro ?_ ?_; focus (first | omega | exact mixed1 | kernel_rfl)))
            refine call_rcount (by simp [get_cons]) (by omega) ?_
            rw [cnt_cpts]
            simp only [goRules, coreRules, tiRules, unRules, AS_of_eq, ← decide_not, N0, N1, N2, N3, N4, N5, Z0, Z1, Z2, Z3, Z4, Z5, Z6, Z7, Z8, Z9, Z10, Zc, ↓reduceIte, reduceCtorEq, wrap_i64 (n := n + ((cpts c.t).length : Nat)) (by omega) (by omega), wrap_i64 (n := (i : Int) + 1) (by omega) (by omega)]
            refine weak_again ⟨(o, n + (cpts c.t).length, i + 1), by simp only; omega, ho, by simp only; omega, hth, by simp only; omega, by simp only; omega⟩ (by simp only; omega) ?_
            rw [hSt]; refine weak_go [] [] ?_
            simp only [goRules, coreRules, tiRules, unRules, AS_of_eq, ← decide_not, N0, N1, N2, N3, N4, N5, Z0, Z1, Z2, Z3, Z4, Z5, Z6, Z7, Z8, Z9, Z10, Zc, ↓reduceIte, reduceCtorEq] <;> ((repeat' apply And.intro) <;> first | rfl | omega | trivial)
          | false =>
            rw [if_neg (by simp; omega)] at hth
            simp (disch := omega) only [goRules, coreRules, tiRules, unRules, AS_of_eq, ← decide_not, N0, N1, N2, N3, N4, N5, Z0, Z1, Z2, Z3, Z4, Z5, Z6, Z7, Z8, Z9, Z10, Zc, ↓reduceIte, reduceCtorEq, wrap_i64, h, h2, h5, eq_true h6, e1, comps_len]
            (repeat (with_reducible refine And.intro ?_ ?_; focus (first | omega | exact mixed1 | kernel_rfl)))
            refine weak_again ⟨(o, n, i + 1), by simp only; omega, ho, by simp only; omega, hth, by simp only; omega, by simp only; omega⟩ (by simp only; omega) ?_
            rw [hSt]; refine weak_go [] [] ?_
            simp only [goRules, coreRules, tiRules, unRules, AS_of_eq, ← decide_not, N0, N1, N2, N3, N4, N5, Z0, Z1, Z2, Z3, Z4, Z5, Z6, Z7, Z8, Z9, Z10, Zc, ↓reduceIte, reduceCtorEq] <;> ((repeat' apply And.intro) <;> first | rfl | omega | trivial)
        · rw [if_neg (by rintro (h | ⟨h, _⟩) <;> omega)] at hth
          simp (disch := omega) only [goRules, coreRules, tiRules, unRules, AS_of_eq, ← decide_not, N0, N1, N2, N3, N4, N5, Z0, Z1, Z2, Z3, Z4, Z5, Z6, Z7, Z8, Z9, Z10, Zc, ↓reduceIte, reduceCtorEq, wrap_i64, h, h2, h5, eq_false h6, e1, comps_len]
          (repeat (with_reducible refine And.intro ?_ ?_; focus (first | omega | exact mixed1 | kernel_rfl)))
          refine weak_again ⟨(o, n, i + 1), by simp only; omega, ho, by simp only; omega, hth, by simp only; omega, by simp only; omega⟩ (by simp only; omega) ?_
          rw [hSt]; refine weak_go [] [] ?_
          simp only [goRules, coreRules, tiRules, unRules, AS_of_eq, ← decide_not, N0, N1, N2, N3, N4, N5, Z0, Z1, Z2, Z3, Z4, Z5, Z6, Z7, Z8, Z9, Z10, Zc, ↓reduceIte, reduceCtorEq] <;> ((repeat' apply And.intro) <;> first | rfl | omega | trivial)
    · simp only [h1, Int.reduceEq, if_true, if_false] at hth hn1
      simp (disch := omega) only [goRules, coreRules, tiRules, unRules, AS_of_eq, ← decide_not, N0, N1, N2, N3, N4, N5, Z0, Z1, Z2, Z3, Z4, Z5, Z6, Z7, Z8, Z9, Z10, Zc, ↓reduceIte, reduceCtorEq, wrap_i64, h, h1, e1, comps_len, max2_int, min2_int]
      (repeat (with_reducible refine And.intro ?_ ?_; focus (first | omega | exact mixed1 | kernel_rfl)))
      refine weak_again ⟨(o + c.n, n + min (max (p - o) 0) c.n, i + 1), by simp only; omega, by simp only; omega, by simp only; omega, hth, by simp only; omega, by simp only; omega⟩ (by simp only; omega) ?_
      rw [hSt]; refine weak_go [] [] ?_
      simp only [goRules, coreRules, tiRules, unRules, AS_of_eq, ← decide_not, N0, N1, N2, N3, N4, N5, Z0, Z1, Z2, Z3, Z4, Z5, Z6, Z7, Z8, Z9, Z10, Zc, ↓reduceIte, reduceCtorEq] <;> ((repeat' apply And.intro) <;> first | rfl | omega | trivial)
    · simp only [h3, Int.reduceEq, if_true, if_false] at hth hn1
      simp (disch := omega) only [goRules, coreRules, tiRules, unRules, AS_of_eq, ← decide_not, N0, N1, N2, N3, N4, N5, Z0, Z1, Z2, Z3, Z4, Z5, Z6, Z7, Z8, Z9, Z10, Zc, ↓reduceIte, reduceCtorEq, wrap_i64, h, h3, e1, comps_len]
      (repeat (with_reducible refine And.intro ?_ ?_; focus (first | omega | exact mixed1 | kernel_rfl)))
      refine weak_again ⟨(o + c.n, n, i + 1), by simp only; omega, by simp only; omega, by simp only; omega, hth, by simp only; omega, by simp only; omega⟩ (by simp only; omega) ?_
      rw [hSt]; refine weak_go [] [] ?_
      simp only [goRules, coreRules, tiRules, unRules, AS_of_eq, ← decide_not, N0, N1, N2, N3, N4, N5, Z0, Z1, Z2, Z3, Z4, Z5, Z6, Z7, Z8, Z9, Z10, Zc, ↓reduceIte, reduceCtorEq] <;> ((repeat' apply And.intro) <;> first | rfl | omega | trivial)
  · rw [List.drop_of_length_le (by omega), thF] at hth
    simp only [goRules, coreRules, tiRules, unRules, AS_of_eq, ← decide_not, N0, N1, N2, N3, N4, N5, Z0, Z1, Z2, Z3, Z4, Z5, Z6, Z7, Z8, Z9, Z10, Zc, ↓reduceIte, reduceCtorEq, h, hth]
theorem call_rthr {Γ : Env} (hf : Γ.get 31 = some rthrCon) {σ : AS} {dr : Bool} {p : Int} {l : List Cp} {af : Bool} {t : Nat} {ys : List AV} {d : Option Nat} {K : AS → Prop} (hp : 0 ≤ p ∧ p ≤ 1099511627776) (hy : ys = comps l) (ol : okL l) (hc : checkI l = 0)
    (hk : cont σ d (.v (.int .i64 (thr p l af))) K) : vcCall Tryd.prog Γ dr σ 31 [.v (.int .i64 p), .sl t 3 ys, .v (.bool af)] d K := by
  subst hy
  exact vcCall_plain (C := rthrCon) (i := ⟨(p, l, af), hp, ol, hc⟩) hf rfl rfl rfl rfl (fun _ h => h) rfl hk
theorem ordq {z w : Int} (h1 : -4503599627370496 < z) (h2 : z < 4503599627370496) (h3 : -4503599627370496 < w) (h4 : w < 4503599627370496) : (FloatKind.f64.format.order (qf z) (qf w) == some Ordering.eq) = decide (z = w) := by rw [ord_qf h1 h2 h3 h4, cmp_eq]
theorem aw11 : thrI 8 8 [⟨2, 0, [97, 98]⟩, ⟨1, 3, []⟩] = 0 ∧ thr 2 [⟨2, 0, [97, 98]⟩, ⟨1, 3, []⟩] false = 4 := by decide +kernel
theorem cxh : Value.complex .f64 4602678819172646912 4607182418800017408 = .complex .f64 (qf 2) (qf 4) := by rw [show qf 4 = 4607182418800017408 from by decide +kernel, show qf 2 = 4602678819172646912 from by decide +kernel]
theorem cx2 : Value.complex .f64 4611686018427387904 4611686018427387904 = .complex .f64 (qf 8) (qf 8) := by rw [show qf 8 = 4611686018427387904 from by decide +kernel]
theorem awake11_good : Rw.Good Tryd.prog 24 trueCon := by
  have hΓ : GoodEnv Tryd.prog [(25, ofcCon), (29, placesCon), (26, thrCon)] := (goodEnv_cons ofc_good (goodEnv_cons places_good (goodEnv_cons through_good goodEnv_nil)))
  refine good_fn (nn := 69) hΓ Tryd.func24 (by kernel_rfl) rfl (show Tryd.f24.results.toList = [.tmp 0] from rfl) (fun _ => rfl) (fun _ => rfl) ?_
  intro _
  simp only [goRules, coreRules, tiRules, unRules, AS_of_eq, ← decide_not, N0, N1, N2, N3, N4, N5, Z0, Z1, Z2, Z3, Z4, Z5, Z6, Z7, Z8, Z9, Z10, Zc, ↓reduceIte, reduceCtorEq]
  refine call_ofc (by simp [get_cons]) (by omega) (by omega) ?_
  simp only [goRules, coreRules, tiRules, unRules, AS_of_eq, ← decide_not, N0, N1, N2, N3, N4, N5, Z0, Z1, Z2, Z3, Z4, Z5, Z6, Z7, Z8, Z9, Z10, Zc, ↓reduceIte, reduceCtorEq, ofcR, show ofcOk 2 2 from ⟨by decide, by decide, by decide, by decide⟩, cq]
  refine call_ofc (by simp [get_cons]) (by omega) (by omega) ?_
  simp only [goRules, coreRules, tiRules, unRules, AS_of_eq, ← decide_not, N0, N1, N2, N3, N4, N5, Z0, Z1, Z2, Z3, Z4, Z5, Z6, Z7, Z8, Z9, Z10, Zc, ↓reduceIte, reduceCtorEq, ofcR, show ¬ ofcOk (-1) 0 from by unfold ofcOk; omega, cq, List.map_cons, List.map_nil]
  refine call_through (l := [⟨2, 0, [97, 98]⟩, ⟨1, 3, []⟩]) (by simp [get_cons]) (by omega) (by omega) rfl ⟨by decide, by decide, by simp⟩ (by decide) ?_
  simp only [goRules, coreRules, tiRules, unRules, AS_of_eq, ← decide_not, N0, N1, N2, N3, N4, N5, Z0, Z1, Z2, Z3, Z4, Z5, Z6, Z7, Z8, Z9, Z10, Zc, ↓reduceIte, reduceCtorEq, thrR, aw11.1, aw11.2, cq, show (8 : Int) / 4 = 2 from rfl]
  refine call_places (by simp [get_cons]) (by omega) (by omega) ?_
  simp only [goRules, coreRules, tiRules, unRules, AS_of_eq, ← decide_not, N0, N1, N2, N3, N4, N5, Z0, Z1, Z2, Z3, Z4, Z5, Z6, Z7, Z8, Z9, Z10, Zc, ↓reduceIte, reduceCtorEq, selR, show selOk 16 16 from by unfold selOk plOk; omega, cxh, show (16 : Int) / 4 = 4 from rfl]
  refine call_places (by simp [get_cons]) (by omega) (by omega) ?_
  simp only [goRules, coreRules, tiRules, unRules, AS_of_eq, ← decide_not, N0, N1, N2, N3, N4, N5, Z0, Z1, Z2, Z3, Z4, Z5, Z6, Z7, Z8, Z9, Z10, Zc, ↓reduceIte, reduceCtorEq, selR, show ¬ selOk 2 4 from by unfold selOk plOk; omega, cx2]
  rw [ordq (by omega) (by omega) (by omega) (by omega)]
  rfl
theorem call_awake11 {Γ : Env} (hf : Γ.get 24 = some trueCon) {σ : AS} {dr : Bool} {d : Option Nat} {K : AS → Prop}
    (hk : cont σ d (.v (.bool true)) K) : vcCall Tryd.prog Γ dr σ 24 [] d K :=
  vcCall_plain (C := trueCon) (i := ()) hf rfl rfl rfl rfl (fun _ h => h) rfl hk
end Go.Proofs
end
