/-
  cursor.goes, cursor.Through, the document's Through.
-/
import Derived.Test.YtknbfkmgoijncaaDoorXBUc2
import Derived.Test.YtknbfkmgoijncaaDoorXBAq0
import Derived.Test.YtknbfkmgoijncaaDoorXBUo7
import Derived.Test.YtknbfkmgoijncaaDoorXBAp4
set_option linter.unusedSimpArgs false
set_option linter.unusedVariables false
set_option linter.defProp false

-- BUc3
section
namespace Go.Proofs
open Go Go.Rw
open _root_.Nat renaming reduceAdd → N0, reduceSub → N1, reduceMul → N2, reduceLT → N3, reduceLeDiff → N4, reduceEqDiff → N5
open _root_.Int renaming reduceNeg → Z0, reduceAdd → Z1, reduceSub → Z2, reduceMul → Z3, reduceGT → Z4, reduceGE → Z5, reduceLT → Z6, reduceLE → Z7, reduceEq → Z8, reduceNe → Z9, reduceToNat → Z10, cast_ofNat_Int → Zc
set_option maxRecDepth 100000
set_option linter.unusedSimpArgs false
set_option linter.unusedVariables false

theorem cx1 : Value.complex .f64 0 4607182418800017408 = .complex .f64 (qf 0) (qf 4) := by rw [show qf 4 = 4607182418800017408 from by decide +kernel, qf_zero]
theorem cplx_some {x y : Nat} : cplxO (some x) (some y) = some (.v (.complex .f64 x y)) := rfl
abbrev goesCon : Con where
  ι := { q : Int × Int × Cp × Bool // (0 ≤ q.1 ∧ q.1 ≤ 1099511627776) ∧ (0 ≤ q.2.1 ∧ q.2.1 ≤ 1099511627776) ∧ okL [q.2.2.1] ∧ 0 ≤ q.2.2.1.n }
  args := fun q => [.v (.int .i64 q.1.1), .v (.int .i64 q.1.2.1), cA q.1.2.2.1, .v (.bool q.1.2.2.2)]
  post := fun q r => r = .v (.int .i64 (goesI q.1.1 q.1.2.1 q.1.2.2.1 q.1.2.2.2))
  plain := true
theorem goes_good : Rw.Good Tryd.prog 44 goesCon := by
  have hΓ : GoodEnv Tryd.prog [(32, outCon)] := (goodEnv_cons out_good goodEnv_nil)
  refine good_fn (nn := 46) hΓ Tryd.func44 (by kernel_rfl) rfl (show Tryd.f44.results.toList = [.tmp 8] from rfl) (fun _ => rfl) (fun _ => rfl) ?_
  rintro ⟨⟨p, a, c, af⟩, hp, ha, ok, h0⟩
  simp only at hp ha ok h0
  have hn := ok.2.2 c (by simp)
  have hcA : cA c = .agg [.v (.int .i64 c.k), .v (.int .i64 c.n), .v (sv c.t)] := rfl
  have hcs : [cA c] = comps [c] := rfl
  simp only [goRules, coreRules, tiRules, unRules, AS_of_eq, ← decide_not, N0, N1, N2, N3, N4, N5, Z0, Z1, Z2, Z3, Z4, Z5, Z6, Z7, Z8, Z9, Z10, Zc, ↓reduceIte, reduceCtorEq, hcA]
  by_cases k1 : c.k = 3
  · by_cases k2 : p > a
    · simp only [goRules, coreRules, tiRules, unRules, AS_of_eq, ← decide_not, N0, N1, N2, N3, N4, N5, Z0, Z1, Z2, Z3, Z4, Z5, Z6, Z7, Z8, Z9, Z10, Zc, ↓reduceIte, reduceCtorEq, k1, k2, min2_int, wrap_i64 (n := p - a) (by omega) (by omega)]
      rw [wrap_i64 (by omega) (by omega), goesI, if_pos ⟨k1, k2⟩]; omega
    · simp only [goRules, coreRules, tiRules, unRules, AS_of_eq, ← decide_not, N0, N1, N2, N3, N4, N5, Z0, Z1, Z2, Z3, Z4, Z5, Z6, Z7, Z8, Z9, Z10, Zc, ↓reduceIte, reduceCtorEq, k1, k2]
      rw [goesI, if_neg (fun h => k2 h.2), if_pos (.inl (by omega))]
  · simp only [goRules, coreRules, tiRules, unRules, AS_of_eq, ← decide_not, N0, N1, N2, N3, N4, N5, Z0, Z1, Z2, Z3, Z4, Z5, Z6, Z7, Z8, Z9, Z10, Zc, ↓reduceIte, reduceCtorEq, k1]
    by_cases k2 : c.k = 2
    · have hg : goesI p a c af = if p < a ∨ (p = a ∧ af = false) then 0 else outL [c] := by
        unfold goesI
        rw [if_neg (fun h => k1 h.1)]
        simp [k2]
      by_cases k3 : p < a
      · simp only [goRules, coreRules, tiRules, unRules, AS_of_eq, ← decide_not, N0, N1, N2, N3, N4, N5, Z0, Z1, Z2, Z3, Z4, Z5, Z6, Z7, Z8, Z9, Z10, Zc, ↓reduceIte, reduceCtorEq, k1, k2, k3]
        rw [hg, if_pos (.inl k3)]
      · by_cases k4 : p = a
        · subst k4
          cases af with
          | true =>
            simp only [goRules, coreRules, tiRules, unRules, AS_of_eq, ← decide_not, N0, N1, N2, N3, N4, N5, Z0, Z1, Z2, Z3, Z4, Z5, Z6, Z7, Z8, Z9, Z10, Zc, ↓reduceIte, reduceCtorEq, k1, k2, Int.lt_irrefl, List.map_cons, List.map_nil]
            refine call_out (l := [c]) (by simp [get_cons]) (by simp [comps, cA, k2]) ok ?_
            simp only [goRules, coreRules, tiRules, unRules, AS_of_eq, ← decide_not, N0, N1, N2, N3, N4, N5, Z0, Z1, Z2, Z3, Z4, Z5, Z6, Z7, Z8, Z9, Z10, Zc, ↓reduceIte, reduceCtorEq]
            rw [hg, if_neg (by simp)]
          | false =>
            simp only [goRules, coreRules, tiRules, unRules, AS_of_eq, ← decide_not, N0, N1, N2, N3, N4, N5, Z0, Z1, Z2, Z3, Z4, Z5, Z6, Z7, Z8, Z9, Z10, Zc, ↓reduceIte, reduceCtorEq, k1, k2, Int.lt_irrefl]
            rw [hg, if_pos (.inr ⟨rfl, rfl⟩)]
        · simp only [goRules, coreRules, tiRules, unRules, AS_of_eq, ← decide_not, N0, N1, N2, N3, N4, N5, Z0, Z1, Z2, Z3, Z4, Z5, Z6, Z7, Z8, Z9, Z10, Zc, ↓reduceIte, reduceCtorEq, k1, k2, k3, k4, List.map_cons, List.map_nil]
          refine call_out (l := [c]) (by simp [get_cons]) (by simp [comps, cA, k2]) ok ?_
          simp only [goRules, coreRules, tiRules, unRules, AS_of_eq, ← decide_not, N0, N1, N2, N3, N4, N5, Z0, Z1, Z2, Z3, Z4, Z5, Z6, Z7, Z8, Z9, Z10, Zc, ↓reduceIte, reduceCtorEq]
          rw [hg, if_neg (by omega)]
    · simp only [goRules, coreRules, tiRules, unRules, AS_of_eq, ← decide_not, N0, N1, N2, N3, N4, N5, Z0, Z1, Z2, Z3, Z4, Z5, Z6, Z7, Z8, Z9, Z10, Zc, ↓reduceIte, reduceCtorEq, k1, k2]
      unfold goesI
      rw [if_neg (fun h => k1 h.1), if_pos (.inl k2)]
theorem call_goes {Γ : Env} (hf : Γ.get 44 = some goesCon) {σ : AS} {dr : Bool} {p a : Int} {c : Cp} {af : Bool} {x : AV} {d : Option Nat} {K : AS → Prop} (hx : x = cA c) (h : (0 ≤ p ∧ p ≤ 1099511627776) ∧ (0 ≤ a ∧ a ≤ 1099511627776) ∧ okL [c] ∧ 0 ≤ c.n)
    (hk : cont σ d (.v (.int .i64 (goesI p a c af))) K) : vcCall Tryd.prog Γ dr σ 44 [.v (.int .i64 p), .v (.int .i64 a), x, .v (.bool af)] d K := by
  subst hx
  exact vcCall_plain (C := goesCon) (i := ⟨(p, a, c, af), h⟩) hf rfl rfl rfl rfl (fun _ h => h) rfl hk
def thrI (z w : Int) (l : List Cp) : Int := if checkI l ≠ 0 then checkI l else if ¬ selOk z w then 1 else if z / 4 ≤ baseL l ∧ w / 4 ≤ baseL l then 0 else 11
def thrR (z w : Int) (l : List Cp) (af : Bool) : AV := if thrI z w l = 0 then .tup [cq (4 * thr (z / 4) l af) (4 * thr (w / 4) l af), .v (.int .i64 0)] else .tup [cq 0 0, .v (.int .i64 (thrI z w l))]
theorem thrR_plain (z w : Int) (l : List Cp) (af : Bool) : (thrR z w l af).plain = true := by unfold thrR; split <;> rfl
theorem thrI_zero {z w : Int} {l : List Cp} (h : thrI z w l = 0) : checkI l = 0 ∧ selOk z w ∧ z / 4 ≤ baseL l ∧ w / 4 ≤ baseL l := by
  unfold thrI at h
  split at h
  · exact absurd h (by assumption)
  · split at h
    · cases h
    · split at h
      · rename_i h1 h2 h3
        exact ⟨Decidable.not_not.1 h1, Decidable.not_not.1 h2, h3⟩
      · cases h
abbrev thrCon : Con where
  ι := Sel × { l : List Cp // okL l ∧ tot l ≤ 1000000 } × Bool
  args := fun p => [cq p.1.1.1 p.1.1.2, .sl 0 3 (comps p.2.1.1), .v (.bool p.2.2)]
  post := fun p r => r = thrR p.1.1.1 p.1.1.2 p.2.1.1 p.2.2
  plain := true
theorem through_good : Rw.Good Tryd.prog 26 thrCon := by
  have hΓ : GoodEnv Tryd.prog [(43, checkCon), (37, baseCon), (29, placesCon), (34, withinCon), (44, goesCon)] := (goodEnv_cons check_good (goodEnv_cons base_good (goodEnv_cons places_good (goodEnv_cons within_good (goodEnv_cons goes_good goodEnv_nil)))))
  refine good_fn (nn := 69) hΓ Tryd.func26 (by kernel_rfl) rfl (show Tryd.f26.results.toList = [.tmp 6, .tmp 7] from rfl) (fun _ => rfl) (fun _ => rfl) ?_
  rintro ⟨⟨⟨z, w⟩, hz, hw⟩, ⟨l, ol, htl⟩, af⟩
  simp only at hz hw htl
  simp only [cq]
  simp only [goRules, coreRules, tiRules, unRules, AS_of_eq, ← decide_not, N0, N1, N2, N3, N4, N5, Z0, Z1, Z2, Z3, Z4, Z5, Z6, Z7, Z8, Z9, Z10, Zc, ↓reduceIte, reduceCtorEq, cx0]
  refine call_check (by simp [get_cons]) rfl ol ?_
  simp only [goRules, coreRules, tiRules, unRules, AS_of_eq, ← decide_not, N0, N1, N2, N3, N4, N5, Z0, Z1, Z2, Z3, Z4, Z5, Z6, Z7, Z8, Z9, Z10, Zc, ↓reduceIte, reduceCtorEq]
  refine call_places (by simp [get_cons]) hz hw ?_
  by_cases k1 : checkI l = 0
  case neg =>
    by_cases k2 : selOk z w
    · simp only [goRules, coreRules, tiRules, unRules, AS_of_eq, ← decide_not, N0, N1, N2, N3, N4, N5, Z0, Z1, Z2, Z3, Z4, Z5, Z6, Z7, Z8, Z9, Z10, Zc, ↓reduceIte, reduceCtorEq, selR, k1, k2, cx0]
      have : thrI z w l = checkI l := by unfold thrI; rw [if_pos k1]
      rw [thrR, this, if_neg k1]; rfl
    · simp only [goRules, coreRules, tiRules, unRules, AS_of_eq, ← decide_not, N0, N1, N2, N3, N4, N5, Z0, Z1, Z2, Z3, Z4, Z5, Z6, Z7, Z8, Z9, Z10, Zc, ↓reduceIte, reduceCtorEq, selR, k1, k2, cx0]
      have : thrI z w l = checkI l := by unfold thrI; rw [if_pos k1]
      rw [thrR, this, if_neg k1]; rfl
  by_cases k2 : selOk z w
  case neg =>
    simp only [goRules, coreRules, tiRules, unRules, AS_of_eq, ← decide_not, N0, N1, N2, N3, N4, N5, Z0, Z1, Z2, Z3, Z4, Z5, Z6, Z7, Z8, Z9, Z10, Zc, ↓reduceIte, reduceCtorEq, selR, k1, k2, cx0]
    have : thrI z w l = 1 := by unfold thrI; rw [if_neg (fun h => h k1), if_pos k2]
    rw [thrR, this]; rfl
  simp only [goRules, coreRules, tiRules, unRules, AS_of_eq, ← decide_not, N0, N1, N2, N3, N4, N5, Z0, Z1, Z2, Z3, Z4, Z5, Z6, Z7, Z8, Z9, Z10, Zc, ↓reduceIte, reduceCtorEq, selR, k1, k2, cx0]
  refine call_base (by simp [get_cons]) rfl ol ?_
  simp only [goRules, coreRules, tiRules, unRules, AS_of_eq, ← decide_not, N0, N1, N2, N3, N4, N5, Z0, Z1, Z2, Z3, Z4, Z5, Z6, Z7, Z8, Z9, Z10, Zc, ↓reduceIte, reduceCtorEq]
  have hcc := check_cases k1
  have htn := tn_pos l
  refine call_within (by simp [get_cons]) hz hw (by omega) ?_
  by_cases k3 : z / 4 ≤ baseL l ∧ w / 4 ≤ baseL l
  case neg =>
    simp only [goRules, coreRules, tiRules, unRules, AS_of_eq, ← decide_not, N0, N1, N2, N3, N4, N5, Z0, Z1, Z2, Z3, Z4, Z5, Z6, Z7, Z8, Z9, Z10, Zc, ↓reduceIte, reduceCtorEq, k2, k3, cx0]
    have : thrI z w l = 11 := by unfold thrI; rw [if_neg (fun h => h k1), if_neg (fun h => h k2), if_neg k3]
    rw [thrR, this]; rfl
  simp only [goRules, coreRules, tiRules, unRules, AS_of_eq, ← decide_not, N0, N1, N2, N3, N4, N5, Z0, Z1, Z2, Z3, Z4, Z5, Z6, Z7, Z8, Z9, Z10, Zc, ↓reduceIte, reduceCtorEq, k2, k3, cx0, comps_len]
  obtain ⟨⟨z1, z2, z3⟩, ⟨w1, w2, w3⟩⟩ := id k2
  generalize hp : z / 4 = p at *
  generalize hq : w / 4 = q at *
  obtain ⟨St, hSt⟩ : ∃ St : { x : Int × Int × Int × Nat // x.2.2.2 ≤ l.length ∧ 0 ≤ x.1 ∧ x.1 + tn (l.drop x.2.2.2) = tn l ∧ x.2.1 + gsum p af x.1 (l.drop x.2.2.2) = gsum p af 0 l ∧ x.2.2.1 + gsum q af x.1 (l.drop x.2.2.2) = gsum q af 0 l ∧ (-1000000 * (x.2.2.2 : Int) ≤ x.2.1 ∧ x.2.1 ≤ 1000000 * (x.2.2.2 : Int)) ∧ (-1000000 * (x.2.2.2 : Int) ≤ x.2.2.1 ∧ x.2.2.1 ≤ 1000000 * (x.2.2.2 : Int)) } → AS, ∀ x, St x = AS.of 69 [(0, .v (.complex .f64 (qf z) (qf w))), (2, .v (.bool af)), (9, .v (.int .i64 p)), (10, .v (.int .i64 q)), (12, .v (.int .i64 x.1.1)), (13, .v (.complex .f64 (qf (4 * x.1.2.1)) (qf (4 * x.1.2.2.1)))), (37, .sl 0 3 (comps l)), (38, .v (.int .i64 l.length)), (39, .v (.int .i64 x.1.2.2.2))] [] [] := ⟨_, fun _ => rfl⟩
  refine vc_loop hΓ St (fun x => l.length - x.1.2.2.2) ⟨(0, 0, 0, 0), by simp, by simp, by simp, by simp, by simp, by simp, by simp⟩ (by rw [hSt]; refine weak_go [] [] ?_; simp only [goRules, coreRules, tiRules, unRules, AS_of_eq, ← decide_not, N0, N1, N2, N3, N4, N5, Z0, Z1, Z2, Z3, Z4, Z5, Z6, Z7, Z8, Z9, Z10, Zc, ↓reduceIte, reduceCtorEq, Int.mul_zero] <;> ((repeat' apply And.intro) <;> first | rfl | omega | trivial)) ?_
  rintro ⟨⟨at', B, C, i⟩, hi, hat, htt, hB, hC, hBb, hCb⟩
  simp only at hi hat htt hB hC hBb hCb
  rw [hSt]
  simp only
  simp only [goRules, coreRules, tiRules, unRules, AS_of_eq, ← decide_not, N0, N1, N2, N3, N4, N5, Z0, Z1, Z2, Z3, Z4, Z5, Z6, Z7, Z8, Z9, Z10, Zc, ↓reduceIte, reduceCtorEq, comps_len]
  (with_reducible first | refine branchP_dec (fun h => ?_) (fun h => ?_) | refine guardB_dec (fun h => ?_) (fun h => ?_))
  · have hlt : i < l.length := by omega
    have e1 := comps_getD l hlt
    have hs := hcc.2.2.1 _ (List.getElem_mem hlt)
    have hcn := ol.2.2 _ (List.getElem_mem hlt)
    have htm := tot_mem (List.getElem_mem hlt)
    have htp := tn_pos (l.drop (i + 1))
    rw [List.drop_eq_getElem_cons hlt] at htt hB hC
    simp only [tn, gsum] at htt hB hC
    generalize l[i] = c at *
    have hc0 : 0 ≤ c.n := by rcases sound_cases hs with ⟨_, h0, _⟩ | ⟨_, h0, _⟩ <;> omega
    have hcl := cpts_len c.t
    have hcok : okL [c] := ⟨by simp, by simp [tot]; omega, by simpa using hcn⟩
    have g1 := goesI_bound (p := p) (a := at') (af := af) hs (by omega) (by omega)
    have g2 := goesI_bound (p := q) (a := at') (af := af) hs (by omega) (by omega)
    simp (disch := omega) only [goRules, coreRules, tiRules, unRules, AS_of_eq, ← decide_not, N0, N1, N2, N3, N4, N5, Z0, Z1, Z2, Z3, Z4, Z5, Z6, Z7, Z8, Z9, Z10, Zc, ↓reduceIte, reduceCtorEq, wrap_i64, h, e1, comps_len]
    (repeat (with_reducible refine And.intro ?_ ?_; focus (first | omega | exact mixed1 | kernel_rfl)))
    refine call_goes (by simp [get_cons]) rfl ⟨by omega, by omega, hcok, hc0⟩ ?_
    simp only [goRules, coreRules, tiRules, unRules, AS_of_eq, ← decide_not, N0, N1, N2, N3, N4, N5, Z0, Z1, Z2, Z3, Z4, Z5, Z6, Z7, Z8, Z9, Z10, Zc, ↓reduceIte, reduceCtorEq]
    refine call_goes (by simp [get_cons]) rfl ⟨by omega, by omega, hcok, hc0⟩ ?_
    generalize goesI p at' c af = G at *
    generalize goesI q at' c af = H at *
    simp only [goRules, coreRules, tiRules, unRules, AS_of_eq, ← decide_not, N0, N1, N2, N3, N4, N5, Z0, Z1, Z2, Z3, Z4, Z5, Z6, Z7, Z8, Z9, Z10, Zc, ↓reduceIte, reduceCtorEq, cx1, fl0, cplx_some, near_qf (n := G) (by omega) (by omega), near_qf (n := H) (by omega) (by omega), binq_imul (z := 4 * H) (by omega) (by omega), show FloatKind.f64.format.add (qf (4 * G)) (nzW (4 * H)) = some (qf (4 * G)) from add_nz (by omega), show FloatKind.f64.format.add 0 (qf (4 * H)) = some (qf (4 * H)) from (by have := qf_add (z := 0) (y := 4 * H) (by decide) (by omega) (by omega); rw [Int.zero_add, qf_zero] at this; exact this), show FloatKind.f64.format.add (qf (4 * B)) (qf (4 * G)) = some (qf (4 * (B + G))) from (by rw [Int.mul_add]; exact qf_add (by omega) (by omega) (by omega)), show FloatKind.f64.format.add (qf (4 * C)) (qf (4 * H)) = some (qf (4 * (C + H))) from (by rw [Int.mul_add]; exact qf_add (by omega) (by omega) (by omega)), wrap_i64 (n := at' + c.n) (by omega) (by omega), wrap_i64 (n := (i : Int) + 1) (by omega) (by omega)]
    (repeat (with_reducible refine And.intro ?_ ?_; focus (first | omega | exact mixed1 | kernel_rfl)))
    refine weak_again ⟨(at' + c.n, B + G, C + H, i + 1), by simp only; omega, by simp only; omega, by simp only; omega, by simp only; omega, by simp only; omega, by simp only; omega, by simp only; omega⟩ (by simp only; omega) ?_
    rw [hSt]; refine weak_go [] [] ?_
    simp only [goRules, coreRules, tiRules, unRules, AS_of_eq, ← decide_not, N0, N1, N2, N3, N4, N5, Z0, Z1, Z2, Z3, Z4, Z5, Z6, Z7, Z8, Z9, Z10, Zc, ↓reduceIte, reduceCtorEq] <;> ((repeat' apply And.intro) <;> first | rfl | omega | trivial)
  · rw [List.drop_of_length_le (by omega)] at hB hC
    simp only [gsum, Int.add_zero] at hB hC
    obtain ⟨t1, t2, t3, t4⟩ := thr_facts (af := af) k1 htl (show 0 ≤ p by omega) k3.1
    obtain ⟨t5, t6, t7, t8⟩ := thr_facts (af := af) k1 htl (show 0 ≤ q by omega) k3.2
    have hI : thrI z w l = 0 := by unfold thrI; rw [if_neg (fun h => h k1), if_neg (fun h => h k2), if_pos (by rw [hp, hq]; exact k3)]
    simp only [goRules, coreRules, tiRules, unRules, AS_of_eq, ← decide_not, N0, N1, N2, N3, N4, N5, Z0, Z1, Z2, Z3, Z4, Z5, Z6, Z7, Z8, Z9, Z10, Zc, ↓reduceIte, reduceCtorEq, h, cplx_some, show FloatKind.f64.format.add (qf z) (qf (4 * B)) = some (qf (z + 4 * B)) from qf_add (by omega) (by omega) (by omega), show FloatKind.f64.format.add (qf w) (qf (4 * C)) = some (qf (w + 4 * C)) from qf_add (by omega) (by omega) (by omega)]
    rw [thrR, hI, if_pos rfl, hp, hq, t1, t5, cq, show z + 4 * B = 4 * (p + gsum p af 0 l) by omega, show w + 4 * C = 4 * (q + gsum q af 0 l) by omega]
end Go.Proofs
end
