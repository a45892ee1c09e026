/-
  RebaseMeets answers true.
-/
import Derived.Test.YtmhpninemdmbkaaGreatDoorXZUk6
import Derived.Test.YtmhpninemdmbkaaGreatDoorXZUn7
set_option linter.unusedSimpArgs false
set_option linter.unusedVariables false
set_option linter.defProp false

-- ZUk7
section
namespace Go.Proofs
open Go Go.Rw
open _root_.Nat renaming reduceAdd → N0, reduceSub → N1, reduceMul → N2, reduceLT → N3, reduceLeDiff → N4, reduceEqDiff → N5
open _root_.Int renaming reduceNeg → Z0, reduceAdd → Z1, reduceSub → Z2, reduceMul → Z3, reduceGT → Z4, reduceGE → Z5, reduceLT → Z6, reduceLE → Z7, reduceEq → Z8, reduceNe → Z9, reduceToNat → Z10, cast_ofNat_Int → Zc
set_option maxRecDepth 100000
set_option linter.unusedSimpArgs false
set_option linter.unusedVariables false

abbrev meets16Con : Con where
  ι := I64 × Given × Given
  args := fun p => [.v (.int .i64 p.1.1), .sl 0 3 (comps p.2.1.1), .sl 0 3 (comps p.2.2.1)]
  post := fun _ r => r = .v (.bool true)
  plain := true
theorem okA_ed {l : List Cp} (h : okL l) : ∀ x ∈ [edA l], okA x := okA1 h (by simp [edA])
theorem okT1 {s : List UInt8} (h : s.length ≤ 1099511627776) : okT [fN s] := ⟨by simp, fun y hy => by rw [List.mem_singleton.1 hy]; exact h⟩
set_option maxHeartbeats 4000000 in
theorem meets16_good : Rw.Good Tryz.prog 4 meets16Con := by
  have hΓ : GoodEnv Tryz.prog [(11, trueCon), (18, weighCon), (19, blockCon), (12, doAllCon), (15, effCon), (14, roverCon16)] := (goodEnv_cons awake16_good (goodEnv_cons weigh_good (goodEnv_cons block_good (goodEnv_cons rdoall_good (goodEnv_cons eff_good (goodEnv_cons rover16_good goodEnv_nil))))))
  refine good_fn (nn := 159) hΓ Tryz.func4 (by kernel_rfl) rfl (show Tryz.f4.results.toList = [.tmp 6] from rfl) (fun _ => rfl) (fun x => by simp [AV.erL, AV.er]) ?_
  rintro ⟨⟨n, hn⟩, ⟨a, ha, hca⟩, ⟨b, hb, hcb⟩⟩
  simp only [goRules, coreRules, tiRules, unRules, AS_of_eq, ← decide_not, N0, N1, N2, N3, N4, N5, Z0, Z1, Z2, Z3, Z4, Z5, Z6, Z7, Z8, Z9, Z10, Zc, ↓reduceIte, reduceCtorEq, comps_len]
  by_cases h0 : n < 0
  · simp only [goRules, coreRules, tiRules, unRules, AS_of_eq, ← decide_not, N0, N1, N2, N3, N4, N5, Z0, Z1, Z2, Z3, Z4, Z5, Z6, Z7, Z8, Z9, Z10, Zc, ↓reduceIte, reduceCtorEq, h0]
    refine call_awake16 (by simp [get_cons]) ?_
    simp only [goRules, coreRules, tiRules, unRules, AS_of_eq, ← decide_not, N0, N1, N2, N3, N4, N5, Z0, Z1, Z2, Z3, Z4, Z5, Z6, Z7, Z8, Z9, Z10, Zc, ↓reduceIte, reduceCtorEq]
  by_cases h1 : n > 200
  · simp only [goRules, coreRules, tiRules, unRules, AS_of_eq, ← decide_not, N0, N1, N2, N3, N4, N5, Z0, Z1, Z2, Z3, Z4, Z5, Z6, Z7, Z8, Z9, Z10, Zc, ↓reduceIte, reduceCtorEq, h0, h1]
    refine call_awake16 (by simp [get_cons]) ?_
    simp only [goRules, coreRules, tiRules, unRules, AS_of_eq, ← decide_not, N0, N1, N2, N3, N4, N5, Z0, Z1, Z2, Z3, Z4, Z5, Z6, Z7, Z8, Z9, Z10, Zc, ↓reduceIte, reduceCtorEq]
  simp only [goRules, coreRules, tiRules, unRules, AS_of_eq, ← decide_not, N0, N1, N2, N3, N4, N5, Z0, Z1, Z2, Z3, Z4, Z5, Z6, Z7, Z8, Z9, Z10, Zc, ↓reduceIte, reduceCtorEq, h0, h1]
  refine call_weigh (by simp [get_cons]) rfl ha (fun c h => (hca c h).2) (by omega) ?_
  by_cases h2 : compsF 800 0 a > 800
  · simp only [goRules, coreRules, tiRules, unRules, AS_of_eq, ← decide_not, N0, N1, N2, N3, N4, N5, Z0, Z1, Z2, Z3, Z4, Z5, Z6, Z7, Z8, Z9, Z10, Zc, ↓reduceIte, reduceCtorEq, h2]
    refine call_awake16 (by simp [get_cons]) ?_
    simp only [goRules, coreRules, tiRules, unRules, AS_of_eq, ← decide_not, N0, N1, N2, N3, N4, N5, Z0, Z1, Z2, Z3, Z4, Z5, Z6, Z7, Z8, Z9, Z10, Zc, ↓reduceIte, reduceCtorEq]
  simp only [goRules, coreRules, tiRules, unRules, AS_of_eq, ← decide_not, N0, N1, N2, N3, N4, N5, Z0, Z1, Z2, Z3, Z4, Z5, Z6, Z7, Z8, Z9, Z10, Zc, ↓reduceIte, reduceCtorEq, h2]
  refine call_weigh (by simp [get_cons]) rfl hb (fun c h => (hcb c h).2) (by omega) ?_
  by_cases h3 : compsF 800 0 b > 800
  · simp only [goRules, coreRules, tiRules, unRules, AS_of_eq, ← decide_not, N0, N1, N2, N3, N4, N5, Z0, Z1, Z2, Z3, Z4, Z5, Z6, Z7, Z8, Z9, Z10, Zc, ↓reduceIte, reduceCtorEq, h3]
    refine call_awake16 (by simp [get_cons]) ?_
    simp only [goRules, coreRules, tiRules, unRules, AS_of_eq, ← decide_not, N0, N1, N2, N3, N4, N5, Z0, Z1, Z2, Z3, Z4, Z5, Z6, Z7, Z8, Z9, Z10, Zc, ↓reduceIte, reduceCtorEq]
  obtain ⟨oa, hwa⟩ := weigh_ok (by omega) hca (show compsF 800 0 a ≤ 800 by omega)
  obtain ⟨ob, hwb⟩ := weigh_ok (by omega) hcb (show compsF 800 0 b ≤ 800 by omega)
  simp only [goRules, coreRules, tiRules, unRules, AS_of_eq, ← decide_not, N0, N1, N2, N3, N4, N5, Z0, Z1, Z2, Z3, Z4, Z5, Z6, Z7, Z8, Z9, Z10, Zc, ↓reduceIte, reduceCtorEq, h3]
  refine call_block (by simp [get_cons]) (by omega) (by omega) ?_
  obtain ⟨s, hs, hsl⟩ : ∃ s, blk 3 n.toNat = s ∧ s.length ≤ 200 := ⟨_, rfl, by rw [blk_len]; omega⟩
  rw [hs]
  simp only [goRules, coreRules, tiRules, unRules, AS_of_eq, ← decide_not, N0, N1, N2, N3, N4, N5, Z0, Z1, Z2, Z3, Z4, Z5, Z6, Z7, Z8, Z9, Z10, Zc, ↓reduceIte, reduceCtorEq, List.map_cons, List.map_nil]
  refine call_doall (by simp [get_cons]) (x := [fN s]) (l := [edA a]) rfl rfl (okT1 (by omega)) (by simp) (okA_ed oa) (by omega) (by omega) ?_
  simp only [goRules, coreRules, tiRules, unRules, AS_of_eq, ← decide_not, N0, N1, N2, N3, N4, N5, Z0, Z1, Z2, Z3, Z4, Z5, Z6, Z7, Z8, Z9, Z10, Zc, ↓reduceIte, reduceCtorEq]
  refine call_doall (by simp [get_cons]) (x := [fN s]) (l := [edA b]) rfl rfl (okT1 (by omega)) (by simp) (okA_ed ob) (by omega) (by omega) ?_
  by_cases e1 : errI s a = 0
  case neg =>
    have k1 := all_ed_e e1
    simp only [goRules, coreRules, tiRules, unRules, AS_of_eq, ← decide_not, N0, N1, N2, N3, N4, N5, Z0, Z1, Z2, Z3, Z4, Z5, Z6, Z7, Z8, Z9, Z10, Zc, ↓reduceIte, reduceCtorEq, k1, e1]
    refine call_awake16 (by simp [get_cons]) ?_
    simp only [goRules, coreRules, tiRules, unRules, AS_of_eq, ← decide_not, N0, N1, N2, N3, N4, N5, Z0, Z1, Z2, Z3, Z4, Z5, Z6, Z7, Z8, Z9, Z10, Zc, ↓reduceIte, reduceCtorEq]
  by_cases e2 : errI s b = 0
  case neg =>
    have k1 := all_ed_e e2
    rw [all_ed e1]
    simp only [goRules, coreRules, tiRules, unRules, AS_of_eq, ← decide_not, N0, N1, N2, N3, N4, N5, Z0, Z1, Z2, Z3, Z4, Z5, Z6, Z7, Z8, Z9, Z10, Zc, ↓reduceIte, reduceCtorEq, k1, e2]
    refine call_awake16 (by simp [get_cons]) ?_
    simp only [goRules, coreRules, tiRules, unRules, AS_of_eq, ← decide_not, N0, N1, N2, N3, N4, N5, Z0, Z1, Z2, Z3, Z4, Z5, Z6, Z7, Z8, Z9, Z10, Zc, ↓reduceIte, reduceCtorEq]
  rw [all_ed e1, all_ed e2]
  have da := done_small s a
  have db := done_small s b
  obtain ⟨c1, c2, c3⟩ := reb_ed e1 e2 oa ob
  simp only [goRules, coreRules, tiRules, unRules, AS_of_eq, ← decide_not, N0, N1, N2, N3, N4, N5, Z0, Z1, Z2, Z3, Z4, Z5, Z6, Z7, Z8, Z9, Z10, Zc, ↓reduceIte, reduceCtorEq]
  refine call_eff_t (by simp [get_cons]) (by omega) (l := [edA a]) rfl (by simp) (fun x hx => by rw [List.mem_singleton.1 hx]; exact oa) ?_
  rw [show effL [edA a] = [⟨1, a, true, false, false, false, 0, []⟩] from eff_one 1 a]
  simp only [goRules, coreRules, tiRules, unRules, AS_of_eq, ← decide_not, N0, N1, N2, N3, N4, N5, Z0, Z1, Z2, Z3, Z4, Z5, Z6, Z7, Z8, Z9, Z10, Zc, ↓reduceIte, reduceCtorEq, List.map_cons, List.map_nil]
  refine call_rover16_t (by simp [get_cons]) (by omega) (l := [edA b]) rfl rfl (by simp) (okA_ed ob) (by simp) (fun x hx => by rw [List.mem_singleton.1 hx]; exact oa) ?_
  rw [c3]
  by_cases hc : checkI (laterL a b) = 0
  case neg =>
    rw [if_neg hc]
    simp only [goRules, coreRules, tiRules, unRules, AS_of_eq, ← decide_not, N0, N1, N2, N3, N4, N5, Z0, Z1, Z2, Z3, Z4, Z5, Z6, Z7, Z8, Z9, Z10, Zc, ↓reduceIte, reduceCtorEq]
    refine call_awake16 (by simp [get_cons]) ?_
    simp only [goRules, coreRules, tiRules, unRules, AS_of_eq, ← decide_not, N0, N1, N2, N3, N4, N5, Z0, Z1, Z2, Z3, Z4, Z5, Z6, Z7, Z8, Z9, Z10, Zc, ↓reduceIte, reduceCtorEq]
  rw [if_pos hc]
  have hld := later_do e1 e2 oa ob hc
  simp only [goRules, coreRules, tiRules, unRules, AS_of_eq, ← decide_not, N0, N1, N2, N3, N4, N5, Z0, Z1, Z2, Z3, Z4, Z5, Z6, Z7, Z8, Z9, Z10, Zc, ↓reduceIte, reduceCtorEq]
  refine call_doall (by simp [get_cons]) (x := [fN (doneB s a)]) (l := [edA (laterL a b)]) rfl rfl (okT1 (by omega)) (by simp) (okA_ed c2) (by omega) (by omega) ?_
  rw [all_ed hld]
  simp only [goRules, coreRules, tiRules, unRules, AS_of_eq, ← decide_not, N0, N1, N2, N3, N4, N5, Z0, Z1, Z2, Z3, Z4, Z5, Z6, Z7, Z8, Z9, Z10, Zc, ↓reduceIte, reduceCtorEq, nodes_len, List.length_cons, List.length_nil]
  refine call_doall (by simp [get_cons]) (x := [fN s]) (l := [edA b]) rfl rfl (okT1 (by omega)) (by simp) (okA_ed ob) (by omega) (by omega) ?_
  rw [all_ed e2]
  by_cases ha0 : a = []
  · simp only [goRules, coreRules, tiRules, unRules, AS_of_eq, ← decide_not, N0, N1, N2, N3, N4, N5, Z0, Z1, Z2, Z3, Z4, Z5, Z6, Z7, Z8, Z9, Z10, Zc, ↓reduceIte, reduceCtorEq, ones_len, comps_len, ha0, List.length_cons, List.length_nil]
    refine call_awake16 (by simp [get_cons]) ?_
    simp only [goRules, coreRules, tiRules, unRules, AS_of_eq, ← decide_not, N0, N1, N2, N3, N4, N5, Z0, Z1, Z2, Z3, Z4, Z5, Z6, Z7, Z8, Z9, Z10, Zc, ↓reduceIte, reduceCtorEq]
  have ha1 : ((a.length : Int) = 0) = False := eq_false (by have := List.length_pos_iff.2 ha0; omega)
  rw [if_neg ha0]
  obtain ⟨a1, a2, a3, a4⟩ := err_zero e1
  obtain ⟨b1, b2, b3, b4⟩ := err_zero e2
  have he := ovE_of a1 b1 (by omega)
  have oo := (ov_facts true he oa ob).2.2.2
  simp only [goRules, coreRules, tiRules, unRules, AS_of_eq, ← decide_not, N0, N1, N2, N3, N4, N5, Z0, Z1, Z2, Z3, Z4, Z5, Z6, Z7, Z8, Z9, Z10, Zc, ↓reduceIte, reduceCtorEq, ones_len, comps_len, ha1, List.length_cons, List.length_nil, ones, oA, List.map_cons, List.map_nil]
  refine call_doall (by simp [get_cons]) (x := [fN (doneB s b)]) (l := [edA (ovN true a b)]) rfl rfl (okT1 (by omega)) (by simp) (okA_ed oo) (by omega) (by omega) ?_
  by_cases e5 : errI (doneB s b) (ovN true a b) = 0
  case neg =>
    have k1 := all_ed_e e5
    simp only [goRules, coreRules, tiRules, unRules, AS_of_eq, ← decide_not, N0, N1, N2, N3, N4, N5, Z0, Z1, Z2, Z3, Z4, Z5, Z6, Z7, Z8, Z9, Z10, Zc, ↓reduceIte, reduceCtorEq, k1, e5]
    (repeat (with_reducible refine And.intro ?_ ?_; focus (first | omega | exact mixed1 | kernel_rfl)))
    refine call_awake16 (by simp [get_cons]) ?_
    simp only [goRules, coreRules, tiRules, unRules, AS_of_eq, ← decide_not, N0, N1, N2, N3, N4, N5, Z0, Z1, Z2, Z3, Z4, Z5, Z6, Z7, Z8, Z9, Z10, Zc, ↓reduceIte, reduceCtorEq]
  have hd := (err_zero e5).1
  have hlast := left_do e1 e2 oa ob ha0 hc hd
  rw [all_ed e5]
  simp only [goRules, coreRules, tiRules, unRules, AS_of_eq, ← decide_not, N0, N1, N2, N3, N4, N5, Z0, Z1, Z2, Z3, Z4, Z5, Z6, Z7, Z8, Z9, Z10, Zc, ↓reduceIte, reduceCtorEq, nodes_len, List.length_cons, List.length_nil, nodes, nA, fN, List.map_cons, List.map_nil, hlast]
  (repeat (with_reducible refine And.intro ?_ ?_; focus (first | omega | exact mixed1 | kernel_rfl)))
  refine call_awake16 (by simp [get_cons]) ?_
  simp only [goRules, coreRules, tiRules, unRules, AS_of_eq, ← decide_not, N0, N1, N2, N3, N4, N5, Z0, Z1, Z2, Z3, Z4, Z5, Z6, Z7, Z8, Z9, Z10, Zc, ↓reduceIte, reduceCtorEq]
end Go.Proofs
end
