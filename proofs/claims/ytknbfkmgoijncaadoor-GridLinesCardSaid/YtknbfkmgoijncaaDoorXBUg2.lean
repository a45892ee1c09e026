/-
  grid.widths, whole, point, Lines, Width. grid.whole, point, Lines, Width, Place. grid.Lines, Width, At, Place, Step. grid.Step; the document's lines. What the document fixes of chapter 12; GridBack answers true. GridLines answers true.
-/
import Derived.Test.YtknbfkmgoijncaaDoorXBUg1
import Derived.Test.YtknbfkmgoijncaaDoorXBUc2
import Derived.Test.YtknbfkmgoijncaaDoorXBAq0
import Derived.Test.YtknbfkmgoijncaaDoorRwI
set_option linter.unusedSimpArgs false
set_option linter.unusedVariables false
set_option linter.defProp false

-- BUg2
section
namespace Go.Proofs
open Go Go.Rw
open _root_.Nat renaming reduceAdd → N0, reduceSub → N1, reduceMul → N2, reduceLT → N3, reduceLeDiff → N4, reduceEqDiff → N5
open _root_.Int renaming reduceNeg → Z0, reduceAdd → Z1, reduceSub → Z2, reduceMul → Z3, reduceGT → Z4, reduceGE → Z5, reduceLT → Z6, reduceLE → Z7, reduceEq → Z8, reduceNe → Z9, reduceToNat → Z10, cast_ofNat_Int → Zc
set_option maxRecDepth 100000
set_option linter.unusedSimpArgs false
set_option linter.unusedVariables false

theorem nats_getD (cs : List Nat) {i : Nat} (h : i < cs.length) : (nats cs).getD i .any = .v (.int .i64 (cs[i] : Nat)) := by
  simp [nats, ints, List.getD_eq_getElem?_getD, h]
theorem nats_snoc0 (l : List Nat) : nats l ++ [.v (.int .i64 0)] = nats (l ++ [0]) := by simp [nats, ints]
theorem nats_setlast (l : List Nat) (n m : Nat) : (nats (l ++ [n])).set l.length (.v (.int .i64 (m : Nat))) = nats (l ++ [m]) := by
  simp [nats, ints]
def wdR (s : List UInt8) : AV := match pts s with
  | some cs => .tup [.sl 0 1 (nats (lns cs)), .v (.int .i64 0)]
  | none => .tup [.sl 0 1 [], .v (.int .i64 2)]
abbrev wdCon : Con where
  ι := Str
  args := fun s => [.v (sv s.1)]
  post := fun s r => r = wdR s.1
theorem wd_good : Rw.Good Tryd.prog 39 wdCon := by
  have hΓ : GoodEnv Tryd.prog [(54, pointsCon)] := (goodEnv_cons points_good goodEnv_nil)
  refine good_fn (nn := 37) hΓ Tryd.func39 (by kernel_rfl) rfl (show Tryd.f39.results.toList = [.tmp 2, .tmp 3] from rfl) (fun _ => rfl) (fun _ => rfl) ?_
  rintro ⟨s, hs⟩
  simp only [goRules, coreRules, tiRules, unRules, AS_of_eq, ← decide_not, N0, N1, N2, N3, N4, N5, Z0, Z1, Z2, Z3, Z4, Z5, Z6, Z7, Z8, Z9, Z10, Zc, ↓reduceIte, reduceCtorEq]
  refine call_points (by simp [get_cons]) hs ?_
  cases hp : pts s with
  | none =>
    simp only [goRules, coreRules, tiRules, unRules, AS_of_eq, ← decide_not, N0, N1, N2, N3, N4, N5, Z0, Z1, Z2, Z3, Z4, Z5, Z6, Z7, Z8, Z9, Z10, Zc, ↓reduceIte, reduceCtorEq, pointsR, hp, res2]
    unfold wdR
    rw [hp]
  | some cs =>
    obtain ⟨ho, he⟩ := pts_some hp
    have hl := encs_le cs
    rw [← he] at hl
    simp only [goRules, coreRules, tiRules, unRules, AS_of_eq, ← decide_not, N0, N1, N2, N3, N4, N5, Z0, Z1, Z2, Z3, Z4, Z5, Z6, Z7, Z8, Z9, Z10, Zc, ↓reduceIte, reduceCtorEq, pointsR, hp, res2, List.map_cons, List.map_nil, nats_len]
    obtain ⟨St, hSt⟩ : ∃ St : { p : List Nat × Nat × Nat // p.2.2 ≤ cs.length ∧ p.2.1 ≤ p.2.2 ∧ p.1.length ≤ p.2.2 ∧ p.1 ++ wids p.2.1 (cs.drop p.2.2) = lns cs } → AS, ∀ p, St p = AS.of 37 [(2, .sl 2 1 (nats (p.1.1 ++ [p.1.2.1]))), (16, .sl 0 1 (nats cs)), (17, .v (.int .i64 cs.length)), (18, .v (.int .i64 p.1.2.2))] [] [(p.1.1.length + 1, 3)] := ⟨_, fun _ => rfl⟩
    refine vc_loop hΓ St (fun p => cs.length - p.1.2.2) ⟨([], 0, 0), by simp, by simp, by simp, rfl⟩ (by rw [hSt]; refine weak_go [] [.live 2] ?_; simp only [goRules, coreRules, tiRules, unRules, AS_of_eq, ← decide_not, N0, N1, N2, N3, N4, N5, Z0, Z1, Z2, Z3, Z4, Z5, Z6, Z7, Z8, Z9, Z10, Zc, ↓reduceIte, reduceCtorEq] <;> ((repeat' apply And.intro) <;> first | rfl | omega | trivial)) ?_
    rintro ⟨⟨done, n, i⟩, hi, hni, hdi, hd⟩
    simp only at hi hni hdi hd
    rw [hSt]
    simp only
    simp only [goRules, coreRules, tiRules, unRules, AS_of_eq, ← decide_not, N0, N1, N2, N3, N4, N5, Z0, Z1, Z2, Z3, Z4, Z5, Z6, Z7, Z8, Z9, Z10, Zc, ↓reduceIte, reduceCtorEq, nats_len]
    (with_reducible first | refine branchP_dec (fun h => ?_) (fun h => ?_) | refine guardB_dec (fun h => ?_) (fun h => ?_))
    · have hlt : i < cs.length := by omega
      have e1 := nats_getD cs hlt
      rw [List.drop_eq_getElem_cons hlt, wids] at hd
      have hc := ho _ (List.getElem_mem hlt)
      generalize cs[i] = c at *
      have hlen2 : (done ++ [n]).length = done.length + 1 := by simp
      have hlen : (nats (done ++ [n])).length = done.length + 1 := by rw [nats_len]; simp
      simp (disch := omega) only [goRules, coreRules, tiRules, unRules, AS_of_eq, ← decide_not, N0, N1, N2, N3, N4, N5, Z0, Z1, Z2, Z3, Z4, Z5, Z6, Z7, Z8, Z9, Z10, Zc, ↓reduceIte, reduceCtorEq, wrap_i64, h, e1, nats_len]
      (repeat (with_reducible refine And.intro ?_ ?_; focus (first | omega | exact mixed1 | kernel_rfl)))
      by_cases h5 : c = 10
      · rw [if_pos h5] at hd
        simp (disch := omega) only [goRules, coreRules, tiRules, unRules, AS_of_eq, ← decide_not, N0, N1, N2, N3, N4, N5, Z0, Z1, Z2, Z3, Z4, Z5, Z6, Z7, Z8, Z9, Z10, Zc, ↓reduceIte, reduceCtorEq, wrap_i64, h, e1, nats_len, show ((c : Int) = 10) = True from eq_true (by omega), List.map_cons, List.map_nil]
        rw [hlen2]
        (repeat (with_reducible refine And.intro ?_ ?_; focus (first | omega | exact mixed1 | kernel_rfl)))
        refine weak_again ⟨(done ++ [n], 0, i + 1), by simp only; omega, by simp only; omega, by simp only [hlen2]; omega, by simp only [List.append_assoc, List.singleton_append]; exact hd⟩ (by simp only; omega) ?_
        rw [hSt]
        simp only [hlen2]
        refine weak_go [] [.live 2] ?_
        rw [nats_snoc0]
        simp only [goRules, coreRules, tiRules, unRules, AS_of_eq, ← decide_not, N0, N1, N2, N3, N4, N5, Z0, Z1, Z2, Z3, Z4, Z5, Z6, Z7, Z8, Z9, Z10, Zc, ↓reduceIte, reduceCtorEq, nats_len, List.length_append] <;> ((repeat' apply And.intro) <;> first | rfl | omega | trivial)
      · rw [if_neg h5] at hd
        have hw : IntKind.i64.wrap (((done.length + 1 : Nat) : Int) - 1) = (done.length : Nat) := by rw [wrap_i64 (by omega) (by omega)]; omega
        have e2 : (nats (done ++ [n])).getD done.length .any = .v (.int .i64 n) := by rw [nats_getD _ (by omega)]; simp
        simp only [goRules, coreRules, tiRules, unRules, AS_of_eq, ← decide_not, N0, N1, N2, N3, N4, N5, Z0, Z1, Z2, Z3, Z4, Z5, Z6, Z7, Z8, Z9, Z10, Zc, ↓reduceIte, reduceCtorEq, h, e1, nats_len, show ((c : Int) = 10) = False from eq_false (by omega), hlen, hlen2, hw, e2]
        (repeat (with_reducible refine And.intro ?_ ?_; focus (first | omega | exact mixed1 | kernel_rfl)))
        have w1 : IntKind.i64.wrap ((n : Int) + 1) = ((n + 1 : Nat) : Int) := by rw [wrap_i64 (by omega) (by omega)]; omega
        have w2 : IntKind.i64.wrap ((i : Int) + 1) = ((i + 1 : Nat) : Int) := by rw [wrap_i64 (by omega) (by omega)]; omega
        refine weak_again ⟨(done, n + 1, i + 1), by simp only; omega, by simp only; omega, by simp only; omega, hd⟩ (by simp only; omega) ?_
        rw [hSt]
        simp only [setEl, List.headD_cons]
        rw [w1, nats_setlast, w2]
        refine weak_go [] [.live 2] ?_
        simp only [goRules, coreRules, tiRules, unRules, AS_of_eq, ← decide_not, N0, N1, N2, N3, N4, N5, Z0, Z1, Z2, Z3, Z4, Z5, Z6, Z7, Z8, Z9, Z10, Zc, ↓reduceIte, reduceCtorEq, AV.turn, nats_len, hlen2, List.length_append] <;> ((repeat' apply And.intro) <;> first | rfl | omega | trivial)
    · rw [List.drop_of_length_le (by omega), wids] at hd
      simp only [goRules, coreRules, tiRules, unRules, AS_of_eq, ← decide_not, N0, N1, N2, N3, N4, N5, Z0, Z1, Z2, Z3, Z4, Z5, Z6, Z7, Z8, Z9, Z10, Zc, ↓reduceIte, reduceCtorEq, h]
      unfold wdR
      rw [hp]; simp only [← hd]
end Go.Proofs
end

-- BUg3
section
namespace Go.Proofs
open Go Go.Rw
open _root_.Nat renaming reduceAdd → N0, reduceSub → N1, reduceMul → N2, reduceLT → N3, reduceLeDiff → N4, reduceEqDiff → N5
open _root_.Int renaming reduceNeg → Z0, reduceAdd → Z1, reduceSub → Z2, reduceMul → Z3, reduceGT → Z4, reduceGE → Z5, reduceLT → Z6, reduceLE → Z7, reduceEq → Z8, reduceNe → Z9, reduceToNat → Z10, cast_ofNat_Int → Zc
set_option maxRecDepth 100000
set_option linter.unusedSimpArgs false
set_option linter.unusedVariables false

theorem run_trunc2 {P : Program} {z : Int} (h0 : -4503599627370496 < z) (h1 : z < 4503599627370496) (h2 : 0 ≤ z ∨ z % 4 = 0) (w : World) :
    (Extern.MathFloor.toIntegral "math.archTrunc" .zero #[.float .f64 (qf z)]).run P w = .ok (.float .f64 (qf (4 * z.tdiv 4))) w := by
  obtain ⟨s, m, e, hd, hv⟩ := (qf_read (z := z) (by omega)).1
  have ht := qf_trunc (z := z) (by omega) h2
  have hd2 : FloatKind.f64.decode (qf z) = .number s m e := hd
  rw [hd] at ht
  rw [trunc_eq, hd2]
  show Sem.run P (pure (Value.float .f64 (FloatKind.f64.encode ((Ieee.Datum.number s m e).integral .zero)))) w = _
  rw [Sem.run_pure]
  have : FloatKind.f64.encode ((Ieee.Datum.number s m e).integral .zero) = qf (4 * z.tdiv 4) := ht
  rw [this]
theorem trunc2_walk {z : Int} (h0 : -4503599627370496 < z) (h1 : z < 4503599627370496) (h2 : 0 ≤ z ∨ z % 4 = 0) (w : World) : Calls Tryd.prog 55 #[.float .f64 (qf z)] w fun e w' => e = .returned (.float .f64 (qf (4 * z.tdiv 4))) ∧ w' = w := by
  have hd : ∀ w : World, (callFunc 62 #[.float .f64 (qf z)]).run Tryd.prog w = .ok (.value (.float .f64 (qf (4 * z.tdiv 4)))) w := by
    intro w
    rw [run_callFunc_extern Tryd.func62 (by kernel_rfl) (by kernel_rfl) (by kernel_rfl) (show Extern.find Tryd.f62 = some (Extern.MathFloor.toIntegral "math.archTrunc" .zero) from by kernel_rfl), run_trunc2 h0 h1 h2]
    rfl
  generalize qf z = x at *
  generalize qf (4 * z.tdiv 4) = y at *
  go_enter Tryd.func55, Tryd.ntmps55
  go_wp2
  go_ret
  exact ⟨rfl, rfl⟩
abbrev trunc2Con : Con where
  ι := { z : Int // -4503599627370496 < z ∧ z < 4503599627370496 ∧ (0 ≤ z ∨ z % 4 = 0) }
  args := fun z => [.v (.float .f64 (qf z.1))]
  post := fun z r => r = .v (.float .f64 (qf (4 * z.1.tdiv 4)))
  plain := true
theorem trunc2_good : Rw.Good Tryd.prog 55 trunc2Con := by
  refine good_below ⟨_, Tryd.func55, by kernel_rfl, by kernel_rfl⟩ rfl rfl fun s w F vs htb hs hv => ?_
  obtain ⟨z, h0, h1, h2⟩ := s
  have h0' := VR.v_inv (hv 0)
  have e : vs = #[.float .f64 (qf z)] := by
    apply Array.ext (by simpa using hs)
    intro i h2 h3
    have : i = 0 := by simpa using h3
    subst this
    rw [Array.getD_eq_getD_getElem?, Array.getElem?_eq_getElem h2] at h0'
    simpa using h0'
  subst e
  refine (trunc2_walk h0 h1 h2 w).mono ?_
  rintro e w' ⟨rfl, rfl⟩
  exact ⟨_, _, rfl, rfl, fun _ _ => .v _, rfl, .refl _ _⟩
theorem call_trunc2 {Γ : Env} (hf : Γ.get 55 = some trunc2Con) {σ : AS} {dr : Bool} {z : Int} {d : Option Nat} {K : AS → Prop} (h : -4503599627370496 < z ∧ z < 4503599627370496 ∧ (0 ≤ z ∨ z % 4 = 0))
    (hk : cont σ d (.v (.float .f64 (qf (4 * z.tdiv 4)))) K) : vcCall Tryd.prog Γ dr σ 55 [.v (.float .f64 (qf z))] d K :=
  vcCall_plain (C := trunc2Con) (i := ⟨z, h⟩) hf rfl rfl rfl rfl (fun _ h => h) rfl hk
def whOk (z lo hi : Int) : Prop := z ≥ 4 * lo ∧ z ≤ 4 * hi ∧ z % 4 = 0
instance (a b c : Int) : Decidable (whOk a b c) := by unfold whOk; infer_instance
def whR (z lo hi : Int) : AV := if whOk z lo hi then .tup [.v (.int .i64 (z / 4)), .v (.bool true)] else .tup [.v (.int .i64 0), .v (.bool false)]
theorem whR_plain (a b c : Int) : (whR a b c).plain = true := by unfold whR; split <;> rfl
def whPre (z lo hi : Int) : Prop := (-1125899906842624 < z ∧ z < 1125899906842624) ∧ (-1099511627777 ≤ lo ∧ lo ≤ 1099511627777) ∧ (-1099511627777 ≤ hi ∧ hi ≤ 1099511627777) ∧ (0 ≤ lo ∨ 0 ≤ z ∨ z % 4 = 0)
abbrev whCon : Con where
  ι := { q : Int × Int × Int // whPre q.1 q.2.1 q.2.2 }
  args := fun q => [.v (.float .f64 (qf q.1.1)), .v (.int .i64 q.1.2.1), .v (.int .i64 q.1.2.2)]
  post := fun q r => r = whR q.1.1 q.1.2.1 q.1.2.2
  plain := true
theorem whole_good : Rw.Good Tryd.prog 41 whCon := by
  have hΓ : GoodEnv Tryd.prog [(55, trunc2Con)] := (goodEnv_cons trunc2_good goodEnv_nil)
  refine good_fn (nn := 27) hΓ Tryd.func41 (by kernel_rfl) rfl (show Tryd.f41.results.toList = [.tmp 6, .tmp 7] from rfl) (fun _ => rfl) (fun _ => rfl) ?_
  rintro ⟨⟨z, lo, hi⟩, hz, hlo, hhi, hpre⟩
  simp only at hz hlo hhi hpre
  simp only [goRules, coreRules, tiRules, unRules, AS_of_eq, ← decide_not, N0, N1, N2, N3, N4, N5, Z0, Z1, Z2, Z3, Z4, Z5, Z6, Z7, Z8, Z9, Z10, Zc, ↓reduceIte, reduceCtorEq, near_qf (n := lo) (by omega) (by omega), near_qf (n := hi) (by omega) (by omega), binq_geq (z := z) (w := 4 * lo) (by omega) (by omega) (by omega) (by omega)]
  by_cases k1 : z ≥ 4 * lo
  case neg =>
    have hp : ¬ whOk z lo hi := fun h => k1 h.1
    simp only [goRules, coreRules, tiRules, unRules, AS_of_eq, ← decide_not, N0, N1, N2, N3, N4, N5, Z0, Z1, Z2, Z3, Z4, Z5, Z6, Z7, Z8, Z9, Z10, Zc, ↓reduceIte, reduceCtorEq, k1]
    rw [whR, if_neg hp]
  simp only [goRules, coreRules, tiRules, unRules, AS_of_eq, ← decide_not, N0, N1, N2, N3, N4, N5, Z0, Z1, Z2, Z3, Z4, Z5, Z6, Z7, Z8, Z9, Z10, Zc, ↓reduceIte, reduceCtorEq, k1, near_qf (n := hi) (by omega) (by omega), binq_leq (z := z) (w := 4 * hi) (by omega) (by omega) (by omega) (by omega)]
  by_cases k2 : z ≤ 4 * hi
  case neg =>
    have hp : ¬ whOk z lo hi := fun h => k2 h.2.1
    simp only [goRules, coreRules, tiRules, unRules, AS_of_eq, ← decide_not, N0, N1, N2, N3, N4, N5, Z0, Z1, Z2, Z3, Z4, Z5, Z6, Z7, Z8, Z9, Z10, Zc, ↓reduceIte, reduceCtorEq, k2]
    rw [whR, if_neg hp]
  simp only [goRules, coreRules, tiRules, unRules, AS_of_eq, ← decide_not, N0, N1, N2, N3, N4, N5, Z0, Z1, Z2, Z3, Z4, Z5, Z6, Z7, Z8, Z9, Z10, Zc, ↓reduceIte, reduceCtorEq, k2]
  refine call_trunc2 (by simp [get_cons]) ⟨by omega, by omega, by omega⟩ ?_
  have ht := tdiv_abs z
  have hb : -1125899906842624 < 4 * z.tdiv 4 ∧ 4 * z.tdiv 4 < 1125899906842624 := by split at ht <;> omega
  simp only [goRules, coreRules, tiRules, unRules, AS_of_eq, ← decide_not, N0, N1, N2, N3, N4, N5, Z0, Z1, Z2, Z3, Z4, Z5, Z6, Z7, Z8, Z9, Z10, Zc, ↓reduceIte, reduceCtorEq]
  rw [binq_neq (by omega) (by omega) (by omega) (by omega)]
  by_cases k3 : z = 4 * z.tdiv 4
  case neg =>
    have hp : ¬ whOk z lo hi := fun h => k3 (by have := h.2.2; split at ht <;> omega)
    simp only [goRules, coreRules, tiRules, unRules, AS_of_eq, ← decide_not, N0, N1, N2, N3, N4, N5, Z0, Z1, Z2, Z3, Z4, Z5, Z6, Z7, Z8, Z9, Z10, Zc, ↓reduceIte, reduceCtorEq, eq_false k3]
    rw [whR, if_neg hp]
  have hp : whOk z lo hi := ⟨k1, k2, by omega⟩
  simp only [goRules, coreRules, tiRules, unRules, AS_of_eq, ← decide_not, N0, N1, N2, N3, N4, N5, Z0, Z1, Z2, Z3, Z4, Z5, Z6, Z7, Z8, Z9, Z10, Zc, ↓reduceIte, reduceCtorEq, eq_true k3]
  rw [show Ieee.Datum.toInt Ieee.Toward.zero (FloatKind.f64.decode (qf z)) = some (z.tdiv 4) from qf_toInt (by omega)]
  simp only
  rw [if_pos (by have e1 : IntKind.i64.min = -9223372036854775808 := rfl; have e2 : IntKind.i64.max = 9223372036854775807 := rfl; omega)]
  simp only [goRules, coreRules, tiRules, unRules, AS_of_eq, ← decide_not, N0, N1, N2, N3, N4, N5, Z0, Z1, Z2, Z3, Z4, Z5, Z6, Z7, Z8, Z9, Z10, Zc, ↓reduceIte, reduceCtorEq]
  rw [whR, if_pos hp, show z.tdiv 4 = z / 4 by omega]
theorem call_whole {Γ : Env} (hf : Γ.get 41 = some whCon) {σ : AS} {dr : Bool} {z lo hi : Int} {d : Option Nat} {K : AS → Prop} (h : whPre z lo hi)
    (hk : cont σ d (whR z lo hi) K) : vcCall Tryd.prog Γ dr σ 41 [.v (.float .f64 (qf z)), .v (.int .i64 lo), .v (.int .i64 hi)] d K :=
  vcCall_plain (C := whCon) (i := ⟨(z, lo, hi), h⟩) hf rfl rfl rfl rfl (fun _ h => h) (whR_plain _ _ _) hk
/-- A point of a text: its column and line. -/
def ptOk (w : List Nat) (z u : Int) : Prop := whOk u 0 ((w.length : Int) - 1) ∧ whOk z 0 (w.getD (u / 4).toNat 0)
instance (w : List Nat) (z u : Int) : Decidable (ptOk w z u) := by unfold ptOk; infer_instance
def Wd (w : List Nat) : Prop := 1 ≤ w.length ∧ w.length ≤ 1099511627777 ∧ ∀ x ∈ w, x ≤ 1099511627776
theorem Wd.get {w : List Nat} (h : Wd w) (k : Nat) : w.getD k 0 ≤ 1099511627776 := by
  rw [List.getD_eq_getElem?_getD]
  by_cases hk : k < w.length
  · rw [List.getElem?_eq_getElem hk]; exact h.2.2 _ (List.getElem_mem hk)
  · rw [List.getElem?_eq_none (by omega)]; simp
abbrev ptCon : Con where
  ι := { q : List Nat × Int × Int // Wd q.1 ∧ (-1125899906842624 < q.2.1 ∧ q.2.1 < 1125899906842624) ∧ (-1125899906842624 < q.2.2 ∧ q.2.2 < 1125899906842624) }
  args := fun q => [.sl 0 1 (nats q.1.1), cq q.1.2.1 q.1.2.2]
  post := fun q r => ∃ a b, r = .tup [.v (.int .i64 a), .v (.int .i64 b), .v (.bool (decide (ptOk q.1.1 q.1.2.1 q.1.2.2)))] ∧ (ptOk q.1.1 q.1.2.1 q.1.2.2 → a = q.1.2.1 / 4 ∧ b = q.1.2.2 / 4)
  plain := true
theorem gpoint_good : Rw.Good Tryd.prog 40 ptCon := by
  have hΓ : GoodEnv Tryd.prog [(41, whCon)] := (goodEnv_cons whole_good goodEnv_nil)
  refine good_fn (nn := 31) hΓ Tryd.func40 (by kernel_rfl) rfl (show Tryd.f40.results.toList = [.tmp 4, .tmp 5, .tmp 6] from rfl) (fun _ => rfl) (fun _ => rfl) ?_
  rintro ⟨⟨w, z, u⟩, hw, hz, hu⟩
  simp only at hw hz hu
  simp only [cq]
  obtain ⟨w1, w2, w3⟩ := id hw
  simp only [goRules, coreRules, tiRules, unRules, AS_of_eq, ← decide_not, N0, N1, N2, N3, N4, N5, Z0, Z1, Z2, Z3, Z4, Z5, Z6, Z7, Z8, Z9, Z10, Zc, ↓reduceIte, reduceCtorEq, nats_len, wrap_i64 (n := (w.length : Int) - 1) (by omega) (by omega)]
  refine call_whole (by simp [get_cons]) ⟨by omega, by omega, by omega, by omega⟩ ?_
  by_cases k1 : whOk u 0 ((w.length : Int) - 1)
  case neg =>
    simp only [goRules, coreRules, tiRules, unRules, AS_of_eq, ← decide_not, N0, N1, N2, N3, N4, N5, Z0, Z1, Z2, Z3, Z4, Z5, Z6, Z7, Z8, Z9, Z10, Zc, ↓reduceIte, reduceCtorEq, whR, k1]
    exact ⟨_, _, by rw [decide_eq_false (fun h : ptOk w z u => k1 h.1)], fun h => absurd h.1 k1⟩
  obtain ⟨u1, u2, u3⟩ := id k1
  have e1 : (nats w).getD (u / 4).toNat .any = .v (.int .i64 (w.getD (u / 4).toNat 0 : Nat)) := by
    rw [nats_getD w (by omega), List.getD_eq_getElem?_getD, List.getElem?_eq_getElem (by omega)]; rfl
  have hg := hw.get (u / 4).toNat
  simp only [goRules, coreRules, tiRules, unRules, AS_of_eq, ← decide_not, N0, N1, N2, N3, N4, N5, Z0, Z1, Z2, Z3, Z4, Z5, Z6, Z7, Z8, Z9, Z10, Zc, ↓reduceIte, reduceCtorEq, whR, k1, nats_len, e1]
  (repeat (with_reducible refine And.intro ?_ ?_; focus (first | omega | exact mixed1 | kernel_rfl)))
  refine call_whole (by simp [get_cons]) ⟨by omega, by omega, by omega, by omega⟩ ?_
  by_cases k2 : whOk z 0 (w.getD (u / 4).toNat 0)
  · simp only [goRules, coreRules, tiRules, unRules, AS_of_eq, ← decide_not, N0, N1, N2, N3, N4, N5, Z0, Z1, Z2, Z3, Z4, Z5, Z6, Z7, Z8, Z9, Z10, Zc, ↓reduceIte, reduceCtorEq, whR, k2]
    exact ⟨_, _, by rw [decide_eq_true (show ptOk w z u from ⟨k1, k2⟩)], fun _ => ⟨rfl, rfl⟩⟩
  · simp only [goRules, coreRules, tiRules, unRules, AS_of_eq, ← decide_not, N0, N1, N2, N3, N4, N5, Z0, Z1, Z2, Z3, Z4, Z5, Z6, Z7, Z8, Z9, Z10, Zc, ↓reduceIte, reduceCtorEq, whR, k2]
    exact ⟨_, _, by rw [decide_eq_false (fun h : ptOk w z u => k2 h.2)], fun h => absurd h.2 k2⟩
end Go.Proofs
end

-- BUg4
section
namespace Go.Proofs
open Go Go.Rw
open _root_.Nat renaming reduceAdd → N0, reduceSub → N1, reduceMul → N2, reduceLT → N3, reduceLeDiff → N4, reduceEqDiff → N5
open _root_.Int renaming reduceNeg → Z0, reduceAdd → Z1, reduceSub → Z2, reduceMul → Z3, reduceGT → Z4, reduceGE → Z5, reduceLT → Z6, reduceLE → Z7, reduceEq → Z8, reduceNe → Z9, reduceToNat → Z10, cast_ofNat_Int → Zc
set_option maxRecDepth 100000
set_option linter.unusedSimpArgs false
set_option linter.unusedVariables false

theorem partA_g {l sz i j : Nat} {xs : List AV} (h : j ≤ xs.length) : partA l sz xs i j = .sl l sz ((xs.drop i).take (j - i)) := by
  unfold partA
  split
  · rename_i hc
    obtain ⟨rfl, rfl⟩ := hc
    simp
  · rfl
theorem nats_take (w : List Nat) (k : Nat) : (nats w).take k = nats (w.take k) := by simp [nats, ints, List.map_take]
theorem call_gpoint {Γ : Env} (hf : Γ.get 40 = some ptCon) {σ : AS} {d : Option Nat} {w : List Nat} {z u : Int} {t : Nat} {ys : List AV} {K : AS → Prop} (hy : ys = nats w) (hw : Wd w) (hz : -1125899906842624 < z ∧ z < 1125899906842624) (hu : -1125899906842624 < u ∧ u < 1125899906842624)
    (hk : ∀ a b, (ptOk w z u → a = z / 4 ∧ b = u / 4) → cont σ d (.tup [.v (.int .i64 a), .v (.int .i64 b), .v (.bool (decide (ptOk w z u)))]) K) : vcCall Tryd.prog Γ false σ 40 [.sl t 1 ys, .v (.complex .f64 (qf z) (qf u))] d K := by
  subst hy
  refine vcCall_some (C := ptCon) (i := ⟨(w, z, u), hw, hz, hu⟩) hf rfl rfl rfl rfl (fun r ⟨a, b, hr, _⟩ => by rw [hr]; rfl) (fun r ⟨a, b, hr, h⟩ => ?_)
  subst hr
  exact hk a b h
theorem lns_wd {cs : List Nat} (h : cs.length ≤ 1099511627776) : Wd (lns cs) := by
  have h2 := lns_len cs
  exact ⟨h2.1, by omega, fun x hx => by have := lns_mem hx; omega⟩
theorem call_wd {Γ : Env} (hf : Γ.get 39 = some wdCon) {σ : AS} {dr : Bool} {s : List UInt8} {d : Option Nat} {K : AS → Prop} (hs : s.length ≤ 1099511627776)
    (hk : cont σ d (wdR s) K) : vcCall Tryd.prog Γ dr σ 39 [.v (sv s)] d K := by
  refine vcCall_fn (C := wdCon) (i := ⟨s, hs⟩) (r := wdR s) hf rfl rfl rfl rfl (fun _ h => h) ?_
  rw [show (wdR s).er = wdR s by unfold wdR; split <;> rfl]
  exact hk
def glR (s : List UInt8) : AV := match pts s with
  | some cs => .tup [.v (.int .i64 (lns cs).length), .v (.int .i64 0)]
  | none => .tup [.v (.int .i64 0), .v (.int .i64 2)]
abbrev glCon : Con where
  ι := Str
  args := fun s => [.v (sv s.1)]
  post := fun s r => r = glR s.1
  plain := true
theorem glines_good : Rw.Good Tryd.prog 21 glCon := by
  have hΓ : GoodEnv Tryd.prog [(39, wdCon)] := (goodEnv_cons wd_good goodEnv_nil)
  refine good_fn (nn := 14) hΓ Tryd.func21 (by kernel_rfl) rfl (show Tryd.f21.results.toList = [.tmp 2, .tmp 3] from rfl) (fun _ => rfl) (fun _ => rfl) ?_
  rintro ⟨s, hs⟩
  simp only [goRules, coreRules, tiRules, unRules, AS_of_eq, ← decide_not, N0, N1, N2, N3, N4, N5, Z0, Z1, Z2, Z3, Z4, Z5, Z6, Z7, Z8, Z9, Z10, Zc, ↓reduceIte, reduceCtorEq]
  refine call_wd (by simp [get_cons]) hs ?_
  cases hp : pts s with
  | none =>
    simp only [goRules, coreRules, tiRules, unRules, AS_of_eq, ← decide_not, N0, N1, N2, N3, N4, N5, Z0, Z1, Z2, Z3, Z4, Z5, Z6, Z7, Z8, Z9, Z10, Zc, ↓reduceIte, reduceCtorEq, wdR, hp]
    unfold glR; rw [hp]
  | some cs =>
    simp only [goRules, coreRules, tiRules, unRules, AS_of_eq, ← decide_not, N0, N1, N2, N3, N4, N5, Z0, Z1, Z2, Z3, Z4, Z5, Z6, Z7, Z8, Z9, Z10, Zc, ↓reduceIte, reduceCtorEq, wdR, hp, nats_len]
    unfold glR; rw [hp]
theorem call_glines {Γ : Env} (hf : Γ.get 21 = some glCon) {σ : AS} {dr : Bool} {s : List UInt8} {d : Option Nat} {K : AS → Prop} (hs : s.length ≤ 1099511627776)
    (hk : cont σ d (glR s) K) : vcCall Tryd.prog Γ dr σ 21 [.v (sv s)] d K :=
  vcCall_plain (C := glCon) (i := ⟨s, hs⟩) hf rfl rfl rfl rfl (fun _ h => h) (by unfold glR; split <;> rfl) hk
def gwR (s : List UInt8) (k : Int) : AV := match pts s with
  | some cs => if 0 ≤ k ∧ k < (lns cs).length then .tup [.v (.int .i64 ((lns cs).getD k.toNat 0 : Nat)), .v (.int .i64 0)] else .tup [.v (.int .i64 0), .v (.int .i64 1)]
  | none => .tup [.v (.int .i64 0), .v (.int .i64 2)]
theorem gwR_plain (s : List UInt8) (k : Int) : (gwR s k).plain = true := by
  unfold gwR
  split
  · split <;> rfl
  · rfl
abbrev gwCon : Con where
  ι := Str × Num0
  args := fun p => [.v (sv p.1.1), .v (.int .i64 p.2.1)]
  post := fun p r => r = gwR p.1.1 p.2.1
  plain := true
theorem gwidth_good : Rw.Good Tryd.prog 22 gwCon := by
  have hΓ : GoodEnv Tryd.prog [(39, wdCon)] := (goodEnv_cons wd_good goodEnv_nil)
  refine good_fn (nn := 30) hΓ Tryd.func22 (by kernel_rfl) rfl (show Tryd.f22.results.toList = [.tmp 4, .tmp 5] from rfl) (fun _ => rfl) (fun _ => rfl) ?_
  rintro ⟨⟨s, hs⟩, ⟨k, hk⟩⟩
  simp only [goRules, coreRules, tiRules, unRules, AS_of_eq, ← decide_not, N0, N1, N2, N3, N4, N5, Z0, Z1, Z2, Z3, Z4, Z5, Z6, Z7, Z8, Z9, Z10, Zc, ↓reduceIte, reduceCtorEq]
  refine call_wd (by simp [get_cons]) hs ?_
  cases hp : pts s with
  | none =>
    simp only [goRules, coreRules, tiRules, unRules, AS_of_eq, ← decide_not, N0, N1, N2, N3, N4, N5, Z0, Z1, Z2, Z3, Z4, Z5, Z6, Z7, Z8, Z9, Z10, Zc, ↓reduceIte, reduceCtorEq, wdR, hp]
    unfold gwR; rw [hp]
  | some cs =>
    have hR : gwR s k = if 0 ≤ k ∧ k < (lns cs).length then .tup [.v (.int .i64 ((lns cs).getD k.toNat 0 : Nat)), .v (.int .i64 0)] else .tup [.v (.int .i64 0), .v (.int .i64 1)] := by unfold gwR; rw [hp]
    by_cases h1 : k < 0
    · simp only [goRules, coreRules, tiRules, unRules, AS_of_eq, ← decide_not, N0, N1, N2, N3, N4, N5, Z0, Z1, Z2, Z3, Z4, Z5, Z6, Z7, Z8, Z9, Z10, Zc, ↓reduceIte, reduceCtorEq, wdR, hp, nats_len, h1]
      rw [hR, if_neg (by omega)]
    by_cases h2 : k ≥ (lns cs).length
    · simp only [goRules, coreRules, tiRules, unRules, AS_of_eq, ← decide_not, N0, N1, N2, N3, N4, N5, Z0, Z1, Z2, Z3, Z4, Z5, Z6, Z7, Z8, Z9, Z10, Zc, ↓reduceIte, reduceCtorEq, wdR, hp, nats_len, h1, h2]
      rw [hR, if_neg (by omega)]
    · have e1 : (nats (lns cs)).getD k.toNat .any = .v (.int .i64 ((lns cs).getD k.toNat 0 : Nat)) := by
        rw [nats_getD _ (by omega), List.getD_eq_getElem?_getD, List.getElem?_eq_getElem (by omega)]; rfl
      simp only [goRules, coreRules, tiRules, unRules, AS_of_eq, ← decide_not, N0, N1, N2, N3, N4, N5, Z0, Z1, Z2, Z3, Z4, Z5, Z6, Z7, Z8, Z9, Z10, Zc, ↓reduceIte, reduceCtorEq, wdR, hp, nats_len, h1, h2, e1]
      rw [hR, if_pos (by omega)]
      exact ⟨by omega, rfl⟩
theorem call_gwidth {Γ : Env} (hf : Γ.get 22 = some gwCon) {σ : AS} {dr : Bool} {s : List UInt8} {k : Int} {d : Option Nat} {K : AS → Prop} (hs : s.length ≤ 1099511627776) (hk2 : -9223372036854775808 ≤ k ∧ k ≤ 9223372036854775807)
    (hk : cont σ d (gwR s k) K) : vcCall Tryd.prog Γ dr σ 22 [.v (sv s), .v (.int .i64 k)] d K :=
  vcCall_plain (C := gwCon) (i := (⟨s, hs⟩, ⟨k, hk2⟩)) hf rfl rfl rfl rfl (fun _ h => h) (gwR_plain _ _) hk
def plcR (s : List UInt8) (z u : Int) : AV := match pts s with
  | some cs => if ptOk (lns cs) z u then .tup [.v (.int .i64 (z / 4 + ahd ((lns cs).take (u / 4).toNat))), .v (.int .i64 0)] else .tup [.v (.int .i64 0), .v (.int .i64 1)]
  | none => .tup [.v (.int .i64 0), .v (.int .i64 2)]
theorem plcR_plain (s : List UInt8) (z u : Int) : (plcR s z u).plain = true := by
  unfold plcR
  split
  · split <;> rfl
  · rfl
abbrev Pnt := { p : Int × Int // (-1125899906842624 < p.1 ∧ p.1 < 1125899906842624) ∧ (-1125899906842624 < p.2 ∧ p.2 < 1125899906842624) }
abbrev plcCon : Con where
  ι := Str × Pnt
  args := fun p => [.v (sv p.1.1), cq p.2.1.1 p.2.1.2]
  post := fun p r => r = plcR p.1.1 p.2.1.1 p.2.1.2
  plain := true
theorem gplace_good : Rw.Good Tryd.prog 15 plcCon := by
  have hΓ : GoodEnv Tryd.prog [(39, wdCon), (40, ptCon)] := (goodEnv_cons wd_good (goodEnv_cons gpoint_good goodEnv_nil))
  refine good_fn (nn := 44) hΓ Tryd.func15 (by kernel_rfl) rfl (show Tryd.f15.results.toList = [.tmp 4, .tmp 5] from rfl) (fun _ => rfl) (fun _ => rfl) ?_
  rintro ⟨⟨s, hs⟩, ⟨⟨z, u⟩, hz, hu⟩⟩
  simp only at hz hu
  simp only [cq]
  simp only [goRules, coreRules, tiRules, unRules, AS_of_eq, ← decide_not, N0, N1, N2, N3, N4, N5, Z0, Z1, Z2, Z3, Z4, Z5, Z6, Z7, Z8, Z9, Z10, Zc, ↓reduceIte, reduceCtorEq]
  refine call_wd (by simp [get_cons]) hs ?_
  cases hp : pts s with
  | none =>
    simp only [goRules, coreRules, tiRules, unRules, AS_of_eq, ← decide_not, N0, N1, N2, N3, N4, N5, Z0, Z1, Z2, Z3, Z4, Z5, Z6, Z7, Z8, Z9, Z10, Zc, ↓reduceIte, reduceCtorEq, wdR, hp]
    unfold plcR; rw [hp]
  | some cs =>
    obtain ⟨ho, he⟩ := pts_some hp
    have hl := encs_le cs
    rw [← he] at hl
    have hW := lns_wd (cs := cs) (by omega)
    have hA := lns_ahd cs
    have hR : plcR s z u = if ptOk (lns cs) z u then .tup [.v (.int .i64 (z / 4 + ahd ((lns cs).take (u / 4).toNat))), .v (.int .i64 0)] else .tup [.v (.int .i64 0), .v (.int .i64 1)] := by unfold plcR; rw [hp]
    simp only [goRules, coreRules, tiRules, unRules, AS_of_eq, ← decide_not, N0, N1, N2, N3, N4, N5, Z0, Z1, Z2, Z3, Z4, Z5, Z6, Z7, Z8, Z9, Z10, Zc, ↓reduceIte, reduceCtorEq, wdR, hp, nats_len]
    refine call_gpoint (by simp [get_cons]) rfl hW hz hu ?_
    intro a b hab
    generalize lns cs = w at *
    by_cases hk : ptOk w z u
    case neg =>
      simp only [goRules, coreRules, tiRules, unRules, AS_of_eq, ← decide_not, N0, N1, N2, N3, N4, N5, Z0, Z1, Z2, Z3, Z4, Z5, Z6, Z7, Z8, Z9, Z10, Zc, ↓reduceIte, reduceCtorEq, hk]
      rw [hR, if_neg hk]
    obtain ⟨rfl, rfl⟩ := hab hk
    obtain ⟨⟨u1, u2, u3⟩, z1, z2, z3⟩ := id hk
    obtain ⟨k, hkk⟩ := Int.eq_ofNat_of_zero_le (show 0 ≤ u / 4 by omega)
    rw [hkk, Int.toNat_natCast] at z2
    have hkl : k < w.length := by omega
    have hlt := ahd_take_lt hkl
    rw [hkk, Int.toNat_natCast, if_pos hk] at hR
    have hpa : partA 0 1 (nats w) 0 k = .sl 0 1 (nats (w.take k)) := by
      rw [partA_g (by rw [nats_len]; omega), List.drop_zero, Nat.sub_zero, nats_take]
    have htl : (w.take k).length = k := by rw [List.length_take]; omega
    simp only [goRules, coreRules, tiRules, unRules, AS_of_eq, ← decide_not, N0, N1, N2, N3, N4, N5, Z0, Z1, Z2, Z3, Z4, Z5, Z6, Z7, Z8, Z9, Z10, Zc, ↓reduceIte, reduceCtorEq, hk, hkk, nats_len, hR, hpa, htl]
    (repeat (with_reducible refine And.intro ?_ ?_; focus (first | omega | exact mixed1 | kernel_rfl)))
    generalize hN : z / 4 + (ahd (w.take k) : Int) = N at *
    obtain ⟨St, hSt⟩ : ∃ St : { q : Int × Nat // q.2 ≤ k ∧ (0 ≤ q.1) ∧ q.1 + ahd ((w.take k).drop q.2) = N } → AS, ∀ q, St q = AS.of 44 [(8, .v (.int .i64 q.1.1)), (32, .sl 0 1 (nats (w.take k))), (33, .v (.int .i64 k)), (34, .v (.int .i64 q.1.2))] [] [] := ⟨_, fun _ => rfl⟩
    refine vc_loop hΓ St (fun q => k - q.1.2) ⟨(z / 4, 0), by simp, by simp only; omega, by simp only [List.drop_zero]; exact hN⟩ (by rw [hSt]; refine weak_go [] [] ?_; simp only [goRules, coreRules, tiRules, unRules, AS_of_eq, ← decide_not, N0, N1, N2, N3, N4, N5, Z0, Z1, Z2, Z3, Z4, Z5, Z6, Z7, Z8, Z9, Z10, Zc, ↓reduceIte, reduceCtorEq] <;> ((repeat' apply And.intro) <;> first | rfl | omega | trivial)) ?_
    rintro ⟨⟨n, i⟩, hi, hn, hs⟩
    simp only at hi hn hs
    rw [hSt]
    simp only
    simp only [goRules, coreRules, tiRules, unRules, AS_of_eq, ← decide_not, N0, N1, N2, N3, N4, N5, Z0, Z1, Z2, Z3, Z4, Z5, Z6, Z7, Z8, Z9, Z10, Zc, ↓reduceIte, reduceCtorEq, nats_len, htl]
    (with_reducible first | refine branchP_dec (fun h => ?_) (fun h => ?_) | refine guardB_dec (fun h => ?_) (fun h => ?_))
    · have hlt2 : i < (w.take k).length := by omega
      have e1 := nats_getD (w.take k) hlt2
      rw [List.drop_eq_getElem_cons hlt2] at hs
      simp only [ahd] at hs
      generalize (w.take k)[i] = x at *
      simp (disch := omega) only [goRules, coreRules, tiRules, unRules, AS_of_eq, ← decide_not, N0, N1, N2, N3, N4, N5, Z0, Z1, Z2, Z3, Z4, Z5, Z6, Z7, Z8, Z9, Z10, Zc, ↓reduceIte, reduceCtorEq, wrap_i64, h, e1, nats_len, htl]
      (repeat (with_reducible refine And.intro ?_ ?_; focus (first | omega | exact mixed1 | kernel_rfl)))
      refine weak_again ⟨(n + x + 1, i + 1), by simp only; omega, by simp only; omega, by simp only; omega⟩ (by simp only; omega) ?_
      rw [hSt]; refine weak_go [] [] ?_
      simp only [goRules, coreRules, tiRules, unRules, AS_of_eq, ← decide_not, N0, N1, N2, N3, N4, N5, Z0, Z1, Z2, Z3, Z4, Z5, Z6, Z7, Z8, Z9, Z10, Zc, ↓reduceIte, reduceCtorEq] <;> ((repeat' apply And.intro) <;> first | rfl | omega | trivial)
    · rw [List.drop_of_length_le (by omega), ahd] at hs
      simp only [goRules, coreRules, tiRules, unRules, AS_of_eq, ← decide_not, N0, N1, N2, N3, N4, N5, Z0, Z1, Z2, Z3, Z4, Z5, Z6, Z7, Z8, Z9, Z10, Zc, ↓reduceIte, reduceCtorEq, h, hR]
      congr 4; omega
theorem call_gplace {Γ : Env} (hf : Γ.get 15 = some plcCon) {σ : AS} {dr : Bool} {s : List UInt8} {z u : Int} {d : Option Nat} {K : AS → Prop} (hs : s.length ≤ 1099511627776) (hz : -1125899906842624 < z ∧ z < 1125899906842624) (hu : -1125899906842624 < u ∧ u < 1125899906842624)
    (hk : cont σ d (plcR s z u) K) : vcCall Tryd.prog Γ dr σ 15 [.v (sv s), .v (.complex .f64 (qf z) (qf u))] d K :=
  vcCall_plain (C := plcCon) (i := (⟨s, hs⟩, ⟨(z, u), hz, hu⟩)) hf rfl rfl rfl rfl (fun _ h => h) (plcR_plain _ _ _) hk
/-- The point of a place. -/
def gatR (s : List UInt8) (p : Int) : AV := match pts s with
  | some cs => if 0 ≤ p ∧ p ≤ cs.length then .tup [cq (4 * ((atL (lns cs) p.toNat).2 : Nat)) (4 * ((atL (lns cs) p.toNat).1 : Nat)), .v (.int .i64 0)] else .tup [cq 0 0, .v (.int .i64 1)]
  | none => .tup [cq 0 0, .v (.int .i64 2)]
theorem gatR_plain (s : List UInt8) (p : Int) : (gatR s p).plain = true := by
  unfold gatR
  split
  · split <;> rfl
  · rfl
abbrev gatCon : Con where
  ι := Str × Num0
  args := fun p => [.v (sv p.1.1), .v (.int .i64 p.2.1)]
  post := fun p r => r = gatR p.1.1 p.2.1
  plain := true
theorem gat_good : Rw.Good Tryd.prog 14 gatCon := by
  have hΓ : GoodEnv Tryd.prog [(39, wdCon)] := (goodEnv_cons wd_good goodEnv_nil)
  refine good_fn (nn := 65) hΓ Tryd.func14 (by kernel_rfl) rfl (show Tryd.f14.results.toList = [.tmp 4, .tmp 5] from rfl) (fun _ => rfl) (fun _ => rfl) ?_
  rintro ⟨⟨s, hs⟩, ⟨p, hpn⟩⟩
  simp only [goRules, coreRules, tiRules, unRules, AS_of_eq, ← decide_not, N0, N1, N2, N3, N4, N5, Z0, Z1, Z2, Z3, Z4, Z5, Z6, Z7, Z8, Z9, Z10, Zc, ↓reduceIte, reduceCtorEq, cx0]
  refine call_wd (by simp [get_cons]) hs ?_
  cases hp : pts s with
  | none =>
    simp only [goRules, coreRules, tiRules, unRules, AS_of_eq, ← decide_not, N0, N1, N2, N3, N4, N5, Z0, Z1, Z2, Z3, Z4, Z5, Z6, Z7, Z8, Z9, Z10, Zc, ↓reduceIte, reduceCtorEq, wdR, hp, cx0]
    unfold gatR; rw [hp, cq]
  | some cs =>
    obtain ⟨ho, he⟩ := pts_some hp
    have hl := encs_le cs
    rw [← he] at hl
    have hA := lns_ahd cs
    have hL := lns_len cs
    have hmem := fun (x : Nat) (h : x ∈ lns cs) => lns_mem h
    have hR : gatR s p = if 0 ≤ p ∧ p ≤ cs.length then .tup [cq (4 * ((atL (lns cs) p.toNat).2 : Nat)) (4 * ((atL (lns cs) p.toNat).1 : Nat)), .v (.int .i64 0)] else .tup [cq 0 0, .v (.int .i64 1)] := by unfold gatR; rw [hp]
    simp only [cq] at hR
    generalize hw : lns cs = w at *
    have hS := ahd_sum w
    simp only [goRules, coreRules, tiRules, unRules, AS_of_eq, ← decide_not, N0, N1, N2, N3, N4, N5, Z0, Z1, Z2, Z3, Z4, Z5, Z6, Z7, Z8, Z9, Z10, Zc, ↓reduceIte, reduceCtorEq, wdR, hp, nats_len, cx0, hw, wrap_i64 (n := (w.length : Int) - 1) (by omega) (by omega)]
    obtain ⟨St, hSt⟩ : ∃ St : { i : Nat // i ≤ w.length } → AS, ∀ i, St i = AS.of 65 [(1, .v (.int .i64 p)), (6, .sl 0 1 (nats w)), (8, .v (.int .i64 ((w.length : Int) - 1 + ((w.take i.1).sum : Nat)))), (25, .sl 0 1 (nats w)), (26, .v (.int .i64 w.length)), (27, .v (.int .i64 i.1))] [] [] := ⟨_, fun _ => rfl⟩
    refine vc_loop hΓ St (fun i => w.length - i.1) ⟨0, by omega⟩ (by rw [hSt]; refine weak_go [] [] ?_; simp only [goRules, coreRules, tiRules, unRules, AS_of_eq, ← decide_not, N0, N1, N2, N3, N4, N5, Z0, Z1, Z2, Z3, Z4, Z5, Z6, Z7, Z8, Z9, Z10, Zc, ↓reduceIte, reduceCtorEq, List.take_zero, List.sum_nil] <;> ((repeat' apply And.intro) <;> first | rfl | omega | trivial)) ?_
    rintro ⟨i, hi⟩
    rw [hSt]
    simp only
    simp only [goRules, coreRules, tiRules, unRules, AS_of_eq, ← decide_not, N0, N1, N2, N3, N4, N5, Z0, Z1, Z2, Z3, Z4, Z5, Z6, Z7, Z8, Z9, Z10, Zc, ↓reduceIte, reduceCtorEq, nats_len]
    (with_reducible first | refine branchP_dec (fun h => ?_) (fun h => ?_) | refine guardB_dec (fun h => ?_) (fun h => ?_))
    · have hlt : i < w.length := by omega
      have e1 := nats_getD w hlt
      have e2 : (w.take (i + 1)).sum = (w.take i).sum + w[i] := by rw [List.take_succ_eq_append_getElem hlt, List.sum_append]; simp
      have e3 : (w.take (i + 1)).sum ≤ w.sum := by
        have := List.take_append_drop (i + 1) w
        conv => rhs; rw [← this]
        rw [List.sum_append]; omega
      generalize w[i] = x at *
      simp (disch := omega) only [goRules, coreRules, tiRules, unRules, AS_of_eq, ← decide_not, N0, N1, N2, N3, N4, N5, Z0, Z1, Z2, Z3, Z4, Z5, Z6, Z7, Z8, Z9, Z10, Zc, ↓reduceIte, reduceCtorEq, wrap_i64, h, e1, nats_len]
      (repeat (with_reducible refine And.intro ?_ ?_; focus (first | omega | exact mixed1 | kernel_rfl)))
      refine weak_again ⟨i + 1, by omega⟩ (by simp only; omega) ?_
      rw [hSt]
      simp only
      rw [e2]
      refine weak_go [] [] ?_
      simp only [goRules, coreRules, tiRules, unRules, AS_of_eq, ← decide_not, N0, N1, N2, N3, N4, N5, Z0, Z1, Z2, Z3, Z4, Z5, Z6, Z7, Z8, Z9, Z10, Zc, ↓reduceIte, reduceCtorEq] <;> ((repeat' apply And.intro) <;> first | rfl | omega | trivial)
    rw [List.take_of_length_le (by omega)]
    have hmost : (w.length : Int) - 1 + (w.sum : Nat) = cs.length := by omega
    rw [hmost]
    by_cases k1 : p < 0
    · simp only [goRules, coreRules, tiRules, unRules, AS_of_eq, ← decide_not, N0, N1, N2, N3, N4, N5, Z0, Z1, Z2, Z3, Z4, Z5, Z6, Z7, Z8, Z9, Z10, Zc, ↓reduceIte, reduceCtorEq, h, k1, cx0]
      rw [hR, if_neg (by omega)]
    by_cases k2 : p > cs.length
    · simp only [goRules, coreRules, tiRules, unRules, AS_of_eq, ← decide_not, N0, N1, N2, N3, N4, N5, Z0, Z1, Z2, Z3, Z4, Z5, Z6, Z7, Z8, Z9, Z10, Zc, ↓reduceIte, reduceCtorEq, h, k1, k2, cx0]
      rw [hR, if_neg (by omega)]
    obtain ⟨m, rfl⟩ := Int.eq_ofNat_of_zero_le (show 0 ≤ p by omega)
    rw [if_pos (by omega), Int.toNat_natCast] at hR
    simp only [goRules, coreRules, tiRules, unRules, AS_of_eq, ← decide_not, N0, N1, N2, N3, N4, N5, Z0, Z1, Z2, Z3, Z4, Z5, Z6, Z7, Z8, Z9, Z10, Zc, ↓reduceIte, reduceCtorEq, h, k1, k2, cx0, fl0, near_qf (n := (m : Int)) (by omega) (by omega), nats_len]
    clear hSt St
    obtain ⟨St, hSt⟩ : ∃ St : { x : Nat × Nat // x.2 ≤ w.length ∧ x.1 < ahd (w.drop x.2) ∧ atL w m = ((atL (w.drop x.2) x.1).1 + x.2, (atL (w.drop x.2) x.1).2) } → AS, ∀ x, St x = AS.of 65 [(11, .v (.complex .f64 (qf (4 * (x.1.1 : Nat))) (qf (4 * (x.1.2 : Nat))))), (45, .sl 0 1 (nats w)), (46, .v (.int .i64 w.length)), (47, .v (.int .i64 x.1.2))] [] [] := ⟨_, fun _ => rfl⟩
    refine vc_loop hΓ St (fun x => w.length - x.1.2) ⟨(m, 0), by simp, by simp only [List.drop_zero]; omega, by simp⟩ (by rw [hSt]; refine weak_go [] [] ?_; simp only [goRules, coreRules, tiRules, unRules, AS_of_eq, ← decide_not, N0, N1, N2, N3, N4, N5, Z0, Z1, Z2, Z3, Z4, Z5, Z6, Z7, Z8, Z9, Z10, Zc, ↓reduceIte, reduceCtorEq] <;> ((repeat' apply And.intro) <;> first | rfl | omega | trivial)) ?_
    rintro ⟨⟨q, i⟩, hi, hq, hat⟩
    simp only at hi hq hat
    have hall : ahd (w.drop i) ≤ ahd w := by
      have := ahd_app (w.take i) (w.drop i)
      rw [List.take_append_drop] at this
      omega
    rw [hSt]
    simp only
    simp only [goRules, coreRules, tiRules, unRules, AS_of_eq, ← decide_not, N0, N1, N2, N3, N4, N5, Z0, Z1, Z2, Z3, Z4, Z5, Z6, Z7, Z8, Z9, Z10, Zc, ↓reduceIte, reduceCtorEq, nats_len]
    (with_reducible first | refine branchP_dec (fun h => ?_) (fun h => ?_) | refine guardB_dec (fun h => ?_) (fun h => ?_))
    · have hlt : i < w.length := by omega
      have e1 := nats_getD w hlt
      have hxm := hmem _ (List.getElem_mem hlt)
      rw [List.drop_eq_getElem_cons hlt] at hq hat
      rw [atL] at hat
      simp only [ahd] at hq
      generalize w[i] = x at *
      have hti : Ieee.Datum.toInt Ieee.Toward.zero (FloatKind.f64.decode (qf (4 * (q : Int)))) = some (q : Int) := by
        have := qf_toInt (z := 4 * (q : Int)) (by omega)
        rw [tdiv_four] at this
        exact this
      have hrg : (IntKind.i64.min ≤ (q : Int) ∧ (q : Int) ≤ IntKind.i64.max) = True := eq_true (by
        have e1 : IntKind.i64.min = -9223372036854775808 := rfl
        have e2 : IntKind.i64.max = 9223372036854775807 := rfl
        omega)
      simp (disch := omega) only [goRules, coreRules, tiRules, unRules, AS_of_eq, ← decide_not, N0, N1, N2, N3, N4, N5, Z0, Z1, Z2, Z3, Z4, Z5, Z6, Z7, Z8, Z9, Z10, Zc, ↓reduceIte, reduceCtorEq, wrap_i64, h, e1, nats_len, hti, hrg]
      (repeat (with_reducible refine And.intro ?_ ?_; focus (first | omega | exact mixed1 | kernel_rfl)))
      by_cases h5 : q ≤ x
      · rw [if_pos h5] at hat
        simp (disch := omega) only [goRules, coreRules, tiRules, unRules, AS_of_eq, ← decide_not, N0, N1, N2, N3, N4, N5, Z0, Z1, Z2, Z3, Z4, Z5, Z6, Z7, Z8, Z9, Z10, Zc, ↓reduceIte, reduceCtorEq, wrap_i64, h, e1, nats_len, hti, hrg, show ((q : Int) ≤ x) = True from eq_true (by omega)]
        rw [hR, hat]
        simp
      · rw [if_neg h5] at hat
        have s1 : FloatKind.f64.format.sub (qf 0) (qf (4 * ((x : Int) + 1))) = some (qf (0 - 4 * ((x : Int) + 1))) := qf_sub (by decide) (by omega) (by omega) (by omega)
        have s2 : FloatKind.f64.format.sub (qf 4) (qf 0) = some (qf 4) := qf_sub (by decide) (by decide) (by decide) (by decide)
        have s3 : FloatKind.f64.format.add (qf (4 * (q : Int))) (qf (0 - 4 * ((x : Int) + 1))) = some (qf (4 * ((q - (x + 1) : Nat) : Int))) := by
          rw [show 4 * ((q - (x + 1) : Nat) : Int) = 4 * (q : Int) + (0 - 4 * ((x : Int) + 1)) by omega]
          exact qf_add (by omega) (by omega) (by omega)
        have s4 : FloatKind.f64.format.add (qf (4 * (i : Int))) (qf 4) = some (qf (4 * ((i + 1 : Nat) : Int))) := by
          rw [show 4 * ((i + 1 : Nat) : Int) = 4 * (i : Int) + 4 by omega]
          exact qf_add (by omega) (by decide) (by omega)
        simp only [goRules, coreRules, tiRules, unRules, AS_of_eq, ← decide_not, N0, N1, N2, N3, N4, N5, Z0, Z1, Z2, Z3, Z4, Z5, Z6, Z7, Z8, Z9, Z10, Zc, ↓reduceIte, reduceCtorEq, h, e1, nats_len, hti, hrg, show ((q : Int) ≤ x) = False from eq_false (by omega), cx1, fl0, cplx_some, s1, s2, s3, s4, wrap_i64 (n := (i : Int) + 1) (by omega) (by omega), wrap_i64 (n := (x : Int) + 1) (by omega) (by omega), near_qf (n := (x : Int) + 1) (by omega) (by omega)]
        refine weak_again ⟨(q - (x + 1), i + 1), by simp only; omega, by simp only; omega, by simp only; rw [hat]; simp; omega⟩ (by simp only; omega) ?_
        rw [hSt]; refine weak_go [] [] ?_
        simp only [goRules, coreRules, tiRules, unRules, AS_of_eq, ← decide_not, N0, N1, N2, N3, N4, N5, Z0, Z1, Z2, Z3, Z4, Z5, Z6, Z7, Z8, Z9, Z10, Zc, ↓reduceIte, reduceCtorEq] <;> ((repeat' apply And.intro) <;> first | rfl | omega | trivial)
    · rw [List.drop_of_length_le (by omega)] at hq
      simp [ahd] at hq
theorem call_gat {Γ : Env} (hf : Γ.get 14 = some gatCon) {σ : AS} {dr : Bool} {s : List UInt8} {p : Int} {d : Option Nat} {K : AS → Prop} (hs : s.length ≤ 1099511627776) (hp : -9223372036854775808 ≤ p ∧ p ≤ 9223372036854775807)
    (hk : cont σ d (gatR s p) K) : vcCall Tryd.prog Γ dr σ 14 [.v (sv s), .v (.int .i64 p)] d K :=
  vcCall_plain (C := gatCon) (i := (⟨s, hs⟩, ⟨p, hp⟩)) hf rfl rfl rfl rfl (fun _ h => h) (gatR_plain _ _) hk
end Go.Proofs
end

-- BUg5
section
namespace Go.Proofs
open Go Go.Rw
open _root_.Nat renaming reduceAdd → N0, reduceSub → N1, reduceMul → N2, reduceLT → N3, reduceLeDiff → N4, reduceEqDiff → N5
open _root_.Int renaming reduceNeg → Z0, reduceAdd → Z1, reduceSub → Z2, reduceMul → Z3, reduceGT → Z4, reduceGE → Z5, reduceLT → Z6, reduceLE → Z7, reduceEq → Z8, reduceNe → Z9, reduceToNat → Z10, cast_ofNat_Int → Zc
set_option maxRecDepth 100000
set_option linter.unusedSimpArgs false
set_option linter.unusedVariables false

def stOk (w : List Nat) (z u bz bu : Int) : Prop := ptOk w z u ∧ whOk bz (-1048576) 1048576 ∧ whOk bu (-1048576) 1048576
instance (w : List Nat) (a b c d : Int) : Decidable (stOk w a b c d) := by unfold stOk; infer_instance
def stLine (w : List Nat) (u bu : Int) : Int := min (max ((u + bu) / 4) 0) ((w.length : Int) - 1)
def stCol (w : List Nat) (z u bz bu : Int) : Int := min (max ((z + bz) / 4) 0) (w.getD (stLine w u bu).toNat 0)
def stepR (s : List UInt8) (z u bz bu : Int) : AV := match pts s with
  | some cs => if stOk (lns cs) z u bz bu then .tup [cq (4 * stCol (lns cs) z u bz bu) (4 * stLine (lns cs) u bu), .v (.int .i64 0)] else .tup [cq 0 0, .v (.int .i64 1)]
  | none => .tup [cq 0 0, .v (.int .i64 2)]
theorem stepR_plain (s : List UInt8) (a b c d : Int) : (stepR s a b c d).plain = true := by
  unfold stepR
  split
  · split <;> rfl
  · rfl
def byOk (b : Int) : Prop := (-1125899906842624 < b ∧ b < 1125899906842624) ∧ (0 ≤ b ∨ b % 4 = 0)
abbrev stepCon : Con where
  ι := Str × Pnt × { p : Int × Int // byOk p.1 ∧ byOk p.2 }
  args := fun p => [.v (sv p.1.1), cq p.2.1.1.1 p.2.1.1.2, cq p.2.2.1.1 p.2.2.1.2]
  post := fun p r => r = stepR p.1.1 p.2.1.1.1 p.2.1.1.2 p.2.2.1.1 p.2.2.1.2
  plain := true
theorem conv_q {z : Int} (h1 : -4503599627370496 < z) (h2 : z < 4503599627370496) (h : z % 4 = 0) : Ieee.Datum.toInt Ieee.Toward.zero (FloatKind.f64.decode (qf z)) = some (z / 4) := by
  have := qf_toInt (z := z) (by omega)
  rw [show z.tdiv 4 = z / 4 by have := tdiv_abs z; split at this <;> omega] at this
  exact this
theorem rng_i64 {z : Int} (h1 : -4503599627370496 < z) (h2 : z < 4503599627370496) : (IntKind.i64.min ≤ z ∧ z ≤ IntKind.i64.max) = True := eq_true (by
  have e1 : IntKind.i64.min = -9223372036854775808 := rfl
  have e2 : IntKind.i64.max = 9223372036854775807 := rfl
  omega)
theorem gstep_good : Rw.Good Tryd.prog 18 stepCon := by
  have hΓ : GoodEnv Tryd.prog [(39, wdCon), (40, ptCon), (41, whCon)] := (goodEnv_cons wd_good (goodEnv_cons gpoint_good (goodEnv_cons whole_good goodEnv_nil)))
  refine good_fn (nn := 79) hΓ Tryd.func18 (by kernel_rfl) rfl (show Tryd.f18.results.toList = [.tmp 6, .tmp 7] from rfl) (fun _ => rfl) (fun _ => rfl) ?_
  rintro ⟨⟨s, hs⟩, ⟨⟨z, u⟩, hz, hu⟩, ⟨⟨bz, bu⟩, hbz, hbu⟩⟩
  simp only at hz hu hbz hbu
  simp only [cq]
  simp only [goRules, coreRules, tiRules, unRules, AS_of_eq, ← decide_not, N0, N1, N2, N3, N4, N5, Z0, Z1, Z2, Z3, Z4, Z5, Z6, Z7, Z8, Z9, Z10, Zc, ↓reduceIte, reduceCtorEq, cx0]
  refine call_wd (by simp [get_cons]) hs ?_
  cases hp : pts s with
  | none =>
    simp only [goRules, coreRules, tiRules, unRules, AS_of_eq, ← decide_not, N0, N1, N2, N3, N4, N5, Z0, Z1, Z2, Z3, Z4, Z5, Z6, Z7, Z8, Z9, Z10, Zc, ↓reduceIte, reduceCtorEq, wdR, hp, cx0]
    unfold stepR; rw [hp, cq]
  | some cs =>
    obtain ⟨ho, he⟩ := pts_some hp
    have hl := encs_le cs
    rw [← he] at hl
    have hA := lns_ahd cs
    have hL := lns_len cs
    have hW := lns_wd (cs := cs) (by omega)
    have hR : stepR s z u bz bu = if stOk (lns cs) z u bz bu then .tup [cq (4 * stCol (lns cs) z u bz bu) (4 * stLine (lns cs) u bu), .v (.int .i64 0)] else .tup [cq 0 0, .v (.int .i64 1)] := by unfold stepR; rw [hp]
    simp only [cq] at hR
    simp only [goRules, coreRules, tiRules, unRules, AS_of_eq, ← decide_not, N0, N1, N2, N3, N4, N5, Z0, Z1, Z2, Z3, Z4, Z5, Z6, Z7, Z8, Z9, Z10, Zc, ↓reduceIte, reduceCtorEq, wdR, hp, nats_len, cx0]
    refine call_gpoint (by simp [get_cons]) rfl hW hz hu ?_
    intro a b hab
    generalize lns cs = w at *
    simp only [goRules, coreRules, tiRules, unRules, AS_of_eq, ← decide_not, N0, N1, N2, N3, N4, N5, Z0, Z1, Z2, Z3, Z4, Z5, Z6, Z7, Z8, Z9, Z10, Zc, ↓reduceIte, reduceCtorEq]
    refine call_whole (by simp [get_cons]) (show whPre bz (-1048576) 1048576 from ⟨hbz.1, by omega, by omega, .inr hbz.2⟩) ?_
    have hw1 : ∃ x, whR bz (-1048576) 1048576 = .tup [.v (.int .i64 x), .v (.bool (decide (whOk bz (-1048576) 1048576)))] := by
      unfold whR
      by_cases h : whOk bz (-1048576) 1048576
      · rw [if_pos h]; exact ⟨_, by rw [decide_eq_true h]⟩
      · rw [if_neg h]; exact ⟨_, by rw [decide_eq_false h]⟩
    have hw2 : ∃ x, whR bu (-1048576) 1048576 = .tup [.v (.int .i64 x), .v (.bool (decide (whOk bu (-1048576) 1048576)))] := by
      unfold whR
      by_cases h : whOk bu (-1048576) 1048576
      · rw [if_pos h]; exact ⟨_, by rw [decide_eq_true h]⟩
      · rw [if_neg h]; exact ⟨_, by rw [decide_eq_false h]⟩
    obtain ⟨x1, hw1⟩ := hw1
    obtain ⟨x2, hw2⟩ := hw2
    simp only [goRules, coreRules, tiRules, unRules, AS_of_eq, ← decide_not, N0, N1, N2, N3, N4, N5, Z0, Z1, Z2, Z3, Z4, Z5, Z6, Z7, Z8, Z9, Z10, Zc, ↓reduceIte, reduceCtorEq, hw1]
    refine call_whole (by simp [get_cons]) (show whPre bu (-1048576) 1048576 from ⟨hbu.1, by omega, by omega, .inr hbu.2⟩) ?_
    by_cases k1 : ptOk w z u
    case neg =>
      simp only [goRules, coreRules, tiRules, unRules, AS_of_eq, ← decide_not, N0, N1, N2, N3, N4, N5, Z0, Z1, Z2, Z3, Z4, Z5, Z6, Z7, Z8, Z9, Z10, Zc, ↓reduceIte, reduceCtorEq, hw2, k1, cx0]
      rw [hR, if_neg (fun h => k1 h.1)]
    by_cases k2 : whOk bz (-1048576) 1048576
    case neg =>
      simp only [goRules, coreRules, tiRules, unRules, AS_of_eq, ← decide_not, N0, N1, N2, N3, N4, N5, Z0, Z1, Z2, Z3, Z4, Z5, Z6, Z7, Z8, Z9, Z10, Zc, ↓reduceIte, reduceCtorEq, hw2, k1, k2, cx0]
      rw [hR, if_neg (fun h => k2 h.2.1)]
    by_cases k3 : whOk bu (-1048576) 1048576
    case neg =>
      simp only [goRules, coreRules, tiRules, unRules, AS_of_eq, ← decide_not, N0, N1, N2, N3, N4, N5, Z0, Z1, Z2, Z3, Z4, Z5, Z6, Z7, Z8, Z9, Z10, Zc, ↓reduceIte, reduceCtorEq, hw2, k1, k2, k3, cx0]
      rw [hR, if_neg (fun h => k3 h.2.2)]
    rw [if_pos ⟨k1, k2, k3⟩] at hR
    obtain ⟨⟨u1, u2, u3⟩, z1, z2, z3⟩ := id k1
    obtain ⟨b1, b2, b3⟩ := id k2
    obtain ⟨c1, c2, c3⟩ := id k3
    have hz4 := hW.get (u / 4).toNat
    have hln : 0 ≤ stLine w u bu ∧ stLine w u bu < w.length := by unfold stLine; omega
    have hg := hW.get (stLine w u bu).toNat
    have e1 : (nats w).getD (stLine w u bu).toNat .any = .v (.int .i64 (w.getD (stLine w u bu).toNat 0 : Nat)) := by
      rw [nats_getD w (by omega), List.getD_eq_getElem?_getD, List.getElem?_eq_getElem (by omega)]; rfl
    have hcl : 0 ≤ stCol w z u bz bu ∧ stCol w z u bz bu ≤ 1099511627776 := by unfold stCol; omega
    have a1 : FloatKind.f64.format.add (qf z) (qf bz) = some (qf (z + bz)) := qf_add (by omega) (by omega) (by omega)
    have a2 : FloatKind.f64.format.add (qf u) (qf bu) = some (qf (u + bu)) := qf_add (by omega) (by omega) (by omega)
    have t1 := conv_q (z := u + bu) (by omega) (by omega) (by omega)
    have t2 := conv_q (z := z + bz) (by omega) (by omega) (by omega)
    have r1 := rng_i64 (z := (u + bu) / 4) (by omega) (by omega)
    have r2 := rng_i64 (z := (z + bz) / 4) (by omega) (by omega)
    have hlw := hW.2.1
    simp only [goRules, coreRules, tiRules, unRules, AS_of_eq, ← decide_not, N0, N1, N2, N3, N4, N5, Z0, Z1, Z2, Z3, Z4, Z5, Z6, Z7, Z8, Z9, Z10, Zc, ↓reduceIte, reduceCtorEq, hw2, k1, k2, k3, cx0, cplx_some, a1, a2, t1, t2, r1, r2, max2_int, min2_int, nats_len, wrap_i64 (n := (w.length : Int) - 1) (by omega) (by omega), show min (max ((u + bu) / 4) 0) ((w.length : Int) - 1) = stLine w u bu from rfl, e1]
    (repeat (with_reducible refine And.intro ?_ ?_; focus (first | omega | exact mixed1 | kernel_rfl)))
    simp only [goRules, coreRules, tiRules, unRules, AS_of_eq, ← decide_not, N0, N1, N2, N3, N4, N5, Z0, Z1, Z2, Z3, Z4, Z5, Z6, Z7, Z8, Z9, Z10, Zc, ↓reduceIte, reduceCtorEq, show min (max ((z + bz) / 4) 0) ((w.getD (stLine w u bu).toNat 0 : Nat) : Int) = stCol w z u bz bu from rfl, near_qf (n := stCol w z u bz bu) (by omega) (by omega), near_qf (n := stLine w u bu) (by omega) (by omega)]
    rw [hR]
theorem call_gstep {Γ : Env} (hf : Γ.get 18 = some stepCon) {σ : AS} {dr : Bool} {s : List UInt8} {z u bz bu : Int} {d : Option Nat} {K : AS → Prop} (hs : s.length ≤ 1099511627776) (hz : -1125899906842624 < z ∧ z < 1125899906842624) (hu : -1125899906842624 < u ∧ u < 1125899906842624) (h1 : byOk bz) (h2 : byOk bu)
    (hk : cont σ d (stepR s z u bz bu) K) : vcCall Tryd.prog Γ dr σ 18 [.v (sv s), .v (.complex .f64 (qf z) (qf u)), .v (.complex .f64 (qf bz) (qf bu))] d K :=
  vcCall_plain (C := stepCon) (i := (⟨s, hs⟩, ⟨(z, u), hz, hu⟩, ⟨(bz, bu), h1, h2⟩)) hf rfl rfl rfl rfl (fun _ h => h) (stepR_plain _ _ _ _ _) hk
abbrev rlinCon : Con where
  ι := { q : List UInt8 × List Nat // q.1.length ≤ 1099511627776 ∧ pts q.1 = some q.2 }
  args := fun q => [.v (sv q.1.1)]
  post := fun q r => r = .tup [.sl 0 1 (nats (begF 0 (lns q.1.2))), .sl 0 1 (nats (lns q.1.2))]
theorem nats_cons1 (l : List Nat) (i : Nat) : nats l ++ [.v (.int .i64 ((i : Int) + 1))] = nats (l ++ [i + 1]) := by simp [nats, ints]
theorem rlines_good : Rw.Good Tryd.prog 16 rlinCon := by
  have hΓ : GoodEnv Tryd.prog [(38, rpointsCon)] := (goodEnv_cons rpoints_good goodEnv_nil)
  refine good_fn (nn := 43) hΓ Tryd.func16 (by kernel_rfl) rfl (show Tryd.f16.results.toList = [.tmp 2, .tmp 3] from rfl) (fun _ => rfl) (fun _ => rfl) ?_
  rintro ⟨⟨s, cs⟩, hs, hp⟩
  simp only at hs hp
  obtain ⟨ho, he⟩ := pts_some hp
  have hl := encs_le cs
  rw [← he] at hl
  simp only [goRules, coreRules, tiRules, unRules, AS_of_eq, ← decide_not, N0, N1, N2, N3, N4, N5, Z0, Z1, Z2, Z3, Z4, Z5, Z6, Z7, Z8, Z9, Z10, Zc, ↓reduceIte, reduceCtorEq]
  refine call_rpoints (by simp [get_cons]) hs ?_
  simp only [goRules, coreRules, tiRules, unRules, AS_of_eq, ← decide_not, N0, N1, N2, N3, N4, N5, Z0, Z1, Z2, Z3, Z4, Z5, Z6, Z7, Z8, Z9, Z10, Zc, ↓reduceIte, reduceCtorEq, rpointsR, hp, List.map_cons, List.map_nil]
  obtain ⟨St, hSt⟩ : ∃ St : { q : List Nat × List Nat × Nat × Nat // q.2.2.2 ≤ cs.length ∧ q.2.2.1 ≤ q.2.2.2 ∧ q.1.length ≤ q.2.2.2 + 1 ∧ q.2.1.length ≤ q.2.2.2 ∧ q.2.1 ++ wids q.2.2.1 (cs.drop q.2.2.2) = lns cs ∧ q.1 ++ (begF (q.2.2.2 - q.2.2.1) (wids q.2.2.1 (cs.drop q.2.2.2))).tail = begF 0 (lns cs) } → AS, ∀ q, St q = AS.of 43 [(4, .sl 0 1 (nats cs)), (6, .sl 2 1 (nats q.1.1)), (7, .sl 3 1 (nats q.1.2.1)), (8, .v (.int .i64 q.1.2.2.1)), (9, .v (.int .i64 q.1.2.2.2))] [] [(q.1.1.length, 3), (q.1.2.1.length, 3)] := ⟨_, fun _ => rfl⟩
  refine vc_loop hΓ St (fun q => cs.length - q.1.2.2.2) ⟨([0], [], 0, 0), by simp, by simp, by simp, by simp, rfl, by
    simp only [List.drop_zero, Nat.sub_self]
    show [0] ++ (begF 0 (wids 0 cs)).tail = begF 0 (wids 0 cs)
    obtain ⟨m, r, h⟩ := wids_ne cs 0
    rw [h]; simp [begF]⟩ (by rw [hSt]; refine weak_go [] [.live 2, .nil 1] ?_; simp only [goRules, coreRules, tiRules, unRules, AS_of_eq, ← decide_not, N0, N1, N2, N3, N4, N5, Z0, Z1, Z2, Z3, Z4, Z5, Z6, Z7, Z8, Z9, Z10, Zc, ↓reduceIte, reduceCtorEq, nats_nil] <;> ((repeat' apply And.intro) <;> first | rfl | omega | trivial)) ?_
  rintro ⟨⟨B, W, n, i⟩, hi, hni, hBl, hWl, hw, hb⟩
  simp only at hi hni hBl hWl hw hb
  rw [hSt]
  simp only
  simp only [goRules, coreRules, tiRules, unRules, AS_of_eq, ← decide_not, N0, N1, N2, N3, N4, N5, Z0, Z1, Z2, Z3, Z4, Z5, Z6, Z7, Z8, Z9, Z10, Zc, ↓reduceIte, reduceCtorEq, nats_len]
  (with_reducible first | refine branchP_dec (fun h => ?_) (fun h => ?_) | refine guardB_dec (fun h => ?_) (fun h => ?_))
  · have hlt : i < cs.length := by omega
    have e1 := nats_getD cs hlt
    rw [List.drop_eq_getElem_cons hlt, wids] at hw hb
    have hc := ho _ (List.getElem_mem hlt)
    generalize cs[i] = c at *
    simp (disch := omega) only [goRules, coreRules, tiRules, unRules, AS_of_eq, ← decide_not, N0, N1, N2, N3, N4, N5, Z0, Z1, Z2, Z3, Z4, Z5, Z6, Z7, Z8, Z9, Z10, Zc, ↓reduceIte, reduceCtorEq, wrap_i64, h, e1, nats_len]
    (repeat (with_reducible refine And.intro ?_ ?_; focus (first | omega | exact mixed1 | kernel_rfl)))
    by_cases h5 : c = 10
    · rw [if_pos h5] at hw hb
      rw [begF, List.tail_cons, show i - n + n + 1 = i + 1 by omega] at hb
      simp (disch := omega) only [goRules, coreRules, tiRules, unRules, AS_of_eq, ← decide_not, N0, N1, N2, N3, N4, N5, Z0, Z1, Z2, Z3, Z4, Z5, Z6, Z7, Z8, Z9, Z10, Zc, ↓reduceIte, reduceCtorEq, wrap_i64, h, e1, nats_len, show ((c : Int) = 10) = True from eq_true (by omega), List.map_cons, List.map_nil]
      (repeat (with_reducible refine And.intro ?_ ?_; focus (first | omega | exact mixed1 | kernel_rfl)))
      refine weak_again ⟨(B ++ [i + 1], W ++ [n], 0, i + 1), by simp only; omega, by simp only; omega, by simp only [List.length_append, List.length_singleton]; omega, by simp only [List.length_append, List.length_singleton]; omega, by simp only [List.append_assoc, List.singleton_append]; exact hw, by
        simp only [List.append_assoc, List.singleton_append, Nat.sub_zero]
        rw [← hb]
        obtain ⟨m, r, h⟩ := wids_ne (cs.drop (i + 1)) 0
        rw [h]; simp [begF]⟩ (by simp only; omega) ?_
      rw [hSt]
      simp only [List.length_append, List.length_singleton]
      refine weak_go [] [.live 2, .live 3] ?_
      rw [nats_snoc, nats_cons1]
      simp only [goRules, coreRules, tiRules, unRules, AS_of_eq, ← decide_not, N0, N1, N2, N3, N4, N5, Z0, Z1, Z2, Z3, Z4, Z5, Z6, Z7, Z8, Z9, Z10, Zc, ↓reduceIte, reduceCtorEq, nats_len, List.length_append] <;> ((repeat' apply And.intro) <;> first | rfl | omega | trivial)
    · rw [if_neg h5] at hw hb
      simp (disch := omega) only [goRules, coreRules, tiRules, unRules, AS_of_eq, ← decide_not, N0, N1, N2, N3, N4, N5, Z0, Z1, Z2, Z3, Z4, Z5, Z6, Z7, Z8, Z9, Z10, Zc, ↓reduceIte, reduceCtorEq, wrap_i64, h, e1, nats_len, show ((c : Int) = 10) = False from eq_false (by omega)]
      (repeat (with_reducible refine And.intro ?_ ?_; focus (first | omega | exact mixed1 | kernel_rfl)))
      refine weak_again ⟨(B, W, n + 1, i + 1), by simp only; omega, by simp only; omega, by simp only; omega, by simp only; omega, hw, by simp only; rw [show i + 1 - (n + 1) = i - n by omega]; exact hb⟩ (by simp only; omega) ?_
      rw [hSt]
      simp only
      refine weak_go [] [.live 2, .live 3] ?_
      simp only [goRules, coreRules, tiRules, unRules, AS_of_eq, ← decide_not, N0, N1, N2, N3, N4, N5, Z0, Z1, Z2, Z3, Z4, Z5, Z6, Z7, Z8, Z9, Z10, Zc, ↓reduceIte, reduceCtorEq, nats_len] <;> ((repeat' apply And.intro) <;> first | rfl | omega | trivial)
  · rw [List.drop_of_length_le (by omega), wids] at hw hb
    simp only [begF, List.tail_cons, List.append_nil] at hb
    simp only [goRules, coreRules, tiRules, unRules, AS_of_eq, ← decide_not, N0, N1, N2, N3, N4, N5, Z0, Z1, Z2, Z3, Z4, Z5, Z6, Z7, Z8, Z9, Z10, Zc, ↓reduceIte, reduceCtorEq, h, nats_len, List.map_cons, List.map_nil]
    (repeat (with_reducible refine And.intro ?_ ?_; focus (first | omega | exact mixed1 | kernel_rfl)))
    rw [nats_snoc, hw, hb]
theorem call_rlines {Γ : Env} (hf : Γ.get 16 = some rlinCon) {σ : AS} {dr : Bool} {s : List UInt8} {cs : List Nat} {d : Option Nat} {K : AS → Prop} (hs : s.length ≤ 1099511627776) (hp : pts s = some cs)
    (hk : cont σ d (.tup [.sl 0 1 (nats (begF 0 (lns cs))), .sl 0 1 (nats (lns cs))]) K) : vcCall Tryd.prog Γ dr σ 16 [.v (sv s)] d K :=
  vcCall_fn (C := rlinCon) (i := ⟨(s, cs), hs, hp⟩) (r := .tup [.sl 0 1 (nats (begF 0 (lns cs))), .sl 0 1 (nats (lns cs))]) hf rfl rfl rfl rfl (fun _ h => h) hk
theorem atL_begin {w : List Nat} {p k : Nat} (hp : p < ahd w) (hk : k < w.length) : ahd (w.take k) ≤ p ↔ k ≤ (atL w p).1 := by
  obtain ⟨h1, h2, h3⟩ := atL_facts w p hp
  constructor
  · intro h
    apply Classical.byContradiction
    intro hn
    have h4 := ahd_take_mono (w := w) (i := (atL w p).1 + 1) (j := k) (by omega)
    rw [List.take_succ_eq_append_getElem h1, ahd_app] at h4
    simp only [ahd] at h4
    have h7 : w.getD (atL w p).1 0 = w[(atL w p).1] := by rw [List.getD_eq_getElem?_getD, List.getElem?_eq_getElem h1]; rfl
    omega
  · intro h
    have h4 := ahd_take_mono (w := w) h
    omega
abbrev ratCon : Con where
  ι := { q : List UInt8 × List Nat × Nat // q.1.length ≤ 1099511627776 ∧ pts q.1 = some q.2.1 ∧ q.2.2 ≤ q.2.1.length }
  args := fun q => [.v (sv q.1.1), .v (.int .i64 q.1.2.2)]
  post := fun q r => r = .tup [.v (.int .i64 (atL (lns q.1.2.1) q.1.2.2).1), .v (.int .i64 (atL (lns q.1.2.1) q.1.2.2).2)]
  plain := true
theorem rat_good : Rw.Good Tryd.prog 19 ratCon := by
  have hΓ : GoodEnv Tryd.prog [(16, rlinCon)] := (goodEnv_cons rlines_good goodEnv_nil)
  refine good_fn (nn := 32) hΓ Tryd.func19 (by kernel_rfl) rfl (show Tryd.f19.results.toList = [.tmp 4, .tmp 5] from rfl) (fun _ => rfl) (fun _ => rfl) ?_
  rintro ⟨⟨s, cs, p⟩, hs, hp, hpl⟩
  simp only at hs hp hpl
  obtain ⟨ho, he⟩ := pts_some hp
  have hl := encs_le cs
  rw [← he] at hl
  have hA := lns_ahd cs
  have hL := lns_len cs
  simp only [goRules, coreRules, tiRules, unRules, AS_of_eq, ← decide_not, N0, N1, N2, N3, N4, N5, Z0, Z1, Z2, Z3, Z4, Z5, Z6, Z7, Z8, Z9, Z10, Zc, ↓reduceIte, reduceCtorEq]
  refine call_rlines (by simp [get_cons]) hs hp ?_
  generalize hw : lns cs = w at *
  have hbl := begF_len w 0
  have hbg := begF_get w 0
  have hab := fun (k : Nat) (hk : k < w.length) => atL_begin (p := p) (k := k) (by omega) hk
  obtain ⟨f1, f2, f3⟩ := atL_facts w p (by omega)
  generalize begF 0 w = B at *
  generalize hLq : atL w p = L at *
  obtain ⟨ln, cl⟩ := L
  simp only at f1 f2 f3 hab
  have e0 : ∀ k : Nat, k < w.length → (nats B).getD k .any = .v (.int .i64 (ahd (w.take k) : Nat)) := fun k hk => by
    have h2 := hbg k hk
    rw [List.getElem?_eq_getElem (by omega)] at h2
    have h3 := Option.some.inj h2
    rw [nats_getD B (by omega), h3, Nat.zero_add]
  have ht : ∀ k, ahd (w.take k) ≤ ahd w := fun k => by
    have h1 := ahd_app (w.take k) (w.drop k)
    rw [List.take_append_drop] at h1
    omega
  simp only [goRules, coreRules, tiRules, unRules, AS_of_eq, ← decide_not, N0, N1, N2, N3, N4, N5, Z0, Z1, Z2, Z3, Z4, Z5, Z6, Z7, Z8, Z9, Z10, Zc, ↓reduceIte, reduceCtorEq, nats_len, hbl, wrap_i64 (n := (w.length : Int) - 1) (by omega) (by omega)]
  obtain ⟨St, hSt⟩ : ∃ St : { k : Nat // k < w.length ∧ ln ≤ k } → AS, ∀ k, St k = AS.of 32 [(1, .v (.int .i64 p)), (6, .sl 0 1 (nats B)), (8, .v (.int .i64 k.1))] [] [] := ⟨_, fun _ => rfl⟩
  refine vc_loop hΓ St (fun k => k.1) ⟨w.length - 1, by omega, by omega⟩ (by rw [hSt]; refine weak_go [] [] ?_; simp only [goRules, coreRules, tiRules, unRules, AS_of_eq, ← decide_not, N0, N1, N2, N3, N4, N5, Z0, Z1, Z2, Z3, Z4, Z5, Z6, Z7, Z8, Z9, Z10, Zc, ↓reduceIte, reduceCtorEq, show (((w.length - 1 : Nat) : Int)) = (w.length : Int) - 1 by omega] <;> ((repeat' apply And.intro) <;> first | rfl | omega | trivial)) ?_
  rintro ⟨k, hk, hlk⟩
  rw [hSt]
  simp only
  have e1 := e0 k hk
  have hk2 := hab k hk
  have hk3 := ht k
  simp only [goRules, coreRules, tiRules, unRules, AS_of_eq, ← decide_not, N0, N1, N2, N3, N4, N5, Z0, Z1, Z2, Z3, Z4, Z5, Z6, Z7, Z8, Z9, Z10, Zc, ↓reduceIte, reduceCtorEq, nats_len, hbl, e1]
  (repeat (with_reducible refine And.intro ?_ ?_; focus (first | omega | exact mixed1 | kernel_rfl)))
  by_cases h : ahd (w.take k) > p
  · simp only [goRules, coreRules, tiRules, unRules, AS_of_eq, ← decide_not, N0, N1, N2, N3, N4, N5, Z0, Z1, Z2, Z3, Z4, Z5, Z6, Z7, Z8, Z9, Z10, Zc, ↓reduceIte, reduceCtorEq, nats_len, hbl, e1, show ((ahd (w.take k) : Int) > p) = True from eq_true (by omega), wrap_i64 (n := (k : Int) - 1) (by omega) (by omega)]
    refine weak_again ⟨k - 1, by omega, by omega⟩ (by simp only; omega) ?_
    rw [hSt]; refine weak_go [] [] ?_
    simp only [goRules, coreRules, tiRules, unRules, AS_of_eq, ← decide_not, N0, N1, N2, N3, N4, N5, Z0, Z1, Z2, Z3, Z4, Z5, Z6, Z7, Z8, Z9, Z10, Zc, ↓reduceIte, reduceCtorEq] <;> ((repeat' apply And.intro) <;> first | rfl | omega | trivial)
  · have hkl : k = ln := by omega
    subst hkl
    simp only [goRules, coreRules, tiRules, unRules, AS_of_eq, ← decide_not, N0, N1, N2, N3, N4, N5, Z0, Z1, Z2, Z3, Z4, Z5, Z6, Z7, Z8, Z9, Z10, Zc, ↓reduceIte, reduceCtorEq, nats_len, hbl, e1, show ((ahd (w.take k) : Int) > p) = False from eq_false (by omega)]
    (repeat (with_reducible refine And.intro ?_ ?_; focus (first | omega | exact mixed1 | kernel_rfl)))
    rw [hw, hLq, wrap_i64 (by omega) (by omega), show (p : Int) - (ahd (w.take k) : Nat) = (cl : Nat) by omega]
theorem call_rat {Γ : Env} (hf : Γ.get 19 = some ratCon) {σ : AS} {dr : Bool} {s : List UInt8} {cs : List Nat} {p : Nat} {d : Option Nat} {K : AS → Prop} (hs : s.length ≤ 1099511627776) (hp : pts s = some cs) (h : p ≤ cs.length)
    (hk : cont σ d (.tup [.v (.int .i64 (atL (lns cs) p).1), .v (.int .i64 (atL (lns cs) p).2)]) K) : vcCall Tryd.prog Γ dr σ 19 [.v (sv s), .v (.int .i64 p)] d K :=
  vcCall_plain (C := ratCon) (i := ⟨(s, cs, p), hs, hp, h⟩) hf rfl rfl rfl rfl (fun _ h => h) rfl hk
end Go.Proofs
end

-- BUg6
section
namespace Go.Proofs
open Go Go.Rw
open _root_.Nat renaming reduceAdd → N0, reduceSub → N1, reduceMul → N2, reduceLT → N3, reduceLeDiff → N4, reduceEqDiff → N5
open _root_.Int renaming reduceNeg → Z0, reduceAdd → Z1, reduceSub → Z2, reduceMul → Z3, reduceGT → Z4, reduceGE → Z5, reduceLT → Z6, reduceLE → Z7, reduceEq → Z8, reduceNe → Z9, reduceToNat → Z10, cast_ofNat_Int → Zc
set_option maxRecDepth 100000
set_option linter.unusedSimpArgs false
set_option linter.unusedVariables false

theorem a12 : pts [97, 98, 10, 99] = some [97, 98, 10, 99] := by decide +kernel
theorem a12b : pts [97, 98] = some [97, 98] := by decide +kernel
theorem a12c : lns [97, 98, 10, 99] = [2, 1] ∧ lns [97, 98] = [2] := by decide +kernel
theorem a12d : gatR [97, 98, 10, 99] 3 = .tup [cq 0 4, .v (.int .i64 0)] := by
  unfold gatR; rw [a12]; simp only; rw [a12c.1, if_pos (by decide)]; rfl
theorem a12e : glR [97, 98, 10, 99] = .tup [.v (.int .i64 2), .v (.int .i64 0)] ∧ glR [255] = .tup [.v (.int .i64 0), .v (.int .i64 2)] := by
  unfold glR; rw [a12, pts_b]; simp only; rw [a12c.1]; exact ⟨rfl, trivial⟩
theorem a12f : gwR [97, 98, 10, 99] 0 = .tup [.v (.int .i64 2), .v (.int .i64 0)] := by
  unfold gwR; rw [a12]; simp only; rw [a12c.1]; rfl
theorem a12g : plcR [97, 98] 0 4 = .tup [.v (.int .i64 0), .v (.int .i64 1)] := by
  unfold plcR; rw [a12b]; simp only; rw [a12c.2, if_neg (by decide)]
theorem a12h : stepR [97, 98, 10, 99] 8 0 0 20 = .tup [cq 4 4, .v (.int .i64 0)] := by
  unfold stepR; rw [a12]; simp only; rw [a12c.1, if_pos (by decide)]; rfl
theorem cq1 : Value.complex .f64 0 4607182418800017408 = .complex .f64 (qf 0) (qf 4) := cx1
theorem cq2 : Value.complex .f64 4611686018427387904 0 = .complex .f64 (qf 8) (qf 0) := by rw [show qf 8 = 4611686018427387904 from by decide +kernel, qf_zero]
theorem cq3 : Value.complex .f64 0 4617315517961601024 = .complex .f64 (qf 0) (qf 20) := by rw [show qf 20 = 4617315517961601024 from by decide +kernel, qf_zero]
theorem cq4 : Value.complex .f64 4607182418800017408 4607182418800017408 = .complex .f64 (qf 4) (qf 4) := by rw [show qf 4 = 4607182418800017408 from by decide +kernel]
theorem awake12_good : Rw.Good Tryd.prog 12 trueCon := by
  have hΓ : GoodEnv Tryd.prog [(14, gatCon), (21, glCon), (22, gwCon), (15, plcCon), (18, stepCon)] := (goodEnv_cons gat_good (goodEnv_cons glines_good (goodEnv_cons gwidth_good (goodEnv_cons gplace_good (goodEnv_cons gstep_good goodEnv_nil)))))
  refine good_fn (nn := 75) hΓ Tryd.func12 (by kernel_rfl) rfl (show Tryd.f12.results.toList = [.tmp 0] from rfl) (fun _ => rfl) (fun _ => rfl) ?_
  intro _
  simp only [goRules, coreRules, tiRules, unRules, AS_of_eq, ← decide_not, N0, N1, N2, N3, N4, N5, Z0, Z1, Z2, Z3, Z4, Z5, Z6, Z7, Z8, Z9, Z10, Zc, ↓reduceIte, reduceCtorEq]
  refine call_gat (s := [97, 98, 10, 99]) (by simp [get_cons]) (by simp) (by omega) ?_
  simp only [goRules, coreRules, tiRules, unRules, AS_of_eq, ← decide_not, N0, N1, N2, N3, N4, N5, Z0, Z1, Z2, Z3, Z4, Z5, Z6, Z7, Z8, Z9, Z10, Zc, ↓reduceIte, reduceCtorEq, a12d, cq]
  refine call_glines (s := [97, 98, 10, 99]) (by simp [get_cons]) (by simp) ?_
  simp only [goRules, coreRules, tiRules, unRules, AS_of_eq, ← decide_not, N0, N1, N2, N3, N4, N5, Z0, Z1, Z2, Z3, Z4, Z5, Z6, Z7, Z8, Z9, Z10, Zc, ↓reduceIte, reduceCtorEq, a12e.1]
  refine call_gwidth (s := [97, 98, 10, 99]) (by simp [get_cons]) (by simp) (by omega) ?_
  simp only [goRules, coreRules, tiRules, unRules, AS_of_eq, ← decide_not, N0, N1, N2, N3, N4, N5, Z0, Z1, Z2, Z3, Z4, Z5, Z6, Z7, Z8, Z9, Z10, Zc, ↓reduceIte, reduceCtorEq, a12f, cq1]
  refine call_gplace (s := [97, 98]) (by simp [get_cons]) (by simp) (by omega) (by omega) ?_
  simp only [goRules, coreRules, tiRules, unRules, AS_of_eq, ← decide_not, N0, N1, N2, N3, N4, N5, Z0, Z1, Z2, Z3, Z4, Z5, Z6, Z7, Z8, Z9, Z10, Zc, ↓reduceIte, reduceCtorEq, a12g, cq2, cq3]
  refine call_gstep (s := [97, 98, 10, 99]) (by simp [get_cons]) (by simp) (by omega) (by omega) (by unfold byOk; omega) (by unfold byOk; omega) ?_
  simp only [goRules, coreRules, tiRules, unRules, AS_of_eq, ← decide_not, N0, N1, N2, N3, N4, N5, Z0, Z1, Z2, Z3, Z4, Z5, Z6, Z7, Z8, Z9, Z10, Zc, ↓reduceIte, reduceCtorEq, a12h, cq]
  refine call_glines (s := [255]) (by simp [get_cons]) (by simp) ?_
  simp only [goRules, coreRules, tiRules, unRules, AS_of_eq, ← decide_not, N0, N1, N2, N3, N4, N5, Z0, Z1, Z2, Z3, Z4, Z5, Z6, Z7, Z8, Z9, Z10, Zc, ↓reduceIte, reduceCtorEq, a12e.2, cq1, cq4, ordq (z := 0) (w := 0) (by omega) (by omega) (by omega) (by omega), ordq (z := 4) (w := 4) (by omega) (by omega) (by omega) (by omega)]
theorem call_awake12 {Γ : Env} (hf : Γ.get 12 = some trueCon) {σ : AS} {dr : Bool} {d : Option Nat} {K : AS → Prop}
    (hk : cont σ d (.v (.bool true)) K) : vcCall Tryd.prog Γ dr σ 12 [] d K :=
  vcCall_plain (C := trueCon) (i := ()) hf rfl rfl rfl rfl (fun _ h => h) rfl hk
/-- Facts of a text's points. -/
theorem gat_some {s : List UInt8} {cs : List Nat} (hp : pts s = some cs) {p : Nat} (h : p ≤ cs.length) : gatR s (p : Int) = .tup [.v (.complex .f64 (qf (4 * ((atL (lns cs) p).2 : Nat))) (qf (4 * ((atL (lns cs) p).1 : Nat)))), .v (.int .i64 0)] := by
  unfold gatR; rw [hp]; simp only; rw [if_pos (by omega), Int.toNat_natCast]; rfl
theorem pt_at {cs : List Nat} {p : Nat} (h : p ≤ cs.length) : ptOk (lns cs) (4 * ((atL (lns cs) p).2 : Nat)) (4 * ((atL (lns cs) p).1 : Nat)) := by
  have hA := lns_ahd cs
  obtain ⟨h1, h2, h3⟩ := atL_facts (lns cs) p (by omega)
  unfold ptOk whOk
  rw [show (4 * ((atL (lns cs) p).1 : Nat) : Int) / 4 = ((atL (lns cs) p).1 : Nat) by omega, Int.toNat_natCast]
  omega
theorem plc_at {s : List UInt8} {cs : List Nat} (hp : pts s = some cs) {p : Nat} (h : p ≤ cs.length) : plcR s (4 * ((atL (lns cs) p).2 : Nat)) (4 * ((atL (lns cs) p).1 : Nat)) = .tup [.v (.int .i64 p), .v (.int .i64 0)] := by
  have hA := lns_ahd cs
  obtain ⟨h1, h2, h3⟩ := atL_facts (lns cs) p (by omega)
  unfold plcR; rw [hp]; simp only
  rw [if_pos (pt_at h), show (4 * ((atL (lns cs) p).1 : Nat) : Int) / 4 = ((atL (lns cs) p).1 : Nat) by omega, Int.toNat_natCast, show (4 * ((atL (lns cs) p).2 : Nat) : Int) / 4 + (ahd ((lns cs).take (atL (lns cs) p).1) : Nat) = p by omega]
theorem at_small {cs : List Nat} {p : Nat} (h : p ≤ cs.length) : (atL (lns cs) p).1 ≤ cs.length ∧ (atL (lns cs) p).2 ≤ cs.length := by
  have hA := lns_ahd cs
  have hL := lns_len cs
  obtain ⟨h1, h2, h3⟩ := atL_facts (lns cs) p (by omega)
  omega
abbrev gbackCon : Con where
  ι := StrM × Num × Num × Bool
  args := fun p => [.v (sv p.1.1), .v (.int .i64 p.2.1.1), .v (.int .i64 p.2.2.1.1), .v (.bool p.2.2.2)]
  post := fun _ r => r = .v (.bool true)
  plain := true
theorem float_some {x : Nat} : floatO (some x) = some (.v (.float .f64 x)) := rfl
theorem fl05 : Value.float .f64 4602678819172646912 = .float .f64 (qf 2) := by rw [show qf 2 = 4602678819172646912 from by decide +kernel]
theorem gback_good : Rw.Good Tryd.prog 3 gbackCon := by
  have hΓ : GoodEnv Tryd.prog [(12, trueCon), (14, gatCon), (15, plcCon), (16, rlinCon), (11, validCon), (13, rcountCon)] := (goodEnv_cons awake12_good (goodEnv_cons gat_good (goodEnv_cons gplace_good (goodEnv_cons rlines_good (goodEnv_cons rvalid_good (goodEnv_cons rcount_good goodEnv_nil))))))
  refine good_fn (nn := 167) hΓ Tryd.func3 (by kernel_rfl) rfl (show Tryd.f3.results.toList = [.tmp 8] from rfl) (fun _ => rfl) (fun _ => rfl) ?_
  rintro ⟨⟨s, hs⟩, ⟨ln, hln⟩, ⟨cl, hcl⟩, hf⟩
  simp only [goRules, coreRules, tiRules, unRules, AS_of_eq, ← decide_not, N0, N1, N2, N3, N4, N5, Z0, Z1, Z2, Z3, Z4, Z5, Z6, Z7, Z8, Z9, Z10, Zc, ↓reduceIte, reduceCtorEq]
  by_cases h1 : (s.length : Int) > 300
  · simp only [goRules, coreRules, tiRules, unRules, AS_of_eq, ← decide_not, N0, N1, N2, N3, N4, N5, Z0, Z1, Z2, Z3, Z4, Z5, Z6, Z7, Z8, Z9, Z10, Zc, ↓reduceIte, reduceCtorEq, h1]
    refine call_awake12 (by simp [get_cons]) ?_
    simp only [goRules, coreRules, tiRules, unRules, AS_of_eq, ← decide_not, N0, N1, N2, N3, N4, N5, Z0, Z1, Z2, Z3, Z4, Z5, Z6, Z7, Z8, Z9, Z10, Zc, ↓reduceIte, reduceCtorEq]
  by_cases h2 : ln < -1000
  · simp only [goRules, coreRules, tiRules, unRules, AS_of_eq, ← decide_not, N0, N1, N2, N3, N4, N5, Z0, Z1, Z2, Z3, Z4, Z5, Z6, Z7, Z8, Z9, Z10, Zc, ↓reduceIte, reduceCtorEq, h1, h2]
    refine call_awake12 (by simp [get_cons]) ?_
    simp only [goRules, coreRules, tiRules, unRules, AS_of_eq, ← decide_not, N0, N1, N2, N3, N4, N5, Z0, Z1, Z2, Z3, Z4, Z5, Z6, Z7, Z8, Z9, Z10, Zc, ↓reduceIte, reduceCtorEq]
  by_cases h3 : ln > 1000
  · simp only [goRules, coreRules, tiRules, unRules, AS_of_eq, ← decide_not, N0, N1, N2, N3, N4, N5, Z0, Z1, Z2, Z3, Z4, Z5, Z6, Z7, Z8, Z9, Z10, Zc, ↓reduceIte, reduceCtorEq, h1, h2, h3]
    refine call_awake12 (by simp [get_cons]) ?_
    simp only [goRules, coreRules, tiRules, unRules, AS_of_eq, ← decide_not, N0, N1, N2, N3, N4, N5, Z0, Z1, Z2, Z3, Z4, Z5, Z6, Z7, Z8, Z9, Z10, Zc, ↓reduceIte, reduceCtorEq]
  by_cases h4 : cl < -1000
  · simp only [goRules, coreRules, tiRules, unRules, AS_of_eq, ← decide_not, N0, N1, N2, N3, N4, N5, Z0, Z1, Z2, Z3, Z4, Z5, Z6, Z7, Z8, Z9, Z10, Zc, ↓reduceIte, reduceCtorEq, h1, h2, h3, h4]
    refine call_awake12 (by simp [get_cons]) ?_
    simp only [goRules, coreRules, tiRules, unRules, AS_of_eq, ← decide_not, N0, N1, N2, N3, N4, N5, Z0, Z1, Z2, Z3, Z4, Z5, Z6, Z7, Z8, Z9, Z10, Zc, ↓reduceIte, reduceCtorEq]
  by_cases h5 : cl > 1000
  · simp only [goRules, coreRules, tiRules, unRules, AS_of_eq, ← decide_not, N0, N1, N2, N3, N4, N5, Z0, Z1, Z2, Z3, Z4, Z5, Z6, Z7, Z8, Z9, Z10, Zc, ↓reduceIte, reduceCtorEq, h1, h2, h3, h4, h5]
    refine call_awake12 (by simp [get_cons]) ?_
    simp only [goRules, coreRules, tiRules, unRules, AS_of_eq, ← decide_not, N0, N1, N2, N3, N4, N5, Z0, Z1, Z2, Z3, Z4, Z5, Z6, Z7, Z8, Z9, Z10, Zc, ↓reduceIte, reduceCtorEq]
  simp only [goRules, coreRules, tiRules, unRules, AS_of_eq, ← decide_not, N0, N1, N2, N3, N4, N5, Z0, Z1, Z2, Z3, Z4, Z5, Z6, Z7, Z8, Z9, Z10, Zc, ↓reduceIte, reduceCtorEq, h1, h2, h3, h4, h5]
  refine call_rvalid (by simp [get_cons]) (by omega) ?_
  cases hp : pts s with
  | none =>
    simp only [goRules, coreRules, tiRules, unRules, AS_of_eq, ← decide_not, N0, N1, N2, N3, N4, N5, Z0, Z1, Z2, Z3, Z4, Z5, Z6, Z7, Z8, Z9, Z10, Zc, ↓reduceIte, reduceCtorEq, rvalidR, hp, Option.isSome_none]
    refine call_awake12 (by simp [get_cons]) ?_
    simp only [goRules, coreRules, tiRules, unRules, AS_of_eq, ← decide_not, N0, N1, N2, N3, N4, N5, Z0, Z1, Z2, Z3, Z4, Z5, Z6, Z7, Z8, Z9, Z10, Zc, ↓reduceIte, reduceCtorEq]
  | some cs =>
    obtain ⟨ho, he⟩ := pts_some hp
    have hl := encs_le cs
    rw [← he] at hl
    have hA := lns_ahd cs
    have hL := lns_len cs
    simp only [goRules, coreRules, tiRules, unRules, AS_of_eq, ← decide_not, N0, N1, N2, N3, N4, N5, Z0, Z1, Z2, Z3, Z4, Z5, Z6, Z7, Z8, Z9, Z10, Zc, ↓reduceIte, reduceCtorEq, rvalidR, hp, Option.isSome_some]
    refine call_rcount (by simp [get_cons]) (by omega) ?_
    rw [cnt_pts hp]
    simp only [goRules, coreRules, tiRules, unRules, AS_of_eq, ← decide_not, N0, N1, N2, N3, N4, N5, Z0, Z1, Z2, Z3, Z4, Z5, Z6, Z7, Z8, Z9, Z10, Zc, ↓reduceIte, reduceCtorEq]
    obtain ⟨St, hSt⟩ : ∃ St : { p : Nat // p ≤ cs.length + 1 } → AS, ∀ p, St p = AS.of 167 [(0, .v (sv s)), (1, .v (.int .i64 ln)), (2, .v (.int .i64 cl)), (3, .v (.bool hf)), (9, .v (.int .i64 cs.length)), (10, .v (.int .i64 p.1))] [] [] := ⟨_, fun _ => rfl⟩
    refine vc_loop hΓ St (fun p => cs.length + 1 - p.1) ⟨0, by omega⟩ (by rw [hSt]; refine weak_go [] [] ?_; simp only [goRules, coreRules, tiRules, unRules, AS_of_eq, ← decide_not, N0, N1, N2, N3, N4, N5, Z0, Z1, Z2, Z3, Z4, Z5, Z6, Z7, Z8, Z9, Z10, Zc, ↓reduceIte, reduceCtorEq] <;> ((repeat' apply And.intro) <;> first | rfl | omega | trivial)) ?_
    rintro ⟨p, hpl⟩
    rw [hSt]
    simp only
    simp only [goRules, coreRules, tiRules, unRules, AS_of_eq, ← decide_not, N0, N1, N2, N3, N4, N5, Z0, Z1, Z2, Z3, Z4, Z5, Z6, Z7, Z8, Z9, Z10, Zc, ↓reduceIte, reduceCtorEq, min2_int]
    by_cases h6 : (p : Int) ≤ min (cs.length : Int) 60
    · have hpc : p ≤ cs.length := by omega
      have hsm := at_small hpc
      simp only [goRules, coreRules, tiRules, unRules, AS_of_eq, ← decide_not, N0, N1, N2, N3, N4, N5, Z0, Z1, Z2, Z3, Z4, Z5, Z6, Z7, Z8, Z9, Z10, Zc, ↓reduceIte, reduceCtorEq, h6]
      refine call_gat (by simp [get_cons]) (by omega) (by omega) ?_
      simp only [goRules, coreRules, tiRules, unRules, AS_of_eq, ← decide_not, N0, N1, N2, N3, N4, N5, Z0, Z1, Z2, Z3, Z4, Z5, Z6, Z7, Z8, Z9, Z10, Zc, ↓reduceIte, reduceCtorEq, gat_some hp hpc]
      refine call_gplace (by simp [get_cons]) (by omega) (by omega) (by omega) ?_
      simp only [goRules, coreRules, tiRules, unRules, AS_of_eq, ← decide_not, N0, N1, N2, N3, N4, N5, Z0, Z1, Z2, Z3, Z4, Z5, Z6, Z7, Z8, Z9, Z10, Zc, ↓reduceIte, reduceCtorEq, plc_at hp hpc, wrap_i64 (n := (p : Int) + 1) (by omega) (by omega)]
      refine weak_again ⟨p + 1, by omega⟩ (by simp only; omega) ?_
      rw [hSt]; refine weak_go [] [] ?_
      simp only [goRules, coreRules, tiRules, unRules, AS_of_eq, ← decide_not, N0, N1, N2, N3, N4, N5, Z0, Z1, Z2, Z3, Z4, Z5, Z6, Z7, Z8, Z9, Z10, Zc, ↓reduceIte, reduceCtorEq] <;> ((repeat' apply And.intro) <;> first | rfl | omega | trivial)
    simp only [goRules, coreRules, tiRules, unRules, AS_of_eq, ← decide_not, N0, N1, N2, N3, N4, N5, Z0, Z1, Z2, Z3, Z4, Z5, Z6, Z7, Z8, Z9, Z10, Zc, ↓reduceIte, reduceCtorEq, h6]
    refine call_rlines (by simp [get_cons]) (by omega) hp ?_
    cases hf with
    | true =>
      have a1 : FloatKind.f64.format.add (qf (4 * cl)) (qf 2) = some (qf (4 * cl + 2)) := qf_add (by omega) (by decide) (by omega)
      have hP : plcR s (4 * cl + 2) (4 * ln) = .tup [.v (.int .i64 0), .v (.int .i64 1)] := by
        unfold plcR; rw [hp]; simp only
        rw [if_neg (fun h : ptOk _ _ _ => by have := h.2.2.2; omega)]
      simp only [goRules, coreRules, tiRules, unRules, AS_of_eq, ← decide_not, N0, N1, N2, N3, N4, N5, Z0, Z1, Z2, Z3, Z4, Z5, Z6, Z7, Z8, Z9, Z10, Zc, ↓reduceIte, reduceCtorEq, near_qf (n := ln) (by omega) (by omega), near_qf (n := cl) (by omega) (by omega), fl05, a1, float_some]
      refine call_gplace (by simp [get_cons]) (by omega) (by omega) (by omega) ?_
      simp only [goRules, coreRules, tiRules, unRules, AS_of_eq, ← decide_not, N0, N1, N2, N3, N4, N5, Z0, Z1, Z2, Z3, Z4, Z5, Z6, Z7, Z8, Z9, Z10, Zc, ↓reduceIte, reduceCtorEq, hP]
      refine call_awake12 (by simp [get_cons]) ?_
      simp only [goRules, coreRules, tiRules, unRules, AS_of_eq, ← decide_not, N0, N1, N2, N3, N4, N5, Z0, Z1, Z2, Z3, Z4, Z5, Z6, Z7, Z8, Z9, Z10, Zc, ↓reduceIte, reduceCtorEq]
    | false =>
      simp only [goRules, coreRules, tiRules, unRules, AS_of_eq, ← decide_not, N0, N1, N2, N3, N4, N5, Z0, Z1, Z2, Z3, Z4, Z5, Z6, Z7, Z8, Z9, Z10, Zc, ↓reduceIte, reduceCtorEq, near_qf (n := ln) (by omega) (by omega), near_qf (n := cl) (by omega) (by omega)]
      refine call_gplace (by simp [get_cons]) (by omega) (by omega) (by omega) ?_
      have bad : ¬ ptOk (lns cs) (4 * cl) (4 * ln) → plcR s (4 * cl) (4 * ln) = .tup [.v (.int .i64 0), .v (.int .i64 1)] := fun h => by
        unfold plcR; rw [hp]; simp only
        rw [if_neg h]
      have q1 : 4 * ln / 4 = ln := by omega
      by_cases k1 : ln ≥ 0
      case neg =>
        simp only [goRules, coreRules, tiRules, unRules, AS_of_eq, ← decide_not, N0, N1, N2, N3, N4, N5, Z0, Z1, Z2, Z3, Z4, Z5, Z6, Z7, Z8, Z9, Z10, Zc, ↓reduceIte, reduceCtorEq, bad (fun h => by have := h.1.1; omega), k1]
        refine call_awake12 (by simp [get_cons]) ?_
        simp only [goRules, coreRules, tiRules, unRules, AS_of_eq, ← decide_not, N0, N1, N2, N3, N4, N5, Z0, Z1, Z2, Z3, Z4, Z5, Z6, Z7, Z8, Z9, Z10, Zc, ↓reduceIte, reduceCtorEq]
      by_cases k2 : ln < (lns cs).length
      case neg =>
        simp only [goRules, coreRules, tiRules, unRules, AS_of_eq, ← decide_not, N0, N1, N2, N3, N4, N5, Z0, Z1, Z2, Z3, Z4, Z5, Z6, Z7, Z8, Z9, Z10, Zc, ↓reduceIte, reduceCtorEq, bad (fun h => by have := h.1.2.1; omega), k1, k2, nats_len]
        refine call_awake12 (by simp [get_cons]) ?_
        simp only [goRules, coreRules, tiRules, unRules, AS_of_eq, ← decide_not, N0, N1, N2, N3, N4, N5, Z0, Z1, Z2, Z3, Z4, Z5, Z6, Z7, Z8, Z9, Z10, Zc, ↓reduceIte, reduceCtorEq]
      by_cases k3 : cl ≥ 0
      case neg =>
        simp only [goRules, coreRules, tiRules, unRules, AS_of_eq, ← decide_not, N0, N1, N2, N3, N4, N5, Z0, Z1, Z2, Z3, Z4, Z5, Z6, Z7, Z8, Z9, Z10, Zc, ↓reduceIte, reduceCtorEq, bad (fun h => by have := h.2.1; omega), k1, k2, k3, nats_len]
        refine call_awake12 (by simp [get_cons]) ?_
        simp only [goRules, coreRules, tiRules, unRules, AS_of_eq, ← decide_not, N0, N1, N2, N3, N4, N5, Z0, Z1, Z2, Z3, Z4, Z5, Z6, Z7, Z8, Z9, Z10, Zc, ↓reduceIte, reduceCtorEq]
      obtain ⟨k, rfl⟩ := Int.eq_ofNat_of_zero_le k1
      obtain ⟨c, rfl⟩ := Int.eq_ofNat_of_zero_le k3
      have hk : k < (lns cs).length := by omega
      have e1 : (nats (lns cs)).getD k .any = .v (.int .i64 ((lns cs).getD k 0 : Nat)) := by
        rw [nats_getD (lns cs) hk, List.getD_eq_getElem?_getD, List.getElem?_eq_getElem hk]; rfl
      by_cases k4 : (c : Int) ≤ ((lns cs).getD k 0 : Nat)
      case neg =>
        simp only [goRules, coreRules, tiRules, unRules, AS_of_eq, ← decide_not, N0, N1, N2, N3, N4, N5, Z0, Z1, Z2, Z3, Z4, Z5, Z6, Z7, Z8, Z9, Z10, Zc, ↓reduceIte, reduceCtorEq, bad (fun h => by have := h.2.2.1; rw [q1, Int.toNat_natCast] at this; omega), k1, k2, k3, nats_len, Int.toNat_natCast, e1, k4]
        (repeat (with_reducible refine And.intro ?_ ?_; focus (first | omega | exact mixed1 | kernel_rfl)))
        refine call_awake12 (by simp [get_cons]) ?_
        simp only [goRules, coreRules, tiRules, unRules, AS_of_eq, ← decide_not, N0, N1, N2, N3, N4, N5, Z0, Z1, Z2, Z3, Z4, Z5, Z6, Z7, Z8, Z9, Z10, Zc, ↓reduceIte, reduceCtorEq]
      have hb := atL_back (lns cs) k c hk (by omega)
      have hlt := ahd_take_lt hk
      have hpt : ptOk (lns cs) (4 * (c : Int)) (4 * (k : Int)) := by
        unfold ptOk whOk
        rw [q1, Int.toNat_natCast]
        omega
      have good : plcR s (4 * (c : Int)) (4 * (k : Int)) = .tup [.v (.int .i64 ((c + ahd ((lns cs).take k) : Nat) : Int)), .v (.int .i64 0)] := by
        unfold plcR; rw [hp]; simp only
        rw [if_pos hpt, q1, Int.toNat_natCast, show 4 * (c : Int) / 4 + (ahd ((lns cs).take k) : Nat) = ((c + ahd ((lns cs).take k) : Nat) : Int) by omega]
      have e2 : (nats (begF 0 (lns cs))).getD k .any = .v (.int .i64 (ahd ((lns cs).take k) : Nat)) := by
        have h2 := begF_get (lns cs) 0 k hk
        rw [List.getElem?_eq_getElem (by rw [begF_len]; exact hk)] at h2
        have h3 := Option.some.inj h2
        rw [nats_getD _ (by rw [begF_len]; exact hk), h3, Nat.zero_add]
      simp only [goRules, coreRules, tiRules, unRules, AS_of_eq, ← decide_not, N0, N1, N2, N3, N4, N5, Z0, Z1, Z2, Z3, Z4, Z5, Z6, Z7, Z8, Z9, Z10, Zc, ↓reduceIte, reduceCtorEq, good, k1, k2, k3, k4, nats_len, e1]
      (repeat (with_reducible refine And.intro ?_ ?_; focus (first | omega | exact mixed1 | kernel_rfl)))
      refine call_gat (by simp [get_cons]) (by omega) (by omega) ?_
      simp only [goRules, coreRules, tiRules, unRules, AS_of_eq, ← decide_not, N0, N1, N2, N3, N4, N5, Z0, Z1, Z2, Z3, Z4, Z5, Z6, Z7, Z8, Z9, Z10, Zc, ↓reduceIte, reduceCtorEq, gat_some hp (show c + ahd ((lns cs).take k) ≤ cs.length by omega), hb, nats_len, begF_len, e2]
      (repeat (with_reducible refine And.intro ?_ ?_; focus (first | omega | exact mixed1 | kernel_rfl)))
      have o1 := ordq (z := 4 * (c : Int)) (w := 4 * (c : Int)) (by omega) (by omega) (by omega) (by omega)
      have o2 := ordq (z := 4 * (k : Int)) (w := 4 * (k : Int)) (by omega) (by omega) (by omega) (by omega)
      have w1 : IntKind.i64.wrap (((ahd ((lns cs).take k) : Nat) : Int) + (c : Int)) = ((c + ahd ((lns cs).take k) : Nat) : Int) := by rw [wrap_i64 (by omega) (by omega)]; omega
      simp only [goRules, coreRules, tiRules, unRules, AS_of_eq, ← decide_not, N0, N1, N2, N3, N4, N5, Z0, Z1, Z2, Z3, Z4, Z5, Z6, Z7, Z8, Z9, Z10, Zc, ↓reduceIte, reduceCtorEq, w1, o1, o2]
      refine call_awake12 (by simp [get_cons]) ?_
      simp only [goRules, coreRules, tiRules, unRules, AS_of_eq, ← decide_not, N0, N1, N2, N3, N4, N5, Z0, Z1, Z2, Z3, Z4, Z5, Z6, Z7, Z8, Z9, Z10, Zc, ↓reduceIte, reduceCtorEq]
end Go.Proofs
end

-- BUg9
section
namespace Go.Proofs
open Go Go.Rw
open _root_.Nat renaming reduceAdd → N0, reduceSub → N1, reduceMul → N2, reduceLT → N3, reduceLeDiff → N4, reduceEqDiff → N5
open _root_.Int renaming reduceNeg → Z0, reduceAdd → Z1, reduceSub → Z2, reduceMul → Z3, reduceGT → Z4, reduceGE → Z5, reduceLT → Z6, reduceLE → Z7, reduceEq → Z8, reduceNe → Z9, reduceToNat → Z10, cast_ofNat_Int → Zc
set_option maxRecDepth 100000
set_option linter.unusedSimpArgs false
set_option linter.unusedVariables false

theorem strs_len (l : List (List UInt8)) : (strsA l).length = l.length := by simp [strsA]
theorem strs_getD (l : List (List UInt8)) {i : Nat} (h : i < l.length) : (strsA l).getD i .any = .v (sv l[i]) := by
  simp [strsA, List.getD_eq_getElem?_getD, h]
def wordsF (m : Int) : Int → List (List UInt8) → Int
  | s, [] => s
  | s, c :: r => if s ≤ m then wordsF m (sumF s [(c.length : Int), 1]) r else s
def totS : List (List UInt8) → Nat
  | [] => 0
  | c :: r => c.length + totS r
theorem wordsF_le {m : Int} (hm : m < 1099511627776) : ∀ (l : List (List UInt8)) {s : Int}, 0 ≤ s → wordsF m s l ≤ m → s + totS l + l.length ≤ m
  | [], s, _, h => by simp only [wordsF] at h; simp [totS]; exact h
  | c :: r, s, hs, h => by
    simp only [wordsF] at h
    split at h
    · rename_i h1
      have e : sumF s [(c.length : Int), 1] = addI (addI s c.length) 1 := rfl
      have h2 : 0 ≤ addI (addI s c.length) 1 := by unfold addI; omega
      rw [e] at h
      have h3 := wordsF_le hm r h2 h
      simp only [totS, List.length_cons]
      have h4 : addI (addI s c.length) 1 ≤ m := by omega
      have h5 : addI (addI s c.length) 1 = s + c.length + 1 := by unfold addI at h4 ⊢; omega
      omega
    · omega
abbrev StrsW := { l : List (List UInt8) // l.length ≤ 9223372036854775807 ∧ ∀ s ∈ l, s.length ≤ 9223372036854775807 }
abbrev wordsCon : Con where
  ι := StrsW × { m : Int // 0 ≤ m ∧ m ≤ 1000000 }
  args := fun p => [.sl 0 1 (strsA p.1.1), .v (.int .i64 p.2.1)]
  post := fun p r => r = .v (.int .i64 (wordsF p.2.1 0 p.1.1))
  plain := true
theorem words_good : Rw.Good Tryd.prog 20 wordsCon := by
  have hΓ : GoodEnv Tryd.prog [(42, sumCon)] := (goodEnv_cons sum_good goodEnv_nil)
  refine good_fn (nn := 27) hΓ Tryd.func20 (by kernel_rfl) rfl (show Tryd.f20.results.toList = [.tmp 4] from rfl) (fun _ => rfl) (fun _ => rfl) ?_
  rintro ⟨⟨l, hl, hc⟩, ⟨m, hm⟩⟩
  simp only [goRules, coreRules, tiRules, unRules, AS_of_eq, ← decide_not, N0, N1, N2, N3, N4, N5, Z0, Z1, Z2, Z3, Z4, Z5, Z6, Z7, Z8, Z9, Z10, Zc, ↓reduceIte, reduceCtorEq, strs_len]
  obtain ⟨St, hSt⟩ : ∃ St : { p : Int × Nat // p.2 ≤ l.length ∧ (0 ≤ p.1 ∧ p.1 ≤ 1099511627776) ∧ wordsF m 0 l = wordsF m p.1 (l.drop p.2) } → AS, ∀ p, St p = AS.of 27 [(0, .sl 0 1 (strsA l)), (1, .v (.int .i64 m)), (5, .v (.int .i64 p.1.1)), (6, .v (.int .i64 p.1.2))] [] [] := ⟨_, fun _ => rfl⟩
  refine vc_loop hΓ St (fun p => l.length - p.1.2) ⟨(0, 0), by omega, by simp only; omega, rfl⟩ (by rw [hSt]; refine weak_go [] [] ?_; simp only [goRules, coreRules, tiRules, unRules, AS_of_eq, ← decide_not, N0, N1, N2, N3, N4, N5, Z0, Z1, Z2, Z3, Z4, Z5, Z6, Z7, Z8, Z9, Z10, Zc, ↓reduceIte, reduceCtorEq] <;> ((repeat' apply And.intro) <;> first | rfl | omega | trivial)) ?_
  rintro ⟨⟨s, i⟩, hi, hs, hb⟩
  simp only at hi hs hb
  rw [hSt]
  simp only
  simp only [goRules, coreRules, tiRules, unRules, AS_of_eq, ← decide_not, N0, N1, N2, N3, N4, N5, Z0, Z1, Z2, Z3, Z4, Z5, Z6, Z7, Z8, Z9, Z10, Zc, ↓reduceIte, reduceCtorEq, strs_len]
  (with_reducible first | refine branchP_dec (fun h => ?_) (fun h => ?_) | refine guardB_dec (fun h => ?_) (fun h => ?_))
  · have hlt : i < l.length := by omega
    have hci := hc l[i] (List.getElem_mem hlt)
    have e1 := strs_getD l hlt
    rw [List.drop_eq_getElem_cons hlt, wordsF] at hb
    generalize l[i] = c at *
    simp (disch := omega) only [goRules, coreRules, tiRules, unRules, AS_of_eq, ← decide_not, N0, N1, N2, N3, N4, N5, Z0, Z1, Z2, Z3, Z4, Z5, Z6, Z7, Z8, Z9, Z10, Zc, ↓reduceIte, reduceCtorEq, wrap_i64, h]
    (with_reducible first | refine branchP_dec (fun h2 => ?_) (fun h2 => ?_) | refine guardB_dec (fun h2 => ?_) (fun h2 => ?_))
    · simp (disch := omega) only [goRules, coreRules, tiRules, unRules, AS_of_eq, ← decide_not, N0, N1, N2, N3, N4, N5, Z0, Z1, Z2, Z3, Z4, Z5, Z6, Z7, Z8, Z9, Z10, Zc, ↓reduceIte, reduceCtorEq, wrap_i64, h2, e1, strs_len]
      (repeat (with_reducible refine And.intro ?_ ?_; focus (first | omega | exact mixed1 | kernel_rfl)))
      refine call_sum (by simp [get_cons]) (y := [(c.length : Int), 1]) rfl hs (by simp; omega) (by simp) ?_
      simp (disch := omega) only [goRules, coreRules, tiRules, unRules, AS_of_eq, ← decide_not, N0, N1, N2, N3, N4, N5, Z0, Z1, Z2, Z3, Z4, Z5, Z6, Z7, Z8, Z9, Z10, Zc, ↓reduceIte, reduceCtorEq, wrap_i64]
      rw [if_pos h2] at hb
      have hr := sumF_range [(c.length : Int), 1] hs (by simp)
      refine weak_again ⟨(sumF s [(c.length : Int), 1], i + 1), by simp only; omega, by simp only; omega, hb⟩ (by simp only; omega) ?_
      rw [hSt]; refine weak_go [] [] ?_
      simp only [goRules, coreRules, tiRules, unRules, AS_of_eq, ← decide_not, N0, N1, N2, N3, N4, N5, Z0, Z1, Z2, Z3, Z4, Z5, Z6, Z7, Z8, Z9, Z10, Zc, ↓reduceIte, reduceCtorEq] <;> ((repeat' apply And.intro) <;> first | rfl | omega | trivial)
    · simp (disch := omega) only [goRules, coreRules, tiRules, unRules, AS_of_eq, ← decide_not, N0, N1, N2, N3, N4, N5, Z0, Z1, Z2, Z3, Z4, Z5, Z6, Z7, Z8, Z9, Z10, Zc, ↓reduceIte, reduceCtorEq, wrap_i64, h2]
      rw [hb, if_neg h2]
  · simp only [goRules, coreRules, tiRules, unRules, AS_of_eq, ← decide_not, N0, N1, N2, N3, N4, N5, Z0, Z1, Z2, Z3, Z4, Z5, Z6, Z7, Z8, Z9, Z10, Zc, ↓reduceIte, reduceCtorEq, h]
    rw [List.drop_of_length_le (by omega)] at hb
    rw [hb]; rfl
theorem call_words {Γ : Env} (hf : Γ.get 20 = some wordsCon) {σ : AS} {dr : Bool} {l : List (List UInt8)} {m : Int} {t : Nat} {ys : List AV} {d : Option Nat} {K : AS → Prop} (hy : ys = strsA l) (h1 : l.length ≤ 9223372036854775807) (h2 : ∀ c ∈ l, c.length ≤ 9223372036854775807) (hm : 0 ≤ m ∧ m ≤ 1000000)
    (hk : cont σ d (.v (.int .i64 (wordsF m 0 l))) K) : vcCall Tryd.prog Γ dr σ 20 [.sl t 1 ys, .v (.int .i64 m)] d K := by
  subst hy
  exact vcCall_plain (C := wordsCon) (i := (⟨l, h1, h2⟩, ⟨m, hm⟩)) hf rfl rfl rfl rfl (fun _ h => h) rfl hk
/-- Lines put together. -/
def glue : List (List UInt8) → List UInt8
  | [] => []
  | [a] => a
  | a :: b :: r => a ++ 10 :: glue (b :: r)
theorem wids_ten : ∀ (a b : List Nat) (n : Nat), wids n (a ++ 10 :: b) = wids n a ++ wids 0 b
  | [], b, n => by simp [wids]
  | c :: a, b, n => by
    rw [List.cons_append, wids, wids]
    split
    · rw [wids_ten a b 0]; rfl
    · rw [wids_ten a b (n + 1)]
theorem wids_none : ∀ (a : List Nat) (n : Nat), 10 ∉ a → wids n a = [n + a.length]
  | [], n, _ => by simp [wids]
  | c :: a, n, h => by
    have h1 : c ≠ 10 := fun e => h (by simp [e])
    rw [wids, if_neg h1, wids_none a (n + 1) (fun hm => h (by simp [hm])), List.length_cons]
    congr 1; omega
/-- A line. -/
def lineOk (s : List UInt8) : Prop := (pts s).isSome = true ∧ (10 : UInt8) ∉ s
theorem line_ten {s : List UInt8} (h : lineOk s) : 10 ∉ cpts s := by
  obtain ⟨h1, h2⟩ := h
  intro hm
  apply h2
  rw [← (encs_cpts h1).1]
  unfold encs
  exact List.mem_flatMap.2 ⟨10, hm, by decide⟩
theorem pts_glue : ∀ l : List (List UInt8), l ≠ [] → (∀ s ∈ l, lineOk s) → ∃ cs, pts (glue l) = some cs ∧ lns cs = l.map fun s => (cpts s).length
  | [], h, _ => absurd rfl h
  | [a], _, h => by
    have ha := h a (by simp)
    obtain ⟨cs, hcs⟩ := Option.isSome_iff_exists.1 ha.1
    have hl := line_ten ha
    refine ⟨cs, hcs, ?_⟩
    rw [cpts_some hcs] at hl
    simp only [List.map_cons, List.map_nil, cpts_some hcs]
    rw [lns, wids_none cs 0 hl, Nat.zero_add]
  | a :: b :: r, _, h => by
    have ha := h a (by simp)
    obtain ⟨cs, hcs⟩ := Option.isSome_iff_exists.1 ha.1
    have hl := line_ten ha
    rw [cpts_some hcs] at hl
    obtain ⟨ds, h1, h2⟩ := pts_glue (b :: r) (by simp) (fun s hs => h s (by simp [hs]))
    obtain ⟨o1, e1⟩ := pts_some hcs
    obtain ⟨o2, e2⟩ := pts_some h1
    have hok : ∀ c ∈ cs ++ 10 :: ds, okc c := fun c hc => by
      rcases List.mem_append.1 hc with hc | hc
      · exact o1 c hc
      · rcases List.mem_cons.1 hc with rfl | hc
        · unfold okc; omega
        · exact o2 c hc
    refine ⟨cs ++ 10 :: ds, ?_, ?_⟩
    · rw [glue, ← pts_enc hok, encs_app, encs_cons, ← e1, ← e2]
      rfl
    · rw [lns, wids_ten, wids_none cs 0 hl, Nat.zero_add, List.map_cons, cpts_some hcs]
      rw [← h2]; rfl
theorem glue_snoc : ∀ (l : List (List UInt8)) (x : List UInt8), l ≠ [] → glue (l ++ [x]) = glue l ++ 10 :: x
  | [], x, h => absurd rfl h
  | [a], x, _ => rfl
  | a :: b :: r, x, _ => by
    have := glue_snoc (b :: r) x (by simp)
    simp only [List.cons_append] at this ⊢
    rw [glue, this, glue]; simp
theorem glue_len : ∀ l : List (List UInt8), (glue l).length ≤ totS l + l.length
  | [] => by simp [glue]
  | [a] => by simp [glue, totS]
  | a :: b :: r => by
    have := glue_len (b :: r)
    rw [glue, List.length_append, List.length_cons]
    simp only [totS, List.length_cons] at this ⊢
    omega
theorem totS_take : ∀ (l : List (List UInt8)) (i : Nat), totS (l.take i) ≤ totS l
  | [], i => by simp
  | a :: r, 0 => by simp [totS]
  | a :: r, i + 1 => by have := totS_take r i; simp only [List.take_succ_cons, totS]; omega
theorem totS_mem : ∀ {l : List (List UInt8)} {s : List UInt8}, s ∈ l → s.length ≤ totS l
  | [], s, h => by cases h
  | a :: r, s, h => by
    simp only [totS]
    rcases List.mem_cons.1 h with rfl | h
    · omega
    · have := totS_mem h; omega
abbrev glinCon : Con where
  ι := StrsW × Num × Num
  args := fun p => [.sl 0 1 (strsA p.1.1), .v (.int .i64 p.2.1.1), .v (.int .i64 p.2.2.1)]
  post := fun _ r => r = .v (.bool true)
  plain := true
theorem cqm : Value.complex .f64 0 13830554455654793216 = .complex .f64 (qf 0) (qf (-4)) := by rw [show qf (-4) = 13830554455654793216 from by decide +kernel, qf_zero]
theorem glin_good : Rw.Good Tryd.prog 5 glinCon := by
  have hΓ : GoodEnv Tryd.prog [(12, trueCon), (20, wordsCon), (17, roundCon), (14, gatCon), (15, plcCon), (18, stepCon), (21, glCon), (22, gwCon), (11, validCon), (13, rcountCon)] := (goodEnv_cons awake12_good (goodEnv_cons words_good (goodEnv_cons round_good (goodEnv_cons gat_good (goodEnv_cons gplace_good (goodEnv_cons gstep_good (goodEnv_cons glines_good (goodEnv_cons gwidth_good (goodEnv_cons rvalid_good (goodEnv_cons rcount_good goodEnv_nil))))))))))
  refine good_fn (nn := 201) hΓ Tryd.func5 (by kernel_rfl) rfl (show Tryd.f5.results.toList = [.tmp 6] from rfl) (fun _ => rfl) (fun _ => rfl) ?_
  rintro ⟨⟨l, hl, hcl⟩, ⟨ln, hln⟩, ⟨cl, hcl2⟩⟩
  simp only [goRules, coreRules, tiRules, unRules, AS_of_eq, ← decide_not, N0, N1, N2, N3, N4, N5, Z0, Z1, Z2, Z3, Z4, Z5, Z6, Z7, Z8, Z9, Z10, Zc, ↓reduceIte, reduceCtorEq, strs_len]
  by_cases h1 : (l.length : Int) = 0
  · simp only [goRules, coreRules, tiRules, unRules, AS_of_eq, ← decide_not, N0, N1, N2, N3, N4, N5, Z0, Z1, Z2, Z3, Z4, Z5, Z6, Z7, Z8, Z9, Z10, Zc, ↓reduceIte, reduceCtorEq, h1]
    refine call_awake12 (by simp [get_cons]) ?_
    simp only [goRules, coreRules, tiRules, unRules, AS_of_eq, ← decide_not, N0, N1, N2, N3, N4, N5, Z0, Z1, Z2, Z3, Z4, Z5, Z6, Z7, Z8, Z9, Z10, Zc, ↓reduceIte, reduceCtorEq]
  by_cases h2 : (l.length : Int) > 20
  · simp only [goRules, coreRules, tiRules, unRules, AS_of_eq, ← decide_not, N0, N1, N2, N3, N4, N5, Z0, Z1, Z2, Z3, Z4, Z5, Z6, Z7, Z8, Z9, Z10, Zc, ↓reduceIte, reduceCtorEq, h1, h2, strs_len]
    refine call_awake12 (by simp [get_cons]) ?_
    simp only [goRules, coreRules, tiRules, unRules, AS_of_eq, ← decide_not, N0, N1, N2, N3, N4, N5, Z0, Z1, Z2, Z3, Z4, Z5, Z6, Z7, Z8, Z9, Z10, Zc, ↓reduceIte, reduceCtorEq]
  simp only [goRules, coreRules, tiRules, unRules, AS_of_eq, ← decide_not, N0, N1, N2, N3, N4, N5, Z0, Z1, Z2, Z3, Z4, Z5, Z6, Z7, Z8, Z9, Z10, Zc, ↓reduceIte, reduceCtorEq, h1, h2, strs_len]
  refine call_words (by simp [get_cons]) rfl hl hcl (by omega) ?_
  by_cases h3 : wordsF 400 0 l > 400
  · simp only [goRules, coreRules, tiRules, unRules, AS_of_eq, ← decide_not, N0, N1, N2, N3, N4, N5, Z0, Z1, Z2, Z3, Z4, Z5, Z6, Z7, Z8, Z9, Z10, Zc, ↓reduceIte, reduceCtorEq, h3]
    refine call_awake12 (by simp [get_cons]) ?_
    simp only [goRules, coreRules, tiRules, unRules, AS_of_eq, ← decide_not, N0, N1, N2, N3, N4, N5, Z0, Z1, Z2, Z3, Z4, Z5, Z6, Z7, Z8, Z9, Z10, Zc, ↓reduceIte, reduceCtorEq]
  have hw := wordsF_le (m := 400) (by omega) l (s := 0) (by omega) (by omega)
  simp only [goRules, coreRules, tiRules, unRules, AS_of_eq, ← decide_not, N0, N1, N2, N3, N4, N5, Z0, Z1, Z2, Z3, Z4, Z5, Z6, Z7, Z8, Z9, Z10, Zc, ↓reduceIte, reduceCtorEq, h3]
  obtain ⟨St, hSt⟩ : ∃ St : { p : Int × Nat // p.2 ≤ l.length ∧ (0 ≤ p.1 ∧ p.1 ≤ 1000) ∧ ∀ s ∈ l.take p.2, lineOk s ∧ p.1 ≤ (cpts s).length } → AS, ∀ p, St p = AS.of 201 [(0, .sl 0 1 (strsA l)), (1, .v (.int .i64 ln)), (2, .v (.int .i64 cl)), (7, .v (sv (glue (l.take p.1.2)))), (8, .v (.int .i64 p.1.1)), (9, .v (.int .i64 p.1.2))] [] [] := ⟨_, fun _ => rfl⟩
  refine vc_loop hΓ St (fun p => l.length - p.1.2) ⟨(1000, 0), by omega, by simp, by simp⟩ (by rw [hSt]; refine weak_go [] [] ?_; simp only [goRules, coreRules, tiRules, unRules, AS_of_eq, ← decide_not, N0, N1, N2, N3, N4, N5, Z0, Z1, Z2, Z3, Z4, Z5, Z6, Z7, Z8, Z9, Z10, Zc, ↓reduceIte, reduceCtorEq, List.take_zero, glue] <;> ((repeat' apply And.intro) <;> first | rfl | omega | trivial)) ?_
  rintro ⟨⟨low, i⟩, hi, hlow, hdone⟩
  simp only at hi hlow hdone
  rw [hSt]
  simp only
  simp only [goRules, coreRules, tiRules, unRules, AS_of_eq, ← decide_not, N0, N1, N2, N3, N4, N5, Z0, Z1, Z2, Z3, Z4, Z5, Z6, Z7, Z8, Z9, Z10, Zc, ↓reduceIte, reduceCtorEq, strs_len]
  (with_reducible first | refine branchP_dec (fun h => ?_) (fun h => ?_) | refine guardB_dec (fun h => ?_) (fun h => ?_))
  · have hlt : i < l.length := by omega
    have e1 := strs_getD l hlt
    have htm := totS_mem (List.getElem_mem hlt)
    have etk := List.take_succ_eq_append_getElem hlt
    generalize l[i] = x at *
    simp (disch := omega) only [goRules, coreRules, tiRules, unRules, AS_of_eq, ← decide_not, N0, N1, N2, N3, N4, N5, Z0, Z1, Z2, Z3, Z4, Z5, Z6, Z7, Z8, Z9, Z10, Zc, ↓reduceIte, reduceCtorEq, wrap_i64, h, e1, strs_len]
    (repeat (with_reducible refine And.intro ?_ ?_; focus (first | omega | exact mixed1 | kernel_rfl)))
    refine call_rvalid (by simp [get_cons]) (by omega) ?_
    by_cases hv : (pts x).isSome = true
    case neg =>
      simp only [goRules, coreRules, tiRules, unRules, AS_of_eq, ← decide_not, N0, N1, N2, N3, N4, N5, Z0, Z1, Z2, Z3, Z4, Z5, Z6, Z7, Z8, Z9, Z10, Zc, ↓reduceIte, reduceCtorEq, rvalidR, hv]
      refine call_awake12 (by simp [get_cons]) ?_
      simp only [goRules, coreRules, tiRules, unRules, AS_of_eq, ← decide_not, N0, N1, N2, N3, N4, N5, Z0, Z1, Z2, Z3, Z4, Z5, Z6, Z7, Z8, Z9, Z10, Zc, ↓reduceIte, reduceCtorEq]
    simp only [goRules, coreRules, tiRules, unRules, AS_of_eq, ← decide_not, N0, N1, N2, N3, N4, N5, Z0, Z1, Z2, Z3, Z4, Z5, Z6, Z7, Z8, Z9, Z10, Zc, ↓reduceIte, reduceCtorEq, rvalidR, hv]
    obtain ⟨St2, hSt2⟩ : ∃ St2 : { k : Nat // k ≤ x.length ∧ (10 : UInt8) ∉ x.take k } → AS, ∀ k, St2 k = AS.of 201 [(0, .sl 0 1 (strsA l)), (1, .v (.int .i64 ln)), (2, .v (.int .i64 cl)), (7, .v (sv (glue (l.take i)))), (8, .v (.int .i64 low)), (9, .v (.int .i64 i)), (10, .v (.int .i64 k.1))] [] [] := ⟨_, fun _ => rfl⟩
    refine vc_loop hΓ St2 (fun k => x.length - k.1) ⟨0, by omega, by simp⟩ (by rw [hSt2]; refine weak_go [] [] ?_; simp only [goRules, coreRules, tiRules, unRules, AS_of_eq, ← decide_not, N0, N1, N2, N3, N4, N5, Z0, Z1, Z2, Z3, Z4, Z5, Z6, Z7, Z8, Z9, Z10, Zc, ↓reduceIte, reduceCtorEq] <;> ((repeat' apply And.intro) <;> first | rfl | omega | trivial)) ?_
    rintro ⟨k, hk, hkt⟩
    rw [hSt2]
    simp only
    simp only [goRules, coreRules, tiRules, unRules, AS_of_eq, ← decide_not, N0, N1, N2, N3, N4, N5, Z0, Z1, Z2, Z3, Z4, Z5, Z6, Z7, Z8, Z9, Z10, Zc, ↓reduceIte, reduceCtorEq, strs_len, e1]
    (repeat (with_reducible refine And.intro ?_ ?_; focus (first | omega | exact mixed1 | kernel_rfl)))
    by_cases h5 : (k : Int) < x.length
    · simp only [goRules, coreRules, tiRules, unRules, AS_of_eq, ← decide_not, N0, N1, N2, N3, N4, N5, Z0, Z1, Z2, Z3, Z4, Z5, Z6, Z7, Z8, Z9, Z10, Zc, ↓reduceIte, reduceCtorEq, h5, strs_len, e1]
      have hkl : k < x.length := by omega
      have hgx : x.getD k 0 = x[k] := by rw [List.getD_eq_getElem?_getD, List.getElem?_eq_getElem hkl]; rfl
      rw [hgx]
      have htk := List.take_succ_eq_append_getElem hkl
      generalize x[k] = b at *
      (repeat (with_reducible refine And.intro ?_ ?_; focus (first | omega | exact mixed1 | kernel_rfl)))
      by_cases h6 : b = 10
      · have h7 : ((b.toNat : Int) = 10) = True := eq_true (by rw [h6]; rfl)
        simp only [goRules, coreRules, tiRules, unRules, AS_of_eq, ← decide_not, N0, N1, N2, N3, N4, N5, Z0, Z1, Z2, Z3, Z4, Z5, Z6, Z7, Z8, Z9, Z10, Zc, ↓reduceIte, reduceCtorEq, h7]
        refine call_awake12 (by simp [get_cons]) ?_
        simp only [goRules, coreRules, tiRules, unRules, AS_of_eq, ← decide_not, N0, N1, N2, N3, N4, N5, Z0, Z1, Z2, Z3, Z4, Z5, Z6, Z7, Z8, Z9, Z10, Zc, ↓reduceIte, reduceCtorEq]
      · have h8 : ¬ b.toNat = 10 := fun h => h6 (UInt8.toNat_inj.1 h)
        have h7 : ((b.toNat : Int) = 10) = False := eq_false (by omega)
        simp only [goRules, coreRules, tiRules, unRules, AS_of_eq, ← decide_not, N0, N1, N2, N3, N4, N5, Z0, Z1, Z2, Z3, Z4, Z5, Z6, Z7, Z8, Z9, Z10, Zc, ↓reduceIte, reduceCtorEq, h7, wrap_i64 (n := (k : Int) + 1) (by omega) (by omega)]
        refine weak_again ⟨k + 1, by omega, ?_⟩ (by simp only; omega) ?_
        · rw [htk]
          intro hm
          rcases List.mem_append.1 hm with hm | hm
          · exact hkt hm
          · exact h6 (List.mem_singleton.1 hm).symm
        · rw [hSt2]; refine weak_go [] [] ?_
          simp only [goRules, coreRules, tiRules, unRules, AS_of_eq, ← decide_not, N0, N1, N2, N3, N4, N5, Z0, Z1, Z2, Z3, Z4, Z5, Z6, Z7, Z8, Z9, Z10, Zc, ↓reduceIte, reduceCtorEq] <;> ((repeat' apply And.intro) <;> first | rfl | omega | trivial)
    · rw [List.take_of_length_le (by omega)] at hkt
      have hline : lineOk x := ⟨hv, hkt⟩
      have hcp := cpts_len x
      have hgl := glue_len (l.take i)
      have htt := totS_take l i
      have htt2 := totS_take l (i + 1)
      have hgl2 := glue_len (l.take (i + 1))
      rw [List.length_take] at hgl hgl2
      have hall : ∀ s ∈ l.take (i + 1), lineOk s ∧ min low (cpts x).length ≤ (cpts s).length := by
        intro s hs
        rw [etk] at hs
        rcases List.mem_append.1 hs with hs | hs
        · have := hdone s hs
          exact ⟨this.1, by omega⟩
        · rw [List.mem_singleton.1 hs]
          exact ⟨hline, by omega⟩
      by_cases h6 : i = 0
      · have hg0 : glue (l.take (i + 1)) = x := by rw [etk, h6, List.take_zero]; rfl
        have hz : (x.length : Int) ≤ 9223372036854775807 := by omega
        simp only [goRules, coreRules, tiRules, unRules, AS_of_eq, ← decide_not, N0, N1, N2, N3, N4, N5, Z0, Z1, Z2, Z3, Z4, Z5, Z6, Z7, Z8, Z9, Z10, Zc, ↓reduceIte, reduceCtorEq, h5, strs_len, e1, show ((i : Int) > 0) = False from eq_false (by omega), bin_sadd (l := glue (l.take i)) (r := x) (by omega)]
        (repeat (with_reducible refine And.intro ?_ ?_; focus (first | omega | exact mixed1 | kernel_rfl)))
        refine call_rcount (by simp [get_cons]) (by omega) ?_
        rw [cnt_cpts]
        simp only [goRules, coreRules, tiRules, unRules, AS_of_eq, ← decide_not, N0, N1, N2, N3, N4, N5, Z0, Z1, Z2, Z3, Z4, Z5, Z6, Z7, Z8, Z9, Z10, Zc, ↓reduceIte, reduceCtorEq, min2_int, wrap_i64 (n := (i : Int) + 1) (by omega) (by omega)]
        refine weak_again ⟨(min low (cpts x).length, i + 1), by simp only; omega, by simp only; omega, hall⟩ (by simp only; omega) ?_
        rw [hSt]; refine weak_go [] [] ?_
        have hgi : glue (l.take i) = [] := by rw [h6, List.take_zero]; rfl
        simp only [goRules, coreRules, tiRules, unRules, AS_of_eq, ← decide_not, N0, N1, N2, N3, N4, N5, Z0, Z1, Z2, Z3, Z4, Z5, Z6, Z7, Z8, Z9, Z10, Zc, ↓reduceIte, reduceCtorEq, hg0, hgi, List.nil_append] <;> ((repeat' apply And.intro) <;> first | rfl | omega | trivial)
      · have hne : l.take i ≠ [] := by
          intro h
          have := congrArg List.length h
          rw [List.length_take, List.length_nil] at this
          omega
        have hg1 : glue (l.take (i + 1)) = glue (l.take i) ++ 10 :: x := by rw [etk, glue_snoc _ _ hne]
        have hgl3 : (glue (l.take (i + 1))).length = (glue (l.take i)).length + 1 + x.length := by rw [hg1, List.length_append, List.length_cons]; omega
        simp only [goRules, coreRules, tiRules, unRules, AS_of_eq, ← decide_not, N0, N1, N2, N3, N4, N5, Z0, Z1, Z2, Z3, Z4, Z5, Z6, Z7, Z8, Z9, Z10, Zc, ↓reduceIte, reduceCtorEq, h5, strs_len, e1, show ((i : Int) > 0) = True from eq_true (by omega), bin_sadd (l := glue (l.take i)) (r := [10]) (by simp; omega), bin_sadd (l := glue (l.take i) ++ [10]) (r := x) (by simp; omega)]
        (repeat (with_reducible refine And.intro ?_ ?_; focus (first | omega | exact mixed1 | kernel_rfl)))
        refine call_rcount (by simp [get_cons]) (by omega) ?_
        rw [cnt_cpts]
        simp only [goRules, coreRules, tiRules, unRules, AS_of_eq, ← decide_not, N0, N1, N2, N3, N4, N5, Z0, Z1, Z2, Z3, Z4, Z5, Z6, Z7, Z8, Z9, Z10, Zc, ↓reduceIte, reduceCtorEq, min2_int, wrap_i64 (n := (i : Int) + 1) (by omega) (by omega)]
        refine weak_again ⟨(min low (cpts x).length, i + 1), by simp only; omega, by simp only; omega, hall⟩ (by simp only; omega) ?_
        rw [hSt]; refine weak_go [] [] ?_
        simp only [goRules, coreRules, tiRules, unRules, AS_of_eq, ← decide_not, N0, N1, N2, N3, N4, N5, Z0, Z1, Z2, Z3, Z4, Z5, Z6, Z7, Z8, Z9, Z10, Zc, ↓reduceIte, reduceCtorEq, hg1, List.append_assoc, List.singleton_append] <;> ((repeat' apply And.intro) <;> first | rfl | omega | trivial)
  have htl : l.take i = l := List.take_of_length_le (by omega)
  simp only [goRules, coreRules, tiRules, unRules, AS_of_eq, ← decide_not, N0, N1, N2, N3, N4, N5, Z0, Z1, Z2, Z3, Z4, Z5, Z6, Z7, Z8, Z9, Z10, Zc, ↓reduceIte, reduceCtorEq, h, htl]
  rw [htl] at hdone
  obtain ⟨cs, hp, hW⟩ := pts_glue l (by intro e; rw [e] at h1; simp at h1) (fun s hs => (hdone s hs).1)
  have hgl := glue_len l
  have hWl : (lns cs).length = l.length := by rw [hW, List.length_map]
  have hWd : ∀ k, k < l.length → low ≤ ((lns cs).getD k 0 : Nat) := fun k hk => by
    have := (hdone l[k] (List.getElem_mem hk)).2
    rw [hW, List.getD_eq_getElem?_getD, List.getElem?_map, List.getElem?_eq_getElem hk]
    exact this
  obtain ⟨ho, he⟩ := pts_some hp
  have hlc := encs_le cs
  rw [← he] at hlc
  have hA := lns_ahd cs
  generalize hs : glue l = s at *
  refine call_glines (by simp [get_cons]) (by omega) ?_
  have hGL : glR s = .tup [.v (.int .i64 l.length), .v (.int .i64 0)] := by unfold glR; rw [hp]; simp only; rw [hWl]
  have hrng : 0 ≤ low := hlow.1
  simp only [goRules, coreRules, tiRules, unRules, AS_of_eq, ← decide_not, N0, N1, N2, N3, N4, N5, Z0, Z1, Z2, Z3, Z4, Z5, Z6, Z7, Z8, Z9, Z10, Zc, ↓reduceIte, reduceCtorEq, hGL, strs_len]
  clear hSt St
  obtain ⟨St, hSt⟩ : ∃ St : { i : Nat // i ≤ l.length } → AS, ∀ i, St i = AS.of 201 [(0, .sl 0 1 (strsA l)), (1, .v (.int .i64 ln)), (2, .v (.int .i64 cl)), (7, .v (sv s)), (8, .v (.int .i64 low)), (11, .v (.int .i64 l.length)), (13, .v (.int .i64 i.1))] [] [] := ⟨_, fun _ => rfl⟩
  refine vc_loop hΓ St (fun i => l.length - i.1) ⟨0, by omega⟩ (by rw [hSt]; refine weak_go [] [] ?_; simp only [goRules, coreRules, tiRules, unRules, AS_of_eq, ← decide_not, N0, N1, N2, N3, N4, N5, Z0, Z1, Z2, Z3, Z4, Z5, Z6, Z7, Z8, Z9, Z10, Zc, ↓reduceIte, reduceCtorEq] <;> ((repeat' apply And.intro) <;> first | rfl | omega | trivial)) ?_
  rintro ⟨i, hi⟩
  rw [hSt]
  simp only
  simp only [goRules, coreRules, tiRules, unRules, AS_of_eq, ← decide_not, N0, N1, N2, N3, N4, N5, Z0, Z1, Z2, Z3, Z4, Z5, Z6, Z7, Z8, Z9, Z10, Zc, ↓reduceIte, reduceCtorEq]
  by_cases h4 : (i : Int) < l.length
  · have hlt : i < l.length := by omega
    have e1 := strs_getD l hlt
    have htm := totS_mem (List.getElem_mem hlt)
    have hgw : gwR s (i : Int) = .tup [.v (.int .i64 ((cpts l[i]).length : Nat)), .v (.int .i64 0)] := by
      unfold gwR; rw [hp]; simp only
      rw [if_pos (by omega), Int.toNat_natCast, hW, List.getD_eq_getElem?_getD, List.getElem?_map, List.getElem?_eq_getElem hlt]
      rfl
    generalize l[i] = x at *
    simp only [goRules, coreRules, tiRules, unRules, AS_of_eq, ← decide_not, N0, N1, N2, N3, N4, N5, Z0, Z1, Z2, Z3, Z4, Z5, Z6, Z7, Z8, Z9, Z10, Zc, ↓reduceIte, reduceCtorEq, h4]
    refine call_gwidth (by simp [get_cons]) (by omega) (by omega) ?_
    simp only [goRules, coreRules, tiRules, unRules, AS_of_eq, ← decide_not, N0, N1, N2, N3, N4, N5, Z0, Z1, Z2, Z3, Z4, Z5, Z6, Z7, Z8, Z9, Z10, Zc, ↓reduceIte, reduceCtorEq, hgw, e1, strs_len]
    (repeat (with_reducible refine And.intro ?_ ?_; focus (first | omega | exact mixed1 | kernel_rfl)))
    refine call_rcount (by simp [get_cons]) (by omega) ?_
    rw [cnt_cpts]
    simp only [goRules, coreRules, tiRules, unRules, AS_of_eq, ← decide_not, N0, N1, N2, N3, N4, N5, Z0, Z1, Z2, Z3, Z4, Z5, Z6, Z7, Z8, Z9, Z10, Zc, ↓reduceIte, reduceCtorEq, wrap_i64 (n := (i : Int) + 1) (by omega) (by omega)]
    refine weak_again ⟨i + 1, by omega⟩ (by simp only; omega) ?_
    rw [hSt]; refine weak_go [] [] ?_
    simp only [goRules, coreRules, tiRules, unRules, AS_of_eq, ← decide_not, N0, N1, N2, N3, N4, N5, Z0, Z1, Z2, Z3, Z4, Z5, Z6, Z7, Z8, Z9, Z10, Zc, ↓reduceIte, reduceCtorEq] <;> ((repeat' apply And.intro) <;> first | rfl | omega | trivial)
  simp only [goRules, coreRules, tiRules, unRules, AS_of_eq, ← decide_not, N0, N1, N2, N3, N4, N5, Z0, Z1, Z2, Z3, Z4, Z5, Z6, Z7, Z8, Z9, Z10, Zc, ↓reduceIte, reduceCtorEq, h4, wrap_i64 (n := low + 1) (by omega) (by omega)]
  refine call_round (by simp [get_cons]) hcl2 (by omega) ?_
  have a1 := Int.emod_nonneg cl (show (low + 1) ≠ 0 by omega)
  have a2 := Int.emod_lt_of_pos cl (show 0 < low + 1 by omega)
  have b1 := Int.emod_nonneg ln (show (l.length : Int) ≠ 0 by omega)
  have b2 := Int.emod_lt_of_pos ln (show 0 < (l.length : Int) by omega)
  simp only [goRules, coreRules, tiRules, unRules, AS_of_eq, ← decide_not, N0, N1, N2, N3, N4, N5, Z0, Z1, Z2, Z3, Z4, Z5, Z6, Z7, Z8, Z9, Z10, Zc, ↓reduceIte, reduceCtorEq]
  refine call_round (by simp [get_cons]) hln (by omega) ?_
  generalize cl % (low + 1) = C at *
  obtain ⟨k, hk⟩ := Int.eq_ofNat_of_zero_le b1
  obtain ⟨c, rfl⟩ := Int.eq_ofNat_of_zero_le a1
  rw [hk] at b1 b2 ⊢
  have hkl : k < l.length := by omega
  have hwk := hWd k hkl
  have hkW : k < (lns cs).length := by omega
  have hpt : ptOk (lns cs) (4 * (c : Int)) (4 * (k : Int)) := by
    unfold ptOk whOk
    rw [show 4 * (k : Int) / 4 = k by omega, Int.toNat_natCast]
    omega
  have hb := atL_back (lns cs) k c hkW (by omega)
  have hlt := ahd_take_lt hkW
  have hplc : plcR s (4 * (c : Int)) (4 * (k : Int)) = .tup [.v (.int .i64 ((c + ahd ((lns cs).take k) : Nat) : Int)), .v (.int .i64 0)] := by
    unfold plcR; rw [hp]; simp only
    rw [if_pos hpt, show 4 * (k : Int) / 4 = k by omega, Int.toNat_natCast, show 4 * (c : Int) / 4 + (ahd ((lns cs).take k) : Nat) = ((c + ahd ((lns cs).take k) : Nat) : Int) by omega]
  obtain ⟨k2, hk2⟩ : ∃ k2 : Nat, k2 = min (k + 1) (l.length - 1) := ⟨_, rfl⟩
  have hwk2 := hWd k2 (by omega)
  have hpt2 : ptOk (lns cs) (4 * (c : Int)) (4 * (k2 : Int)) := by
    unfold ptOk whOk
    rw [show 4 * (k2 : Int) / 4 = k2 by omega, Int.toNat_natCast]
    omega
  have hst1 : stepR s (4 * (c : Int)) (4 * (k : Int)) 0 4 = .tup [.v (.complex .f64 (qf (4 * (c : Int))) (qf (4 * (k2 : Int)))), .v (.int .i64 0)] := by
    have hd : stLine (lns cs) (4 * (k : Int)) 4 = k2 := by unfold stLine; omega
    have hc : stCol (lns cs) (4 * (c : Int)) (4 * (k : Int)) 0 4 = c := by unfold stCol; rw [hd, Int.toNat_natCast]; omega
    unfold stepR; rw [hp]; simp only
    rw [if_pos ⟨hpt, by unfold whOk; omega, by unfold whOk; omega⟩, hc, hd]; rfl
  obtain ⟨k3, hk3⟩ : ∃ k3 : Nat, k3 = k2 - 1 := ⟨_, rfl⟩
  have hwk3 := hWd k3 (by omega)
  have hst2 : stepR s (4 * (c : Int)) (4 * (k2 : Int)) 0 (-4) = .tup [.v (.complex .f64 (qf (4 * (c : Int))) (qf (4 * (k3 : Int)))), .v (.int .i64 0)] := by
    have hd : stLine (lns cs) (4 * (k2 : Int)) (-4) = k3 := by unfold stLine; omega
    have hc : stCol (lns cs) (4 * (c : Int)) (4 * (k2 : Int)) 0 (-4) = c := by unfold stCol; rw [hd, Int.toNat_natCast]; omega
    unfold stepR; rw [hp]; simp only
    rw [if_pos ⟨hpt2, by unfold whOk; omega, by unfold whOk; omega⟩, hc, hd]; rfl
  have hgat := gat_some hp (show c + ahd ((lns cs).take k) ≤ cs.length by omega)
  rw [hb] at hgat
  have o1 := ordq (z := 4 * (c : Int)) (w := 4 * (c : Int)) (by omega) (by omega) (by omega) (by omega)
  have o2 := ordq (z := 4 * (k : Int)) (w := 4 * (k : Int)) (by omega) (by omega) (by omega) (by omega)
  simp only [goRules, coreRules, tiRules, unRules, AS_of_eq, ← decide_not, N0, N1, N2, N3, N4, N5, Z0, Z1, Z2, Z3, Z4, Z5, Z6, Z7, Z8, Z9, Z10, Zc, ↓reduceIte, reduceCtorEq, near_qf (n := (c : Int)) (by omega) (by omega), near_qf (n := (k : Int)) (by omega) (by omega)]
  refine call_gplace (by simp [get_cons]) (by omega) (by omega) (by omega) ?_
  simp only [goRules, coreRules, tiRules, unRules, AS_of_eq, ← decide_not, N0, N1, N2, N3, N4, N5, Z0, Z1, Z2, Z3, Z4, Z5, Z6, Z7, Z8, Z9, Z10, Zc, ↓reduceIte, reduceCtorEq, hplc, cx1]
  refine call_gstep (by simp [get_cons]) (by omega) (by omega) (by omega) (by unfold byOk; omega) (by unfold byOk; omega) ?_
  simp only [goRules, coreRules, tiRules, unRules, AS_of_eq, ← decide_not, N0, N1, N2, N3, N4, N5, Z0, Z1, Z2, Z3, Z4, Z5, Z6, Z7, Z8, Z9, Z10, Zc, ↓reduceIte, reduceCtorEq, hst1, cqm]
  refine call_gstep (by simp [get_cons]) (by omega) (by omega) (by omega) (by unfold byOk; omega) (by unfold byOk; omega) ?_
  simp only [goRules, coreRules, tiRules, unRules, AS_of_eq, ← decide_not, N0, N1, N2, N3, N4, N5, Z0, Z1, Z2, Z3, Z4, Z5, Z6, Z7, Z8, Z9, Z10, Zc, ↓reduceIte, reduceCtorEq, hst2]
  refine call_gat (by simp [get_cons]) (by omega) (by omega) ?_
  simp only [goRules, coreRules, tiRules, unRules, AS_of_eq, ← decide_not, N0, N1, N2, N3, N4, N5, Z0, Z1, Z2, Z3, Z4, Z5, Z6, Z7, Z8, Z9, Z10, Zc, ↓reduceIte, reduceCtorEq, hgat]
  refine call_round (by simp [get_cons]) hln (by omega) ?_
  rw [hk]
  by_cases h6 : (k : Int) = (l.length : Int) - 1
  · have h7 : k2 = k := by omega
    simp only [goRules, coreRules, tiRules, unRules, AS_of_eq, ← decide_not, N0, N1, N2, N3, N4, N5, Z0, Z1, Z2, Z3, Z4, Z5, Z6, Z7, Z8, Z9, Z10, Zc, ↓reduceIte, reduceCtorEq, wrap_i64 (n := (l.length : Int) - 1) (by omega) (by omega), eq_true h6, h7, o1, o2]
    refine call_awake12 (by simp [get_cons]) ?_
    simp only [goRules, coreRules, tiRules, unRules, AS_of_eq, ← decide_not, N0, N1, N2, N3, N4, N5, Z0, Z1, Z2, Z3, Z4, Z5, Z6, Z7, Z8, Z9, Z10, Zc, ↓reduceIte, reduceCtorEq]
  · have h7 : k3 = k := by omega
    simp only [goRules, coreRules, tiRules, unRules, AS_of_eq, ← decide_not, N0, N1, N2, N3, N4, N5, Z0, Z1, Z2, Z3, Z4, Z5, Z6, Z7, Z8, Z9, Z10, Zc, ↓reduceIte, reduceCtorEq, wrap_i64 (n := (l.length : Int) - 1) (by omega) (by omega), eq_false h6, h7, o1, o2]
    refine call_awake12 (by simp [get_cons]) ?_
    simp only [goRules, coreRules, tiRules, unRules, AS_of_eq, ← decide_not, N0, N1, N2, N3, N4, N5, Z0, Z1, Z2, Z3, Z4, Z5, Z6, Z7, Z8, Z9, Z10, Zc, ↓reduceIte, reduceCtorEq]
end Go.Proofs
end
