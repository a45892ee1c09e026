/-
  math.Trunc, cursor.place, Places, Of, Turn, Span, Within, Shift.
-/
import Derived.Test.YtknbfkmgoijncaaDoorXBUt1
import Derived.Test.YtknbfkmgoijncaaDoorRwH
import Derived.WalkKit
import Derived.Laws.Externs
import GoSem.Extern.MathFloor
set_option linter.unusedSimpArgs false
set_option linter.unusedVariables false
set_option linter.defProp false

-- BUc1
section
namespace Go.Proofs
open Go Go.Rw
open _root_.Nat renaming reduceAdd → N0, reduceSub → N1, reduceMul → N2, reduceLT → N3, reduceLeDiff → N4, reduceEqDiff → N5
open _root_.Int renaming reduceNeg → Z0, reduceAdd → Z1, reduceSub → Z2, reduceMul → Z3, reduceGT → Z4, reduceGE → Z5, reduceLT → Z6, reduceLE → Z7, reduceEq → Z8, reduceNe → Z9, reduceToNat → Z10, cast_ofNat_Int → Zc
set_option maxRecDepth 100000
set_option linter.unusedSimpArgs false
set_option linter.unusedVariables false

def truncD (x : Nat) (d : Ieee.Datum) : Sem Value :=
  match d with
  | .nan s t =>
    if FloatKind.f64.format.quiet t = t then pure (.float .f64 x) else do
    let kept ← choose (.extern "math.Floor,Ceil,Trunc,RoundToEven.signallingNaN kept" 2)
    pure (.float .f64 (if kept == 1 then x else FloatKind.f64.encode (.nan s (FloatKind.f64.format.quiet t))))
  | d => pure (.float .f64 (FloatKind.f64.encode (d.integral .zero)))
theorem trunc_eq (x : Nat) : Extern.MathFloor.toIntegral "math.archTrunc" .zero #[.float .f64 x] = truncD x (FloatKind.f64.decode x) := rfl
theorem run_trunc {P : Program} {z : Int} (h0 : 0 ≤ z) (h1 : z < 4503599627370496) (w : World) :
    (Extern.MathFloor.toIntegral "math.archTrunc" .zero #[.float .f64 (qf z)]).run P w = .ok (.float .f64 (qf (4 * z.tdiv 4))) w := by
  obtain ⟨s, m, e, hd, hv⟩ := (qf_read (z := z) (by omega)).1
  have ht := qf_trunc (z := z) (by omega) (.inl h0)
  have hd2 : FloatKind.f64.decode (qf z) = .number s m e := hd
  rw [hd] at ht
  rw [trunc_eq, hd2]
  show Sem.run P (pure (Value.float .f64 (FloatKind.f64.encode ((Ieee.Datum.number s m e).integral .zero)))) w = _
  rw [Sem.run_pure]
  have : FloatKind.f64.encode ((Ieee.Datum.number s m e).integral .zero) = qf (4 * z.tdiv 4) := ht
  rw [this]
abbrev truncCon : Con where
  ι := { z : Int // 0 ≤ z ∧ z < 4503599627370496 }
  args := fun z => [.v (.float .f64 (qf z.1))]
  post := fun z r => r = .v (.float .f64 (qf (4 * z.1.tdiv 4)))
  plain := true
theorem trunc_walk {z : Int} (h0 : 0 ≤ z) (h1 : z < 4503599627370496) (w : World) : Calls Tryd.prog 55 #[.float .f64 (qf z)] w fun e w' => e = .returned (.float .f64 (qf (4 * z.tdiv 4))) ∧ w' = w := by
  have hd : ∀ w : World, (callFunc 62 #[.float .f64 (qf z)]).run Tryd.prog w = .ok (.value (.float .f64 (qf (4 * z.tdiv 4)))) w := by
    intro w
    rw [run_callFunc_extern Tryd.func62 (by kernel_rfl) (by kernel_rfl) (by kernel_rfl) (show Extern.find Tryd.f62 = some (Extern.MathFloor.toIntegral "math.archTrunc" .zero) from by kernel_rfl), run_trunc h0 h1]
    rfl
  generalize qf z = x at *
  generalize qf (4 * z.tdiv 4) = y at *
  go_enter Tryd.func55, Tryd.ntmps55
  go_wp2
  go_ret
  exact ⟨rfl, rfl⟩
theorem trunc_good : Rw.Good Tryd.prog 55 truncCon := by
  refine good_below ⟨_, Tryd.func55, by kernel_rfl, by kernel_rfl⟩ rfl rfl fun s w F vs htb hs hv => ?_
  obtain ⟨z, h0, h1⟩ := s
  have h0' := VR.v_inv (hv 0)
  have e : vs = #[.float .f64 (qf z)] := by
    apply Array.ext (by simpa using hs)
    intro i h2 h3
    have : i = 0 := by simpa using h3
    subst this
    rw [Array.getD_eq_getD_getElem?, Array.getElem?_eq_getElem h2] at h0'
    simpa using h0'
  subst e
  refine (trunc_walk h0 h1 w).mono ?_
  rintro e w' ⟨rfl, rfl⟩
  exact ⟨_, _, rfl, rfl, fun _ _ => .v _, rfl, .refl _ _⟩
theorem call_trunc {Γ : Env} (hf : Γ.get 55 = some truncCon) {σ : AS} {dr : Bool} {z : Int} {d : Option Nat} {K : AS → Prop} (h : 0 ≤ z ∧ z < 4503599627370496)
    (hk : cont σ d (.v (.float .f64 (qf (4 * z.tdiv 4)))) K) : vcCall Tryd.prog Γ dr σ 55 [.v (.float .f64 (qf z))] d K :=
  vcCall_plain (C := truncCon) (i := ⟨z, h⟩) hf rfl rfl rfl rfl (fun _ h => h) rfl hk
theorem fl0 : Value.float .f64 0 = .float .f64 (qf 0) := by rw [qf_zero]
theorem fl40 : Value.float .f64 4787326403894837248 = .float .f64 (qf 4398046511104) := by rw [show qf 4398046511104 = 4787326403894837248 from by decide +kernel]
theorem cx0 : Value.complex .f64 0 0 = .complex .f64 (qf 0) (qf 0) := by rw [qf_zero]
/-- Is a number of quarters a place? -/
def plOk (z : Int) : Prop := 0 ≤ z ∧ z ≤ 4398046511104 ∧ z % 4 = 0
instance (z : Int) : Decidable (plOk z) := by unfold plOk; infer_instance
def plV (z : Int) : Int := if plOk z then z / 4 else 0
abbrev placeCon : Con where
  ι := { z : Int // -2251799813685248 < z ∧ z < 2251799813685248 }
  args := fun z => [.v (.float .f64 (qf z.1))]
  post := fun z r => r = .tup [.v (.int .i64 (plV z.1)), .v (.bool (decide (plOk z.1)))]
  plain := true
theorem place_good : Rw.Good Tryd.prog 48 placeCon := by
  have hΓ : GoodEnv Tryd.prog [(55, truncCon)] := (goodEnv_cons trunc_good goodEnv_nil)
  refine good_fn (nn := 19) hΓ Tryd.func48 (by kernel_rfl) rfl (show Tryd.f48.results.toList = [.tmp 2, .tmp 3] from rfl) (fun _ => rfl) (fun _ => rfl) ?_
  rintro ⟨z, h1, h2⟩
  simp only [goRules, coreRules, tiRules, unRules, AS_of_eq, ← decide_not, N0, N1, N2, N3, N4, N5, Z0, Z1, Z2, Z3, Z4, Z5, Z6, Z7, Z8, Z9, Z10, Zc, ↓reduceIte, reduceCtorEq, fl0, fl40]
  rw [binq_geq (by omega) (by omega) (by omega) (by omega)]
  by_cases k1 : z ≥ 0
  case neg =>
    have hp : ¬ plOk z := fun h => k1 h.1
    simp only [goRules, coreRules, tiRules, unRules, AS_of_eq, ← decide_not, N0, N1, N2, N3, N4, N5, Z0, Z1, Z2, Z3, Z4, Z5, Z6, Z7, Z8, Z9, Z10, Zc, ↓reduceIte, reduceCtorEq, k1, fl0, fl40]
    rw [plV, if_neg hp, decide_eq_false hp]
  simp only [goRules, coreRules, tiRules, unRules, AS_of_eq, ← decide_not, N0, N1, N2, N3, N4, N5, Z0, Z1, Z2, Z3, Z4, Z5, Z6, Z7, Z8, Z9, Z10, Zc, ↓reduceIte, reduceCtorEq, k1, fl0, fl40]
  rw [binq_leq (by omega) (by omega) (by omega) (by omega)]
  by_cases k2 : z ≤ 4398046511104
  case neg =>
    have hp : ¬ plOk z := fun h => k2 h.2.1
    simp only [goRules, coreRules, tiRules, unRules, AS_of_eq, ← decide_not, N0, N1, N2, N3, N4, N5, Z0, Z1, Z2, Z3, Z4, Z5, Z6, Z7, Z8, Z9, Z10, Zc, ↓reduceIte, reduceCtorEq, k2, fl0, fl40]
    rw [plV, if_neg hp, decide_eq_false hp]
  simp only [goRules, coreRules, tiRules, unRules, AS_of_eq, ← decide_not, N0, N1, N2, N3, N4, N5, Z0, Z1, Z2, Z3, Z4, Z5, Z6, Z7, Z8, Z9, Z10, Zc, ↓reduceIte, reduceCtorEq, k2, fl0, fl40]
  refine call_trunc (by simp [get_cons]) ⟨by omega, by omega⟩ ?_
  have ht := tdiv_abs z
  rw [if_neg (by omega)] at ht
  simp only [goRules, coreRules, tiRules, unRules, AS_of_eq, ← decide_not, N0, N1, N2, N3, N4, N5, Z0, Z1, Z2, Z3, Z4, Z5, Z6, Z7, Z8, Z9, Z10, Zc, ↓reduceIte, reduceCtorEq]
  rw [binq_neq (by omega) (by omega) (by omega) (by omega)]
  by_cases k3 : z = 4 * z.tdiv 4
  case neg =>
    have hp : ¬ plOk z := fun h => k3 (by have := h.2.2; omega)
    simp only [goRules, coreRules, tiRules, unRules, AS_of_eq, ← decide_not, N0, N1, N2, N3, N4, N5, Z0, Z1, Z2, Z3, Z4, Z5, Z6, Z7, Z8, Z9, Z10, Zc, ↓reduceIte, reduceCtorEq, eq_false k3]
    rw [plV, if_neg hp, decide_eq_false hp]
  have hp : plOk z := ⟨k1, k2, by omega⟩
  simp only [goRules, coreRules, tiRules, unRules, AS_of_eq, ← decide_not, N0, N1, N2, N3, N4, N5, Z0, Z1, Z2, Z3, Z4, Z5, Z6, Z7, Z8, Z9, Z10, Zc, ↓reduceIte, reduceCtorEq, eq_true k3]
  rw [show Ieee.Datum.toInt Ieee.Toward.zero (FloatKind.f64.decode (qf z)) = some (z.tdiv 4) from qf_toInt (by omega)]
  simp only
  rw [if_pos (by have e1 : IntKind.i64.min = -9223372036854775808 := rfl; have e2 : IntKind.i64.max = 9223372036854775807 := rfl; omega)]
  simp only [goRules, coreRules, tiRules, unRules, AS_of_eq, ← decide_not, N0, N1, N2, N3, N4, N5, Z0, Z1, Z2, Z3, Z4, Z5, Z6, Z7, Z8, Z9, Z10, Zc, ↓reduceIte, reduceCtorEq]
  rw [plV, if_pos hp, decide_eq_true hp, show z.tdiv 4 = z / 4 by omega]
theorem call_place {Γ : Env} (hf : Γ.get 48 = some placeCon) {σ : AS} {dr : Bool} {z : Int} {d : Option Nat} {K : AS → Prop} (h : -2251799813685248 < z ∧ z < 2251799813685248)
    (hk : cont σ d (.tup [.v (.int .i64 (plV z)), .v (.bool (decide (plOk z)))]) K) : vcCall Tryd.prog Γ dr σ 48 [.v (.float .f64 (qf z))] d K :=
  vcCall_plain (C := placeCon) (i := ⟨z, h⟩) hf rfl rfl rfl rfl (fun _ h => h) rfl hk
abbrev Num0 := { n : Int // -9223372036854775808 ≤ n ∧ n ≤ 9223372036854775807 }
abbrev Sel := { p : Int × Int // (-2251799813685248 < p.1 ∧ p.1 < 2251799813685248) ∧ (-2251799813685248 < p.2 ∧ p.2 < 2251799813685248) }
def cq (z w : Int) : AV := .v (.complex .f64 (qf z) (qf w))
def selOk (z w : Int) : Prop := plOk z ∧ plOk w
instance (z w : Int) : Decidable (selOk z w) := by unfold selOk; infer_instance
def selR (z w : Int) : AV := if selOk z w then .tup [.v (.int .i64 (z / 4)), .v (.int .i64 (w / 4)), .v (.bool true)] else .tup [.v (.int .i64 0), .v (.int .i64 0), .v (.bool false)]
abbrev placesCon : Con where
  ι := Sel
  args := fun p => [cq p.1.1 p.1.2]
  post := fun p r => r = selR p.1.1 p.1.2
  plain := true
theorem places_good : Rw.Good Tryd.prog 29 placesCon := by
  have hΓ : GoodEnv Tryd.prog [(48, placeCon)] := (goodEnv_cons place_good goodEnv_nil)
  refine good_fn (nn := 28) hΓ Tryd.func29 (by kernel_rfl) rfl (show Tryd.f29.results.toList = [.tmp 2, .tmp 3, .tmp 4] from rfl) (fun _ => rfl) (fun _ => rfl) ?_
  rintro ⟨⟨z, w⟩, hz, hw⟩
  simp only at hz hw
  simp only [cq]
  simp only [goRules, coreRules, tiRules, unRules, AS_of_eq, ← decide_not, N0, N1, N2, N3, N4, N5, Z0, Z1, Z2, Z3, Z4, Z5, Z6, Z7, Z8, Z9, Z10, Zc, ↓reduceIte, reduceCtorEq]
  refine call_place (by simp [get_cons]) hz ?_
  simp only [goRules, coreRules, tiRules, unRules, AS_of_eq, ← decide_not, N0, N1, N2, N3, N4, N5, Z0, Z1, Z2, Z3, Z4, Z5, Z6, Z7, Z8, Z9, Z10, Zc, ↓reduceIte, reduceCtorEq]
  refine call_place (by simp [get_cons]) hw ?_
  by_cases k1 : plOk z
  · by_cases k2 : plOk w
    · simp only [goRules, coreRules, tiRules, unRules, AS_of_eq, ← decide_not, N0, N1, N2, N3, N4, N5, Z0, Z1, Z2, Z3, Z4, Z5, Z6, Z7, Z8, Z9, Z10, Zc, ↓reduceIte, reduceCtorEq, k1, k2]
      rw [selR, if_pos ⟨k1, k2⟩, plV, plV, if_pos k1, if_pos k2]
    · simp only [goRules, coreRules, tiRules, unRules, AS_of_eq, ← decide_not, N0, N1, N2, N3, N4, N5, Z0, Z1, Z2, Z3, Z4, Z5, Z6, Z7, Z8, Z9, Z10, Zc, ↓reduceIte, reduceCtorEq, k1, k2]
      rw [selR, if_neg (fun h => k2 h.2)]
  · simp only [goRules, coreRules, tiRules, unRules, AS_of_eq, ← decide_not, N0, N1, N2, N3, N4, N5, Z0, Z1, Z2, Z3, Z4, Z5, Z6, Z7, Z8, Z9, Z10, Zc, ↓reduceIte, reduceCtorEq, k1]
    rw [selR, if_neg (fun h => k1 h.1)]
theorem selR_plain (z w : Int) : (selR z w).plain = true := by unfold selR; split <;> rfl
theorem call_places {Γ : Env} (hf : Γ.get 29 = some placesCon) {σ : AS} {dr : Bool} {z w : Int} {d : Option Nat} {K : AS → Prop} (hz : -2251799813685248 < z ∧ z < 2251799813685248) (hw : -2251799813685248 < w ∧ w < 2251799813685248)
    (hk : cont σ d (selR z w) K) : vcCall Tryd.prog Γ dr σ 29 [.v (.complex .f64 (qf z) (qf w))] d K :=
  vcCall_plain (C := placesCon) (i := ⟨(z, w), hz, hw⟩) hf rfl rfl rfl rfl (fun _ h => h) (selR_plain z w) hk
abbrev turnCon : Con where
  ι := Sel
  args := fun p => [cq p.1.1 p.1.2]
  post := fun p r => r = if selOk p.1.1 p.1.2 then cq p.1.2 p.1.1 else cq p.1.1 p.1.2
  plain := true
theorem turn_good : Rw.Good Tryd.prog 30 turnCon := by
  have hΓ : GoodEnv Tryd.prog [(29, placesCon)] := (goodEnv_cons places_good goodEnv_nil)
  refine good_fn (nn := 20) hΓ Tryd.func30 (by kernel_rfl) rfl (show Tryd.f30.results.toList = [.tmp 2] from rfl) (fun _ => rfl) (fun _ => rfl) ?_
  rintro ⟨⟨z, w⟩, hz, hw⟩
  simp only at hz hw
  simp only [cq]
  simp only [goRules, coreRules, tiRules, unRules, AS_of_eq, ← decide_not, N0, N1, N2, N3, N4, N5, Z0, Z1, Z2, Z3, Z4, Z5, Z6, Z7, Z8, Z9, Z10, Zc, ↓reduceIte, reduceCtorEq]
  refine call_places (by simp [get_cons]) hz hw ?_
  by_cases k1 : selOk z w
  · simp only [goRules, coreRules, tiRules, unRules, AS_of_eq, ← decide_not, N0, N1, N2, N3, N4, N5, Z0, Z1, Z2, Z3, Z4, Z5, Z6, Z7, Z8, Z9, Z10, Zc, ↓reduceIte, reduceCtorEq, selR, k1]
  · simp only [goRules, coreRules, tiRules, unRules, AS_of_eq, ← decide_not, N0, N1, N2, N3, N4, N5, Z0, Z1, Z2, Z3, Z4, Z5, Z6, Z7, Z8, Z9, Z10, Zc, ↓reduceIte, reduceCtorEq, selR, k1]
theorem call_turn {Γ : Env} (hf : Γ.get 30 = some turnCon) {σ : AS} {dr : Bool} {z w : Int} {d : Option Nat} {K : AS → Prop} (hz : -2251799813685248 < z ∧ z < 2251799813685248) (hw : -2251799813685248 < w ∧ w < 2251799813685248)
    (hk : cont σ d (if selOk z w then cq w z else cq z w) K) : vcCall Tryd.prog Γ dr σ 30 [.v (.complex .f64 (qf z) (qf w))] d K :=
  vcCall_plain (C := turnCon) (i := ⟨(z, w), hz, hw⟩) hf rfl rfl rfl rfl (fun _ h => h) (by split <;> rfl) hk
abbrev spanCon : Con where
  ι := Sel
  args := fun p => [cq p.1.1 p.1.2]
  post := fun p r => r = if selOk p.1.1 p.1.2 then .tup [.v (.int .i64 (min (p.1.1 / 4) (p.1.2 / 4))), .v (.int .i64 (max (p.1.1 / 4) (p.1.2 / 4)))] else .tup [.v (.int .i64 0), .v (.int .i64 0)]
  plain := true
theorem span_good : Rw.Good Tryd.prog 33 spanCon := by
  have hΓ : GoodEnv Tryd.prog [(29, placesCon)] := (goodEnv_cons places_good goodEnv_nil)
  refine good_fn (nn := 19) hΓ Tryd.func33 (by kernel_rfl) rfl (show Tryd.f33.results.toList = [.tmp 2, .tmp 3] from rfl) (fun _ => rfl) (fun _ => rfl) ?_
  rintro ⟨⟨z, w⟩, hz, hw⟩
  simp only at hz hw
  simp only [cq]
  simp only [goRules, coreRules, tiRules, unRules, AS_of_eq, ← decide_not, N0, N1, N2, N3, N4, N5, Z0, Z1, Z2, Z3, Z4, Z5, Z6, Z7, Z8, Z9, Z10, Zc, ↓reduceIte, reduceCtorEq]
  refine call_places (by simp [get_cons]) hz hw ?_
  by_cases k1 : selOk z w
  · simp only [goRules, coreRules, tiRules, unRules, AS_of_eq, ← decide_not, N0, N1, N2, N3, N4, N5, Z0, Z1, Z2, Z3, Z4, Z5, Z6, Z7, Z8, Z9, Z10, Zc, ↓reduceIte, reduceCtorEq, selR, k1, min2_int, max2_int]
  · simp only [goRules, coreRules, tiRules, unRules, AS_of_eq, ← decide_not, N0, N1, N2, N3, N4, N5, Z0, Z1, Z2, Z3, Z4, Z5, Z6, Z7, Z8, Z9, Z10, Zc, ↓reduceIte, reduceCtorEq, selR, k1, min2_int, max2_int]
    rfl
theorem call_span {Γ : Env} (hf : Γ.get 33 = some spanCon) {σ : AS} {dr : Bool} {z w : Int} {d : Option Nat} {K : AS → Prop} (hz : -2251799813685248 < z ∧ z < 2251799813685248) (hw : -2251799813685248 < w ∧ w < 2251799813685248)
    (hk : cont σ d (if selOk z w then .tup [.v (.int .i64 (min (z / 4) (w / 4))), .v (.int .i64 (max (z / 4) (w / 4)))] else .tup [.v (.int .i64 0), .v (.int .i64 0)]) K) : vcCall Tryd.prog Γ dr σ 33 [.v (.complex .f64 (qf z) (qf w))] d K :=
  vcCall_plain (C := spanCon) (i := ⟨(z, w), hz, hw⟩) hf rfl rfl rfl rfl (fun _ h => h) (by split <;> rfl) hk
abbrev withinCon : Con where
  ι := Sel × Num0
  args := fun p => [cq p.1.1.1 p.1.1.2, .v (.int .i64 p.2.1)]
  post := fun p r => r = .v (.bool (decide (selOk p.1.1.1 p.1.1.2 ∧ p.1.1.1 / 4 ≤ p.2.1 ∧ p.1.1.2 / 4 ≤ p.2.1)))
  plain := true
theorem within_good : Rw.Good Tryd.prog 34 withinCon := by
  have hΓ : GoodEnv Tryd.prog [(29, placesCon)] := (goodEnv_cons places_good goodEnv_nil)
  refine good_fn (nn := 25) hΓ Tryd.func34 (by kernel_rfl) rfl (show Tryd.f34.results.toList = [.tmp 4] from rfl) (fun _ => rfl) (fun _ => rfl) ?_
  rintro ⟨⟨⟨z, w⟩, hz, hw⟩, ⟨n, hn⟩⟩
  simp only at hz hw
  simp only [cq]
  simp only [goRules, coreRules, tiRules, unRules, AS_of_eq, ← decide_not, N0, N1, N2, N3, N4, N5, Z0, Z1, Z2, Z3, Z4, Z5, Z6, Z7, Z8, Z9, Z10, Zc, ↓reduceIte, reduceCtorEq]
  refine call_places (by simp [get_cons]) hz hw ?_
  by_cases k1 : selOk z w
  · by_cases k2 : z / 4 ≤ n
    · simp only [goRules, coreRules, tiRules, unRules, AS_of_eq, ← decide_not, N0, N1, N2, N3, N4, N5, Z0, Z1, Z2, Z3, Z4, Z5, Z6, Z7, Z8, Z9, Z10, Zc, ↓reduceIte, reduceCtorEq, selR, k1, k2]
    · simp only [goRules, coreRules, tiRules, unRules, AS_of_eq, ← decide_not, N0, N1, N2, N3, N4, N5, Z0, Z1, Z2, Z3, Z4, Z5, Z6, Z7, Z8, Z9, Z10, Zc, ↓reduceIte, reduceCtorEq, selR, k1, k2]
  · simp only [goRules, coreRules, tiRules, unRules, AS_of_eq, ← decide_not, N0, N1, N2, N3, N4, N5, Z0, Z1, Z2, Z3, Z4, Z5, Z6, Z7, Z8, Z9, Z10, Zc, ↓reduceIte, reduceCtorEq, selR, k1]
theorem call_within {Γ : Env} (hf : Γ.get 34 = some withinCon) {σ : AS} {dr : Bool} {z w n : Int} {d : Option Nat} {K : AS → Prop} (hz : -2251799813685248 < z ∧ z < 2251799813685248) (hw : -2251799813685248 < w ∧ w < 2251799813685248) (hn : -9223372036854775808 ≤ n ∧ n ≤ 9223372036854775807)
    (hk : cont σ d (.v (.bool (decide (selOk z w ∧ z / 4 ≤ n ∧ w / 4 ≤ n)))) K) : vcCall Tryd.prog Γ dr σ 34 [.v (.complex .f64 (qf z) (qf w)), .v (.int .i64 n)] d K :=
  vcCall_plain (C := withinCon) (i := (⟨(z, w), hz, hw⟩, ⟨n, hn⟩)) hf rfl rfl rfl rfl (fun _ h => h) rfl hk
def ofcOk (a b : Int) : Prop := 0 ≤ a ∧ a ≤ 1099511627776 ∧ 0 ≤ b ∧ b ≤ 1099511627776
instance (z w : Int) : Decidable (ofcOk z w) := by unfold ofcOk; infer_instance
def ofcR (a b : Int) : AV := if ofcOk a b then .tup [cq (4 * a) (4 * b), .v (.int .i64 0)] else .tup [cq 0 0, .v (.int .i64 1)]
theorem ofcR_plain (a b : Int) : (ofcR a b).plain = true := by unfold ofcR; split <;> rfl
abbrev ofcCon : Con where
  ι := Num0 × Num0
  args := fun p => [.v (.int .i64 p.1.1), .v (.int .i64 p.2.1)]
  post := fun p r => r = ofcR p.1.1 p.2.1
  plain := true
theorem ofc_good : Rw.Good Tryd.prog 25 ofcCon := by
  have hΓ : GoodEnv Tryd.prog [] := goodEnv_nil
  refine good_fn (nn := 25) hΓ Tryd.func25 (by kernel_rfl) rfl (show Tryd.f25.results.toList = [.tmp 4, .tmp 5] from rfl) (fun _ => rfl) (fun _ => rfl) ?_
  rintro ⟨⟨a, ha⟩, ⟨b, hb⟩⟩
  simp only [goRules, coreRules, tiRules, unRules, AS_of_eq, ← decide_not, N0, N1, N2, N3, N4, N5, Z0, Z1, Z2, Z3, Z4, Z5, Z6, Z7, Z8, Z9, Z10, Zc, ↓reduceIte, reduceCtorEq, cx0]
  by_cases k1 : a < 0
  · simp only [goRules, coreRules, tiRules, unRules, AS_of_eq, ← decide_not, N0, N1, N2, N3, N4, N5, Z0, Z1, Z2, Z3, Z4, Z5, Z6, Z7, Z8, Z9, Z10, Zc, ↓reduceIte, reduceCtorEq, k1, cx0]
    rw [ofcR, if_neg (fun h => by have := h.1; omega)]; rfl
  by_cases k2 : a > 1099511627776
  · simp only [goRules, coreRules, tiRules, unRules, AS_of_eq, ← decide_not, N0, N1, N2, N3, N4, N5, Z0, Z1, Z2, Z3, Z4, Z5, Z6, Z7, Z8, Z9, Z10, Zc, ↓reduceIte, reduceCtorEq, k1, k2, cx0]
    rw [ofcR, if_neg (fun h => by have := h.2.1; omega)]; rfl
  by_cases k3 : b < 0
  · simp only [goRules, coreRules, tiRules, unRules, AS_of_eq, ← decide_not, N0, N1, N2, N3, N4, N5, Z0, Z1, Z2, Z3, Z4, Z5, Z6, Z7, Z8, Z9, Z10, Zc, ↓reduceIte, reduceCtorEq, k1, k2, k3, cx0]
    rw [ofcR, if_neg (fun h => by have := h.2.2.1; omega)]; rfl
  by_cases k4 : b > 1099511627776
  · simp only [goRules, coreRules, tiRules, unRules, AS_of_eq, ← decide_not, N0, N1, N2, N3, N4, N5, Z0, Z1, Z2, Z3, Z4, Z5, Z6, Z7, Z8, Z9, Z10, Zc, ↓reduceIte, reduceCtorEq, k1, k2, k3, k4, cx0]
    rw [ofcR, if_neg (fun h => by have := h.2.2.2; omega)]; rfl
  simp only [goRules, coreRules, tiRules, unRules, AS_of_eq, ← decide_not, N0, N1, N2, N3, N4, N5, Z0, Z1, Z2, Z3, Z4, Z5, Z6, Z7, Z8, Z9, Z10, Zc, ↓reduceIte, reduceCtorEq, k1, k2, k3, k4, cx0, near_qf (n := a) (by omega) (by omega), near_qf (n := b) (by omega) (by omega)]
  rw [ofcR, if_pos ⟨by omega, by omega, by omega, by omega⟩]
  rfl
theorem call_ofc {Γ : Env} (hf : Γ.get 25 = some ofcCon) {σ : AS} {dr : Bool} {a b : Int} {d : Option Nat} {K : AS → Prop} (ha : -9223372036854775808 ≤ a ∧ a ≤ 9223372036854775807) (hb : -9223372036854775808 ≤ b ∧ b ≤ 9223372036854775807)
    (hk : cont σ d (ofcR a b) K) : vcCall Tryd.prog Γ dr σ 25 [.v (.int .i64 a), .v (.int .i64 b)] d K :=
  vcCall_plain (C := ofcCon) (i := (⟨a, ha⟩, ⟨b, hb⟩)) hf rfl rfl rfl rfl (fun _ h => h) (ofcR_plain a b) hk
def shOk (z w by_ : Int) : Prop := selOk z w ∧ -1099511627776 ≤ by_ ∧ by_ ≤ 1099511627776
instance (z w b : Int) : Decidable (shOk z w b) := by unfold shOk; infer_instance
def shR (z w b : Int) : AV := if shOk z w b then ofcR (z / 4 + b) (w / 4 + b) else .tup [cq 0 0, .v (.int .i64 1)]
theorem shR_plain (a b c : Int) : (shR a b c).plain = true := by
  unfold shR; split
  · exact ofcR_plain _ _
  · rfl
abbrev shiftCon : Con where
  ι := Sel × Num0
  args := fun p => [cq p.1.1.1 p.1.1.2, .v (.int .i64 p.2.1)]
  post := fun p r => r = shR p.1.1.1 p.1.1.2 p.2.1
  plain := true
theorem shift_good : Rw.Good Tryd.prog 35 shiftCon := by
  have hΓ : GoodEnv Tryd.prog [(29, placesCon), (25, ofcCon)] := (goodEnv_cons places_good (goodEnv_cons ofc_good goodEnv_nil))
  refine good_fn (nn := 34) hΓ Tryd.func35 (by kernel_rfl) rfl (show Tryd.f35.results.toList = [.tmp 4, .tmp 5] from rfl) (fun _ => rfl) (fun _ => rfl) ?_
  rintro ⟨⟨⟨z, w⟩, hz, hw⟩, ⟨n, hn⟩⟩
  simp only at hz hw
  simp only [cq]
  simp only [goRules, coreRules, tiRules, unRules, AS_of_eq, ← decide_not, N0, N1, N2, N3, N4, N5, Z0, Z1, Z2, Z3, Z4, Z5, Z6, Z7, Z8, Z9, Z10, Zc, ↓reduceIte, reduceCtorEq, cx0]
  refine call_places (by simp [get_cons]) hz hw ?_
  by_cases k1 : selOk z w
  case neg =>
    simp only [goRules, coreRules, tiRules, unRules, AS_of_eq, ← decide_not, N0, N1, N2, N3, N4, N5, Z0, Z1, Z2, Z3, Z4, Z5, Z6, Z7, Z8, Z9, Z10, Zc, ↓reduceIte, reduceCtorEq, selR, k1, cx0]
    rw [shR, if_neg (fun h => k1 h.1)]; rfl
  by_cases k2 : n < -1099511627776
  · simp only [goRules, coreRules, tiRules, unRules, AS_of_eq, ← decide_not, N0, N1, N2, N3, N4, N5, Z0, Z1, Z2, Z3, Z4, Z5, Z6, Z7, Z8, Z9, Z10, Zc, ↓reduceIte, reduceCtorEq, selR, k1, k2, cx0]
    rw [shR, if_neg (fun h => by have := h.2.1; omega)]; rfl
  by_cases k3 : n > 1099511627776
  · simp only [goRules, coreRules, tiRules, unRules, AS_of_eq, ← decide_not, N0, N1, N2, N3, N4, N5, Z0, Z1, Z2, Z3, Z4, Z5, Z6, Z7, Z8, Z9, Z10, Zc, ↓reduceIte, reduceCtorEq, selR, k1, k2, k3, cx0]
    rw [shR, if_neg (fun h => by have := h.2.2; omega)]; rfl
  obtain ⟨⟨z1, z2, z3⟩, ⟨w1, w2, w3⟩⟩ := id k1
  simp only [goRules, coreRules, tiRules, unRules, AS_of_eq, ← decide_not, N0, N1, N2, N3, N4, N5, Z0, Z1, Z2, Z3, Z4, Z5, Z6, Z7, Z8, Z9, Z10, Zc, ↓reduceIte, reduceCtorEq, selR, k1, k2, k3, cx0, wrap_i64 (n := z / 4 + n) (by omega) (by omega), wrap_i64 (n := w / 4 + n) (by omega) (by omega)]
  refine call_ofc (by simp [get_cons]) (by omega) (by omega) ?_
  have hR : shR z w n = ofcR (z / 4 + n) (w / 4 + n) := by rw [shR, if_pos ⟨k1, by omega, by omega⟩]
  unfold ofcR at hR ⊢
  by_cases k4 : ofcOk (z / 4 + n) (w / 4 + n)
  · rw [if_pos k4] at hR ⊢; simp only [cq]; simp only [goRules, coreRules, tiRules, unRules, AS_of_eq, ← decide_not, N0, N1, N2, N3, N4, N5, Z0, Z1, Z2, Z3, Z4, Z5, Z6, Z7, Z8, Z9, Z10, Zc, ↓reduceIte, reduceCtorEq, hR, cq]
  · rw [if_neg k4] at hR ⊢; simp only [cq]; simp only [goRules, coreRules, tiRules, unRules, AS_of_eq, ← decide_not, N0, N1, N2, N3, N4, N5, Z0, Z1, Z2, Z3, Z4, Z5, Z6, Z7, Z8, Z9, Z10, Zc, ↓reduceIte, reduceCtorEq, hR, cq]
theorem call_shift {Γ : Env} (hf : Γ.get 35 = some shiftCon) {σ : AS} {dr : Bool} {z w n : Int} {d : Option Nat} {K : AS → Prop} (hz : -2251799813685248 < z ∧ z < 2251799813685248) (hw : -2251799813685248 < w ∧ w < 2251799813685248) (hn : -9223372036854775808 ≤ n ∧ n ≤ 9223372036854775807)
    (hk : cont σ d (shR z w n) K) : vcCall Tryd.prog Γ dr σ 35 [.v (.complex .f64 (qf z) (qf w)), .v (.int .i64 n)] d K :=
  vcCall_plain (C := shiftCon) (i := (⟨(z, w), hz, hw⟩, ⟨n, hn⟩)) hf rfl rfl rfl rfl (fun _ h => h) (shR_plain _ _ _) hk
end Go.Proofs
end
