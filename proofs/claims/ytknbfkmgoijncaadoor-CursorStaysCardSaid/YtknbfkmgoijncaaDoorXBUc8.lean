/-
  CursorStays answers true.
-/
import Derived.Test.YtknbfkmgoijncaaDoorXBUc4
import Derived.Test.YtknbfkmgoijncaaDoorXBUo12
set_option linter.unusedSimpArgs false
set_option linter.unusedVariables false
set_option linter.defProp false

-- BUc8
section
namespace Go.Proofs
open Go Go.Rw
open _root_.Nat renaming reduceAdd → N0, reduceSub → N1, reduceMul → N2, reduceLT → N3, reduceLeDiff → N4, reduceEqDiff → N5
open _root_.Int renaming reduceNeg → Z0, reduceAdd → Z1, reduceSub → Z2, reduceMul → Z3, reduceGT → Z4, reduceGE → Z5, reduceLT → Z6, reduceLE → Z7, reduceEq → Z8, reduceNe → Z9, reduceToNat → Z10, cast_ofNat_Int → Zc
set_option maxRecDepth 100000
set_option linter.unusedSimpArgs false
set_option linter.unusedVariables false

abbrev cstayCon : Con where
  ι := Num × Num × Num × StrM × Num × Bool
  args := fun p => [.v (.int .i64 p.1.1), .v (.int .i64 p.2.1.1), .v (.int .i64 p.2.2.1.1), .v (sv p.2.2.2.1.1), .v (.int .i64 p.2.2.2.2.1.1), .v (.bool p.2.2.2.2.2)]
  post := fun _ r => r = .v (.bool true)
  plain := true
theorem th_put (p : Int) (af : Bool) {k g o m : Int} {t : List UInt8} {r : List Cp} (hk : 0 ≤ k) (hg : 0 ≤ g) : thF p af o m (putL k t g ++ r) = thF p af (o + k + g) (m + min (max (p - o) 0) k + (if o + k < p ∨ (o + k = p ∧ af = true) then ((cpts t).length : Int) else 0)) r := by
  have hnil : (cpts []).length = 0 := by have := cpts_len []; simpa using this
  unfold putL
  by_cases h1 : k > 0
  · by_cases h2 : t = []
    · subst h2
      have hz : (if o + k < p ∨ (o + k = p ∧ af = true) then (((cpts []).length : Nat) : Int) else 0) = 0 := by rw [hnil]; split <;> rfl
      rw [hz]
      by_cases h3 : g > 0
      · simp [h1, h3, thF]
      · have : g = 0 := by omega
        subst this
        simp [h1, thF]
    · by_cases h3 : g > 0
      · simp only [h1, h2, h3, if_true, ne_eq, not_false_eq_true, List.cons_append, List.nil_append, thF]
        simp only [Int.reduceEq, if_true, if_false]
        split <;> simp
      · have : g = 0 := by omega
        subst this
        simp only [h1, h2, h3, if_true, if_false, ne_eq, not_false_eq_true, List.cons_append, List.nil_append, List.append_nil, thF]
        simp only [Int.reduceEq, if_true, if_false]
        split <;> simp
  · have : k = 0 := by omega
    subst this
    have hm : min (max (p - o) 0) (0 : Int) = 0 := by omega
    rw [hm]
    by_cases h2 : t = []
    · subst h2
      have hz : (if o + 0 < p ∨ (o + 0 = p ∧ af = true) then (((cpts []).length : Nat) : Int) else 0) = 0 := by rw [hnil]; split <;> rfl
      rw [hz]
      by_cases h3 : g > 0
      · simp [h3, thF]
      · have : g = 0 := by omega
        subst this
        simp
    · by_cases h3 : g > 0
      · simp only [h1, h2, h3, if_true, if_false, ne_eq, not_false_eq_true, List.cons_append, List.nil_append, thF]
        simp only [Int.reduceEq, if_true, if_false, Int.add_zero]
        split <;> simp
      · have : g = 0 := by omega
        subst this
        simp only [h1, h2, h3, if_true, if_false, ne_eq, not_false_eq_true, List.cons_append, List.nil_append, List.append_nil, thF]
        simp only [Int.reduceEq, if_true, if_false, Int.add_zero]
        split <;> simp
/-- Where a place goes through an edit of one place. -/
theorem stay_law {n a b p : Int} {t : List UInt8} {af : Bool} (h1 : 0 ≤ a) (h2 : a ≤ b) (h3 : b ≤ n) (h4 : n ≤ 500) (ht : t.length ≤ 300) (hv : (pts t).isSome = true) (hp : 0 ≤ p) (hpn : p ≤ n) :
    checkI (ofL n a b t) = 0 ∧ okL (ofL n a b t) ∧ tot (ofL n a b t) ≤ 1000000 ∧ baseL (ofL n a b t) = n ∧ outL (ofL n a b t) = n - (b - a) + (cpts t).length ∧
    thr p (ofL n a b t) af = (if p < a then p else if p > b ∨ (p = b ∧ a < b) then p + ((cpts t).length - (b - a)) else if p = a then (if af = true then a + (cpts t).length else a) else a + (cpts t).length) := by
  obtain ⟨cs, hcs⟩ := Option.isSome_iff_exists.1 hv
  obtain ⟨e1, e2, e3⟩ := of_law h1 h2 h3 (by omega) hcs ht
  have hcp : cpts t = cs := cpts_some hcs
  rw [hcp]
  have hs := (check_cases e1).2.2.1
  have ho := (out_units e1).2.2
  have hu := (okL_units hs).2.1
  have hnil : (cpts []).length = 0 := by have := cpts_len []; simpa using this
  refine ⟨e1, ofL_ok ⟨h1, by omega⟩ h2 ⟨h3, by omega⟩ (by omega), by omega, e2, e3, ?_⟩
  unfold thr
  rcases ofL_cases (t := t) h1 h2 h3 (by omega) with ⟨h5, e⟩ | ⟨h5, h6, e⟩ | ⟨h5, h6, h7, e⟩
  · rw [e]
    have := th_put p af (k := a) (g := b - a) (o := 0) (m := 0) (t := t) (r := []) h1 (by omega)
    rw [List.append_nil, thF, hcp] at this
    rw [this]
    cases af <;> simp <;> (split <;> split <;> (try split) <;> omega)
  · rw [e, th_put p af h1 (by omega)]
    have := th_put p af (k := n - b) (g := 0) (o := 0 + a + (b - a)) (m := 0 + min (max (p - 0) 0) a + (if 0 + a < p ∨ (0 + a = p ∧ af = true) then ((cpts t).length : Int) else 0)) (t := []) (r := []) (by omega) (by omega)
    rw [List.append_nil, thF] at this
    rw [this, hcp, hnil]
    cases af <;> simp <;> (split <;> split <;> (try split) <;> omega)
  · subst h6 h7
    rw [e]
    have := th_put p af (k := n) (g := 0) (o := 0) (m := 0) (t := []) (r := []) (by omega) (by omega)
    rw [List.append_nil, thF] at this
    have hz : cs.length = 0 := by rw [← hcp]; exact hnil
    rw [this, hnil, hz]
    cases af <;> simp <;> (split <;> (try split) <;> (try split) <;> omega)
theorem cstay_good : Rw.Good Tryd.prog 10 cstayCon := by
  have hΓ : GoodEnv Tryd.prog [(24, trueCon), (17, roundCon), (25, ofcCon), (29, placesCon), (26, thrCon), (36, ofCon), (32, outCon), (37, baseCon)] := (goodEnv_cons awake11_good (goodEnv_cons round_good (goodEnv_cons ofc_good (goodEnv_cons places_good (goodEnv_cons through_good (goodEnv_cons of_good (goodEnv_cons out_good (goodEnv_cons base_good goodEnv_nil))))))))
  refine good_fn (nn := 169) hΓ Tryd.func10 (by kernel_rfl) rfl (show Tryd.f10.results.toList = [.tmp 12] from rfl) (fun _ => rfl) (fun _ => rfl) ?_
  rintro ⟨⟨n, hn⟩, ⟨a, ha⟩, ⟨b, hb⟩, ⟨t, ht⟩, ⟨p, hp⟩, af⟩
  simp only [goRules, coreRules, tiRules, unRules, AS_of_eq, ← decide_not, N0, N1, N2, N3, N4, N5, Z0, Z1, Z2, Z3, Z4, Z5, Z6, Z7, Z8, Z9, Z10, Zc, ↓reduceIte, reduceCtorEq]
  by_cases h1 : n < 0
  · simp only [goRules, coreRules, tiRules, unRules, AS_of_eq, ← decide_not, N0, N1, N2, N3, N4, N5, Z0, Z1, Z2, Z3, Z4, Z5, Z6, Z7, Z8, Z9, Z10, Zc, ↓reduceIte, reduceCtorEq, h1]
    refine call_awake11 (by simp [get_cons]) ?_
    simp only [goRules, coreRules, tiRules, unRules, AS_of_eq, ← decide_not, N0, N1, N2, N3, N4, N5, Z0, Z1, Z2, Z3, Z4, Z5, Z6, Z7, Z8, Z9, Z10, Zc, ↓reduceIte, reduceCtorEq]
  by_cases h2 : n > 500
  · simp only [goRules, coreRules, tiRules, unRules, AS_of_eq, ← decide_not, N0, N1, N2, N3, N4, N5, Z0, Z1, Z2, Z3, Z4, Z5, Z6, Z7, Z8, Z9, Z10, Zc, ↓reduceIte, reduceCtorEq, h1, h2]
    refine call_awake11 (by simp [get_cons]) ?_
    simp only [goRules, coreRules, tiRules, unRules, AS_of_eq, ← decide_not, N0, N1, N2, N3, N4, N5, Z0, Z1, Z2, Z3, Z4, Z5, Z6, Z7, Z8, Z9, Z10, Zc, ↓reduceIte, reduceCtorEq]
  by_cases h3 : (t.length : Int) > 300
  · simp only [goRules, coreRules, tiRules, unRules, AS_of_eq, ← decide_not, N0, N1, N2, N3, N4, N5, Z0, Z1, Z2, Z3, Z4, Z5, Z6, Z7, Z8, Z9, Z10, Zc, ↓reduceIte, reduceCtorEq, h1, h2, h3]
    refine call_awake11 (by simp [get_cons]) ?_
    simp only [goRules, coreRules, tiRules, unRules, AS_of_eq, ← decide_not, N0, N1, N2, N3, N4, N5, Z0, Z1, Z2, Z3, Z4, Z5, Z6, Z7, Z8, Z9, Z10, Zc, ↓reduceIte, reduceCtorEq]
  have hw : IntKind.i64.wrap (n + 1) = n + 1 := wrap_i64 (by omega) (by omega)
  simp only [goRules, coreRules, tiRules, unRules, AS_of_eq, ← decide_not, N0, N1, N2, N3, N4, N5, Z0, Z1, Z2, Z3, Z4, Z5, Z6, Z7, Z8, Z9, Z10, Zc, ↓reduceIte, reduceCtorEq, h1, h2, h3, hw]
  refine call_round (by simp [get_cons]) ha (by omega) ?_
  have a1 := Int.emod_nonneg a (show (n + 1) ≠ 0 by omega)
  have a2 := Int.emod_lt_of_pos a (show 0 < n + 1 by omega)
  generalize a % (n + 1) = x at *
  simp only [goRules, coreRules, tiRules, unRules, AS_of_eq, ← decide_not, N0, N1, N2, N3, N4, N5, Z0, Z1, Z2, Z3, Z4, Z5, Z6, Z7, Z8, Z9, Z10, Zc, ↓reduceIte, reduceCtorEq, wrap_i64 (n := n - x) (by omega) (by omega), wrap_i64 (n := n - x + 1) (by omega) (by omega)]
  refine call_round (by simp [get_cons]) hb (by omega) ?_
  have b1 := Int.emod_nonneg b (show (n - x + 1) ≠ 0 by omega)
  have b2 := Int.emod_lt_of_pos b (show 0 < n - x + 1 by omega)
  generalize b % (n - x + 1) = y' at *
  simp only [goRules, coreRules, tiRules, unRules, AS_of_eq, ← decide_not, N0, N1, N2, N3, N4, N5, Z0, Z1, Z2, Z3, Z4, Z5, Z6, Z7, Z8, Z9, Z10, Zc, ↓reduceIte, reduceCtorEq, wrap_i64 (n := x + y') (by omega) (by omega)]
  obtain ⟨y, hy⟩ : ∃ y, x + y' = y := ⟨_, rfl⟩
  rw [hy]
  refine call_of (by simp [get_cons]) (by omega) (by omega) (by omega) (by omega) ?_
  by_cases hv : (pts t).isSome = true
  case neg =>
    have hb : ofBad n x y t := .inr (.inr (.inr (by cases h : pts t with | none => rfl | some c => rw [h] at hv; simp at hv)))
    simp only [goRules, coreRules, tiRules, unRules, AS_of_eq, ← decide_not, N0, N1, N2, N3, N4, N5, Z0, Z1, Z2, Z3, Z4, Z5, Z6, Z7, Z8, Z9, Z10, Zc, ↓reduceIte, reduceCtorEq, ofR, hb, res2]
    refine call_awake11 (by simp [get_cons]) ?_
    simp only [goRules, coreRules, tiRules, unRules, AS_of_eq, ← decide_not, N0, N1, N2, N3, N4, N5, Z0, Z1, Z2, Z3, Z4, Z5, Z6, Z7, Z8, Z9, Z10, Zc, ↓reduceIte, reduceCtorEq]
  have hb : ¬ ofBad n x y t := by
    rintro (h | h | h | h)
    · omega
    · omega
    · omega
    · rw [h] at hv; simp at hv
  simp only [goRules, coreRules, tiRules, unRules, AS_of_eq, ← decide_not, N0, N1, N2, N3, N4, N5, Z0, Z1, Z2, Z3, Z4, Z5, Z6, Z7, Z8, Z9, Z10, Zc, ↓reduceIte, reduceCtorEq, ofR, hb, res2, hw]
  refine call_round (by simp [get_cons]) hp (by omega) ?_
  have p1 := Int.emod_nonneg p (show (n + 1) ≠ 0 by omega)
  have p2 := Int.emod_lt_of_pos p (show 0 < n + 1 by omega)
  generalize p % (n + 1) = q at *
  obtain ⟨c1, c2, c3, c4, c5, c6⟩ := stay_law (p := q) (af := af) a1 (show x ≤ y by omega) (show y ≤ n by omega) (by omega) (by omega) hv p1 (by omega)
  generalize ofL n x y t = l at *
  have hcl := cpts_len t
  have sq : selOk (4 * q) (4 * q) := by unfold selOk plOk; omega
  have q1 : 4 * q / 4 = q := by omega
  have hI : thrI (4 * q) (4 * q) l = 0 := by unfold thrI; rw [if_neg (fun h => h c1), if_neg (fun h => h sq), if_pos (by rw [q1]; omega)]
  obtain ⟨t1, t2, t3, t4⟩ := thr_facts (af := af) c1 c3 p1 (show q ≤ baseL l by omega)
  simp only [goRules, coreRules, tiRules, unRules, AS_of_eq, ← decide_not, N0, N1, N2, N3, N4, N5, Z0, Z1, Z2, Z3, Z4, Z5, Z6, Z7, Z8, Z9, Z10, Zc, ↓reduceIte, reduceCtorEq]
  refine call_ofc (by simp [get_cons]) (by omega) (by omega) ?_
  simp only [goRules, coreRules, tiRules, unRules, AS_of_eq, ← decide_not, N0, N1, N2, N3, N4, N5, Z0, Z1, Z2, Z3, Z4, Z5, Z6, Z7, Z8, Z9, Z10, Zc, ↓reduceIte, reduceCtorEq, ofcR, show ofcOk q q from ⟨by omega, by omega, by omega, by omega⟩, cq]
  refine call_through (by simp [get_cons]) (by omega) (by omega) rfl c2 c3 ?_
  generalize hT : thr q l af = T at *
  have s2 : selOk (4 * T) (4 * T) := by unfold selOk plOk; omega
  simp only [goRules, coreRules, tiRules, unRules, AS_of_eq, ← decide_not, N0, N1, N2, N3, N4, N5, Z0, Z1, Z2, Z3, Z4, Z5, Z6, Z7, Z8, Z9, Z10, Zc, ↓reduceIte, reduceCtorEq, thrR, hI, cq, q1, hT]
  refine call_places (by simp [get_cons]) (by omega) (by omega) ?_
  simp only [goRules, coreRules, tiRules, unRules, AS_of_eq, ← decide_not, N0, N1, N2, N3, N4, N5, Z0, Z1, Z2, Z3, Z4, Z5, Z6, Z7, Z8, Z9, Z10, Zc, ↓reduceIte, reduceCtorEq, selR, s2, show 4 * T / 4 = T by omega]
  refine call_out (by simp [get_cons]) rfl c2 ?_
  simp only [goRules, coreRules, tiRules, unRules, AS_of_eq, ← decide_not, N0, N1, N2, N3, N4, N5, Z0, Z1, Z2, Z3, Z4, Z5, Z6, Z7, Z8, Z9, Z10, Zc, ↓reduceIte, reduceCtorEq]
  refine call_base (by simp [get_cons]) rfl c2 ?_
  have w1 : IntKind.i64.wrap (outL l - baseL l) = outL l - baseL l := wrap_i64 (by omega) (by omega)
  generalize hL : ((cpts t).length : Int) = L at *
  have hg : outL l - baseL l = L - (y - x) := by omega
  have w4 : IntKind.i64.wrap (x + L) = x + L := wrap_i64 (by omega) (by omega)
  have w3 : IntKind.i64.wrap (L - (y - x)) = L - (y - x) := wrap_i64 (by omega) (by omega)
  by_cases k1 : q < x
  · rw [if_pos k1] at c6
    simp only [goRules, coreRules, tiRules, unRules, AS_of_eq, ← decide_not, N0, N1, N2, N3, N4, N5, Z0, Z1, Z2, Z3, Z4, Z5, Z6, Z7, Z8, Z9, Z10, Zc, ↓reduceIte, reduceCtorEq, w1, k1, c6]
    refine call_awake11 (by simp [get_cons]) ?_
    simp only [goRules, coreRules, tiRules, unRules, AS_of_eq, ← decide_not, N0, N1, N2, N3, N4, N5, Z0, Z1, Z2, Z3, Z4, Z5, Z6, Z7, Z8, Z9, Z10, Zc, ↓reduceIte, reduceCtorEq]
  · rw [if_neg k1] at c6
    by_cases k2 : q > y
    · rw [if_pos (.inl k2)] at c6
      simp only [goRules, coreRules, tiRules, unRules, AS_of_eq, ← decide_not, N0, N1, N2, N3, N4, N5, Z0, Z1, Z2, Z3, Z4, Z5, Z6, Z7, Z8, Z9, Z10, Zc, ↓reduceIte, reduceCtorEq, w1, k1, k2, hg, w3, w4, wrap_i64 (n := q + (L - (y - x))) (by omega) (by omega), c6]
      refine call_awake11 (by simp [get_cons]) ?_
      simp only [goRules, coreRules, tiRules, unRules, AS_of_eq, ← decide_not, N0, N1, N2, N3, N4, N5, Z0, Z1, Z2, Z3, Z4, Z5, Z6, Z7, Z8, Z9, Z10, Zc, ↓reduceIte, reduceCtorEq]
    · by_cases k3 : q = y
      · by_cases k4 : x < y
        · rw [if_pos (.inr ⟨k3, k4⟩)] at c6
          simp only [goRules, coreRules, tiRules, unRules, AS_of_eq, ← decide_not, N0, N1, N2, N3, N4, N5, Z0, Z1, Z2, Z3, Z4, Z5, Z6, Z7, Z8, Z9, Z10, Zc, ↓reduceIte, reduceCtorEq, w1, k1, k2, eq_true k3, k4, hg, w3, w4, wrap_i64 (n := q + (L - (y - x))) (by omega) (by omega), c6]
          refine call_awake11 (by simp [get_cons]) ?_
          simp only [goRules, coreRules, tiRules, unRules, AS_of_eq, ← decide_not, N0, N1, N2, N3, N4, N5, Z0, Z1, Z2, Z3, Z4, Z5, Z6, Z7, Z8, Z9, Z10, Zc, ↓reduceIte, reduceCtorEq]
        · have k5 : q = x := by omega
          rw [if_neg (by omega), if_pos k5] at c6
          cases af with
          | true =>
            simp only [if_true] at c6
            simp only [goRules, coreRules, tiRules, unRules, AS_of_eq, ← decide_not, N0, N1, N2, N3, N4, N5, Z0, Z1, Z2, Z3, Z4, Z5, Z6, Z7, Z8, Z9, Z10, Zc, ↓reduceIte, reduceCtorEq, w1, k1, k2, eq_true k3, k4, eq_true k5, hg, w3, w4, wrap_i64 (n := x + (L - (y - x))) (by omega) (by omega), wrap_i64 (n := y - x) (by omega) (by omega), wrap_i64 (n := x + (L - (y - x)) + (y - x)) (by omega) (by omega), c6, show x + (L - (y - x)) + (y - x) = x + L by omega]
            refine call_awake11 (by simp [get_cons]) ?_
            simp only [goRules, coreRules, tiRules, unRules, AS_of_eq, ← decide_not, N0, N1, N2, N3, N4, N5, Z0, Z1, Z2, Z3, Z4, Z5, Z6, Z7, Z8, Z9, Z10, Zc, ↓reduceIte, reduceCtorEq]
          | false =>
            simp only [Bool.false_eq_true, if_false] at c6
            simp only [goRules, coreRules, tiRules, unRules, AS_of_eq, ← decide_not, N0, N1, N2, N3, N4, N5, Z0, Z1, Z2, Z3, Z4, Z5, Z6, Z7, Z8, Z9, Z10, Zc, ↓reduceIte, reduceCtorEq, w1, k1, k2, eq_true k3, k4, eq_true k5, c6]
            refine call_awake11 (by simp [get_cons]) ?_
            simp only [goRules, coreRules, tiRules, unRules, AS_of_eq, ← decide_not, N0, N1, N2, N3, N4, N5, Z0, Z1, Z2, Z3, Z4, Z5, Z6, Z7, Z8, Z9, Z10, Zc, ↓reduceIte, reduceCtorEq]
      · by_cases k5 : q = x
        · rw [if_neg (by omega), if_pos k5] at c6
          cases af with
          | true =>
            simp only [if_true] at c6
            simp only [goRules, coreRules, tiRules, unRules, AS_of_eq, ← decide_not, N0, N1, N2, N3, N4, N5, Z0, Z1, Z2, Z3, Z4, Z5, Z6, Z7, Z8, Z9, Z10, Zc, ↓reduceIte, reduceCtorEq, w1, k1, k2, eq_false k3, eq_true k5, hg, w3, w4, wrap_i64 (n := x + (L - (y - x))) (by omega) (by omega), wrap_i64 (n := y - x) (by omega) (by omega), wrap_i64 (n := x + (L - (y - x)) + (y - x)) (by omega) (by omega), c6, show x + (L - (y - x)) + (y - x) = x + L by omega]
            refine call_awake11 (by simp [get_cons]) ?_
            simp only [goRules, coreRules, tiRules, unRules, AS_of_eq, ← decide_not, N0, N1, N2, N3, N4, N5, Z0, Z1, Z2, Z3, Z4, Z5, Z6, Z7, Z8, Z9, Z10, Zc, ↓reduceIte, reduceCtorEq]
          | false =>
            simp only [Bool.false_eq_true, if_false] at c6
            simp only [goRules, coreRules, tiRules, unRules, AS_of_eq, ← decide_not, N0, N1, N2, N3, N4, N5, Z0, Z1, Z2, Z3, Z4, Z5, Z6, Z7, Z8, Z9, Z10, Zc, ↓reduceIte, reduceCtorEq, w1, k1, k2, eq_false k3, eq_true k5, c6]
            refine call_awake11 (by simp [get_cons]) ?_
            simp only [goRules, coreRules, tiRules, unRules, AS_of_eq, ← decide_not, N0, N1, N2, N3, N4, N5, Z0, Z1, Z2, Z3, Z4, Z5, Z6, Z7, Z8, Z9, Z10, Zc, ↓reduceIte, reduceCtorEq]
        · rw [if_neg (by omega), if_neg k5] at c6
          simp only [goRules, coreRules, tiRules, unRules, AS_of_eq, ← decide_not, N0, N1, N2, N3, N4, N5, Z0, Z1, Z2, Z3, Z4, Z5, Z6, Z7, Z8, Z9, Z10, Zc, ↓reduceIte, reduceCtorEq, w1, k1, k2, eq_false k3, eq_false k5, hg, w3, w4, wrap_i64 (n := x + (L - (y - x))) (by omega) (by omega), wrap_i64 (n := y - x) (by omega) (by omega), wrap_i64 (n := x + (L - (y - x)) + (y - x)) (by omega) (by omega), c6, show x + (L - (y - x)) + (y - x) = x + L by omega]
          refine call_awake11 (by simp [get_cons]) ?_
          simp only [goRules, coreRules, tiRules, unRules, AS_of_eq, ← decide_not, N0, N1, N2, N3, N4, N5, Z0, Z1, Z2, Z3, Z4, Z5, Z6, Z7, Z8, Z9, Z10, Zc, ↓reduceIte, reduceCtorEq]
end Go.Proofs
end
