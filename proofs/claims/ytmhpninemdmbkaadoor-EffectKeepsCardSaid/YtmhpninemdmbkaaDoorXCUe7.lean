/-
  EffectSees answers true. How much is given; lists of what was done, the document's and the program's. Lists of what was done: the document's and the program's. effect.Same. The document's SameOnes. EffectKeeps answers true.
-/
import Derived.Test.YtmhpninemdmbkaaDoorXCUe6
import Derived.Test.YtmhpninemdmbkaaDoorXCAx5
import Derived.Test.YtmhpninemdmbkaaDoorXCAp5
import Derived.Test.YtmhpninemdmbkaaDoorXCAx3
set_option linter.unusedSimpArgs false
set_option linter.unusedVariables false
set_option linter.defProp false

-- CUe7
section
namespace Go.Proofs
open Go Go.Rw
open _root_.Nat renaming reduceAdd → N0, reduceSub → N1, reduceMul → N2, reduceLT → N3, reduceLeDiff → N4, reduceEqDiff → N5
open _root_.Int renaming reduceNeg → Z0, reduceAdd → Z1, reduceSub → Z2, reduceMul → Z3, reduceGT → Z4, reduceGE → Z5, reduceLT → Z6, reduceLE → Z7, reduceEq → Z8, reduceNe → Z9, reduceToNat → Z10, cast_ofNat_Int → Zc
set_option maxRecDepth 100000
set_option linter.unusedSimpArgs false
set_option linter.unusedVariables false

theorem call_eff_t {Γ : Env} (hf : Γ.get 12 = some effCon) {n : Nat} {t : Nat → AV} {hd : Nat → Nat → AV} {nh nl : Nat} {h : Nat → Option AO} {fm : Nat → Nat} {lv : Nat → Option (Nat × Nat)} {mu : Bool} {l : List Ac} {t1 : Nat} {ys : List AV} {d : Option Nat} {K : AS → Prop} (h1 : 2 ≤ t1) (hy : ys = acts l) (hl : l.length ≤ 1099511627776) (ho : ∀ a ∈ l, okL a.ops)
    (hk : cont ⟨n, t, hd, ⟨nh, h, nl, fm, kill fm [t1] lv, mu⟩⟩ d (.sl 0 8 (ones (effL l))) K) : vcCall Tryd.prog Γ false ⟨n, t, hd, ⟨nh, h, nl, fm, lv, mu⟩⟩ 12 [.sl t1 6 ys] d K := by
  subst hy
  refine vcCall_none (C := effCon) (i := ⟨l, hl, ho⟩) hf rfl rfl rfl (by simp [AV.erL, AV.er]) (ts := [t1]) ?_ ?_
  · simp [AV.tagsL, AV.tags, h1]
  · rintro r rfl
    exact hk
theorem call_eover_t {Γ : Env} (hf : Γ.get 11 = some eoverCon) {n : Nat} {t : Nat → AV} {hd : Nat → Nat → AV} {nh nl : Nat} {h : Nat → Option AO} {fm : Nat → Nat} {lv : Nat → Option (Nat × Nat)} {mu : Bool} {x : List On} {l : List Ac} {t1 : Nat} {xs ys : List AV} {d : Option Nat} {K : AS → Prop} (h1 : 2 ≤ t1) (hx : xs = ones x) (hy : ys = acts l) (hxl : x.length ≤ 1099511627776) (hxo : ∀ a ∈ x, okL a.ops) (hl : l.length ≤ 1099511627776) (ho : ∀ a ∈ l, okL a.ops)
    (hk : cont ⟨n, t, hd, ⟨nh, h, nl, fm, kill fm [t1] lv, mu⟩⟩ d (.sl 0 8 (ones (x.map fun z => overO z l))) K) : vcCall Tryd.prog Γ false ⟨n, t, hd, ⟨nh, h, nl, fm, lv, mu⟩⟩ 11 [.sl 0 8 xs, .sl t1 6 ys] d K := by
  subst hx hy
  refine vcCall_none (C := eoverCon) (i := (⟨x, hxl, hxo⟩, ⟨l, hl, ho⟩)) hf rfl rfl rfl (by simp [AV.erL, AV.er]) (ts := [t1]) ?_ ?_
  · simp [AV.tagsL, AV.tags, h1]
  · rintro r rfl
    exact hk
def awA : List Ac := [⟨3, 1, 0, [98], false, []⟩, ⟨4, 1, 0, [], false, [⟨1, 2, []⟩]⟩]
theorem aw_eff : effL awA = [⟨1, [⟨1, 2, []⟩], true, false, false, true, 0, [98]⟩] := by
  have h : effS [] awA = [⟨1, [⟨1, 2, []⟩], true, false, false, true, 0, [98]⟩] := by decide +kernel
  rw [effL, h]
  exact List.mergeSort_singleton _
theorem awake15_good : Rw.Good Tryd.prog 9 trueCon := by
  have hΓ : GoodEnv Tryd.prog [(12, effCon), (21, getCon)] := (goodEnv_cons eff_good (goodEnv_cons get_good goodEnv_nil))
  refine good_fn (nn := 48) hΓ Tryd.func9 (by kernel_rfl) rfl (show Tryd.f9.results.toList = [.tmp 0] from rfl) (fun _ => rfl) (fun _ => rfl) ?_
  intro _
  simp only [goRules, coreRules, tiRules, unRules, AS_of_eq, ← decide_not, N0, N1, N2, N3, N4, N5, Z0, Z1, Z2, Z3, Z4, Z5, Z6, Z7, Z8, Z9, Z10, Zc, ↓reduceIte, reduceCtorEq, List.map_cons, List.map_nil]
  refine call_eff_t (by simp [get_cons]) (by omega) (l := awA) rfl (by decide) (fun a ha => ?_) ?_
  · simp only [awA, List.mem_cons, List.not_mem_nil, or_false] at ha
    rcases ha with rfl | rfl
    · exact ⟨by decide, by decide, by simp⟩
    · exact ⟨by decide, by decide, by simp⟩
  simp only [goRules, coreRules, tiRules, unRules, AS_of_eq, ← decide_not, N0, N1, N2, N3, N4, N5, Z0, Z1, Z2, Z3, Z4, Z5, Z6, Z7, Z8, Z9, Z10, Zc, ↓reduceIte, reduceCtorEq, aw_eff, ones, oA, List.map_cons, List.map_nil]
  refine call_get (l := [⟨1, [⟨1, 2, []⟩], true, false, false, true, 0, [98]⟩]) (by simp [get_cons]) rfl (by decide) (fun a ha => ?_) ?_
  · rw [List.mem_singleton.1 ha]; exact ⟨by decide, by decide, by simp⟩
  simp only [goRules, coreRules, tiRules, unRules, AS_of_eq, ← decide_not, N0, N1, N2, N3, N4, N5, Z0, Z1, Z2, Z3, Z4, Z5, Z6, Z7, Z8, Z9, Z10, Zc, ↓reduceIte, reduceCtorEq, getO, hasO, fnd, oA, List.length_cons, List.length_nil]
theorem call_awake15 {Γ : Env} (hf : Γ.get 9 = some trueCon) {σ : AS} {dr : Bool} {d : Option Nat} {K : AS → Prop}
    (hk : cont σ d (.v (.bool true)) K) : vcCall Tryd.prog Γ dr σ 9 [] d K :=
  vcCall_plain (C := trueCon) (i := ()) hf rfl rfl rfl rfl (fun _ h => h) rfl hk
end Go.Proofs
end

-- CUe8
section
namespace Go.Proofs
open Go Go.Rw
open _root_.Nat renaming reduceAdd → N0, reduceSub → N1, reduceMul → N2, reduceLT → N3, reduceLeDiff → N4, reduceEqDiff → N5
open _root_.Int renaming reduceNeg → Z0, reduceAdd → Z1, reduceSub → Z2, reduceMul → Z3, reduceGT → Z4, reduceGE → Z5, reduceLT → Z6, reduceLE → Z7, reduceEq → Z8, reduceNe → Z9, reduceToNat → Z10, cast_ofNat_Int → Zc
set_option maxRecDepth 100000
set_option linter.unusedSimpArgs false
set_option linter.unusedVariables false

def wF (m : Int) : Int → List (Nat × List Cp) → Int
  | s, [] => s
  | s, (n, c) :: r => if s ≤ m then wF m (sumF s [(n : Int), compsF m 0 c, 3]) r else s
theorem compsF_bnd (m : Int) : ∀ (l : List Cp) (s : Int), 0 ≤ s → s ≤ 1099511627776 → 0 ≤ compsF m s l ∧ compsF m s l ≤ 1099511627776
  | [], s, h, h2 => ⟨h, h2⟩
  | c :: r, s, h, h2 => by
    rw [compsF]
    split
    · have := sumF_range [(c.t.length : Int), 2] (x := s) ⟨h, h2⟩ (by simp)
      exact compsF_bnd m r _ (by omega) this.2
    · exact ⟨h, h2⟩
theorem wF_le {m : Int} (hm : m < 1099511627776) : ∀ (l : List (Nat × List Cp)) {s : Int}, 0 ≤ s → wF m s l ≤ m → s + 3 * l.length ≤ m ∧ ∀ p ∈ l, (p.1 : Int) ≤ m ∧ compsF m 0 p.2 ≤ m
  | [], s, _, h => by simp only [wF] at h; simp; exact h
  | (n, c) :: r, s, hs, h => by
    simp only [wF] at h
    split at h
    · rename_i h1
      have hc := compsF_bnd m c 0 (by omega) (by omega)
      have e : sumF s [(n : Int), compsF m 0 c, 3] = addI (addI (addI s n) (compsF m 0 c)) 3 := rfl
      have h2 : 0 ≤ addI (addI (addI s n) (compsF m 0 c)) 3 := by unfold addI; omega
      rw [e] at h
      obtain ⟨h3, h4⟩ := wF_le hm r h2 h
      have h5 : addI (addI (addI s n) (compsF m 0 c)) 3 ≤ m := by omega
      have h6 : addI (addI (addI s n) (compsF m 0 c)) 3 = s + n + compsF m 0 c + 3 := by unfold addI at h5 ⊢; omega
      refine ⟨by simp only [List.length_cons]; omega, fun p hp => ?_⟩
      rcases List.mem_cons.1 hp with rfl | hp
      · exact ⟨by simp only; omega, by simp only; omega⟩
      · exact h4 p hp
    · omega
abbrev wideC (c : List Cp) : Prop := c.length ≤ 9223372036854775807 ∧ ∀ x ∈ c, (-9223372036854775808 ≤ x.n ∧ x.n ≤ 9223372036854775807) ∧ x.t.length ≤ 9223372036854775807
abbrev GivenA := { l : List Ac // l.length ≤ 9223372036854775807 ∧ ∀ a ∈ l, a.nm.length ≤ 9223372036854775807 ∧ wideC a.ops }
abbrev GivenO := { l : List On // l.length ≤ 9223372036854775807 ∧ ∀ a ∈ l, a.nm.length ≤ 9223372036854775807 ∧ wideC a.ops }
def wA (l : List Ac) : List (Nat × List Cp) := l.map fun a => (a.nm.length, a.ops)
def wO (l : List On) : List (Nat × List Cp) := l.map fun a => (a.nm.length, a.ops)
theorem wA_cons (a : Ac) (l : List Ac) : wA (a :: l) = (a.nm.length, a.ops) :: wA l := rfl
theorem wO_cons (a : On) (l : List On) : wO (a :: l) = (a.nm.length, a.ops) :: wO l := rfl
abbrev actsCon : Con where
  ι := GivenA × { m : Int // 0 ≤ m ∧ m ≤ 1000000 }
  args := fun p => [.sl 0 6 (acts p.1.1), .v (.int .i64 p.2.1)]
  post := fun p r => r = .v (.int .i64 (wF p.2.1 0 (wA p.1.1)))
  plain := true
theorem acts_good : Rw.Good Tryd.prog 16 actsCon := by
  have hΓ : GoodEnv Tryd.prog [(27, sumCon), (8, weighCon)] := (goodEnv_cons sum_good (goodEnv_cons weigh_good goodEnv_nil))
  refine good_fn (nn := 35) hΓ Tryd.func16 (by kernel_rfl) rfl (show Tryd.f16.results.toList = [.tmp 4] from rfl) (fun _ => rfl) (fun x => by simp [AV.erL, AV.er, acts_er]) ?_
  rintro ⟨⟨l, hl, hc⟩, ⟨m, hm⟩⟩
  simp only [goRules, coreRules, tiRules, unRules, AS_of_eq, ← decide_not, N0, N1, N2, N3, N4, N5, Z0, Z1, Z2, Z3, Z4, Z5, Z6, Z7, Z8, Z9, Z10, Zc, ↓reduceIte, reduceCtorEq, acts_len]
  obtain ⟨St, hSt⟩ : ∃ St : { p : Int × Nat // p.2 ≤ l.length ∧ (0 ≤ p.1 ∧ p.1 ≤ 1099511627776) ∧ wF m 0 (wA l) = wF m p.1 (wA (l.drop p.2)) } → AS, ∀ p, St p = AS.of 35 [(0, .sl 0 6 (acts l)), (1, .v (.int .i64 m)), (5, .v (.int .i64 p.1.1)), (6, .v (.int .i64 p.1.2))] [] [] := ⟨_, fun _ => rfl⟩
  refine vc_loopD [(5, [], [])] hΓ St (fun p => l.length - p.1.2) ⟨(0, 0), by omega, by simp only; omega, rfl⟩ (by rw [hSt]; refine weak_go [] [] ?_; simp only [goRules, coreRules, tiRules, unRules, AS_of_eq, ← decide_not, N0, N1, N2, N3, N4, N5, Z0, Z1, Z2, Z3, Z4, Z5, Z6, Z7, Z8, Z9, Z10, Zc, ↓reduceIte, reduceCtorEq] <;> ((repeat' apply And.intro) <;> first | rfl | omega | trivial)) ?_
  rintro ⟨⟨s, i⟩, hi, hs, hb⟩
  simp only at hi hs hb
  rw [hSt]
  simp only
  simp only [goRules, coreRules, tiRules, unRules, AS_of_eq, ← decide_not, N0, N1, N2, N3, N4, N5, Z0, Z1, Z2, Z3, Z4, Z5, Z6, Z7, Z8, Z9, Z10, Zc, ↓reduceIte, reduceCtorEq, wideRules, acts_len]
  (with_reducible first | refine branchP_dec (fun h => ?_) (fun h => ?_) | refine guardB_dec (fun h => ?_) (fun h => ?_))
  · have hlt : i < l.length := by omega
    have hci := hc l[i] (List.getElem_mem hlt)
    have e1 := acts_getD l hlt
    rw [List.drop_eq_getElem_cons hlt, wA_cons, wF] at hb
    generalize l[i] = a at *
    obtain ⟨k, id, par, nm, dir, ops⟩ := a
    obtain ⟨hn, ho, hoc⟩ := hci
    simp only at hn ho hoc hb e1
    simp (disch := omega) only [goRules, coreRules, tiRules, unRules, AS_of_eq, ← decide_not, N0, N1, N2, N3, N4, N5, Z0, Z1, Z2, Z3, Z4, Z5, Z6, Z7, Z8, Z9, Z10, Zc, ↓reduceIte, reduceCtorEq, wrap_i64, wideRules, h]
    (with_reducible first | refine branchP_dec (fun h2 => ?_) (fun h2 => ?_) | refine guardB_dec (fun h2 => ?_) (fun h2 => ?_))
    · simp (disch := omega) only [goRules, coreRules, tiRules, unRules, AS_of_eq, ← decide_not, N0, N1, N2, N3, N4, N5, Z0, Z1, Z2, Z3, Z4, Z5, Z6, Z7, Z8, Z9, Z10, Zc, ↓reduceIte, reduceCtorEq, wrap_i64, wideRules, h2, e1, aA, acts_len]
      (repeat (with_reducible refine And.intro ?_ ?_; focus (first | omega | exact mixed1 | kernel_rfl)))
      refine call_weigh (by simp [get_cons]) rfl ho (fun c h => (hoc c h).2) hm ?_
      have hcb := compsF_bnd m ops 0 (by omega) (by omega)
      simp (disch := omega) only [goRules, coreRules, tiRules, unRules, AS_of_eq, ← decide_not, N0, N1, N2, N3, N4, N5, Z0, Z1, Z2, Z3, Z4, Z5, Z6, Z7, Z8, Z9, Z10, Zc, ↓reduceIte, reduceCtorEq, wrap_i64, wideRules]
      refine call_sum (by simp [get_cons]) (y := [(nm.length : Int), compsF m 0 ops, 3]) rfl hs (by simp; omega) (by simp) ?_
      simp (disch := omega) only [goRules, coreRules, tiRules, unRules, AS_of_eq, ← decide_not, N0, N1, N2, N3, N4, N5, Z0, Z1, Z2, Z3, Z4, Z5, Z6, Z7, Z8, Z9, Z10, Zc, ↓reduceIte, reduceCtorEq, wrap_i64, wideRules]
      rw [if_pos h2] at hb
      have hr := sumF_range [(nm.length : Int), compsF m 0 ops, 3] hs (by simp; omega)
      refine weak_again ⟨(sumF s [(nm.length : Int), compsF m 0 ops, 3], i + 1), by simp only; omega, by simp only; omega, hb⟩ (by simp only; omega) ?_
      rw [hSt]; refine weak_go [] [] ?_
      simp only [goRules, coreRules, tiRules, unRules, AS_of_eq, ← decide_not, N0, N1, N2, N3, N4, N5, Z0, Z1, Z2, Z3, Z4, Z5, Z6, Z7, Z8, Z9, Z10, Zc, ↓reduceIte, reduceCtorEq] <;> ((repeat' apply And.intro) <;> first | rfl | omega | trivial)
    · simp (disch := omega) only [goRules, coreRules, tiRules, unRules, AS_of_eq, ← decide_not, N0, N1, N2, N3, N4, N5, Z0, Z1, Z2, Z3, Z4, Z5, Z6, Z7, Z8, Z9, Z10, Zc, ↓reduceIte, reduceCtorEq, wrap_i64, wideRules, h2]
      rw [hb, if_neg h2]
  · simp only [goRules, coreRules, tiRules, unRules, AS_of_eq, ← decide_not, N0, N1, N2, N3, N4, N5, Z0, Z1, Z2, Z3, Z4, Z5, Z6, Z7, Z8, Z9, Z10, Zc, ↓reduceIte, reduceCtorEq, wideRules, h]
    rw [List.drop_of_length_le (by omega)] at hb
    rw [hb]; rfl
theorem call_acts {Γ : Env} (hf : Γ.get 16 = some actsCon) {σ : AS} {dr : Bool} {l : List Ac} {m : Int} {ys : List AV} {d : Option Nat} {K : AS → Prop} (hy : ys = acts l) (h1 : l.length ≤ 9223372036854775807) (h2 : ∀ a ∈ l, a.nm.length ≤ 9223372036854775807 ∧ wideC a.ops) (hm : 0 ≤ m ∧ m ≤ 1000000)
    (hk : cont σ d (.v (.int .i64 (wF m 0 (wA l)))) K) : vcCall Tryd.prog Γ dr σ 16 [.sl 0 6 ys, .v (.int .i64 m)] d K := by
  subst hy
  exact vcCall_plain (C := actsCon) (i := (⟨l, h1, h2⟩, ⟨m, hm⟩)) hf rfl rfl rfl (by simp [AV.erL, AV.er, acts_er]) (fun _ h => h) rfl hk
theorem acts_ok {l : List Ac} {m : Int} (hm : m ≤ 1000000) (h2 : ∀ a ∈ l, a.nm.length ≤ 9223372036854775807 ∧ wideC a.ops) (h : wF m 0 (wA l) ≤ m) : l.length ≤ 1000000 ∧ ∀ a ∈ l, okL a.ops := by
  obtain ⟨h3, h4⟩ := wF_le (by omega) (wA l) (Int.le_refl 0) h
  simp only [wA, List.length_map] at h3
  refine ⟨by omega, fun a ha => (weigh_ok hm (h2 a ha).2.2 (h4 (a.nm.length, a.ops) (List.mem_map.2 ⟨a, ha, rfl⟩)).2).1⟩
end Go.Proofs
end

-- CUe9
section
namespace Go.Proofs
open Go Go.Rw
open _root_.Nat renaming reduceAdd → N0, reduceSub → N1, reduceMul → N2, reduceLT → N3, reduceLeDiff → N4, reduceEqDiff → N5
open _root_.Int renaming reduceNeg → Z0, reduceAdd → Z1, reduceSub → Z2, reduceMul → Z3, reduceGT → Z4, reduceGE → Z5, reduceLT → Z6, reduceLE → Z7, reduceEq → Z8, reduceNe → Z9, reduceToNat → Z10, cast_ofNat_Int → Zc
set_option maxRecDepth 100000
set_option linter.unusedSimpArgs false
set_option linter.unusedVariables false

abbrev small15Con : Con where
  ι := GivenO
  args := fun p => [.sl 0 8 (ones p.1)]
  post := fun p r => r = .v (.bool (decide (wF 3000 0 (wO p.1) ≤ 3000)))
  plain := true
theorem small15_good : Rw.Good Tryd.prog 15 small15Con := by
  have hΓ : GoodEnv Tryd.prog [(27, sumCon), (8, weighCon)] := (goodEnv_cons sum_good (goodEnv_cons weigh_good goodEnv_nil))
  refine good_fn (nn := 32) hΓ Tryd.func15 (by kernel_rfl) rfl (show Tryd.f15.results.toList = [.tmp 2] from rfl) (fun _ => rfl) (fun x => by simp [AV.erL, AV.er, ones_er]) ?_
  rintro ⟨l, hl, hc⟩
  simp only [goRules, coreRules, tiRules, unRules, AS_of_eq, ← decide_not, N0, N1, N2, N3, N4, N5, Z0, Z1, Z2, Z3, Z4, Z5, Z6, Z7, Z8, Z9, Z10, Zc, ↓reduceIte, reduceCtorEq, ones_len]
  obtain ⟨St, hSt⟩ : ∃ St : { p : Int × Nat // p.2 ≤ l.length ∧ (0 ≤ p.1 ∧ p.1 ≤ 1099511627776) ∧ wF 3000 0 (wO l) = wF 3000 p.1 (wO (l.drop p.2)) } → AS, ∀ p, St p = AS.of 32 [(0, .sl 0 8 (ones l)), (3, .v (.int .i64 p.1.1)), (4, .v (.int .i64 p.1.2))] [] [] := ⟨_, fun _ => rfl⟩
  refine vc_loopD [(5, [], [])] hΓ St (fun p => l.length - p.1.2) ⟨(0, 0), by omega, by simp only; omega, rfl⟩ (by rw [hSt]; refine weak_go [] [] ?_; simp only [goRules, coreRules, tiRules, unRules, AS_of_eq, ← decide_not, N0, N1, N2, N3, N4, N5, Z0, Z1, Z2, Z3, Z4, Z5, Z6, Z7, Z8, Z9, Z10, Zc, ↓reduceIte, reduceCtorEq] <;> ((repeat' apply And.intro) <;> first | rfl | omega | trivial)) ?_
  rintro ⟨⟨s, i⟩, hi, hs, hb⟩
  simp only at hi hs hb
  rw [hSt]
  simp only
  simp only [goRules, coreRules, tiRules, unRules, AS_of_eq, ← decide_not, N0, N1, N2, N3, N4, N5, Z0, Z1, Z2, Z3, Z4, Z5, Z6, Z7, Z8, Z9, Z10, Zc, ↓reduceIte, reduceCtorEq, wideRules, ones_len]
  (with_reducible first | refine branchP_dec (fun h => ?_) (fun h => ?_) | refine guardB_dec (fun h => ?_) (fun h => ?_))
  · have hlt : i < l.length := by omega
    have hci := hc l[i] (List.getElem_mem hlt)
    have e1 := ones_getD l hlt
    rw [List.drop_eq_getElem_cons hlt, wO_cons, wF] at hb
    generalize l[i] = a at *
    obtain ⟨id, ops, ed, rm, cr, mv, par, nm⟩ := a
    obtain ⟨hn, ho, hoc⟩ := hci
    simp only at hn ho hoc hb e1
    simp (disch := omega) only [goRules, coreRules, tiRules, unRules, AS_of_eq, ← decide_not, N0, N1, N2, N3, N4, N5, Z0, Z1, Z2, Z3, Z4, Z5, Z6, Z7, Z8, Z9, Z10, Zc, ↓reduceIte, reduceCtorEq, wrap_i64, wideRules, h]
    (with_reducible first | refine branchP_dec (fun h2 => ?_) (fun h2 => ?_) | refine guardB_dec (fun h2 => ?_) (fun h2 => ?_))
    · simp (disch := omega) only [goRules, coreRules, tiRules, unRules, AS_of_eq, ← decide_not, N0, N1, N2, N3, N4, N5, Z0, Z1, Z2, Z3, Z4, Z5, Z6, Z7, Z8, Z9, Z10, Zc, ↓reduceIte, reduceCtorEq, wrap_i64, wideRules, h2, e1, oA, ones_len]
      (repeat (with_reducible refine And.intro ?_ ?_; focus (first | omega | exact mixed1 | kernel_rfl)))
      refine call_weigh (by simp [get_cons]) rfl ho (fun c h => (hoc c h).2) (by omega) ?_
      have hcb := compsF_bnd 3000 ops 0 (by omega) (by omega)
      simp (disch := omega) only [goRules, coreRules, tiRules, unRules, AS_of_eq, ← decide_not, N0, N1, N2, N3, N4, N5, Z0, Z1, Z2, Z3, Z4, Z5, Z6, Z7, Z8, Z9, Z10, Zc, ↓reduceIte, reduceCtorEq, wrap_i64, wideRules]
      refine call_sum (by simp [get_cons]) (y := [(nm.length : Int), compsF 3000 0 ops, 3]) rfl hs (by simp; omega) (by simp) ?_
      simp (disch := omega) only [goRules, coreRules, tiRules, unRules, AS_of_eq, ← decide_not, N0, N1, N2, N3, N4, N5, Z0, Z1, Z2, Z3, Z4, Z5, Z6, Z7, Z8, Z9, Z10, Zc, ↓reduceIte, reduceCtorEq, wrap_i64, wideRules]
      rw [if_pos h2] at hb
      have hr := sumF_range [(nm.length : Int), compsF 3000 0 ops, 3] hs (by simp; omega)
      refine weak_again ⟨(sumF s [(nm.length : Int), compsF 3000 0 ops, 3], i + 1), by simp only; omega, by simp only; omega, hb⟩ (by simp only; omega) ?_
      rw [hSt]; refine weak_go [] [] ?_
      simp only [goRules, coreRules, tiRules, unRules, AS_of_eq, ← decide_not, N0, N1, N2, N3, N4, N5, Z0, Z1, Z2, Z3, Z4, Z5, Z6, Z7, Z8, Z9, Z10, Zc, ↓reduceIte, reduceCtorEq] <;> ((repeat' apply And.intro) <;> first | rfl | omega | trivial)
    · simp (disch := omega) only [goRules, coreRules, tiRules, unRules, AS_of_eq, ← decide_not, N0, N1, N2, N3, N4, N5, Z0, Z1, Z2, Z3, Z4, Z5, Z6, Z7, Z8, Z9, Z10, Zc, ↓reduceIte, reduceCtorEq, wrap_i64, wideRules, h2]
      rw [hb, if_neg h2]
      simp [h2]
  · simp only [goRules, coreRules, tiRules, unRules, AS_of_eq, ← decide_not, N0, N1, N2, N3, N4, N5, Z0, Z1, Z2, Z3, Z4, Z5, Z6, Z7, Z8, Z9, Z10, Zc, ↓reduceIte, reduceCtorEq, wideRules, h]
    rw [List.drop_of_length_le (by omega)] at hb
    rw [hb]; rfl
theorem call_small15 {Γ : Env} (hf : Γ.get 15 = some small15Con) {σ : AS} {dr : Bool} {l : List On} {ys : List AV} {d : Option Nat} {K : AS → Prop} (hy : ys = ones l) (h1 : l.length ≤ 9223372036854775807) (h2 : ∀ a ∈ l, a.nm.length ≤ 9223372036854775807 ∧ wideC a.ops)
    (hk : cont σ d (.v (.bool (decide (wF 3000 0 (wO l) ≤ 3000)))) K) : vcCall Tryd.prog Γ dr σ 15 [.sl 0 8 ys] d K := by
  subst hy
  exact vcCall_plain (C := small15Con) (i := ⟨l, h1, h2⟩) hf rfl rfl rfl (by simp [AV.erL, AV.er, ones_er]) (fun _ h => h) rfl hk
theorem ones_ok {l : List On} {m : Int} (hm : m ≤ 1000000) (h2 : ∀ a ∈ l, a.nm.length ≤ 9223372036854775807 ∧ wideC a.ops) (h : wF m 0 (wO l) ≤ m) : l.length ≤ 1000000 ∧ ∀ a ∈ l, okL a.ops := by
  obtain ⟨h3, h4⟩ := wF_le (by omega) (wO l) (Int.le_refl 0) h
  simp only [wO, List.length_map] at h3
  refine ⟨by omega, fun a ha => (weigh_ok hm (h2 a ha).2.2 (h4 (a.nm.length, a.ops) (List.mem_map.2 ⟨a, ha, rfl⟩)).2).1⟩
abbrev sameOnes : Con where
  ι := { l : List On // l.length ≤ 1099511627776 }
  args := fun p => [.sl 0 8 (ones p.1)]
  post := fun p r => r = .sl 0 8 (ones p.1)
theorem made15_good : Rw.Good Tryd.prog 18 sameOnes := by
  have hΓ : GoodEnv Tryd.prog [] := goodEnv_nil
  refine good_fn (nn := 37) hΓ Tryd.func18 (by kernel_rfl) rfl (show Tryd.f18.results.toList = [.tmp 2] from rfl) (fun _ => rfl) (fun x => by simp [AV.erL, AV.er, ones_er]) ?_
  rintro ⟨l, hl⟩
  simp only [goRules, coreRules, tiRules, unRules, AS_of_eq, ← decide_not, N0, N1, N2, N3, N4, N5, Z0, Z1, Z2, Z3, Z4, Z5, Z6, Z7, Z8, Z9, Z10, Zc, ↓reduceIte, reduceCtorEq, ones_len]
  obtain ⟨St, hSt⟩ : ∃ St : { i : Nat // i ≤ l.length } → AS, ∀ i, St i = AS.of 37 [(0, .sl 0 8 (ones l)), (3, .sl 2 8 (ones (l.take i.1))), (4, .v (.int .i64 i.1))] [] [(i.1, 37)] := ⟨_, fun _ => rfl⟩
  refine vc_loop hΓ St (fun i => l.length - i.1) ⟨0, by omega⟩ (by rw [hSt]; refine weak_go [] [.nil 8] ?_; simp only [goRules, coreRules, tiRules, unRules, AS_of_eq, ← decide_not, N0, N1, N2, N3, N4, N5, Z0, Z1, Z2, Z3, Z4, Z5, Z6, Z7, Z8, Z9, Z10, Zc, ↓reduceIte, reduceCtorEq, List.take_zero, ones_nil] <;> ((repeat' apply And.intro) <;> first | rfl | omega | trivial)) ?_
  rintro ⟨i, hi⟩
  rw [hSt]
  simp only
  simp only [goRules, coreRules, tiRules, unRules, AS_of_eq, ← decide_not, N0, N1, N2, N3, N4, N5, Z0, Z1, Z2, Z3, Z4, Z5, Z6, Z7, Z8, Z9, Z10, Zc, ↓reduceIte, reduceCtorEq, ones_len]
  (with_reducible first | refine branchP_dec (fun h => ?_) (fun h => ?_) | refine guardB_dec (fun h => ?_) (fun h => ?_))
  · have hlt : i < l.length := by omega
    have e1 := ones_getD l hlt
    have e2 : ones (l.take (i + 1)) = ones (l.take i) ++ [oA l[i]] := by rw [List.take_succ_eq_append_getElem hlt, ones, List.map_append]; rfl
    generalize l[i] = x at *
    simp only [oA] at e2
    simp only [goRules, coreRules, tiRules, unRules, AS_of_eq, ← decide_not, N0, N1, N2, N3, N4, N5, Z0, Z1, Z2, Z3, Z4, Z5, Z6, Z7, Z8, Z9, Z10, Zc, ↓reduceIte, reduceCtorEq, h, e1, oA, ones_len, List.map_cons, List.map_nil, List.length_take, show min i l.length = i by omega, wrap_i64 (n := (i : Int) + 1) (by omega) (by omega)]
    (repeat (with_reducible refine And.intro ?_ ?_; focus (first | omega | exact mixed1 | kernel_rfl)))
    refine weak_again ⟨i + 1, by omega⟩ (by simp only; omega) ?_
    rw [hSt]; refine weak_go [] [.live 2] ?_
    rw [e2]
    simp only [goRules, coreRules, tiRules, unRules, AS_of_eq, ← decide_not, N0, N1, N2, N3, N4, N5, Z0, Z1, Z2, Z3, Z4, Z5, Z6, Z7, Z8, Z9, Z10, Zc, ↓reduceIte, reduceCtorEq, List.length_append, List.length_cons, List.length_nil, ones_len, List.length_take, show min i l.length = i by omega] <;> ((repeat' apply And.intro) <;> first | rfl | omega | trivial)
  · have e5 : l.take i = l := List.take_of_length_le (by omega)
    rw [e5]
    simp only [goRules, coreRules, tiRules, unRules, AS_of_eq, ← decide_not, N0, N1, N2, N3, N4, N5, Z0, Z1, Z2, Z3, Z4, Z5, Z6, Z7, Z8, Z9, Z10, Zc, ↓reduceIte, reduceCtorEq, h]
theorem flat15_good : Rw.Good Tryd.prog 20 sameOnes := by
  have hΓ : GoodEnv Tryd.prog [] := goodEnv_nil
  refine good_fn (nn := 37) hΓ Tryd.func20 (by kernel_rfl) rfl (show Tryd.f20.results.toList = [.tmp 2] from rfl) (fun _ => rfl) (fun x => by simp [AV.erL, AV.er, ones_er]) ?_
  rintro ⟨l, hl⟩
  simp only [goRules, coreRules, tiRules, unRules, AS_of_eq, ← decide_not, N0, N1, N2, N3, N4, N5, Z0, Z1, Z2, Z3, Z4, Z5, Z6, Z7, Z8, Z9, Z10, Zc, ↓reduceIte, reduceCtorEq, ones_len]
  obtain ⟨St, hSt⟩ : ∃ St : { i : Nat // i ≤ l.length } → AS, ∀ i, St i = AS.of 37 [(0, .sl 0 8 (ones l)), (3, .sl 2 8 (ones (l.take i.1))), (4, .v (.int .i64 i.1))] [] [(i.1, 46)] := ⟨_, fun _ => rfl⟩
  refine vc_loop hΓ St (fun i => l.length - i.1) ⟨0, by omega⟩ (by rw [hSt]; refine weak_go [] [.nil 8] ?_; simp only [goRules, coreRules, tiRules, unRules, AS_of_eq, ← decide_not, N0, N1, N2, N3, N4, N5, Z0, Z1, Z2, Z3, Z4, Z5, Z6, Z7, Z8, Z9, Z10, Zc, ↓reduceIte, reduceCtorEq, List.take_zero, ones_nil] <;> ((repeat' apply And.intro) <;> first | rfl | omega | trivial)) ?_
  rintro ⟨i, hi⟩
  rw [hSt]
  simp only
  simp only [goRules, coreRules, tiRules, unRules, AS_of_eq, ← decide_not, N0, N1, N2, N3, N4, N5, Z0, Z1, Z2, Z3, Z4, Z5, Z6, Z7, Z8, Z9, Z10, Zc, ↓reduceIte, reduceCtorEq, ones_len]
  (with_reducible first | refine branchP_dec (fun h => ?_) (fun h => ?_) | refine guardB_dec (fun h => ?_) (fun h => ?_))
  · have hlt : i < l.length := by omega
    have e1 := ones_getD l hlt
    have e2 : ones (l.take (i + 1)) = ones (l.take i) ++ [oA l[i]] := by rw [List.take_succ_eq_append_getElem hlt, ones, List.map_append]; rfl
    generalize l[i] = x at *
    simp only [oA] at e2
    simp only [goRules, coreRules, tiRules, unRules, AS_of_eq, ← decide_not, N0, N1, N2, N3, N4, N5, Z0, Z1, Z2, Z3, Z4, Z5, Z6, Z7, Z8, Z9, Z10, Zc, ↓reduceIte, reduceCtorEq, h, e1, oA, ones_len, List.map_cons, List.map_nil, List.length_take, show min i l.length = i by omega, wrap_i64 (n := (i : Int) + 1) (by omega) (by omega)]
    (repeat (with_reducible refine And.intro ?_ ?_; focus (first | omega | exact mixed1 | kernel_rfl)))
    refine weak_again ⟨i + 1, by omega⟩ (by simp only; omega) ?_
    rw [hSt]; refine weak_go [] [.live 2] ?_
    rw [e2]
    simp only [goRules, coreRules, tiRules, unRules, AS_of_eq, ← decide_not, N0, N1, N2, N3, N4, N5, Z0, Z1, Z2, Z3, Z4, Z5, Z6, Z7, Z8, Z9, Z10, Zc, ↓reduceIte, reduceCtorEq, List.length_append, List.length_cons, List.length_nil, ones_len, List.length_take, show min i l.length = i by omega] <;> ((repeat' apply And.intro) <;> first | rfl | omega | trivial)
  · have e5 : l.take i = l := List.take_of_length_le (by omega)
    rw [e5]
    simp only [goRules, coreRules, tiRules, unRules, AS_of_eq, ← decide_not, N0, N1, N2, N3, N4, N5, Z0, Z1, Z2, Z3, Z4, Z5, Z6, Z7, Z8, Z9, Z10, Zc, ↓reduceIte, reduceCtorEq, h]
theorem call_sameOnes {Γ : Env} {f : Nat} (hf : Γ.get f = some sameOnes) {σ : AS} {dr : Bool} {l : List On} {ys : List AV} {d : Option Nat} {K : AS → Prop} (hy : ys = ones l) (h1 : l.length ≤ 1099511627776)
    (hk : cont σ d (.sl 0 8 (ones l)) K) : vcCall Tryd.prog Γ dr σ f [.sl 0 8 ys] d K := by
  subst hy
  exact vcCall_fn (C := sameOnes) (i := ⟨l, h1⟩) (r := .sl 0 8 (ones l)) hf rfl rfl (by simp [AV.erL, AV.er, ones_er]) rfl (fun _ h => h) hk
theorem rget_good : Rw.Good Tryd.prog 17 findCon := by
  have hΓ : GoodEnv Tryd.prog [] := goodEnv_nil
  refine good_fn (nn := 20) hΓ Tryd.func17 (by kernel_rfl) rfl (show Tryd.f17.results.toList = [.tmp 4] from rfl) (fun _ => rfl) (fun x => by simp [AV.erL, AV.er, ones_er]) ?_
  rintro ⟨⟨l, hl⟩, id⟩
  simp only [goRules, coreRules, tiRules, unRules, AS_of_eq, ← decide_not, N0, N1, N2, N3, N4, N5, Z0, Z1, Z2, Z3, Z4, Z5, Z6, Z7, Z8, Z9, Z10, Zc, ↓reduceIte, reduceCtorEq, ones_len]
  obtain ⟨St, hSt⟩ : ∃ St : { i : Nat // i ≤ l.length ∧ fnd id l = i + fnd id (l.drop i) } → AS, ∀ i, St i = AS.of 20 [(0, .sl 0 8 (ones l)), (1, .v (.int .i64 id)), (5, .v (.int .i64 i.1))] [] [] := ⟨_, fun _ => rfl⟩
  refine vc_loop hΓ St (fun i => l.length - i.1) ⟨0, by omega, by simp⟩ (by rw [hSt]; refine weak_go [] [] ?_; simp only [goRules, coreRules, tiRules, unRules, AS_of_eq, ← decide_not, N0, N1, N2, N3, N4, N5, Z0, Z1, Z2, Z3, Z4, Z5, Z6, Z7, Z8, Z9, Z10, Zc, ↓reduceIte, reduceCtorEq] <;> ((repeat' apply And.intro) <;> first | rfl | omega | trivial)) ?_
  rintro ⟨i, hi, hf⟩
  rw [hSt]
  simp only
  simp only [goRules, coreRules, tiRules, unRules, AS_of_eq, ← decide_not, N0, N1, N2, N3, N4, N5, Z0, Z1, Z2, Z3, Z4, Z5, Z6, Z7, Z8, Z9, Z10, Zc, ↓reduceIte, reduceCtorEq, ones_len]
  (with_reducible first | refine branchP_dec (fun h => ?_) (fun h => ?_) | refine guardB_dec (fun h => ?_) (fun h => ?_))
  · have hlt : i < l.length := by omega
    have e1 := ones_getD l hlt
    rw [List.drop_eq_getElem_cons hlt, fnd] at hf
    generalize l[i] = x at *
    by_cases hx : x.id = id
    · rw [if_pos hx] at hf
      simp only [goRules, coreRules, tiRules, unRules, AS_of_eq, ← decide_not, N0, N1, N2, N3, N4, N5, Z0, Z1, Z2, Z3, Z4, Z5, Z6, Z7, Z8, Z9, Z10, Zc, ↓reduceIte, reduceCtorEq, h, e1, oA, ones_len, hx]
      (repeat (with_reducible refine And.intro ?_ ?_; focus (first | omega | exact mixed1 | kernel_rfl)))
      rw [fndI, if_pos (by omega), hf, Nat.add_zero]
    · rw [if_neg hx] at hf
      simp only [goRules, coreRules, tiRules, unRules, AS_of_eq, ← decide_not, N0, N1, N2, N3, N4, N5, Z0, Z1, Z2, Z3, Z4, Z5, Z6, Z7, Z8, Z9, Z10, Zc, ↓reduceIte, reduceCtorEq, h, e1, oA, ones_len, hx, wrap_i64 (n := (i : Int) + 1) (by omega) (by omega)]
      (repeat (with_reducible refine And.intro ?_ ?_; focus (first | omega | exact mixed1 | kernel_rfl)))
      refine weak_again ⟨i + 1, by omega, by omega⟩ (by simp only; omega) ?_
      rw [hSt]; refine weak_go [] [] ?_
      simp only [goRules, coreRules, tiRules, unRules, AS_of_eq, ← decide_not, N0, N1, N2, N3, N4, N5, Z0, Z1, Z2, Z3, Z4, Z5, Z6, Z7, Z8, Z9, Z10, Zc, ↓reduceIte, reduceCtorEq] <;> ((repeat' apply And.intro) <;> first | rfl | omega | trivial)
  · simp only [goRules, coreRules, tiRules, unRules, AS_of_eq, ← decide_not, N0, N1, N2, N3, N4, N5, Z0, Z1, Z2, Z3, Z4, Z5, Z6, Z7, Z8, Z9, Z10, Zc, ↓reduceIte, reduceCtorEq, h]
    rw [List.drop_of_length_le (by omega), fnd] at hf
    rw [fndI, if_neg (by omega)]
theorem call_rget {Γ : Env} (hf : Γ.get 17 = some findCon) {σ : AS} {dr : Bool} {xs : List On} {id : Int} {ys : List AV} {d : Option Nat} {K : AS → Prop} (hy : ys = ones xs) (hl : xs.length ≤ 1099511627776)
    (hk : cont σ d (.v (.int .i64 (fndI id xs))) K) : vcCall Tryd.prog Γ dr σ 17 [.sl 0 8 ys, .v (.int .i64 id)] d K := by
  subst hy
  exact vcCall_plain (C := findCon) (i := (⟨xs, hl⟩, id)) hf rfl rfl rfl (by simp [AV.erL, AV.er, ones_er]) (fun _ h => h) rfl hk
end Go.Proofs
end

-- CUe10
section
namespace Go.Proofs
open Go Go.Rw
open _root_.Nat renaming reduceAdd → N0, reduceSub → N1, reduceMul → N2, reduceLT → N3, reduceLeDiff → N4, reduceEqDiff → N5
open _root_.Int renaming reduceNeg → Z0, reduceAdd → Z1, reduceSub → Z2, reduceMul → Z3, reduceGT → Z4, reduceGE → Z5, reduceLT → Z6, reduceLE → Z7, reduceEq → Z8, reduceNe → Z9, reduceToNat → Z10, cast_ofNat_Int → Zc
set_option maxRecDepth 100000
set_option linter.unusedSimpArgs false
set_option linter.unusedVariables false

abbrev OnsS := { l : List On // l.length ≤ 1099511627776 ∧ ∀ x ∈ l, x.ops.length ≤ 4000000000000 }
end Go.Proofs
end

-- CUe13
section
namespace Go.Proofs
open Go Go.Rw
open _root_.Nat renaming reduceAdd → N0, reduceSub → N1, reduceMul → N2, reduceLT → N3, reduceLeDiff → N4, reduceEqDiff → N5
open _root_.Int renaming reduceNeg → Z0, reduceAdd → Z1, reduceSub → Z2, reduceMul → Z3, reduceGT → Z4, reduceGE → Z5, reduceLT → Z6, reduceLE → Z7, reduceEq → Z8, reduceNe → Z9, reduceToNat → Z10, cast_ofNat_Int → Zc
set_option maxRecDepth 100000
set_option linter.unusedSimpArgs false
set_option linter.unusedVariables false

theorem on_key (x y : On) : (x = y) = (x.id = y.id ∧ x.ops = y.ops ∧ x.ed = y.ed ∧ x.rm = y.rm ∧ x.cr = y.cr ∧ x.mv = y.mv ∧ x.par = y.par ∧ x.nm = y.nm) := by
  cases x; cases y
  simp only [On.mk.injEq]
abbrev rsonesCon : Con where
  ι := OnsS × OnsS
  args := fun p => [.sl 0 8 (ones p.1.1), .sl 0 8 (ones p.2.1)]
  post := fun p r => r = .v (.bool (decide (p.1.1 = p.2.1)))
  plain := true
set_option maxHeartbeats 4000000 in
theorem rsones_good : Rw.Good Tryd.prog 19 rsonesCon := by
  have hΓ : GoodEnv Tryd.prog [(45, sameCon)] := (goodEnv_cons rsame_good goodEnv_nil)
  refine good_fn (nn := 82) hΓ Tryd.func19 (by kernel_rfl) rfl (show Tryd.f19.results.toList = [.tmp 4] from rfl) (fun _ => rfl) (fun x => by simp [AV.erL, AV.er, ones_er]) ?_
  rintro ⟨⟨a, ha, hao⟩, ⟨b, hb, hbo⟩⟩
  simp only [goRules, coreRules, tiRules, unRules, AS_of_eq, ← decide_not, N0, N1, N2, N3, N4, N5, Z0, Z1, Z2, Z3, Z4, Z5, Z6, Z7, Z8, Z9, Z10, Zc, ↓reduceIte, reduceCtorEq, ones_len]
  by_cases hl : a.length = b.length
  case neg =>
    have hne : a ≠ b := fun e => hl (by rw [e])
    simp only [goRules, coreRules, tiRules, unRules, AS_of_eq, ← decide_not, N0, N1, N2, N3, N4, N5, Z0, Z1, Z2, Z3, Z4, Z5, Z6, Z7, Z8, Z9, Z10, Zc, ↓reduceIte, reduceCtorEq, show ((a.length : Int) = b.length) = False from eq_false (by omega), hne]
  simp only [goRules, coreRules, tiRules, unRules, AS_of_eq, ← decide_not, N0, N1, N2, N3, N4, N5, Z0, Z1, Z2, Z3, Z4, Z5, Z6, Z7, Z8, Z9, Z10, Zc, ↓reduceIte, reduceCtorEq, hl, ones_len]
  obtain ⟨St, hSt⟩ : ∃ St : { i : Nat // i ≤ b.length ∧ a.take i = b.take i } → AS, ∀ i, St i = AS.of 82 [(0, .sl 0 8 (ones a)), (1, .sl 0 8 (ones b)), (5, .v (.int .i64 i.1))] [] [] := ⟨_, fun _ => rfl⟩
  refine vc_loopD [(6, [0, 1], [1000000])] hΓ St (fun i => b.length - i.1) ⟨0, by omega, by simp⟩ (by rw [hSt]; refine weak_go [] [] ?_; simp only [goRules, coreRules, tiRules, unRules, AS_of_eq, ← decide_not, N0, N1, N2, N3, N4, N5, Z0, Z1, Z2, Z3, Z4, Z5, Z6, Z7, Z8, Z9, Z10, Zc, ↓reduceIte, reduceCtorEq] <;> ((repeat' apply And.intro) <;> first | rfl | omega | trivial)) ?_
  rintro ⟨i, hi, hs⟩
  rw [hSt]
  simp only
  simp only [goRules, coreRules, tiRules, unRules, AS_of_eq, ← decide_not, N0, N1, N2, N3, N4, N5, Z0, Z1, Z2, Z3, Z4, Z5, Z6, Z7, Z8, Z9, Z10, Zc, ↓reduceIte, reduceCtorEq, wideRules, ones_len]
  (with_reducible first | refine branchP_dec (fun h => ?_) (fun h => ?_) | refine guardB_dec (fun h => ?_) (fun h => ?_))
  · have hlt : i < a.length := by omega
    have hlt2 : i < b.length := by omega
    have e1 := ones_getD a hlt
    have e2 := ones_getD b hlt2
    have hx := hao _ (List.getElem_mem hlt)
    have hy := hbo _ (List.getElem_mem hlt2)
    have ta := List.take_succ_eq_append_getElem hlt
    have tb := List.take_succ_eq_append_getElem hlt2
    have hab : a[i] = b[i] → a.take (i + 1) = b.take (i + 1) := fun he => by rw [ta, tb, he, hs]
    have hne : ¬ a[i] = b[i] → a ≠ b := fun he hh => he (by subst hh; rfl)
    generalize a[i] = x at *
    generalize b[i] = y at *
    simp only [goRules, coreRules, tiRules, unRules, AS_of_eq, ← decide_not, N0, N1, N2, N3, N4, N5, Z0, Z1, Z2, Z3, Z4, Z5, Z6, Z7, Z8, Z9, Z10, Zc, ↓reduceIte, reduceCtorEq, wideRules, h, e1, e2, oA, ones_len]
    (repeat (with_reducible refine And.intro ?_ ?_; focus (first | omega | exact mixed1 | ((repeat (refine fresh_upd (by omega) ?_)); first | exact fresh_none | exact fresh_of (by simp)) | kernel_rfl)))
    by_cases h1 : x.id = y.id
    case neg =>
      have hd := hne (by rw [on_key]; simp [h1])
      simp only [goRules, coreRules, tiRules, unRules, AS_of_eq, ← decide_not, N0, N1, N2, N3, N4, N5, Z0, Z1, Z2, Z3, Z4, Z5, Z6, Z7, Z8, Z9, Z10, Zc, ↓reduceIte, reduceCtorEq, wideRules, h1, hd]
    simp only [goRules, coreRules, tiRules, unRules, AS_of_eq, ← decide_not, N0, N1, N2, N3, N4, N5, Z0, Z1, Z2, Z3, Z4, Z5, Z6, Z7, Z8, Z9, Z10, Zc, ↓reduceIte, reduceCtorEq, wideRules, h1]
    refine call_same (by simp [get_cons]) rfl rfl hx hy ?_
    by_cases h2 : x.ops = y.ops
    case neg =>
      have hd := hne (by rw [on_key]; simp [h2])
      simp only [goRules, coreRules, tiRules, unRules, AS_of_eq, ← decide_not, N0, N1, N2, N3, N4, N5, Z0, Z1, Z2, Z3, Z4, Z5, Z6, Z7, Z8, Z9, Z10, Zc, ↓reduceIte, reduceCtorEq, wideRules, h1, h2, hd]
    by_cases h3 : x.ed = y.ed
    case neg =>
      have hd := hne (by rw [on_key]; simp [h3])
      have nn : (x.ed != y.ed) = true := by simp [h3]
      simp only [goRules, coreRules, tiRules, unRules, AS_of_eq, ← decide_not, N0, N1, N2, N3, N4, N5, Z0, Z1, Z2, Z3, Z4, Z5, Z6, Z7, Z8, Z9, Z10, Zc, ↓reduceIte, reduceCtorEq, wideRules, h1, h2, nn, hd]
    have b3 : (x.ed != y.ed) = false := by simp [h3]
    by_cases h4 : x.rm = y.rm
    case neg =>
      have hd := hne (by rw [on_key]; simp [h4])
      have nn : (x.rm != y.rm) = true := by simp [h4]
      simp only [goRules, coreRules, tiRules, unRules, AS_of_eq, ← decide_not, N0, N1, N2, N3, N4, N5, Z0, Z1, Z2, Z3, Z4, Z5, Z6, Z7, Z8, Z9, Z10, Zc, ↓reduceIte, reduceCtorEq, wideRules, h1, h2, b3, nn, hd]
    have b4 : (x.rm != y.rm) = false := by simp [h4]
    by_cases h5 : x.cr = y.cr
    case neg =>
      have hd := hne (by rw [on_key]; simp [h5])
      have nn : (x.cr != y.cr) = true := by simp [h5]
      simp only [goRules, coreRules, tiRules, unRules, AS_of_eq, ← decide_not, N0, N1, N2, N3, N4, N5, Z0, Z1, Z2, Z3, Z4, Z5, Z6, Z7, Z8, Z9, Z10, Zc, ↓reduceIte, reduceCtorEq, wideRules, h1, h2, b3, b4, nn, hd]
    have b5 : (x.cr != y.cr) = false := by simp [h5]
    by_cases h6 : x.mv = y.mv
    case neg =>
      have hd := hne (by rw [on_key]; simp [h6])
      have nn : (x.mv != y.mv) = true := by simp [h6]
      simp only [goRules, coreRules, tiRules, unRules, AS_of_eq, ← decide_not, N0, N1, N2, N3, N4, N5, Z0, Z1, Z2, Z3, Z4, Z5, Z6, Z7, Z8, Z9, Z10, Zc, ↓reduceIte, reduceCtorEq, wideRules, h1, h2, b3, b4, b5, nn, hd]
    have b6 : (x.mv != y.mv) = false := by simp [h6]
    by_cases h7 : x.par = y.par
    case neg =>
      have hd := hne (by rw [on_key]; simp [h7])
      simp only [goRules, coreRules, tiRules, unRules, AS_of_eq, ← decide_not, N0, N1, N2, N3, N4, N5, Z0, Z1, Z2, Z3, Z4, Z5, Z6, Z7, Z8, Z9, Z10, Zc, ↓reduceIte, reduceCtorEq, wideRules, h1, h2, b3, b4, b5, b6, h7, hd]
    by_cases h8 : x.nm = y.nm
    case neg =>
      have hd := hne (by rw [on_key]; simp [h8])
      simp only [goRules, coreRules, tiRules, unRules, AS_of_eq, ← decide_not, N0, N1, N2, N3, N4, N5, Z0, Z1, Z2, Z3, Z4, Z5, Z6, Z7, Z8, Z9, Z10, Zc, ↓reduceIte, reduceCtorEq, wideRules, h1, h2, b3, b4, b5, b6, h7, h8, hd]
    have hxy : x = y := by rw [on_key]; exact ⟨h1, h2, h3, h4, h5, h6, h7, h8⟩
    simp only [goRules, coreRules, tiRules, unRules, AS_of_eq, ← decide_not, N0, N1, N2, N3, N4, N5, Z0, Z1, Z2, Z3, Z4, Z5, Z6, Z7, Z8, Z9, Z10, Zc, ↓reduceIte, reduceCtorEq, wideRules, h1, h2, b3, b4, b5, b6, h7, h8, wrap_i64 (n := (i : Int) + 1) (by omega) (by omega)]
    refine weak_again ⟨i + 1, by omega, hab hxy⟩ (by simp only; omega) ?_
    rw [hSt]; refine weak_go [] [] ?_
    simp only [goRules, coreRules, tiRules, unRules, AS_of_eq, ← decide_not, N0, N1, N2, N3, N4, N5, Z0, Z1, Z2, Z3, Z4, Z5, Z6, Z7, Z8, Z9, Z10, Zc, ↓reduceIte, reduceCtorEq] <;> ((repeat' apply And.intro) <;> first | rfl | omega | trivial)
  · have e1 : a.take i = a := List.take_of_length_le (by omega)
    have e2 : b.take i = b := List.take_of_length_le (by omega)
    rw [e1, e2] at hs
    simp only [goRules, coreRules, tiRules, unRules, AS_of_eq, ← decide_not, N0, N1, N2, N3, N4, N5, Z0, Z1, Z2, Z3, Z4, Z5, Z6, Z7, Z8, Z9, Z10, Zc, ↓reduceIte, reduceCtorEq, wideRules, h, hs]
end Go.Proofs
end

-- CUe14
section
namespace Go.Proofs
open Go Go.Rw
open _root_.Nat renaming reduceAdd → N0, reduceSub → N1, reduceMul → N2, reduceLT → N3, reduceLeDiff → N4, reduceEqDiff → N5
open _root_.Int renaming reduceNeg → Z0, reduceAdd → Z1, reduceSub → Z2, reduceMul → Z3, reduceGT → Z4, reduceGE → Z5, reduceLT → Z6, reduceLE → Z7, reduceEq → Z8, reduceNe → Z9, reduceToNat → Z10, cast_ofNat_Int → Zc
set_option maxRecDepth 100000
set_option linter.unusedSimpArgs false
set_option linter.unusedVariables false

def othL (l : List On) (ac : List Ac) : List Ac := ac.filter fun a => decide (fndI a.id l < 0 ∨ a.k ≠ 4)
theorem othL_take {l : List On} {ac : List Ac} {i : Nat} (h : i < ac.length) : othL l (ac.take (i + 1)) = othL l (ac.take i) ++ (if fndI ac[i].id l < 0 ∨ ac[i].k ≠ 4 then [ac[i]] else []) := by
  rw [List.take_succ_eq_append_getElem h, othL, List.filter_append]
  congr 1
  rw [List.filter_cons]
  split <;> rename_i h1 <;> simp only [decide_eq_true_eq] at h1
  · rw [if_pos h1]; rfl
  · rw [if_neg h1]; rfl
theorem fndI_mem {l : List On} {x : On} (hx : x ∈ l) : ¬ fndI x.id l < 0 := by
  have := (fnd_mem x.id l).2 (List.mem_map.2 ⟨x, hx, rfl⟩)
  rw [fndI, if_pos this]; omega
theorem over_oth (l : List On) {x : On} (hx : x ∈ l) : ∀ ac : List Ac, overO x (othL l ac) = x
  | [] => rfl
  | a :: ac => by
    have ih := over_oth l hx ac
    unfold othL at ih ⊢
    rw [List.filter_cons]
    split
    · rename_i h1
      simp only [decide_eq_true_eq] at h1
      rw [overO, if_neg ?_, ih]
      rintro ⟨h2, h3, _⟩
      rcases h1 with h1 | h1
      · rw [h3] at h1; exact fndI_mem hx h1
      · exact h1 h2
    · exact ih
theorem over_rest : ∀ (ac : List Ac) (x : On), overO x ac = ⟨x.id, (overO x ac).ops, x.ed, x.rm, x.cr, x.mv, x.par, x.nm⟩
  | [], x => rfl
  | a :: ac, x => by
    rw [overO]
    split
    · rw [over_rest ac]
    · exact over_rest ac x
theorem call_eover0 {Γ : Env} (hf : Γ.get 11 = some eoverCon) {σ : AS} {dr : Bool} {x : List On} {l : List Ac} {xs ys : List AV} {d : Option Nat} {K : AS → Prop} (hx : xs = ones x) (hy : ys = acts l) (hxl : x.length ≤ 1099511627776) (hxo : ∀ a ∈ x, okL a.ops) (hl : l.length ≤ 1099511627776) (ho : ∀ a ∈ l, okL a.ops)
    (hk : cont σ d (.sl 0 8 (ones (x.map fun z => overO z l))) K) : vcCall Tryd.prog Γ dr σ 11 [.sl 0 8 xs, .sl 0 6 ys] d K := by
  subst hx hy
  exact vcCall_fn (C := eoverCon) (i := (⟨x, hxl, hxo⟩, ⟨l, hl, ho⟩)) (r := .sl 0 8 (ones (x.map fun z => overO z l))) hf rfl rfl (by simp [AV.erL, AV.er, ones_er, acts_er]) rfl (fun _ h => h) hk
theorem call_rsones {Γ : Env} (hf : Γ.get 19 = some rsonesCon) {σ : AS} {dr : Bool} {a b : List On} {xs ys : List AV} {d : Option Nat} {K : AS → Prop} (hx : xs = ones a) (hy : ys = ones b) (ha : a.length ≤ 1099511627776) (hao : ∀ x ∈ a, okL x.ops) (hb : b.length ≤ 1099511627776) (hbo : ∀ x ∈ b, okL x.ops)
    (hk : cont σ d (.v (.bool (decide (a = b)))) K) : vcCall Tryd.prog Γ dr σ 19 [.sl 0 8 xs, .sl 0 8 ys] d K := by
  subst hx hy
  exact vcCall_plain (C := rsonesCon) (i := (⟨a, ha, fun x hx => by have := (hao x hx).1; omega⟩, ⟨b, hb, fun x hx => by have := (hbo x hx).1; omega⟩)) hf rfl rfl rfl (by simp [AV.erL, AV.er, ones_er]) (fun _ h => h) rfl hk
abbrev keeps15Con : Con where
  ι := GivenO × GivenA
  args := fun p => [.sl 0 8 (ones p.1.1), .sl 0 6 (acts p.2.1)]
  post := fun _ r => r = .v (.bool true)
  plain := true
set_option maxHeartbeats 4000000 in
theorem keeps15_good : Rw.Good Tryd.prog 4 keeps15Con := by
  have hΓ : GoodEnv Tryd.prog [(9, trueCon), (15, small15Con), (18, sameOnes), (20, sameOnes), (16, actsCon), (11, eoverCon), (17, findCon), (19, rsonesCon)] := (goodEnv_cons awake15_good (goodEnv_cons small15_good (goodEnv_cons made15_good (goodEnv_cons flat15_good (goodEnv_cons acts_good (goodEnv_cons eover_good (goodEnv_cons rget_good (goodEnv_cons rsones_good goodEnv_nil))))))))
  refine good_fn (nn := 152) hΓ Tryd.func4 (by kernel_rfl) rfl (show Tryd.f4.results.toList = [.tmp 4] from rfl) (fun _ => rfl) (fun x => by simp [AV.erL, AV.er, ones_er, acts_er]) ?_
  rintro ⟨⟨l, hl, hc⟩, ⟨ac, hal, hac⟩⟩
  simp only [goRules, coreRules, tiRules, unRules, AS_of_eq, ← decide_not, N0, N1, N2, N3, N4, N5, Z0, Z1, Z2, Z3, Z4, Z5, Z6, Z7, Z8, Z9, Z10, Zc, ↓reduceIte, reduceCtorEq]
  refine call_small15 (by simp [get_cons]) rfl hl hc ?_
  by_cases h1 : wF 3000 0 (wO l) ≤ 3000
  case neg =>
    simp only [goRules, coreRules, tiRules, unRules, AS_of_eq, ← decide_not, N0, N1, N2, N3, N4, N5, Z0, Z1, Z2, Z3, Z4, Z5, Z6, Z7, Z8, Z9, Z10, Zc, ↓reduceIte, reduceCtorEq, h1]
    refine call_awake15 (by simp [get_cons]) ?_
    simp only [goRules, coreRules, tiRules, unRules, AS_of_eq, ← decide_not, N0, N1, N2, N3, N4, N5, Z0, Z1, Z2, Z3, Z4, Z5, Z6, Z7, Z8, Z9, Z10, Zc, ↓reduceIte, reduceCtorEq]
  obtain ⟨hlen, ho⟩ := ones_ok (m := 3000) (by omega) hc h1
  simp only [goRules, coreRules, tiRules, unRules, AS_of_eq, ← decide_not, N0, N1, N2, N3, N4, N5, Z0, Z1, Z2, Z3, Z4, Z5, Z6, Z7, Z8, Z9, Z10, Zc, ↓reduceIte, reduceCtorEq, h1]
  refine call_acts (by simp [get_cons]) rfl hal hac (by omega) ?_
  by_cases h2 : wF 2000 0 (wA ac) > 2000
  · simp only [goRules, coreRules, tiRules, unRules, AS_of_eq, ← decide_not, N0, N1, N2, N3, N4, N5, Z0, Z1, Z2, Z3, Z4, Z5, Z6, Z7, Z8, Z9, Z10, Zc, ↓reduceIte, reduceCtorEq, h2]
    refine call_awake15 (by simp [get_cons]) ?_
    simp only [goRules, coreRules, tiRules, unRules, AS_of_eq, ← decide_not, N0, N1, N2, N3, N4, N5, Z0, Z1, Z2, Z3, Z4, Z5, Z6, Z7, Z8, Z9, Z10, Zc, ↓reduceIte, reduceCtorEq]
  obtain ⟨halen, hao⟩ := acts_ok (m := 2000) (by omega) hac (by omega)
  simp only [goRules, coreRules, tiRules, unRules, AS_of_eq, ← decide_not, N0, N1, N2, N3, N4, N5, Z0, Z1, Z2, Z3, Z4, Z5, Z6, Z7, Z8, Z9, Z10, Zc, ↓reduceIte, reduceCtorEq, h2]
  obtain ⟨St, hSt⟩ : ∃ St : { i : Nat // i ≤ ac.length } → AS, ∀ i, St i = AS.of 152 [(0, .sl 0 8 (ones l)), (1, .sl 0 6 (acts ac)), (5, .sl 2 6 (acts (othL l (ac.take i.1)))), (6, .v (.int .i64 i.1))] [] [((othL l (ac.take i.1)).length, 31)] := ⟨_, fun _ => rfl⟩
  refine vc_loop hΓ St (fun i => ac.length - i.1) ⟨0, by omega⟩ (by rw [hSt]; refine weak_go [] [.nil 6] ?_; simp only [goRules, coreRules, tiRules, unRules, AS_of_eq, ← decide_not, N0, N1, N2, N3, N4, N5, Z0, Z1, Z2, Z3, Z4, Z5, Z6, Z7, Z8, Z9, Z10, Zc, ↓reduceIte, reduceCtorEq, List.take_zero, othL, List.filter_nil] <;> ((repeat' apply And.intro) <;> first | rfl | omega | trivial)) ?_
  rintro ⟨i, hi⟩
  rw [hSt]
  simp only
  simp only [goRules, coreRules, tiRules, unRules, AS_of_eq, ← decide_not, N0, N1, N2, N3, N4, N5, Z0, Z1, Z2, Z3, Z4, Z5, Z6, Z7, Z8, Z9, Z10, Zc, ↓reduceIte, reduceCtorEq, acts_len]
  (with_reducible first | refine branchP_dec (fun h => ?_) (fun h => ?_) | refine guardB_dec (fun h => ?_) (fun h => ?_))
  · have hlt : i < ac.length := by omega
    have e1 := acts_getD ac hlt
    have e2 := othL_take (l := l) hlt
    have hol : (othL l (ac.take i)).length ≤ i := by
      have := List.length_filter_le (fun a => decide (fndI a.id l < 0 ∨ a.k ≠ 4)) (ac.take i)
      rw [List.length_take] at this
      unfold othL; omega
    generalize ac[i] = a at *
    simp only [goRules, coreRules, tiRules, unRules, AS_of_eq, ← decide_not, N0, N1, N2, N3, N4, N5, Z0, Z1, Z2, Z3, Z4, Z5, Z6, Z7, Z8, Z9, Z10, Zc, ↓reduceIte, reduceCtorEq, h, e1, aA, acts_len]
    (repeat (with_reducible refine And.intro ?_ ?_; focus (first | omega | exact mixed1 | kernel_rfl)))
    refine call_rget (by simp [get_cons]) rfl (by omega) ?_
    by_cases h3 : fndI a.id l < 0
    · rw [if_pos (.inl h3)] at e2
      simp only [goRules, coreRules, tiRules, unRules, AS_of_eq, ← decide_not, N0, N1, N2, N3, N4, N5, Z0, Z1, Z2, Z3, Z4, Z5, Z6, Z7, Z8, Z9, Z10, Zc, ↓reduceIte, reduceCtorEq, h3, e1, aA, acts_len, List.map_cons, List.map_nil, wrap_i64 (n := (i : Int) + 1) (by omega) (by omega)]
      (repeat (with_reducible refine And.intro ?_ ?_; focus (first | omega | exact mixed1 | kernel_rfl)))
      refine weak_again ⟨i + 1, by omega⟩ (by simp only; omega) ?_
      rw [hSt]; refine weak_go [] [.live 2] ?_
      rw [e2]
      simp only [goRules, coreRules, tiRules, unRules, AS_of_eq, ← decide_not, N0, N1, N2, N3, N4, N5, Z0, Z1, Z2, Z3, Z4, Z5, Z6, Z7, Z8, Z9, Z10, Zc, ↓reduceIte, reduceCtorEq, acts, aA, List.map_append, List.map_cons, List.map_nil, List.length_append, List.length_cons, List.length_nil] <;> ((repeat' apply And.intro) <;> first | rfl | omega | trivial)
    · by_cases h4 : a.k = 4
      · rw [if_neg (by rintro (h5 | h5); exact h3 h5; exact h5 h4), List.append_nil] at e2
        simp only [goRules, coreRules, tiRules, unRules, AS_of_eq, ← decide_not, N0, N1, N2, N3, N4, N5, Z0, Z1, Z2, Z3, Z4, Z5, Z6, Z7, Z8, Z9, Z10, Zc, ↓reduceIte, reduceCtorEq, h3, h4, e1, aA, acts_len, List.map_cons, List.map_nil, wrap_i64 (n := (i : Int) + 1) (by omega) (by omega)]
        (repeat (with_reducible refine And.intro ?_ ?_; focus (first | omega | exact mixed1 | kernel_rfl)))
        refine weak_again ⟨i + 1, by omega⟩ (by simp only; omega) ?_
        rw [hSt]; refine weak_go [] [.live 2] ?_
        rw [e2]
        simp only [goRules, coreRules, tiRules, unRules, AS_of_eq, ← decide_not, N0, N1, N2, N3, N4, N5, Z0, Z1, Z2, Z3, Z4, Z5, Z6, Z7, Z8, Z9, Z10, Zc, ↓reduceIte, reduceCtorEq] <;> ((repeat' apply And.intro) <;> first | rfl | omega | trivial)
      · rw [if_pos (.inr h4)] at e2
        simp only [goRules, coreRules, tiRules, unRules, AS_of_eq, ← decide_not, N0, N1, N2, N3, N4, N5, Z0, Z1, Z2, Z3, Z4, Z5, Z6, Z7, Z8, Z9, Z10, Zc, ↓reduceIte, reduceCtorEq, h3, h4, e1, aA, acts_len, List.map_cons, List.map_nil, wrap_i64 (n := (i : Int) + 1) (by omega) (by omega)]
        (repeat (with_reducible refine And.intro ?_ ?_; focus (first | omega | exact mixed1 | kernel_rfl)))
        refine weak_again ⟨i + 1, by omega⟩ (by simp only; omega) ?_
        rw [hSt]; refine weak_go [] [.live 2] ?_
        rw [e2]
        simp only [goRules, coreRules, tiRules, unRules, AS_of_eq, ← decide_not, N0, N1, N2, N3, N4, N5, Z0, Z1, Z2, Z3, Z4, Z5, Z6, Z7, Z8, Z9, Z10, Zc, ↓reduceIte, reduceCtorEq, acts, aA, List.map_append, List.map_cons, List.map_nil, List.length_append, List.length_cons, List.length_nil] <;> ((repeat' apply And.intro) <;> first | rfl | omega | trivial)
  · have e5 : ac.take i = ac := List.take_of_length_le (by omega)
    rw [e5]
    have hoo : ∀ a ∈ othL l ac, okL a.ops := fun a ha => hao a (List.mem_filter.1 ha).1
    have hol : (othL l ac).length ≤ ac.length := List.length_filter_le ..
    have hov : (l.map fun z => overO z (othL l ac)) = l := (List.map_congr_left fun x hx => over_oth l hx ac).trans (List.map_id' l)
    simp only [goRules, coreRules, tiRules, unRules, AS_of_eq, ← decide_not, N0, N1, N2, N3, N4, N5, Z0, Z1, Z2, Z3, Z4, Z5, Z6, Z7, Z8, Z9, Z10, Zc, ↓reduceIte, reduceCtorEq, h]
    refine call_sameOnes (by simp [get_cons]) rfl (by omega) ?_
    simp only [goRules, coreRules, tiRules, unRules, AS_of_eq, ← decide_not, N0, N1, N2, N3, N4, N5, Z0, Z1, Z2, Z3, Z4, Z5, Z6, Z7, Z8, Z9, Z10, Zc, ↓reduceIte, reduceCtorEq]
    refine call_eover_t (by simp [get_cons]) (by omega) rfl rfl (by omega) ho (by omega) hoo ?_
    simp only [goRules, coreRules, tiRules, unRules, AS_of_eq, ← decide_not, N0, N1, N2, N3, N4, N5, Z0, Z1, Z2, Z3, Z4, Z5, Z6, Z7, Z8, Z9, Z10, Zc, ↓reduceIte, reduceCtorEq, hov]
    refine call_sameOnes (by simp [get_cons]) rfl (by omega) ?_
    simp only [goRules, coreRules, tiRules, unRules, AS_of_eq, ← decide_not, N0, N1, N2, N3, N4, N5, Z0, Z1, Z2, Z3, Z4, Z5, Z6, Z7, Z8, Z9, Z10, Zc, ↓reduceIte, reduceCtorEq]
    refine call_eover0 (by simp [get_cons]) rfl rfl (by omega) ho (by omega) hao ?_
    have hyl : (l.map fun z => overO z ac).length = l.length := by simp
    have hyg : ∀ (j : Nat) (h : j < l.length), ((ones (l.map fun z => overO z ac)).drop j).take (j + 1 - j) = ones [overO l[j] ac] := fun j h => by
      rw [show j + 1 - j = 1 by omega, ones, List.drop_eq_getElem_cons (by simpa using h), List.take_succ_cons, List.take_zero, List.getElem_map, List.getElem_map]; rfl
    generalize (l.map fun z => overO z ac) = Y at *
    simp only [goRules, coreRules, tiRules, unRules, AS_of_eq, ← decide_not, N0, N1, N2, N3, N4, N5, Z0, Z1, Z2, Z3, Z4, Z5, Z6, Z7, Z8, Z9, Z10, Zc, ↓reduceIte, reduceCtorEq]
    refine call_sameOnes (by simp [get_cons]) rfl (by omega) ?_
    simp only [goRules, coreRules, tiRules, unRules, AS_of_eq, ← decide_not, N0, N1, N2, N3, N4, N5, Z0, Z1, Z2, Z3, Z4, Z5, Z6, Z7, Z8, Z9, Z10, Zc, ↓reduceIte, reduceCtorEq]
    refine call_rsones (by simp [get_cons]) rfl rfl (by omega) ho (by omega) ho ?_
    simp only [goRules, coreRules, tiRules, unRules, AS_of_eq, ← decide_not, N0, N1, N2, N3, N4, N5, Z0, Z1, Z2, Z3, Z4, Z5, Z6, Z7, Z8, Z9, Z10, Zc, ↓reduceIte, reduceCtorEq, ones_len, hyl]
    obtain ⟨Sb, hSb⟩ : ∃ Sb : { i : Nat // i ≤ l.length } → AS, ∀ i, Sb i = AS.of 152 [(0, .sl 0 8 (ones l)), (8, .sl 0 8 (ones Y)), (9, .v (.int .i64 i.1))] [] [] := ⟨_, fun _ => rfl⟩
    refine vc_loop hΓ Sb (fun i => l.length - i.1) ⟨0, by omega⟩ (by rw [hSb]; refine weak_go [] [] ?_; simp only [goRules, coreRules, tiRules, unRules, AS_of_eq, ← decide_not, N0, N1, N2, N3, N4, N5, Z0, Z1, Z2, Z3, Z4, Z5, Z6, Z7, Z8, Z9, Z10, Zc, ↓reduceIte, reduceCtorEq] <;> ((repeat' apply And.intro) <;> first | rfl | omega | trivial)) ?_
    rintro ⟨j, hj⟩
    rw [hSb]
    simp only
    simp only [goRules, coreRules, tiRules, unRules, AS_of_eq, ← decide_not, N0, N1, N2, N3, N4, N5, Z0, Z1, Z2, Z3, Z4, Z5, Z6, Z7, Z8, Z9, Z10, Zc, ↓reduceIte, reduceCtorEq, ones_len]
    (with_reducible first | refine branchP_dec (fun h3 => ?_) (fun h3 => ?_) | refine guardB_dec (fun h3 => ?_) (fun h3 => ?_))
    · have hlt : j < l.length := by omega
      have e1 := ones_getD l hlt
      have e2 := hyg j hlt
      rw [over_rest] at e2
      generalize (overO l[j] ac).ops = yo at *
      generalize l[j] = x at *
      have e4 : partA 0 8 (ones Y) j ((j : Int) + 1).toNat = .sl 0 8 (ones [⟨x.id, yo, x.ed, x.rm, x.cr, x.mv, x.par, x.nm⟩]) := by
        rw [show ((j : Int) + 1).toNat = j + 1 by omega, ← e2]
        unfold partA
        split
        · rename_i h5
          simp only [Bool.and_eq_true, Nat.beq_eq_true_eq, beq_iff_eq, ones_len] at h5
          rw [h5.1, List.drop_zero, Nat.sub_zero, List.take_of_length_le (by simp [ones_len]; omega)]
        · rfl
      simp only [goRules, coreRules, tiRules, unRules, AS_of_eq, ← decide_not, N0, N1, N2, N3, N4, N5, Z0, Z1, Z2, Z3, Z4, Z5, Z6, Z7, Z8, Z9, Z10, Zc, ↓reduceIte, reduceCtorEq, h3, ones_len, hyl, wrap_i64 (n := (j : Int) + 1) (by omega) (by omega), e4]
      (repeat (with_reducible refine And.intro ?_ ?_; focus (first | omega | exact mixed1 | kernel_rfl)))
      refine call_sameOnes (by simp [get_cons]) rfl (by simp) ?_
      simp only [goRules, coreRules, tiRules, unRules, AS_of_eq, ← decide_not, N0, N1, N2, N3, N4, N5, Z0, Z1, Z2, Z3, Z4, Z5, Z6, Z7, Z8, Z9, Z10, Zc, ↓reduceIte, reduceCtorEq, ones, oA, List.map_cons, List.map_nil]
      have e5 : (List.map oA l).getD j .any = oA x := e1
      have e6 : (List.map oA l).length = l.length := by simp
      simp only [goRules, coreRules, tiRules, unRules, AS_of_eq, ← decide_not, N0, N1, N2, N3, N4, N5, Z0, Z1, Z2, Z3, Z4, Z5, Z6, Z7, Z8, Z9, Z10, Zc, ↓reduceIte, reduceCtorEq, e5, e6, oA, List.append_eq, bne_self_eq_false, wrap_i64 (n := (j : Int) + 1) (by omega) (by omega)]
      (repeat (with_reducible refine And.intro ?_ ?_; focus (first | omega | exact mixed1 | kernel_rfl)))
      refine weak_again ⟨j + 1, by omega⟩ (by simp only; omega) ?_
      rw [hSb]; refine weak_go [] [] ?_
      simp only [goRules, coreRules, tiRules, unRules, AS_of_eq, ← decide_not, N0, N1, N2, N3, N4, N5, Z0, Z1, Z2, Z3, Z4, Z5, Z6, Z7, Z8, Z9, Z10, Zc, ↓reduceIte, reduceCtorEq, ones] <;> ((repeat' apply And.intro) <;> first | rfl | omega | trivial)
    · simp only [goRules, coreRules, tiRules, unRules, AS_of_eq, ← decide_not, N0, N1, N2, N3, N4, N5, Z0, Z1, Z2, Z3, Z4, Z5, Z6, Z7, Z8, Z9, Z10, Zc, ↓reduceIte, reduceCtorEq, h3]
      refine call_awake15 (by simp [get_cons]) ?_
      simp only [goRules, coreRules, tiRules, unRules, AS_of_eq, ← decide_not, N0, N1, N2, N3, N4, N5, Z0, Z1, Z2, Z3, Z4, Z5, Z6, Z7, Z8, Z9, Z10, Zc, ↓reduceIte, reduceCtorEq]
end Go.Proofs
end
