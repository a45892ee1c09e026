/-
  EffectSees answers true. How much is given; lists of what was done, the document's and the program's. Lists of what was done: the document's and the program's. effect.Same. The document's SameOnes. EffectKeeps answers true.
-/
import Derived.Test.YtmhpninemdmbkaaGreatDoorXZUe6
import Derived.Test.YtmhpninemdmbkaaGreatDoorXZAx5
import Derived.Test.YtmhpninemdmbkaaGreatDoorXZAp5
set_option linter.unusedSimpArgs false
set_option linter.unusedVariables false
set_option linter.defProp false

-- ZUe7
section
namespace Go.Proofs
open Go Go.Rw
set_option maxRecDepth 100000
set_option linter.unusedSimpArgs false
set_option linter.unusedVariables false

theorem call_eff_t {Γ : Env} (hf : Γ.get 15 = some kDs) {n : Nat} {t : Nat → AV} {hd : Nat → Nat → AV} {nh nl : Nat} {h : Nat → Option AO} {fm : Nat → Nat} {lv : Nat → Option (Nat × Nat)} {mu : Bool} {l : List Ac} {t1 : Nat} {ys : List AV} {d : Option Nat} {K : AS → Prop} (h1 : 2 ≤ t1) (hy : ys = acts l) (hl : l.length ≤ 1099511627776) (ho : ∀ a ∈ l, okL a.ops)
    (hk : cont ⟨n, t, hd, ⟨nh, h, nl, fm, kill fm [t1] lv, mu⟩⟩ d (.sl 0 8 (ones (effL l))) K) : kP Tryz.prog Γ false ⟨n, t, hd, ⟨nh, h, nl, fm, lv, mu⟩⟩ 15 [.sl t1 6 ys] d K := by
  subst hy
  refine kAa (C := kDs) (i := ⟨l, hl, ho⟩) hf rfl rfl rfl (by simp [AV.erL, AV.er]) (ts := [t1]) ?_ ?_
  · simp [AV.tagsL, AV.tags, h1]
  · rintro r rfl
    exact hk
theorem call_eff {Γ : Env} (hf : Γ.get 15 = some kDs) {σ : AS} {dr : Bool} {l : List Ac} {ys : List AV} {d : Option Nat} {K : AS → Prop} (hy : ys = acts l) (hl : l.length ≤ 1099511627776) (ho : ∀ a ∈ l, okL a.ops)
    (hk : cont σ d (.sl 0 8 (ones (effL l))) K) : kP Tryz.prog Γ dr σ 15 [.sl 0 6 ys] d K := by
  subst hy
  exact qM (C := kDs) (i := ⟨l, hl, ho⟩) (r := .sl 0 8 (ones (effL l))) hf rfl rfl (by simp [AV.erL, AV.er]) rfl (fun _ h => h) hk
end Go.Proofs
end

-- ZUe8
section
namespace Go.Proofs
open Go Go.Rw
open _root_.Nat renaming reduceAdd → N0, reduceSub → N1, reduceMul → N2, reduceLT → N3, reduceLeDiff → N4, reduceEqDiff → N5
open _root_.Int renaming reduceNeg → Z0, reduceAdd → Z1, reduceSub → Z2, reduceMul → Z3, reduceGT → Z4, reduceGE → Z5, reduceLT → Z6, reduceLE → Z7, reduceEq → Z8, reduceNe → Z9, reduceToNat → Z10, cast_ofNat_Int → Zc
set_option maxRecDepth 100000
set_option linter.unusedSimpArgs false
set_option linter.unusedVariables false

def wF (m : Int) : Int → List (Nat × List Cp) → Int
  | s, [] => s
  | s, (n, c) :: r => if s ≤ m then wF m (sumF s [(n : Int), zC m 0 c, 3]) r else s
theorem kBV (m : Int) : ∀ (l : List Cp) (s : Int), 0 ≤ s → s ≤ 1099511627776 → 0 ≤ zC m s l ∧ zC m s l ≤ 1099511627776
  | [], s, h, h2 => ⟨h, h2⟩
  | c :: r, s, h, h2 => by
    rw [zC]
    split
    · have := jM [(c.t.length : Int), 2] (x := s) ⟨h, h2⟩ (by simp)
      exact kBV m r _ (by omega) this.2
    · exact ⟨h, h2⟩
theorem wF_le {m : Int} (hm : m < 1099511627776) : ∀ (l : List (Nat × List Cp)) {s : Int}, 0 ≤ s → wF m s l ≤ m → s + 3 * l.length ≤ m ∧ ∀ p ∈ l, (p.1 : Int) ≤ m ∧ zC m 0 p.2 ≤ m
  | [], s, _, h => by simp only [wF] at h; simp; exact h
  | (n, c) :: r, s, hs, h => by
    simp only [wF] at h
    split at h
    · rename_i h1
      have hc := kBV m c 0 (by omega) (by omega)
      have e : sumF s [(n : Int), zC m 0 c, 3] = addI (addI (addI s n) (zC m 0 c)) 3 := rfl
      have h2 : 0 ≤ addI (addI (addI s n) (zC m 0 c)) 3 := by unfold addI; omega
      rw [e] at h
      obtain ⟨h3, h4⟩ := wF_le hm r h2 h
      have h5 : addI (addI (addI s n) (zC m 0 c)) 3 ≤ m := by omega
      have h6 : addI (addI (addI s n) (zC m 0 c)) 3 = s + n + zC m 0 c + 3 := by unfold addI at h5 ⊢; omega
      refine ⟨by simp only [List.length_cons]; omega, fun p hp => ?_⟩
      rcases List.mem_cons.1 hp with rfl | hp
      · exact ⟨by simp only; omega, by simp only; omega⟩
      · exact h4 p hp
    · omega
abbrev wideC (c : List Cp) : Prop := c.length ≤ 9223372036854775807 ∧ ∀ x ∈ c, (-9223372036854775808 ≤ x.n ∧ x.n ≤ 9223372036854775807) ∧ x.t.length ≤ 9223372036854775807
abbrev GivenA := { l : List Ac // l.length ≤ 9223372036854775807 ∧ ∀ a ∈ l, a.nm.length ≤ 9223372036854775807 ∧ wideC a.ops }
def wA (l : List Ac) : List (Nat × List Cp) := l.map fun a => (a.nm.length, a.ops)
theorem wA_cons (a : Ac) (l : List Ac) : wA (a :: l) = (a.nm.length, a.ops) :: wA l := rfl
abbrev kEJ : Con where
  ι := GivenA × { m : Int // 0 ≤ m ∧ m ≤ 1000000 }
  args := fun p => [.sl 0 6 (acts p.1.1), .v (.int .i64 p.2.1)]
  post := fun p r => r = .v (.int .i64 (wF p.2.1 0 (wA p.1.1)))
  plain := true
theorem acts_good : Rw.Good Tryz.prog 9 kEJ := by
  have hΓ : kL Tryz.prog [(31, kD3), (18, kDL)] := (kE kDI (kE weigh_good kJ))
  refine kS (nn := 35) hΓ Tryz.func9 (by kernel_rfl) rfl (show Tryz.f9.results.toList = [.tmp 4] from rfl) (fun _ => rfl) (fun x => by simp [AV.erL, AV.er, qL]) ?_
  rintro ⟨⟨l, hl, hc⟩, ⟨m, hm⟩⟩
  simp only [aR,N0,N1,N2,N3,N4,N5,Z0,Z1,Z2,Z3,Z4,Z5,Z6,Z7,Z8,Z9,Z10,Zc,↓reduceIte,reduceCtorEq, kQ]
  obtain ⟨St, hSt⟩ : ∃ St : { p : Int × Nat // p.2 ≤ l.length ∧ (0 ≤ p.1 ∧ p.1 ≤ 1099511627776) ∧ wF m 0 (wA l) = wF m p.1 (wA (l.drop p.2)) } → AS, ∀ p, St p = AS.of 35 [(0, .sl 0 6 (acts l)), (1, .v (.int .i64 m)), (5, .v (.int .i64 p.1.1)), (6, .v (.int .i64 p.1.2))] [] [] := ⟨_, fun _ => rfl⟩
  refine vc_loopD [(5, [], [])] hΓ St (fun p => l.length - p.1.2) ⟨(0, 0), by omega, by simp only; omega, rfl⟩ (by rw [hSt]; refine kH [] [] ?_; simp only [aR,N0,N1,N2,N3,N4,N5,Z0,Z1,Z2,Z3,Z4,Z5,Z6,Z7,Z8,Z9,Z10,Zc,↓reduceIte,reduceCtorEq] <;> ((repeat' apply And.intro) <;> first | rfl | omega | trivial)) ?_
  rintro ⟨⟨s, i⟩, hi, hs, hb⟩
  simp only at hi hs hb
  rw [hSt]
  simp only
  simp only [aR,N0,N1,N2,N3,N4,N5,Z0,Z1,Z2,Z3,Z4,Z5,Z6,Z7,Z8,Z9,Z10,Zc,↓reduceIte,reduceCtorEq, kN, kQ]
  (with_reducible first | refine kB (fun h => ?_) (fun h => ?_) | refine kD (fun h => ?_) (fun h => ?_))
  · have hlt : i < l.length := by omega
    have hci := hc l[i] (List.getElem_mem hlt)
    have e1 := qQ l hlt
    rw [List.drop_eq_getElem_cons hlt, wA_cons, wF] at hb
    generalize l[i] = a at *
    obtain ⟨k, id, par, nm, dir, ops⟩ := a
    obtain ⟨hn, ho, hoc⟩ := hci
    simp only at hn ho hoc hb e1
    simp (disch := omega) only [aR,N0,N1,N2,N3,N4,N5,Z0,Z1,Z2,Z3,Z4,Z5,Z6,Z7,Z8,Z9,Z10,Zc,↓reduceIte,reduceCtorEq, kA, kN, h]
    (with_reducible first | refine kB (fun h2 => ?_) (fun h2 => ?_) | refine kD (fun h2 => ?_) (fun h2 => ?_))
    · simp (disch := omega) only [aR,N0,N1,N2,N3,N4,N5,Z0,Z1,Z2,Z3,Z4,Z5,Z6,Z7,Z8,Z9,Z10,Zc,↓reduceIte,reduceCtorEq, kA, kN, h2, e1, aA, kQ]
      (repeat (with_reducible refine And.intro ?_ ?_; focus (first | omega | exact kG | kernel_rfl)))
      refine call_weigh (by simp [kC]) rfl ho (fun c h => (hoc c h).2) hm ?_
      have hcb := kBV m ops 0 (by omega) (by omega)
      simp (disch := omega) only [aR,N0,N1,N2,N3,N4,N5,Z0,Z1,Z2,Z3,Z4,Z5,Z6,Z7,Z8,Z9,Z10,Zc,↓reduceIte,reduceCtorEq, kA, kN]
      refine kBn (by simp [kC]) (y := [(nm.length : Int), zC m 0 ops, 3]) rfl hs (by simp; omega) (by simp) ?_
      simp (disch := omega) only [aR,N0,N1,N2,N3,N4,N5,Z0,Z1,Z2,Z3,Z4,Z5,Z6,Z7,Z8,Z9,Z10,Zc,↓reduceIte,reduceCtorEq, kA, kN]
      rw [if_pos h2] at hb
      have hr := jM [(nm.length : Int), zC m 0 ops, 3] hs (by simp; omega)
      refine kI ⟨(sumF s [(nm.length : Int), zC m 0 ops, 3], i + 1), by simp only; omega, by simp only; omega, hb⟩ (by simp only; omega) ?_
      rw [hSt]; refine kH [] [] ?_
      simp only [aR,N0,N1,N2,N3,N4,N5,Z0,Z1,Z2,Z3,Z4,Z5,Z6,Z7,Z8,Z9,Z10,Zc,↓reduceIte,reduceCtorEq] <;> ((repeat' apply And.intro) <;> first | rfl | omega | trivial)
    · simp (disch := omega) only [aR,N0,N1,N2,N3,N4,N5,Z0,Z1,Z2,Z3,Z4,Z5,Z6,Z7,Z8,Z9,Z10,Zc,↓reduceIte,reduceCtorEq, kA, kN, h2]
      rw [hb, if_neg h2]
  · simp only [aR,N0,N1,N2,N3,N4,N5,Z0,Z1,Z2,Z3,Z4,Z5,Z6,Z7,Z8,Z9,Z10,Zc,↓reduceIte,reduceCtorEq, kN, h]
    rw [List.drop_of_length_le (by omega)] at hb
    rw [hb]; rfl
theorem kDd {Γ : Env} (hf : Γ.get 9 = some kEJ) {σ : AS} {dr : Bool} {l : List Ac} {m : Int} {ys : List AV} {d : Option Nat} {K : AS → Prop} (hy : ys = acts l) (h1 : l.length ≤ 9223372036854775807) (h2 : ∀ a ∈ l, a.nm.length ≤ 9223372036854775807 ∧ wideC a.ops) (hm : 0 ≤ m ∧ m ≤ 1000000)
    (hk : cont σ d (.v (.int .i64 (wF m 0 (wA l)))) K) : kP Tryz.prog Γ dr σ 9 [.sl 0 6 ys, .v (.int .i64 m)] d K := by
  subst hy
  exact kK (C := kEJ) (i := (⟨l, h1, h2⟩, ⟨m, hm⟩)) hf rfl rfl rfl (by simp [AV.erL, AV.er, qL]) (fun _ h => h) rfl hk
theorem acts_ok {l : List Ac} {m : Int} (hm : m ≤ 1000000) (h2 : ∀ a ∈ l, a.nm.length ≤ 9223372036854775807 ∧ wideC a.ops) (h : wF m 0 (wA l) ≤ m) : l.length ≤ 1000000 ∧ ∀ a ∈ l, okL a.ops := by
  obtain ⟨h3, h4⟩ := wF_le (by omega) (wA l) (Int.le_refl 0) h
  simp only [wA, List.length_map] at h3
  refine ⟨by omega, fun a ha => (weigh_ok hm (h2 a ha).2.2 (h4 (a.nm.length, a.ops) (List.mem_map.2 ⟨a, ha, rfl⟩)).2).1⟩
end Go.Proofs
end

-- ZUe9
section
namespace Go.Proofs
open Go Go.Rw
open _root_.Nat renaming reduceAdd → N0, reduceSub → N1, reduceMul → N2, reduceLT → N3, reduceLeDiff → N4, reduceEqDiff → N5
open _root_.Int renaming reduceNeg → Z0, reduceAdd → Z1, reduceSub → Z2, reduceMul → Z3, reduceGT → Z4, reduceGE → Z5, reduceLT → Z6, reduceLE → Z7, reduceEq → Z8, reduceNe → Z9, reduceToNat → Z10, cast_ofNat_Int → Zc
set_option maxRecDepth 100000
set_option linter.unusedSimpArgs false
set_option linter.unusedVariables false

end Go.Proofs
end

-- ZUe10
section
namespace Go.Proofs
open Go Go.Rw
set_option maxRecDepth 100000
set_option linter.unusedSimpArgs false
set_option linter.unusedVariables false

end Go.Proofs
end

-- ZUe13
section
namespace Go.Proofs
open Go Go.Rw
open _root_.Nat renaming reduceAdd → N0, reduceSub → N1, reduceMul → N2, reduceLT → N3, reduceLeDiff → N4, reduceEqDiff → N5
open _root_.Int renaming reduceNeg → Z0, reduceAdd → Z1, reduceSub → Z2, reduceMul → Z3, reduceGT → Z4, reduceGE → Z5, reduceLT → Z6, reduceLE → Z7, reduceEq → Z8, reduceNe → Z9, reduceToNat → Z10, cast_ofNat_Int → Zc
set_option maxRecDepth 100000
set_option linter.unusedSimpArgs false
set_option linter.unusedVariables false

end Go.Proofs
end

-- ZUe14
section
namespace Go.Proofs
open Go Go.Rw
set_option maxRecDepth 100000
set_option linter.unusedSimpArgs false
set_option linter.unusedVariables false

theorem call_eover0 {Γ : Env} (hf : Γ.get 42 = some kBO) {σ : AS} {dr : Bool} {x : List On} {l : List Ac} {xs ys : List AV} {d : Option Nat} {K : AS → Prop} (hx : xs = ones x) (hy : ys = acts l) (hxl : x.length ≤ 1099511627776) (hxo : ∀ a ∈ x, okL a.ops) (hl : l.length ≤ 1099511627776) (ho : ∀ a ∈ l, okL a.ops)
    (hk : cont σ d (.sl 0 8 (ones (x.map fun z => kBZ z l))) K) : kP Tryz.prog Γ dr σ 42 [.sl 0 8 xs, .sl 0 6 ys] d K := by
  subst hx hy
  exact qM (C := kBO) (i := (⟨x, hxl, hxo⟩, ⟨l, hl, ho⟩)) (r := .sl 0 8 (ones (x.map fun z => kBZ z l))) hf rfl rfl (by simp [AV.erL, AV.er, jC, qL]) rfl (fun _ h => h) hk
end Go.Proofs
end
