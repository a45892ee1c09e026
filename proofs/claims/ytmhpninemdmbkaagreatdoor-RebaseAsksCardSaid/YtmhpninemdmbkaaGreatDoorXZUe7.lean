/-
  EffectSees answers true. How much is given; lists of what was done, the document's and the program's. Lists of what was done: the document's and the program's. effect.Same. The document's SameOnes.
-/
import Derived.Test.YtmhpninemdmbkaaGreatDoorXZUe6
import Derived.Test.YtmhpninemdmbkaaGreatDoorXZAx5
import Derived.Test.YtmhpninemdmbkaaGreatDoorXZAp5
import Derived.Test.YtmhpninemdmbkaaGreatDoorXZAx3
set_option linter.unusedSimpArgs false
set_option linter.unusedVariables false
set_option linter.defProp false

-- ZUe7
section
namespace Go.Proofs
open Go Go.Rw
set_option maxRecDepth 100000
theorem call_eff_t {Γ : Env} (hf : Γ.get 15 = some kBI) {n : Nat} {t : Nat → AV} {hd : Nat → Nat → AV} {nh nl : Nat} {h : Nat → Option AO} {fm : Nat → Nat} {lv : Nat → Option (Nat × Nat)} {mu : Bool} {l : List Ac} {t1 : Nat} {ys : List AV} {d : Option Nat} {K : AS → Prop} (h1 : 2 ≤ t1) (hy : ys = acts l) (hl : l.length ≤ 1099511627776) (ho : ∀ a ∈ l, okL a.ops)
    (hk : cont ⟨n, t, hd, ⟨nh, h, nl, fm, kill fm [t1] lv, mu⟩⟩ d (.sl 0 8 (ones (effL l))) K) : kR Tryz.prog Γ false ⟨n, t, hd, ⟨nh, h, nl, fm, lv, mu⟩⟩ 15 [.sl t1 6 ys] d K := by
  subst hy
  refine kAk (C := kBI) (i := ⟨l, hl, ho⟩) hf rfl rfl rfl (by simp [AV.erL, AV.er]) (ts := [t1]) ?_ ?_
  · simp [AV.tagsL, AV.tags, h1]
  · rintro r rfl
    exact hk
theorem call_eff {Γ : Env} (hf : Γ.get 15 = some kBI) {σ : AS} {dr : Bool} {l : List Ac} {ys : List AV} {d : Option Nat} {K : AS → Prop} (hy : ys = acts l) (hl : l.length ≤ 1099511627776) (ho : ∀ a ∈ l, okL a.ops)
    (hk : cont σ d (.sl 0 8 (ones (effL l))) K) : kR Tryz.prog Γ dr σ 15 [.sl 0 6 ys] d K := by
  subst hy
  exact qK (C := kBI) (i := ⟨l, hl, ho⟩) (r := .sl 0 8 (ones (effL l))) hf rfl rfl (by simp [AV.erL, AV.er]) rfl (fun _ h => h) hk
end Go.Proofs
end
-- ZUe8
section
namespace Go.Proofs
open Go Go.Rw
open _root_.Nat renaming reduceAdd → N0, reduceSub → N1, reduceMul → N2, reduceLT → N3, reduceLeDiff → N4, reduceEqDiff → N5
open _root_.Int renaming reduceNeg → Z0, reduceAdd → Z1, reduceSub → Z2, reduceMul → Z3, reduceGT → Z4, reduceGE → Z5, reduceLT → Z6, reduceLE → Z7, reduceEq → Z8, reduceNe → Z9, reduceToNat → Z10, cast_ofNat_Int → Zc
set_option maxRecDepth 100000
def wF (m : Int) : Int → List (Nat × List Cp) → Int
  | s, [] => s
  | s, (n, c) :: r => if s ≤ m then wF m (sumF s [(n : Int), zD m 0 c, 3]) r else s
theorem kAe (m : Int) : ∀ (l : List Cp) (s : Int), 0 ≤ s → s ≤ 1099511627776 → 0 ≤ zD m s l ∧ zD m s l ≤ 1099511627776
  | [], s, h, h2 => ⟨h, h2⟩
  | c :: r, s, h, h2 => by
    rw [zD]
    split
    · have := jD [(c.t.length : Int), 2] (x := s) ⟨h, h2⟩ (by simp)
      exact kAe m r _ (by omega) this.2
    · exact ⟨h, h2⟩
theorem wF_le {m : Int} (hm : m < 1099511627776) : ∀ (l : List (Nat × List Cp)) {s : Int}, 0 ≤ s → wF m s l ≤ m → s + 3 * l.length ≤ m ∧ ∀ p ∈ l, (p.1 : Int) ≤ m ∧ zD m 0 p.2 ≤ m
  | [], s, _, h => by simp only [wF] at h; simp; exact h
  | (n, c) :: r, s, hs, h => by
    simp only [wF] at h
    split at h
    · rename_i h1
      have hc := kAe m c 0 (by omega) (by omega)
      have e : sumF s [(n : Int), zD m 0 c, 3] = addI (addI (addI s n) (zD m 0 c)) 3 := rfl
      have h2 : 0 ≤ addI (addI (addI s n) (zD m 0 c)) 3 := by unfold addI; omega
      rw [e] at h
      obtain ⟨h3, h4⟩ := wF_le hm r h2 h
      have h5 : addI (addI (addI s n) (zD m 0 c)) 3 ≤ m := by omega
      have h6 : addI (addI (addI s n) (zD m 0 c)) 3 = s + n + zD m 0 c + 3 := by unfold addI at h5 ⊢; omega
      refine ⟨by simp only [List.length_cons]; omega, fun p hp => ?_⟩
      rcases List.mem_cons.1 hp with rfl | hp
      · exact ⟨by simp only; omega, by simp only; omega⟩
      · exact h4 p hp
    · omega
abbrev kBn (c : List Cp) : Prop := c.length ≤ 9223372036854775807 ∧ ∀ x ∈ c, (-9223372036854775808 ≤ x.n ∧ x.n ≤ 9223372036854775807) ∧ x.t.length ≤ 9223372036854775807
abbrev GivenA := { l : List Ac // l.length ≤ 9223372036854775807 ∧ ∀ a ∈ l, a.nm.length ≤ 9223372036854775807 ∧ kBn a.ops }
abbrev GivenO := { l : List On // l.length ≤ 9223372036854775807 ∧ ∀ a ∈ l, a.nm.length ≤ 9223372036854775807 ∧ kBn a.ops }
def wA (l : List Ac) : List (Nat × List Cp) := l.map fun a => (a.nm.length, a.ops)
def wO (l : List On) : List (Nat × List Cp) := l.map fun a => (a.nm.length, a.ops)
theorem wA_cons (a : Ac) (l : List Ac) : wA (a :: l) = (a.nm.length, a.ops) :: wA l := rfl
theorem wO_cons (a : On) (l : List On) : wO (a :: l) = (a.nm.length, a.ops) :: wO l := rfl
abbrev kCn : Con where
  ι := GivenA × { m : Int // 0 ≤ m ∧ m ≤ 1000000 }
  args := fun p => [.sl 0 6 (acts p.1.1), .v (.int .i64 p.2.1)]
  post := fun p r => r = .v (.int .i64 (wF p.2.1 0 (wA p.1.1)))
  plain := true
theorem acts_good : Rw.Good Tryz.prog 9 kCn := by
  have hΓ : kL Tryz.prog [(31, kDP), (18, kC1)] := (kE kCf (kE kFC kJ))
  refine kS (nn := 35) hΓ Tryz.func9 (by kernel_rfl) rfl (show Tryz.f9.results.toList = [.tmp 4] from rfl) (fun _ => rfl) (fun x => by simp [AV.erL, AV.er, qF]) ?_
  rintro ⟨⟨l, hl, hc⟩, ⟨m, hm⟩⟩
  simp only [aR,N0,N1,N2,N3,N4,N5,Z0,Z1,Z2,Z3,Z4,Z5,Z6,Z7,Z8,Z9,Z10,Zc,↓reduceIte,reduceCtorEq, kM]
  obtain ⟨St, hSt⟩ : ∃ St : { p : Int × Nat // p.2 ≤ l.length ∧ (0 ≤ p.1 ∧ p.1 ≤ 1099511627776) ∧ wF m 0 (wA l) = wF m p.1 (wA (l.drop p.2)) } → AS, ∀ p, St p = AS.of 35 [(0, .sl 0 6 (acts l)), (1, .v (.int .i64 m)), (5, .v (.int .i64 p.1.1)), (6, .v (.int .i64 p.1.2))] [] [] := ⟨_, fun _ => rfl⟩
  refine kCc [(5, [], [])] hΓ St (fun p => l.length - p.1.2) ⟨(0, 0), by omega, by simp only; omega, rfl⟩ (by rw [hSt]; refine kH [] [] ?_; simp only [aR,N0,N1,N2,N3,N4,N5,Z0,Z1,Z2,Z3,Z4,Z5,Z6,Z7,Z8,Z9,Z10,Zc,↓reduceIte,reduceCtorEq] <;> ((repeat' apply And.intro) <;> first | rfl | omega | trivial)) ?_
  rintro ⟨⟨s, i⟩, hi, hs, hb⟩
  simp only at hi hs hb
  rw [hSt]
  simp only
  simp only [aR,N0,N1,N2,N3,N4,N5,Z0,Z1,Z2,Z3,Z4,Z5,Z6,Z7,Z8,Z9,Z10,Zc,↓reduceIte,reduceCtorEq, kP, kM]
  (with_reducible first | refine kC (fun h => ?_) (fun h => ?_) | refine kF (fun h => ?_) (fun h => ?_))
  · have hlt : i < l.length := by omega
    have hci := hc l[i] (List.getElem_mem hlt)
    have e1 := qV l hlt
    rw [List.drop_eq_getElem_cons hlt, wA_cons, wF] at hb
    generalize l[i] = a at *
    obtain ⟨k, id, par, nm, dir, ops⟩ := a
    obtain ⟨hn, ho, hoc⟩ := hci
    simp only at hn ho hoc hb e1
    simp (disch := omega) only [aR,N0,N1,N2,N3,N4,N5,Z0,Z1,Z2,Z3,Z4,Z5,Z6,Z7,Z8,Z9,Z10,Zc,↓reduceIte,reduceCtorEq, kA, kP, h]
    (with_reducible first | refine kC (fun h2 => ?_) (fun h2 => ?_) | refine kF (fun h2 => ?_) (fun h2 => ?_))
    · simp (disch := omega) only [aR,N0,N1,N2,N3,N4,N5,Z0,Z1,Z2,Z3,Z4,Z5,Z6,Z7,Z8,Z9,Z10,Zc,↓reduceIte,reduceCtorEq, kA, kP, h2, e1, aA, kM]
      (repeat (with_reducible refine And.intro ?_ ?_; focus (first | omega | exact kG | kernel_rfl)))
      refine kEw (by simp [kB]) rfl ho (fun c h => (hoc c h).2) hm ?_
      have hcb := kAe m ops 0 (by omega) (by omega)
      simp (disch := omega) only [aR,N0,N1,N2,N3,N4,N5,Z0,Z1,Z2,Z3,Z4,Z5,Z6,Z7,Z8,Z9,Z10,Zc,↓reduceIte,reduceCtorEq, kA, kP]
      refine kBf (by simp [kB]) (y := [(nm.length : Int), zD m 0 ops, 3]) rfl hs (by simp; omega) (by simp) ?_
      simp (disch := omega) only [aR,N0,N1,N2,N3,N4,N5,Z0,Z1,Z2,Z3,Z4,Z5,Z6,Z7,Z8,Z9,Z10,Zc,↓reduceIte,reduceCtorEq, kA, kP]
      rw [if_pos h2] at hb
      have hr := jD [(nm.length : Int), zD m 0 ops, 3] hs (by simp; omega)
      refine kI ⟨(sumF s [(nm.length : Int), zD m 0 ops, 3], i + 1), by simp only; omega, by simp only; omega, hb⟩ (by simp only; omega) ?_
      rw [hSt]; refine kH [] [] ?_
      simp only [aR,N0,N1,N2,N3,N4,N5,Z0,Z1,Z2,Z3,Z4,Z5,Z6,Z7,Z8,Z9,Z10,Zc,↓reduceIte,reduceCtorEq] <;> ((repeat' apply And.intro) <;> first | rfl | omega | trivial)
    · simp (disch := omega) only [aR,N0,N1,N2,N3,N4,N5,Z0,Z1,Z2,Z3,Z4,Z5,Z6,Z7,Z8,Z9,Z10,Zc,↓reduceIte,reduceCtorEq, kA, kP, h2]
      rw [hb, if_neg h2]
  · simp only [aR,N0,N1,N2,N3,N4,N5,Z0,Z1,Z2,Z3,Z4,Z5,Z6,Z7,Z8,Z9,Z10,Zc,↓reduceIte,reduceCtorEq, kP, h]
    rw [List.drop_of_length_le (by omega)] at hb
    rw [hb]; rfl
theorem kEm {Γ : Env} (hf : Γ.get 9 = some kCn) {σ : AS} {dr : Bool} {l : List Ac} {m : Int} {ys : List AV} {d : Option Nat} {K : AS → Prop} (hy : ys = acts l) (h1 : l.length ≤ 9223372036854775807) (h2 : ∀ a ∈ l, a.nm.length ≤ 9223372036854775807 ∧ kBn a.ops) (hm : 0 ≤ m ∧ m ≤ 1000000)
    (hk : cont σ d (.v (.int .i64 (wF m 0 (wA l)))) K) : kR Tryz.prog Γ dr σ 9 [.sl 0 6 ys, .v (.int .i64 m)] d K := by
  subst hy
  exact kK (C := kCn) (i := (⟨l, h1, h2⟩, ⟨m, hm⟩)) hf rfl rfl rfl (by simp [AV.erL, AV.er, qF]) (fun _ h => h) rfl hk
theorem acts_ok {l : List Ac} {m : Int} (hm : m ≤ 1000000) (h2 : ∀ a ∈ l, a.nm.length ≤ 9223372036854775807 ∧ kBn a.ops) (h : wF m 0 (wA l) ≤ m) : l.length ≤ 1000000 ∧ ∀ a ∈ l, okL a.ops := by
  obtain ⟨h3, h4⟩ := wF_le (by omega) (wA l) (Int.le_refl 0) h
  simp only [wA, List.length_map] at h3
  refine ⟨by omega, fun a ha => (weigh_ok hm (h2 a ha).2.2 (h4 (a.nm.length, a.ops) (List.mem_map.2 ⟨a, ha, rfl⟩)).2).1⟩
end Go.Proofs
end
-- ZUe9
section
namespace Go.Proofs
open Go Go.Rw
open _root_.Nat renaming reduceAdd → N0, reduceSub → N1, reduceMul → N2, reduceLT → N3, reduceLeDiff → N4, reduceEqDiff → N5
open _root_.Int renaming reduceNeg → Z0, reduceAdd → Z1, reduceSub → Z2, reduceMul → Z3, reduceGT → Z4, reduceGE → Z5, reduceLT → Z6, reduceLE → Z7, reduceEq → Z8, reduceNe → Z9, reduceToNat → Z10, cast_ofNat_Int → Zc
set_option maxRecDepth 100000
abbrev kB3 : Con where
  ι := GivenO
  args := fun p => [.sl 0 8 (ones p.1)]
  post := fun p r => r = .v (.bool (decide (wF 3000 0 (wO p.1) ≤ 3000)))
  plain := true
theorem ones_ok {l : List On} {m : Int} (hm : m ≤ 1000000) (h2 : ∀ a ∈ l, a.nm.length ≤ 9223372036854775807 ∧ kBn a.ops) (h : wF m 0 (wO l) ≤ m) : l.length ≤ 1000000 ∧ ∀ a ∈ l, okL a.ops := by
  obtain ⟨h3, h4⟩ := wF_le (by omega) (wO l) (Int.le_refl 0) h
  simp only [wO, List.length_map] at h3
  refine ⟨by omega, fun a ha => (weigh_ok hm (h2 a ha).2.2 (h4 (a.nm.length, a.ops) (List.mem_map.2 ⟨a, ha, rfl⟩)).2).1⟩
abbrev kB1 : Con where
  ι := { l : List On // l.length ≤ 1099511627776 }
  args := fun p => [.sl 0 8 (ones p.1)]
  post := fun p r => r = .sl 0 8 (ones p.1)
theorem kAq {Γ : Env} {f : Nat} (hf : Γ.get f = some kB1) {σ : AS} {dr : Bool} {l : List On} {ys : List AV} {d : Option Nat} {K : AS → Prop} (hy : ys = ones l) (h1 : l.length ≤ 1099511627776)
    (hk : cont σ d (.sl 0 8 (ones l)) K) : kR Tryz.prog Γ dr σ f [.sl 0 8 ys] d K := by
  subst hy
  exact qK (C := kB1) (i := ⟨l, h1⟩) (r := .sl 0 8 (ones l)) hf rfl rfl (by simp [AV.erL, AV.er, qD]) rfl (fun _ h => h) hk
theorem rget_good : Rw.Good Tryz.prog 51 kA2 := by
  have hΓ : kL Tryz.prog [] := kJ
  refine kS (nn := 20) hΓ Tryz.func51 (by kernel_rfl) rfl (show Tryz.f51.results.toList = [.tmp 4] from rfl) (fun _ => rfl) (fun x => by simp [AV.erL, AV.er, qD]) ?_
  rintro ⟨⟨l, hl⟩, id⟩
  simp only [aR,N0,N1,N2,N3,N4,N5,Z0,Z1,Z2,Z3,Z4,Z5,Z6,Z7,Z8,Z9,Z10,Zc,↓reduceIte,reduceCtorEq, kN]
  obtain ⟨St, hSt⟩ : ∃ St : { i : Nat // i ≤ l.length ∧ fnd id l = i + fnd id (l.drop i) } → AS, ∀ i, St i = AS.of 20 [(0, .sl 0 8 (ones l)), (1, .v (.int .i64 id)), (5, .v (.int .i64 i.1))] [] [] := ⟨_, fun _ => rfl⟩
  refine kX hΓ St (fun i => l.length - i.1) ⟨0, by omega, by simp⟩ (by rw [hSt]; refine kH [] [] ?_; simp only [aR,N0,N1,N2,N3,N4,N5,Z0,Z1,Z2,Z3,Z4,Z5,Z6,Z7,Z8,Z9,Z10,Zc,↓reduceIte,reduceCtorEq] <;> ((repeat' apply And.intro) <;> first | rfl | omega | trivial)) ?_
  rintro ⟨i, hi, hf⟩
  rw [hSt]
  simp only
  simp only [aR,N0,N1,N2,N3,N4,N5,Z0,Z1,Z2,Z3,Z4,Z5,Z6,Z7,Z8,Z9,Z10,Zc,↓reduceIte,reduceCtorEq, kN]
  (with_reducible first | refine kC (fun h => ?_) (fun h => ?_) | refine kF (fun h => ?_) (fun h => ?_))
  · have hlt : i < l.length := by omega
    have e1 := qT l hlt
    rw [List.drop_eq_getElem_cons hlt, fnd] at hf
    generalize l[i] = x at *
    by_cases hx : x.id = id
    · rw [if_pos hx] at hf
      simp only [aR,N0,N1,N2,N3,N4,N5,Z0,Z1,Z2,Z3,Z4,Z5,Z6,Z7,Z8,Z9,Z10,Zc,↓reduceIte,reduceCtorEq, h, e1, oA, kN, hx]
      (repeat (with_reducible refine And.intro ?_ ?_; focus (first | omega | exact kG | kernel_rfl)))
      rw [fndI, if_pos (by omega), hf, Nat.add_zero]
    · rw [if_neg hx] at hf
      simp only [aR,N0,N1,N2,N3,N4,N5,Z0,Z1,Z2,Z3,Z4,Z5,Z6,Z7,Z8,Z9,Z10,Zc,↓reduceIte,reduceCtorEq, h, e1, oA, kN, hx, kA (n := (i : Int) + 1) (by omega) (by omega)]
      (repeat (with_reducible refine And.intro ?_ ?_; focus (first | omega | exact kG | kernel_rfl)))
      refine kI ⟨i + 1, by omega, by omega⟩ (by simp only; omega) ?_
      rw [hSt]; refine kH [] [] ?_
      simp only [aR,N0,N1,N2,N3,N4,N5,Z0,Z1,Z2,Z3,Z4,Z5,Z6,Z7,Z8,Z9,Z10,Zc,↓reduceIte,reduceCtorEq] <;> ((repeat' apply And.intro) <;> first | rfl | omega | trivial)
  · simp only [aR,N0,N1,N2,N3,N4,N5,Z0,Z1,Z2,Z3,Z4,Z5,Z6,Z7,Z8,Z9,Z10,Zc,↓reduceIte,reduceCtorEq, h]
    rw [List.drop_of_length_le (by omega), fnd] at hf
    rw [fndI, if_neg (by omega)]
theorem zZ {Γ : Env} (hf : Γ.get 51 = some kA2) {σ : AS} {dr : Bool} {xs : List On} {id : Int} {ys : List AV} {d : Option Nat} {K : AS → Prop} (hy : ys = ones xs) (hl : xs.length ≤ 1099511627776)
    (hk : cont σ d (.v (.int .i64 (fndI id xs))) K) : kR Tryz.prog Γ dr σ 51 [.sl 0 8 ys, .v (.int .i64 id)] d K := by
  subst hy
  exact kK (C := kA2) (i := (⟨xs, hl⟩, id)) hf rfl rfl rfl (by simp [AV.erL, AV.er, qD]) (fun _ h => h) rfl hk
end Go.Proofs
end
-- ZUe10
section
namespace Go.Proofs
open Go Go.Rw
set_option maxRecDepth 100000
abbrev OnsS := { l : List On // l.length ≤ 1099511627776 ∧ ∀ x ∈ l, x.ops.length ≤ 4000000000000 }
end Go.Proofs
end
-- ZUe13
section
namespace Go.Proofs
open Go Go.Rw
open _root_.Nat renaming reduceAdd → N0, reduceSub → N1, reduceMul → N2, reduceLT → N3, reduceLeDiff → N4, reduceEqDiff → N5
open _root_.Int renaming reduceNeg → Z0, reduceAdd → Z1, reduceSub → Z2, reduceMul → Z3, reduceGT → Z4, reduceGE → Z5, reduceLT → Z6, reduceLE → Z7, reduceEq → Z8, reduceNe → Z9, reduceToNat → Z10, cast_ofNat_Int → Zc
set_option maxRecDepth 100000
theorem kCO (x y : On) : (x = y) = (x.id = y.id ∧ x.ops = y.ops ∧ x.ed = y.ed ∧ x.rm = y.rm ∧ x.cr = y.cr ∧ x.mv = y.mv ∧ x.par = y.par ∧ x.nm = y.nm) := by
  cases x; cases y
  simp only [On.mk.injEq]
abbrev kCW : Con where
  ι := OnsS × OnsS
  args := fun p => [.sl 0 8 (ones p.1.1), .sl 0 8 (ones p.2.1)]
  post := fun p r => r = .v (.bool (decide (p.1.1 = p.2.1)))
  plain := true
set_option maxHeartbeats 4000000 in
theorem rsones_good : Rw.Good Tryz.prog 26 kCW := by
  have hΓ : kL Tryz.prog [(56, kCF)] := (kE kFW kJ)
  refine kS (nn := 82) hΓ Tryz.func26 (by kernel_rfl) rfl (show Tryz.f26.results.toList = [.tmp 4] from rfl) (fun _ => rfl) (fun x => by simp [AV.erL, AV.er, qD]) ?_
  rintro ⟨⟨a, ha, hao⟩, ⟨b, hb, hbo⟩⟩
  simp only [aR,N0,N1,N2,N3,N4,N5,Z0,Z1,Z2,Z3,Z4,Z5,Z6,Z7,Z8,Z9,Z10,Zc,↓reduceIte,reduceCtorEq, kN]
  by_cases hl : a.length = b.length
  case neg =>
    have hne : a ≠ b := fun e => hl (by rw [e])
    simp only [aR,N0,N1,N2,N3,N4,N5,Z0,Z1,Z2,Z3,Z4,Z5,Z6,Z7,Z8,Z9,Z10,Zc,↓reduceIte,reduceCtorEq, show ((a.length : Int) = b.length) = False from eq_false (by omega), hne]
  simp only [aR,N0,N1,N2,N3,N4,N5,Z0,Z1,Z2,Z3,Z4,Z5,Z6,Z7,Z8,Z9,Z10,Zc,↓reduceIte,reduceCtorEq, hl, kN]
  obtain ⟨St, hSt⟩ : ∃ St : { i : Nat // i ≤ b.length ∧ a.take i = b.take i } → AS, ∀ i, St i = AS.of 82 [(0, .sl 0 8 (ones a)), (1, .sl 0 8 (ones b)), (5, .v (.int .i64 i.1))] [] [] := ⟨_, fun _ => rfl⟩
  refine kCc [(6, [0, 1], [1000000])] hΓ St (fun i => b.length - i.1) ⟨0, by omega, by simp⟩ (by rw [hSt]; refine kH [] [] ?_; simp only [aR,N0,N1,N2,N3,N4,N5,Z0,Z1,Z2,Z3,Z4,Z5,Z6,Z7,Z8,Z9,Z10,Zc,↓reduceIte,reduceCtorEq] <;> ((repeat' apply And.intro) <;> first | rfl | omega | trivial)) ?_
  rintro ⟨i, hi, hs⟩
  rw [hSt]
  simp only
  simp only [aR,N0,N1,N2,N3,N4,N5,Z0,Z1,Z2,Z3,Z4,Z5,Z6,Z7,Z8,Z9,Z10,Zc,↓reduceIte,reduceCtorEq, kP, kN]
  (with_reducible first | refine kC (fun h => ?_) (fun h => ?_) | refine kF (fun h => ?_) (fun h => ?_))
  · have hlt : i < a.length := by omega
    have hlt2 : i < b.length := by omega
    have e1 := qT a hlt
    have e2 := qT b hlt2
    have hx := hao _ (List.getElem_mem hlt)
    have hy := hbo _ (List.getElem_mem hlt2)
    have ta := List.take_succ_eq_append_getElem hlt
    have tb := List.take_succ_eq_append_getElem hlt2
    have hab : a[i] = b[i] → a.take (i + 1) = b.take (i + 1) := fun he => by rw [ta, tb, he, hs]
    have hne : ¬ a[i] = b[i] → a ≠ b := fun he hh => he (by subst hh; rfl)
    generalize a[i] = x at *
    generalize b[i] = y at *
    simp only [aR,N0,N1,N2,N3,N4,N5,Z0,Z1,Z2,Z3,Z4,Z5,Z6,Z7,Z8,Z9,Z10,Zc,↓reduceIte,reduceCtorEq, kP, h, e1, e2, oA, kN]
    (repeat (with_reducible refine And.intro ?_ ?_; focus (first | omega | exact kG | ((repeat (refine fresh_upd (by omega) ?_)); first | exact fresh_none | exact fresh_of (by simp)) | kernel_rfl)))
    by_cases h1 : x.id = y.id
    case neg =>
      have hd := hne (by rw [kCO]; simp [h1])
      simp only [aR,N0,N1,N2,N3,N4,N5,Z0,Z1,Z2,Z3,Z4,Z5,Z6,Z7,Z8,Z9,Z10,Zc,↓reduceIte,reduceCtorEq, kP, h1, hd]
    simp only [aR,N0,N1,N2,N3,N4,N5,Z0,Z1,Z2,Z3,Z4,Z5,Z6,Z7,Z8,Z9,Z10,Zc,↓reduceIte,reduceCtorEq, kP, h1]
    refine kEr (by simp [kB]) rfl rfl hx hy ?_
    by_cases h2 : x.ops = y.ops
    case neg =>
      have hd := hne (by rw [kCO]; simp [h2])
      simp only [aR,N0,N1,N2,N3,N4,N5,Z0,Z1,Z2,Z3,Z4,Z5,Z6,Z7,Z8,Z9,Z10,Zc,↓reduceIte,reduceCtorEq, kP, h1, h2, hd]
    by_cases h3 : x.ed = y.ed
    case neg =>
      have hd := hne (by rw [kCO]; simp [h3])
      have nn : (x.ed != y.ed) = true := by simp [h3]
      simp only [aR,N0,N1,N2,N3,N4,N5,Z0,Z1,Z2,Z3,Z4,Z5,Z6,Z7,Z8,Z9,Z10,Zc,↓reduceIte,reduceCtorEq, kP, h1, h2, nn, hd]
    have b3 : (x.ed != y.ed) = false := by simp [h3]
    by_cases h4 : x.rm = y.rm
    case neg =>
      have hd := hne (by rw [kCO]; simp [h4])
      have nn : (x.rm != y.rm) = true := by simp [h4]
      simp only [aR,N0,N1,N2,N3,N4,N5,Z0,Z1,Z2,Z3,Z4,Z5,Z6,Z7,Z8,Z9,Z10,Zc,↓reduceIte,reduceCtorEq, kP, h1, h2, b3, nn, hd]
    have b4 : (x.rm != y.rm) = false := by simp [h4]
    by_cases h5 : x.cr = y.cr
    case neg =>
      have hd := hne (by rw [kCO]; simp [h5])
      have nn : (x.cr != y.cr) = true := by simp [h5]
      simp only [aR,N0,N1,N2,N3,N4,N5,Z0,Z1,Z2,Z3,Z4,Z5,Z6,Z7,Z8,Z9,Z10,Zc,↓reduceIte,reduceCtorEq, kP, h1, h2, b3, b4, nn, hd]
    have b5 : (x.cr != y.cr) = false := by simp [h5]
    by_cases h6 : x.mv = y.mv
    case neg =>
      have hd := hne (by rw [kCO]; simp [h6])
      have nn : (x.mv != y.mv) = true := by simp [h6]
      simp only [aR,N0,N1,N2,N3,N4,N5,Z0,Z1,Z2,Z3,Z4,Z5,Z6,Z7,Z8,Z9,Z10,Zc,↓reduceIte,reduceCtorEq, kP, h1, h2, b3, b4, b5, nn, hd]
    have b6 : (x.mv != y.mv) = false := by simp [h6]
    by_cases h7 : x.par = y.par
    case neg =>
      have hd := hne (by rw [kCO]; simp [h7])
      simp only [aR,N0,N1,N2,N3,N4,N5,Z0,Z1,Z2,Z3,Z4,Z5,Z6,Z7,Z8,Z9,Z10,Zc,↓reduceIte,reduceCtorEq, kP, h1, h2, b3, b4, b5, b6, h7, hd]
    by_cases h8 : x.nm = y.nm
    case neg =>
      have hd := hne (by rw [kCO]; simp [h8])
      simp only [aR,N0,N1,N2,N3,N4,N5,Z0,Z1,Z2,Z3,Z4,Z5,Z6,Z7,Z8,Z9,Z10,Zc,↓reduceIte,reduceCtorEq, kP, h1, h2, b3, b4, b5, b6, h7, h8, hd]
    have hxy : x = y := by rw [kCO]; exact ⟨h1, h2, h3, h4, h5, h6, h7, h8⟩
    simp only [aR,N0,N1,N2,N3,N4,N5,Z0,Z1,Z2,Z3,Z4,Z5,Z6,Z7,Z8,Z9,Z10,Zc,↓reduceIte,reduceCtorEq, kP, h1, h2, b3, b4, b5, b6, h7, h8, kA (n := (i : Int) + 1) (by omega) (by omega)]
    refine kI ⟨i + 1, by omega, hab hxy⟩ (by simp only; omega) ?_
    rw [hSt]; refine kH [] [] ?_
    simp only [aR,N0,N1,N2,N3,N4,N5,Z0,Z1,Z2,Z3,Z4,Z5,Z6,Z7,Z8,Z9,Z10,Zc,↓reduceIte,reduceCtorEq] <;> ((repeat' apply And.intro) <;> first | rfl | omega | trivial)
  · have e1 : a.take i = a := List.take_of_length_le (by omega)
    have e2 : b.take i = b := List.take_of_length_le (by omega)
    rw [e1, e2] at hs
    simp only [aR,N0,N1,N2,N3,N4,N5,Z0,Z1,Z2,Z3,Z4,Z5,Z6,Z7,Z8,Z9,Z10,Zc,↓reduceIte,reduceCtorEq, kP, h, hs]
end Go.Proofs
end
