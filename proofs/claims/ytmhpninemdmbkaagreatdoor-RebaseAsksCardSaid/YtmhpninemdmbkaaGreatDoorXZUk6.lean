/-
  RebaseMeets: what two edits of one file come to. Plain. RebaseRow answers true. How much a tree is; is it qE; whose kCC a transaction touches. How much a message is, where it bears commits alone. RebaseAsks answers true.
-/
import Derived.Test.YtmhpninemdmbkaaGreatDoorXZUk2
import Derived.Test.YtmhpninemdmbkaaGreatDoorXZUn4
import Derived.Test.YtmhpninemdmbkaaGreatDoorXZAx5
import Derived.Test.YtmhpninemdmbkaaGreatDoorXZUo12
import Derived.Test.YtmhpninemdmbkaaGreatDoorXZUe7
import Derived.Test.YtmhpninemdmbkaaGreatDoorXZUk11
import Derived.Test.YtmhpninemdmbkaaGreatDoorXZAw0
import Derived.Test.YtmhpninemdmbkaaGreatDoorXZAw8
import Derived.Test.YtmhpninemdmbkaaGreatDoorXZUk8
import Derived.Test.YtmhpninemdmbkaaGreatDoorXZUk19
set_option linter.unusedSimpArgs false
set_option linter.unusedVariables false
set_option linter.defProp false

-- ZUk6
section
namespace Go.Proofs
open Go Go.Rw
set_option maxRecDepth 100000
end Go.Proofs
end
-- ZUk12
section
namespace Go.Proofs
open Go Go.Rw
open _root_.Nat renaming reduceAdd → N0, reduceSub → N1, reduceMul → N2, reduceLT → N3, reduceLeDiff → N4, reduceEqDiff → N5
open _root_.Int renaming reduceNeg → Z0, reduceAdd → Z1, reduceSub → Z2, reduceMul → Z3, reduceGT → Z4, reduceGE → Z5, reduceLT → Z6, reduceLE → Z7, reduceEq → Z8, reduceNe → Z9, reduceToNat → Z10, cast_ofNat_Int → Zc
set_option maxRecDepth 100000
theorem beh_ok : ∀ (cs : List Cm) (l : List Ac), l.length ≤ 1000000 → (∀ a ∈ l, okA a) → (∀ c ∈ cs, okCm c) → (behB l cs).1.length ≤ 1000000 ∧ ∀ a ∈ (behB l cs).1, okA a
  | [], l, h1, h2, _ => ⟨h1, h2⟩
  | c :: r, l, h1, h2, h3 => by
    rw [behB]
    split
    · exact ⟨by simp, by simp⟩
    · obtain ⟨g1, g2⟩ := rebR_ok h1 h2 (bys := effL c.acs) fun z hz => eff_ok (fun w hw => ((h3 c (List.mem_cons_self ..)).2 w hw).1) hz
      exact beh_ok r _ g1 g2 fun d hd => h3 d (List.mem_cons_of_mem _ hd)
theorem call_rbeh {Γ : Env} (hf : Γ.get 24 = some kBS) {n : Nat} {t : Nat → AV} {hd : Nat → Nat → AV} {nh nl : Nat} {h : Nat → Option AO} {fm : Nat → Nat} {lv : Nat → Option (Nat × Nat)} {mu : Bool} {l : List Ac} {cs : List Cm} {xs ys : List AV} {t1 t2 : Nat} {d : Option Nat} {K : AS → Prop} (hx : xs = acts l) (hy : ys = cms cs) (hl : l.length ≤ 1000000) (ho : ∀ a ∈ l, okA a) (hc : cs.length ≤ 1099511627776) (hco : ∀ c ∈ cs, okCm c) (h1 : t1 = 0 ∨ 2 ≤ t1) (h2 : t2 = 0 ∨ 2 ≤ t2)
    (hk : cont ⟨n, t, hd, ⟨nh, h, nl, fm, kill fm ((if t1 = 0 then [] else [t1]) ++ (if t2 = 0 then [] else [t2])) lv, mu⟩⟩ d (.tup [.sl 0 6 (acts (behB l cs).1), .v (.int .i64 (behB l cs).2)]) K) : kR Tryz.prog Γ false ⟨n, t, hd, ⟨nh, h, nl, fm, lv, mu⟩⟩ 24 [.sl t1 6 xs, .sl t2 4 ys] d K := by
  subst hx hy
  refine kAk (C := kBS) (i := (⟨l, hl, ho⟩, ⟨cs, hc, hco⟩)) hf rfl rfl rfl (by simp [AV.erL, AV.er, qF, kD7]) (ts := (if t1 = 0 then [] else [t1]) ++ (if t2 = 0 then [] else [t2])) ?_ ?_
  · have c : ∀ t : Nat, (t = 0 ∨ 2 ≤ t) → (if 2 ≤ t then [t] else []) = (if t = 0 then [] else [t]) := fun t ht => by
      rcases ht with rfl | ht
      · rfl
      · rw [if_pos ht, if_neg (by omega)]
    rw [← c t1 h1, ← c t2 h2]
    simp [AV.tagsL, AV.tags]
  · rintro r rfl
    simp only [AV.er, AV.erL, qF]
    exact hk
end Go.Proofs
end
-- ZUk9
section
namespace Go.Proofs
open Go Go.Rw
open _root_.Nat renaming reduceAdd → N0, reduceSub → N1, reduceMul → N2, reduceLT → N3, reduceLeDiff → N4, reduceEqDiff → N5
open _root_.Int renaming reduceNeg → Z0, reduceAdd → Z1, reduceSub → Z2, reduceMul → Z3, reduceGT → Z4, reduceGE → Z5, reduceLT → Z6, reduceLE → Z7, reduceEq → Z8, reduceNe → Z9, reduceToNat → Z10, cast_ofNat_Int → Zc
set_option maxRecDepth 100000
def nF (m : Int) : Int → List Nd → Int
  | s, [] => s
  | s, x :: r => if s ≤ m then nF m (sumF s [(x.nm.length : Int), (x.text.length : Int), 3]) r else s
abbrev GivenN := { l : List Nd // l.length ≤ 9223372036854775807 ∧ ∀ x ∈ l, x.nm.length ≤ 9223372036854775807 ∧ x.text.length ≤ 9223372036854775807 }
abbrev kCY : Con where
  ι := GivenN × { m : Int // 0 ≤ m ∧ m ≤ 1000000 }
  args := fun p => [.sl 0 5 (kCC p.1.1), .v (.int .i64 p.2.1)]
  post := fun p r => r = .v (.int .i64 (nF p.2.1 0 p.1.1))
  plain := true
theorem wnodes_good : Rw.Good Tryz.prog 8 kCY := by
  have hΓ : kL Tryz.prog [(31, kDP)] := (kE kCf kJ)
  refine kS (nn := 34) hΓ Tryz.func8 (by kernel_rfl) rfl (show Tryz.f8.results.toList = [.tmp 4] from rfl) (fun _ => rfl) (fun x => by simp [AV.erL, AV.er, nodes_er]) ?_
  rintro ⟨⟨l, hl, hc⟩, ⟨m, hm⟩⟩
  simp only [aR,N0,N1,N2,N3,N4,N5,Z0,Z1,Z2,Z3,Z4,Z5,Z6,Z7,Z8,Z9,Z10,Zc,↓reduceIte,reduceCtorEq, kDw]
  obtain ⟨St, hSt⟩ : ∃ St : { p : Int × Nat // p.2 ≤ l.length ∧ (0 ≤ p.1 ∧ p.1 ≤ 1099511627776) ∧ nF m 0 l = nF m p.1 (l.drop p.2) } → AS, ∀ p, St p = AS.of 34 [(0, .sl 0 5 (kCC l)), (1, .v (.int .i64 m)), (5, .v (.int .i64 p.1.1)), (6, .v (.int .i64 p.1.2))] [] [] := ⟨_, fun _ => rfl⟩
  refine kCc [(5, [], [])] hΓ St (fun p => l.length - p.1.2) ⟨(0, 0), by omega, by simp only; omega, rfl⟩ (by rw [hSt]; refine kH [] [] ?_; simp only [aR,N0,N1,N2,N3,N4,N5,Z0,Z1,Z2,Z3,Z4,Z5,Z6,Z7,Z8,Z9,Z10,Zc,↓reduceIte,reduceCtorEq] <;> ((repeat' apply And.intro) <;> first | rfl | omega | trivial)) ?_
  rintro ⟨⟨s, i⟩, hi, hs, hb⟩
  simp only at hi hs hb
  rw [hSt]
  simp only
  simp only [aR,N0,N1,N2,N3,N4,N5,Z0,Z1,Z2,Z3,Z4,Z5,Z6,Z7,Z8,Z9,Z10,Zc,↓reduceIte,reduceCtorEq, kP, kDw]
  (with_reducible first | refine kC (fun h => ?_) (fun h => ?_) | refine kF (fun h => ?_) (fun h => ?_))
  · have hlt : i < l.length := by omega
    have hci := hc l[i] (List.getElem_mem hlt)
    have e1 := nodes_getD l hlt
    rw [List.drop_eq_getElem_cons hlt, nF] at hb
    generalize l[i] = a at *
    obtain ⟨id, par, nm, dir, tx⟩ := a
    obtain ⟨hn, ho⟩ := hci
    simp only at hn ho hb e1
    simp (disch := omega) only [aR,N0,N1,N2,N3,N4,N5,Z0,Z1,Z2,Z3,Z4,Z5,Z6,Z7,Z8,Z9,Z10,Zc,↓reduceIte,reduceCtorEq, kA, kP, h]
    (with_reducible first | refine kC (fun h2 => ?_) (fun h2 => ?_) | refine kF (fun h2 => ?_) (fun h2 => ?_))
    · simp (disch := omega) only [aR,N0,N1,N2,N3,N4,N5,Z0,Z1,Z2,Z3,Z4,Z5,Z6,Z7,Z8,Z9,Z10,Zc,↓reduceIte,reduceCtorEq, kA, kP, h2, e1, nA, kDw]
      (repeat (with_reducible refine And.intro ?_ ?_; focus (first | omega | exact kG | kernel_rfl)))
      refine kBf (by simp [kB]) (y := [(nm.length : Int), (tx.length : Int), 3]) rfl hs (by simp; omega) (by simp) ?_
      simp (disch := omega) only [aR,N0,N1,N2,N3,N4,N5,Z0,Z1,Z2,Z3,Z4,Z5,Z6,Z7,Z8,Z9,Z10,Zc,↓reduceIte,reduceCtorEq, kA, kP]
      rw [if_pos h2] at hb
      have hr := jD [(nm.length : Int), (tx.length : Int), 3] hs (by simp)
      refine kI ⟨(sumF s [(nm.length : Int), (tx.length : Int), 3], i + 1), by simp only; omega, by simp only; omega, hb⟩ (by simp only; omega) ?_
      rw [hSt]; refine kH [] [] ?_
      simp only [aR,N0,N1,N2,N3,N4,N5,Z0,Z1,Z2,Z3,Z4,Z5,Z6,Z7,Z8,Z9,Z10,Zc,↓reduceIte,reduceCtorEq] <;> ((repeat' apply And.intro) <;> first | rfl | omega | trivial)
    · simp (disch := omega) only [aR,N0,N1,N2,N3,N4,N5,Z0,Z1,Z2,Z3,Z4,Z5,Z6,Z7,Z8,Z9,Z10,Zc,↓reduceIte,reduceCtorEq, kA, kP, h2]
      rw [hb, if_neg h2]
  · simp only [aR,N0,N1,N2,N3,N4,N5,Z0,Z1,Z2,Z3,Z4,Z5,Z6,Z7,Z8,Z9,Z10,Zc,↓reduceIte,reduceCtorEq, kP, h]
    rw [List.drop_of_length_le (by omega)] at hb
    rw [hb]; rfl
theorem call_wnodes {Γ : Env} (hf : Γ.get 8 = some kCY) {σ : AS} {dr : Bool} {l : List Nd} {m : Int} {ys : List AV} {d : Option Nat} {K : AS → Prop} (hy : ys = kCC l) (h1 : l.length ≤ 9223372036854775807) (h2 : ∀ a ∈ l, a.nm.length ≤ 9223372036854775807 ∧ a.text.length ≤ 9223372036854775807) (hm : 0 ≤ m ∧ m ≤ 1000000)
    (hk : cont σ d (.v (.int .i64 (nF m 0 l))) K) : kR Tryz.prog Γ dr σ 8 [.sl 0 5 ys, .v (.int .i64 m)] d K := by
  subst hy
  exact kK (C := kCY) (i := (⟨l, h1, h2⟩, ⟨m, hm⟩)) hf rfl rfl rfl (by simp [AV.erL, AV.er, nodes_er]) (fun _ h => h) rfl hk
end Go.Proofs
end
-- ZUk13
section
namespace Go.Proofs
open Go Go.Rw
open _root_.Nat renaming reduceAdd → N0, reduceSub → N1, reduceMul → N2, reduceLT → N3, reduceLeDiff → N4, reduceEqDiff → N5
open _root_.Int renaming reduceNeg → Z0, reduceAdd → Z1, reduceSub → Z2, reduceMul → Z3, reduceGT → Z4, reduceGE → Z5, reduceLT → Z6, reduceLE → Z7, reduceEq → Z8, reduceNe → Z9, reduceToNat → Z10, cast_ofNat_Int → Zc
set_option maxRecDepth 100000
def cF (m : Int) : Int → List Cm → Int
  | s, [] => s
  | s, c :: r => if s ≤ m then cF m (sumF s [wF m 0 (wA c.acs), 3]) r else s
abbrev wideA (l : List Ac) : Prop := l.length ≤ 9223372036854775807 ∧ ∀ a ∈ l, a.nm.length ≤ 9223372036854775807 ∧ kBn a.ops
theorem wF_bnd (m : Int) : ∀ (l : List (Nat × List Cp)) (s : Int), 0 ≤ s → s ≤ 1099511627776 → 0 ≤ wF m s l ∧ wF m s l ≤ 1099511627776
  | [], s, h, h2 => ⟨h, h2⟩
  | (n, c) :: r, s, h, h2 => by
    rw [wF]
    split
    · have hc := kAe m c 0 (by omega) (by omega)
      have := jD [(n : Int), zD m 0 c, 3] (x := s) ⟨h, h2⟩ (by simp; omega)
      exact wF_bnd m r _ (by omega) this.2
    · exact ⟨h, h2⟩
theorem cF_le {m : Int} (hm : m ≤ 1000000) : ∀ (l : List Cm) {s : Int}, 0 ≤ s → (∀ c ∈ l, wideA c.acs) → cF m s l ≤ m → s + 3 * l.length ≤ m ∧ ∀ c ∈ l, okCm c
  | [], s, _, _, h => by simp only [cF] at h; simp; exact h
  | c :: l, s, hs, hw, h => by
    simp only [cF] at h
    split at h
    · rename_i h1
      have hwc := hw c (List.mem_cons_self ..)
      have hc := wF_bnd m (wA c.acs) 0 (by omega) (by omega)
      have e : sumF s [wF m 0 (wA c.acs), 3] = addI (addI s (wF m 0 (wA c.acs))) 3 := rfl
      have h2 : 0 ≤ addI (addI s (wF m 0 (wA c.acs))) 3 := by unfold addI; omega
      rw [e] at h
      obtain ⟨h3, h4⟩ := cF_le hm l h2 (fun d hd => hw d (List.mem_cons_of_mem _ hd)) h
      have h5 : addI (addI s (wF m 0 (wA c.acs))) 3 ≤ m := by omega
      have h6 : addI (addI s (wF m 0 (wA c.acs))) 3 = s + wF m 0 (wA c.acs) + 3 := by unfold addI at h5 ⊢; omega
      have h7 : wF m 0 (wA c.acs) ≤ m := by omega
      refine ⟨by simp only [List.length_cons]; omega, fun p hp => ?_⟩
      rcases List.mem_cons.1 hp with rfl | hp
      · obtain ⟨g1, g2⟩ := acts_ok hm hwc.2 h7
        obtain ⟨_, g3⟩ := wF_le (by omega) (wA p.acs) (Int.le_refl 0) h7
        exact ⟨g1, fun a ha => ⟨g2 a ha, by have := (g3 (a.nm.length, a.ops) (List.mem_map.2 ⟨a, ha, rfl⟩)).1; omega⟩⟩
      · exact h4 p hp
    · omega
abbrev GivenM := { l : List Cm // l.length ≤ 9223372036854775807 ∧ ∀ c ∈ l, wideA c.acs }
def msgA (l : List Cm) : AV := .agg [.v (.int .i64 0), .v (.int .i64 0), .v (.int .i64 0), .v (.int .i64 0), .v (.int .i64 0), .sl 0 6 [], .sl 0 4 (cms l), .sl 0 5 [], .v (.int .i64 0)]
abbrev msgCon : Con where
  ι := GivenM × { m : Int // 0 ≤ m ∧ m ≤ 1000000 }
  args := fun p => [msgA p.1.1, .v (.int .i64 p.2.1)]
  post := fun p r => r = .v (.int .i64 (cF p.2.1 0 p.1.1))
  plain := true
theorem msg_good : Rw.Good Tryz.prog 21 msgCon := by
  have hΓ : kL Tryz.prog [(9, kCn), (8, kCY), (31, kDP)] := (kE acts_good (kE wnodes_good (kE kCf kJ)))
  refine kS (nn := 41) hΓ Tryz.func21 (by kernel_rfl) rfl (show Tryz.f21.results.toList = [.tmp 4] from rfl) (fun _ => rfl) (fun x => by simp [AV.erL, AV.er, msgA, kD7]) ?_
  rintro ⟨⟨l, hl, hc⟩, ⟨m, hm⟩⟩
  simp only [aR,N0,N1,N2,N3,N4,N5,Z0,Z1,Z2,Z3,Z4,Z5,Z6,Z7,Z8,Z9,Z10,Zc,↓reduceIte,reduceCtorEq, msgA]
  (repeat (with_reducible refine And.intro ?_ ?_; focus (first | omega | exact kG | kernel_rfl)))
  refine kEm (by simp [kB]) (l := []) rfl (by simp) (by simp) hm ?_
  simp only [aR,N0,N1,N2,N3,N4,N5,Z0,Z1,Z2,Z3,Z4,Z5,Z6,Z7,Z8,Z9,Z10,Zc,↓reduceIte,reduceCtorEq, wA, List.map_nil, wF]
  refine call_wnodes (by simp [kB]) (l := []) rfl (by simp) (by simp) hm ?_
  simp only [aR,N0,N1,N2,N3,N4,N5,Z0,Z1,Z2,Z3,Z4,Z5,Z6,Z7,Z8,Z9,Z10,Zc,↓reduceIte,reduceCtorEq, nF]
  refine kBf (by simp [kB]) (y := [0]) rfl (by omega) (by simp) (by simp) ?_
  simp only [aR,N0,N1,N2,N3,N4,N5,Z0,Z1,Z2,Z3,Z4,Z5,Z6,Z7,Z8,Z9,Z10,Zc,↓reduceIte,reduceCtorEq, show sumF 0 [0] = 0 from rfl]
  obtain ⟨St, hSt⟩ : ∃ St : { p : Int × Nat // p.2 ≤ l.length ∧ (0 ≤ p.1 ∧ p.1 ≤ 1099511627776) ∧ cF m 0 l = cF m p.1 (l.drop p.2) } → AS, ∀ p, St p = AS.of 41 [(1, .v (.int .i64 m)), (2, .ptr 0 0), (5, .v (.int .i64 p.1.1)), (6, .v (.int .i64 p.1.2))] [.cells [.v (.int .i64 0), .v (.int .i64 0), .v (.int .i64 0), .v (.int .i64 0), .v (.int .i64 0), .sl 0 6 [], .sl 0 4 (cms l), .sl 0 5 [], .v (.int .i64 0)]] [] := ⟨_, fun _ => rfl⟩
  refine kX hΓ St (fun p => l.length - p.1.2) ⟨(0, 0), by simp, by simp only; omega, rfl⟩ (by rw [hSt]; refine kH [0] [] ?_; simp only [aR,N0,N1,N2,N3,N4,N5,Z0,Z1,Z2,Z3,Z4,Z5,Z6,Z7,Z8,Z9,Z10,Zc,↓reduceIte,reduceCtorEq] <;> ((repeat' apply And.intro) <;> first | rfl | omega | trivial)) ?_
  rintro ⟨⟨s, i⟩, hi, hs, hb⟩
  simp only at hi hs hb
  rw [hSt]
  simp only
  simp only [aR,N0,N1,N2,N3,N4,N5,Z0,Z1,Z2,Z3,Z4,Z5,Z6,Z7,Z8,Z9,Z10,Zc,↓reduceIte,reduceCtorEq, kCG]
  (with_reducible first | refine kC (fun h => ?_) (fun h => ?_) | refine kF (fun h => ?_) (fun h => ?_))
  · have hlt : i < l.length := by omega
    have hci := hc l[i] (List.getElem_mem hlt)
    have e1 := cms_getD l hlt
    rw [List.drop_eq_getElem_cons hlt, cF] at hb
    generalize l[i] = c at *
    obtain ⟨rev, cl, sq, ac⟩ := c
    obtain ⟨hn, ho⟩ := hci
    simp only at hn ho hb e1
    simp only [aR,N0,N1,N2,N3,N4,N5,Z0,Z1,Z2,Z3,Z4,Z5,Z6,Z7,Z8,Z9,Z10,Zc,↓reduceIte,reduceCtorEq, h]
    (with_reducible first | refine kC (fun h2 => ?_) (fun h2 => ?_) | refine kF (fun h2 => ?_) (fun h2 => ?_))
    · simp only [aR,N0,N1,N2,N3,N4,N5,Z0,Z1,Z2,Z3,Z4,Z5,Z6,Z7,Z8,Z9,Z10,Zc,↓reduceIte,reduceCtorEq, h2, e1, cmA, kCG]
      (repeat (with_reducible refine And.intro ?_ ?_; focus (first | omega | exact kG | kernel_rfl)))
      refine kEm (by simp [kB]) rfl hn ho hm ?_
      have hwb := wF_bnd m (wA ac) 0 (by omega) (by omega)
      simp only [aR,N0,N1,N2,N3,N4,N5,Z0,Z1,Z2,Z3,Z4,Z5,Z6,Z7,Z8,Z9,Z10,Zc,↓reduceIte,reduceCtorEq]
      refine kBf (by simp [kB]) (y := [wF m 0 (wA ac), 3]) rfl hs (by simp; omega) (by simp) ?_
      rw [if_pos h2] at hb
      have hr := jD [wF m 0 (wA ac), 3] hs (by simp; omega)
      simp only [aR,N0,N1,N2,N3,N4,N5,Z0,Z1,Z2,Z3,Z4,Z5,Z6,Z7,Z8,Z9,Z10,Zc,↓reduceIte,reduceCtorEq, kA (n := (i : Int) + 1) (by omega) (by omega)]
      refine kI ⟨(sumF s [wF m 0 (wA ac), 3], i + 1), by simp only; omega, by simp only; omega, hb⟩ (by simp only; omega) ?_
      rw [hSt]; refine kH [0] [] ?_
      simp only [aR,N0,N1,N2,N3,N4,N5,Z0,Z1,Z2,Z3,Z4,Z5,Z6,Z7,Z8,Z9,Z10,Zc,↓reduceIte,reduceCtorEq] <;> ((repeat' apply And.intro) <;> first | rfl | omega | trivial)
    · simp only [aR,N0,N1,N2,N3,N4,N5,Z0,Z1,Z2,Z3,Z4,Z5,Z6,Z7,Z8,Z9,Z10,Zc,↓reduceIte,reduceCtorEq, h2]
      rw [hb, if_neg h2]
  · simp only [aR,N0,N1,N2,N3,N4,N5,Z0,Z1,Z2,Z3,Z4,Z5,Z6,Z7,Z8,Z9,Z10,Zc,↓reduceIte,reduceCtorEq, h]
    rw [List.drop_of_length_le (by omega)] at hb
    rw [hb]; rfl
theorem call_msg {Γ : Env} (hf : Γ.get 21 = some msgCon) {σ : AS} {dr : Bool} {l : List Cm} {m : Int} {y : AV} {d : Option Nat} {K : AS → Prop} (hy : y.er = msgA l) (h1 : l.length ≤ 9223372036854775807) (h2 : ∀ c ∈ l, wideA c.acs) (hm : 0 ≤ m ∧ m ≤ 1000000)
    (hk : cont σ d (.v (.int .i64 (cF m 0 l))) K) : kR Tryz.prog Γ dr σ 21 [y, .v (.int .i64 m)] d K :=
  kK (C := msgCon) (i := (⟨l, h1, h2⟩, ⟨m, hm⟩)) hf rfl rfl rfl (by simp [AV.erL, AV.er, hy]) (fun _ h => h) rfl hk
end Go.Proofs
end
-- ZUk21
section
namespace Go.Proofs
open Go Go.Rw
open _root_.Nat renaming reduceAdd → N0, reduceSub → N1, reduceMul → N2, reduceLT → N3, reduceLeDiff → N4, reduceEqDiff → N5
open _root_.Int renaming reduceNeg → Z0, reduceAdd → Z1, reduceSub → Z2, reduceMul → Z3, reduceGT → Z4, reduceGE → Z5, reduceLT → Z6, reduceLE → Z7, reduceEq → Z8, reduceNe → Z9, reduceToNat → Z10, cast_ofNat_Int → Zc
set_option maxRecDepth 100000
theorem call_reff13 {Γ : Env} (hf : Γ.get 55 = some kBI) {σ : AS} {dr : Bool} {l : List Ac} {ys : List AV} {d : Option Nat} {K : AS → Prop} (hy : ys = acts l) (hl : l.length ≤ 1099511627776) (ho : ∀ a ∈ l, okL a.ops)
    (hk : cont σ d (.sl 0 8 (ones (effL l))) K) : kR Tryz.prog Γ dr σ 55 [.sl 0 6 ys] d K := by
  subst hy
  exact qK (C := kBI) (i := ⟨l, hl, ho⟩) (r := .sl 0 8 (ones (effL l))) hf rfl rfl (by simp [AV.erL, AV.er, qF]) rfl (fun _ h => h) (by simp only [AV.er, qD]; exact hk)
theorem kD0 {Γ : Env} (hf : Γ.get 23 = some qY) {σ : AS} {dr : Bool} {l : List Ac} {b : List On} {ys zs : List AV} {d : Option Nat} {K : AS → Prop} (hy : ys = acts l) (hz : zs = ones b) (hl : l.length ≤ 1000000) (ho : ∀ a ∈ l, okA a) (hb : b.length ≤ 1099511627776) (hbo : ∀ x ∈ b, okL x.ops)
    (hk : cont σ d (.tup [.sl 0 6 (acts (rebR l b).out), .sl 0 8 (ones (rebR l b).left), .v (.int .i64 (rebR l b).e)]) K) : kR Tryz.prog Γ dr σ 23 [.sl 0 6 ys, .sl 0 8 zs] d K := by
  subst hy hz
  exact qK (C := qY) (i := (⟨l, hl, ho⟩, ⟨b, hb, hbo⟩)) (r := .tup [.sl 0 6 (acts (rebR l b).out), .sl 0 8 (ones (rebR l b).left), .v (.int .i64 (rebR l b).e)]) hf rfl rfl (by simp [AV.erL, AV.er, qD, qF]) rfl (fun _ h => h) (by simp only [AV.er, AV.erL, qD, qF]; exact hk)
theorem rbeh13_good : Rw.Good Tryz.prog 25 kBS := by
  have hΓ : kL Tryz.prog [(55, kBI), (23, qY)] := (kE reff_good (kE kDS kJ))
  refine kS (nn := 33) hΓ Tryz.func25 (by kernel_rfl) rfl (show Tryz.f25.results.toList = [.tmp 4, .tmp 5] from rfl) (fun _ => rfl) (fun x => by simp [AV.erL, AV.er, qF, kD7]) ?_
  rintro ⟨⟨l, hl, ho⟩, ⟨cs, hc, hco⟩⟩
  simp only [aR,N0,N1,N2,N3,N4,N5,Z0,Z1,Z2,Z3,Z4,Z5,Z6,Z7,Z8,Z9,Z10,Zc,↓reduceIte,reduceCtorEq]
  obtain ⟨St, hSt⟩ : ∃ St : { p : List Ac × Nat // p.2 ≤ cs.length ∧ (p.1.length ≤ 1000000 ∧ ∀ a ∈ p.1, okA a) ∧ behB p.1 (cs.drop p.2) = behB l cs } → AS, ∀ p, St p = AS.of 33 [(0, .sl 0 6 (acts p.1.1)), (1, .sl 0 4 (cms cs)), (6, .v (.int .i64 p.1.2))] [] [] := ⟨_, fun _ => rfl⟩
  refine kX hΓ St (fun p => cs.length - p.1.2) ⟨(l, 0), by simp, ⟨hl, ho⟩, rfl⟩ (by rw [hSt]; refine kH [] [] ?_; simp only [aR,N0,N1,N2,N3,N4,N5,Z0,Z1,Z2,Z3,Z4,Z5,Z6,Z7,Z8,Z9,Z10,Zc,↓reduceIte,reduceCtorEq] <;> ((repeat' apply And.intro) <;> first | rfl | omega | trivial)) ?_
  rintro ⟨⟨m, i⟩, hi, ⟨hm, hmo⟩, hb⟩
  simp only at hi hm hmo hb
  rw [hSt]
  simp only
  simp only [aR,N0,N1,N2,N3,N4,N5,Z0,Z1,Z2,Z3,Z4,Z5,Z6,Z7,Z8,Z9,Z10,Zc,↓reduceIte,reduceCtorEq, kCG]
  (with_reducible first | refine kC (fun h => ?_) (fun h => ?_) | refine kF (fun h => ?_) (fun h => ?_))
  · have hlt : i < cs.length := by omega
    have e1 := cms_getD cs hlt
    obtain ⟨c1, c2⟩ := hco _ (List.getElem_mem hlt)
    rw [List.drop_eq_getElem_cons hlt, behB] at hb
    generalize cs[i] = c at *
    obtain ⟨rev, cl, sq, ac⟩ := c
    simp only at c1 c2 hb
    have heo : ∀ z ∈ effL ac, okL z.ops := fun z hz => eff_ok (fun w hw => (c2 w hw).1) hz
    have hel := eff_len ac
    obtain ⟨r1, r2⟩ := rebR_ok hm hmo heo
    simp only [aR,N0,N1,N2,N3,N4,N5,Z0,Z1,Z2,Z3,Z4,Z5,Z6,Z7,Z8,Z9,Z10,Zc,↓reduceIte,reduceCtorEq, h, e1, kCG, cmA]
    (repeat (with_reducible refine And.intro ?_ ?_; focus (first | omega | exact kG | kernel_rfl)))
    refine call_reff13 (by simp [kB]) rfl (by omega) (fun z hz => (c2 z hz).1) ?_
    simp only [aR,N0,N1,N2,N3,N4,N5,Z0,Z1,Z2,Z3,Z4,Z5,Z6,Z7,Z8,Z9,Z10,Zc,↓reduceIte,reduceCtorEq]
    refine kD0 (by simp [kB]) rfl rfl hm hmo (by omega) heo ?_
    by_cases g : (rebR m (effL ac)).e = 0
    · rw [if_neg (by simpa using g)] at hb
      simp only [aR,N0,N1,N2,N3,N4,N5,Z0,Z1,Z2,Z3,Z4,Z5,Z6,Z7,Z8,Z9,Z10,Zc,↓reduceIte,reduceCtorEq, g, kA (n := (i : Int) + 1) (by omega) (by omega)]
      refine kI ⟨((rebR m (effL ac)).out, i + 1), by simp only; omega, ⟨r1, r2⟩, hb⟩ (by simp only; omega) ?_
      rw [hSt]; refine kH [] [] ?_
      simp only [aR,N0,N1,N2,N3,N4,N5,Z0,Z1,Z2,Z3,Z4,Z5,Z6,Z7,Z8,Z9,Z10,Zc,↓reduceIte,reduceCtorEq] <;> ((repeat' apply And.intro) <;> first | rfl | omega | trivial)
    · rw [if_pos g] at hb
      simp only [aR,N0,N1,N2,N3,N4,N5,Z0,Z1,Z2,Z3,Z4,Z5,Z6,Z7,Z8,Z9,Z10,Zc,↓reduceIte,reduceCtorEq, g, ← hb]
      rfl
  · rw [List.drop_of_length_le (by omega), behB] at hb
    simp only [aR,N0,N1,N2,N3,N4,N5,Z0,Z1,Z2,Z3,Z4,Z5,Z6,Z7,Z8,Z9,Z10,Zc,↓reduceIte,reduceCtorEq, h, ← hb]
theorem call_rbeh13 {Γ : Env} (hf : Γ.get 25 = some kBS) {σ : AS} {dr : Bool} {l : List Ac} {cs : List Cm} {xs ys : List AV} {d : Option Nat} {K : AS → Prop} (hx : xs = acts l) (hy : ys = cms cs) (hl : l.length ≤ 1000000) (ho : ∀ a ∈ l, okA a) (hc : cs.length ≤ 1099511627776) (hco : ∀ c ∈ cs, okCm c)
    (hk : cont σ d (.tup [.sl 0 6 (acts (behB l cs).1), .v (.int .i64 (behB l cs).2)]) K) : kR Tryz.prog Γ dr σ 25 [.sl 0 6 xs, .sl 0 4 ys] d K := by
  subst hx hy
  exact qK (C := kBS) (i := (⟨l, hl, ho⟩, ⟨cs, hc, hco⟩)) (r := .tup [.sl 0 6 (acts (behB l cs).1), .v (.int .i64 (behB l cs).2)]) hf rfl rfl (by simp [AV.erL, AV.er, qF, kD7]) rfl (fun _ h => h) (by simp only [AV.er, AV.erL, qF]; exact hk)
end Go.Proofs
end
