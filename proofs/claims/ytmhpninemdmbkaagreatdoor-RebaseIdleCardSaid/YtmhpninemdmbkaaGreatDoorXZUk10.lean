/-
  RebaseApart answers true. RebaseIdle answers true.
-/
import Derived.Test.YtmhpninemdmbkaaGreatDoorXZUk11
import Derived.Test.YtmhpninemdmbkaaGreatDoorXZUk9s
import Derived.Test.YtmhpninemdmbkaaGreatDoorXZUk9t
import Derived.Test.YtmhpninemdmbkaaGreatDoorXZUn7
import Derived.Test.YtmhpninemdmbkaaGreatDoorXZUk6
set_option linter.unusedSimpArgs false
set_option linter.unusedVariables false
set_option linter.defProp false

-- ZUk10
section
namespace Go.Proofs
open Go Go.Rw
open _root_.Nat renaming reduceAdd → N0, reduceSub → N1, reduceMul → N2, reduceLT → N3, reduceLeDiff → N4, reduceEqDiff → N5
open _root_.Int renaming reduceNeg → Z0, reduceAdd → Z1, reduceSub → Z2, reduceMul → Z3, reduceGT → Z4, reduceGE → Z5, reduceLT → Z6, reduceLE → Z7, reduceEq → Z8, reduceNe → Z9, reduceToNat → Z10, cast_ofNat_Int → Zc
set_option maxRecDepth 100000
set_option linter.unusedSimpArgs false
set_option linter.unusedVariables false

theorem call_touch_t {Γ : Env} (hf : Γ.get 13 = some kCu) {σ : AS} {l : List Ac} {ys : List AV} {d : Option Nat} {K : AS → Prop} (hy : ys = acts l) (hl : l.length ≤ 1000000)
    (hk : cont σ d (.sl 0 1 (ints .i64 (jI [] l))) K) : kP Tryz.prog Γ false σ 13 [.sl 0 6 ys] d K := by
  subst hy
  exact qM (C := kCu) (i := ⟨l, hl⟩) (r := .sl 0 1 (ints .i64 (jI [] l))) hf rfl rfl (by simp [AV.erL, AV.er, qL]) rfl (fun _ h => h) (by simp only [AV.er]; exact hk)
theorem touch_len : ∀ (l : List Ac) (out : List Int), (jI out l).length ≤ out.length + 2 * l.length
  | [], out => by simp [jI]
  | a :: l, out => by
    have h1 := touch_len l ((kAH a).foldl insI out)
    have h2 := foldI_len (kAH a) out
    have h3 := names_len a
    rw [jI, List.length_cons]; omega
theorem acts_okA {l : List Ac} {m : Int} (hm : m ≤ 1000000) (h2 : ∀ a ∈ l, a.nm.length ≤ 9223372036854775807 ∧ wideC a.ops) (h : wF m 0 (wA l) ≤ m) : l.length ≤ 1000000 ∧ ∀ a ∈ l, okA a := by
  obtain ⟨h3, h4⟩ := acts_ok hm h2 h
  obtain ⟨_, h5⟩ := wF_le (by omega) (wA l) (Int.le_refl 0) h
  exact ⟨h3, fun a ha => ⟨h4 a ha, by have := (h5 (a.nm.length, a.ops) (List.mem_map.2 ⟨a, ha, rfl⟩)).1; omega⟩⟩
end Go.Proofs
end

-- ZUk14
section
namespace Go.Proofs
open Go Go.Rw
open _root_.Nat renaming reduceAdd → N0, reduceSub → N1, reduceMul → N2, reduceLT → N3, reduceLeDiff → N4, reduceEqDiff → N5
open _root_.Int renaming reduceNeg → Z0, reduceAdd → Z1, reduceSub → Z2, reduceMul → Z3, reduceGT → Z4, reduceGE → Z5, reduceLT → Z6, reduceLE → Z7, reduceEq → Z8, reduceNe → Z9, reduceToNat → Z10, cast_ofNat_Int → Zc
set_option maxRecDepth 100000
set_option linter.unusedSimpArgs false
set_option linter.unusedVariables false

theorem beh_far {l : List Ac} (hl : txnE l = 0) : ∀ cs : List Cm, (∀ c ∈ cs, txnE c.acs = 0 ∧ ∀ i ∈ jI [] l, ∀ y ∈ c.acs, y.id ≠ i) → behB l cs = (l, 0)
  | [], _ => rfl
  | c :: r, h => by
    obtain ⟨h1, h2⟩ := h c (List.mem_cons_self ..)
    obtain ⟨g1, g2⟩ := reb_far h2 hl h1
    rw [behB, g2, if_neg (by simp), g1]
    exact beh_far hl r fun d hd => h d (List.mem_cons_of_mem _ hd)
abbrev idle16Con : Con where
  ι := GivenA × GivenM
  args := fun p => [.sl 0 6 (acts p.1.1), .sl 0 4 (cms p.2.1)]
  post := fun _ r => r = .v (.bool true)
  plain := true
set_option maxHeartbeats 4000000 in
theorem idle16_good : Rw.Good Tryz.prog 7 idle16Con := by
  have hΓ : kL Tryz.prog [(11, trueCon), (9, kEJ), (21, msgCon), (30, jS), (24, kDf), (16, kCw), (13, kCu)] := (kE awake16_good (kE acts_good (kE msg_good (kE rtcheck_good (kE rbeh_good (kE sacts_good (kE touch_good kJ)))))))
  refine kS (nn := 104) hΓ Tryz.func7 (by kernel_rfl) rfl (show Tryz.f7.results.toList = [.tmp 4] from rfl) (fun _ => rfl) (fun x => by simp [AV.erL, AV.er, qL, kEU]) ?_
  rintro ⟨⟨l, hl, hlc⟩, ⟨cs, hc, hcc⟩⟩
  simp only [aR,N0,N1,N2,N3,N4,N5,Z0,Z1,Z2,Z3,Z4,Z5,Z6,Z7,Z8,Z9,Z10,Zc,↓reduceIte,reduceCtorEq]
  refine kDd (by simp [kC]) rfl hl hlc (by omega) ?_
  by_cases h1 : wF 2000 0 (wA l) > 2000
  · simp only [aR,N0,N1,N2,N3,N4,N5,Z0,Z1,Z2,Z3,Z4,Z5,Z6,Z7,Z8,Z9,Z10,Zc,↓reduceIte,reduceCtorEq, h1]
    refine zW (by simp [kC]) ?_
    simp only [aR,N0,N1,N2,N3,N4,N5,Z0,Z1,Z2,Z3,Z4,Z5,Z6,Z7,Z8,Z9,Z10,Zc,↓reduceIte,reduceCtorEq]
  obtain ⟨ll, lok⟩ := acts_okA (by omega) hlc (show wF 2000 0 (wA l) ≤ 2000 by omega)
  simp only [aR,N0,N1,N2,N3,N4,N5,Z0,Z1,Z2,Z3,Z4,Z5,Z6,Z7,Z8,Z9,Z10,Zc,↓reduceIte,reduceCtorEq, h1]
  refine call_msg (by simp [kC]) (by simp [msgA, AV.er, AV.erL, kEU]) hc hcc (by omega) ?_
  by_cases h2 : cF 3000 0 cs > 3000
  · simp only [aR,N0,N1,N2,N3,N4,N5,Z0,Z1,Z2,Z3,Z4,Z5,Z6,Z7,Z8,Z9,Z10,Zc,↓reduceIte,reduceCtorEq, h2]
    refine zW (by simp [kC]) ?_
    simp only [aR,N0,N1,N2,N3,N4,N5,Z0,Z1,Z2,Z3,Z4,Z5,Z6,Z7,Z8,Z9,Z10,Zc,↓reduceIte,reduceCtorEq]
  obtain ⟨cl, cok⟩ := cF_le (by omega) cs (Int.le_refl 0) hcc (show cF 3000 0 cs ≤ 3000 by omega)
  simp only [aR,N0,N1,N2,N3,N4,N5,Z0,Z1,Z2,Z3,Z4,Z5,Z6,Z7,Z8,Z9,Z10,Zc,↓reduceIte,reduceCtorEq, h2]
  refine kK (C := jS) (i := ⟨l, ll, lok⟩) (by simp [kC]) rfl rfl rfl (by simp [AV.erL, AV.er, qL]) (fun _ h => h) rfl ?_
  by_cases h3 : txnE l = 0
  case neg =>
    simp only [aR,N0,N1,N2,N3,N4,N5,Z0,Z1,Z2,Z3,Z4,Z5,Z6,Z7,Z8,Z9,Z10,Zc,↓reduceIte,reduceCtorEq, h3]
    refine zW (by simp [kC]) ?_
    simp only [aR,N0,N1,N2,N3,N4,N5,Z0,Z1,Z2,Z3,Z4,Z5,Z6,Z7,Z8,Z9,Z10,Zc,↓reduceIte,reduceCtorEq]
  simp only [aR,N0,N1,N2,N3,N4,N5,Z0,Z1,Z2,Z3,Z4,Z5,Z6,Z7,Z8,Z9,Z10,Zc,↓reduceIte,reduceCtorEq, h3]
  refine qM (C := kDf) (i := (⟨l, ll, lok⟩, ⟨[], by simp, by simp⟩)) (r := .tup [.sl 0 6 (acts l), .v (.int .i64 0)]) (by simp [kC]) rfl rfl (by simp [AV.erL, AV.er, qL, cms_nil]) rfl (fun r h => h) ?_
  simp only [aR,N0,N1,N2,N3,N4,N5,Z0,Z1,Z2,Z3,Z4,Z5,Z6,Z7,Z8,Z9,Z10,Zc,↓reduceIte,reduceCtorEq, AV.er, AV.erL, qL]
  refine kEW (by simp [kC]) rfl rfl (by omega) (fun z hz => (lok z hz).1) (by omega) (fun z hz => (lok z hz).1) ?_
  simp only [aR,N0,N1,N2,N3,N4,N5,Z0,Z1,Z2,Z3,Z4,Z5,Z6,Z7,Z8,Z9,Z10,Zc,↓reduceIte,reduceCtorEq]
  refine call_touch_t (by simp [kC]) rfl ll ?_
  have pl := touch_len l []
  simp only [List.length_nil] at pl
  have hfar : (∀ c ∈ cs, txnE c.acs = 0 ∧ ∀ i ∈ jI [] l, ∀ y ∈ c.acs, y.id ≠ i) → behB l cs = (l, 0) := beh_far h3 cs
  generalize jI [] l = p at *
  simp only [aR,N0,N1,N2,N3,N4,N5,Z0,Z1,Z2,Z3,Z4,Z5,Z6,Z7,Z8,Z9,Z10,Zc,↓reduceIte,reduceCtorEq]
  obtain ⟨St, hSt⟩ : ∃ St : { i : Nat // i ≤ cs.length ∧ ∀ c ∈ cs.take i, txnE c.acs = 0 ∧ ∀ x ∈ p, ∀ y ∈ c.acs, y.id ≠ x } → AS, ∀ i, St i = AS.of 104 [(0, .sl 0 6 (acts l)), (1, .sl 0 4 (cms cs)), (7, .sl 0 1 (ints .i64 p)), (8, .v (.int .i64 i.1))] [] [] := ⟨_, fun _ => rfl⟩
  refine kY hΓ St (fun i => cs.length - i.1) ⟨0, by omega, by simp⟩ (by rw [hSt]; refine kH [] [] ?_; simp only [aR,N0,N1,N2,N3,N4,N5,Z0,Z1,Z2,Z3,Z4,Z5,Z6,Z7,Z8,Z9,Z10,Zc,↓reduceIte,reduceCtorEq] <;> ((repeat' apply And.intro) <;> first | rfl | omega | trivial)) ?_
  rintro ⟨i, hi, hne⟩
  rw [hSt]
  simp only
  simp only [aR,N0,N1,N2,N3,N4,N5,Z0,Z1,Z2,Z3,Z4,Z5,Z6,Z7,Z8,Z9,Z10,Zc,↓reduceIte,reduceCtorEq, kAR]
  (with_reducible first | refine kB (fun h5 => ?_) (fun h5 => ?_) | refine kD (fun h5 => ?_) (fun h5 => ?_))
  · have hip : i < cs.length := by omega
    have f1 := cms_getD cs hip
    have hnext : (∀ x ∈ p, ∀ y ∈ cs[i].acs, y.id ≠ x) → txnE cs[i].acs = 0 → ∀ c ∈ cs.take (i + 1), txnE c.acs = 0 ∧ ∀ x ∈ p, ∀ y ∈ c.acs, y.id ≠ x := fun g1 g2 c hc => by
      rw [List.take_succ_eq_append_getElem hip, List.mem_append] at hc
      rcases hc with hc | hc
      · exact hne c hc
      · rw [List.mem_singleton.1 hc]; exact ⟨g2, g1⟩
    obtain ⟨k1, k2⟩ := cok _ (List.getElem_mem hip)
    generalize cs[i] = c at *
    obtain ⟨rev, cl', sq, ac⟩ := c
    simp only at k1 k2 hnext
    simp only [aR,N0,N1,N2,N3,N4,N5,Z0,Z1,Z2,Z3,Z4,Z5,Z6,Z7,Z8,Z9,Z10,Zc,↓reduceIte,reduceCtorEq, h5, f1, cmA, kAR]
    (repeat (with_reducible refine And.intro ?_ ?_; focus (first | omega | exact kG | kernel_rfl)))
    refine kK (C := jS) (i := ⟨ac, k1, k2⟩) (by simp [kC]) rfl rfl rfl (by simp [AV.erL, AV.er, qL]) (fun _ h => h) rfl ?_
    by_cases h6 : txnE ac = 0
    case neg =>
      simp only [aR,N0,N1,N2,N3,N4,N5,Z0,Z1,Z2,Z3,Z4,Z5,Z6,Z7,Z8,Z9,Z10,Zc,↓reduceIte,reduceCtorEq, h6]
      refine zW (by simp [kC]) ?_
      simp only [aR,N0,N1,N2,N3,N4,N5,Z0,Z1,Z2,Z3,Z4,Z5,Z6,Z7,Z8,Z9,Z10,Zc,↓reduceIte,reduceCtorEq]
    simp only [aR,N0,N1,N2,N3,N4,N5,Z0,Z1,Z2,Z3,Z4,Z5,Z6,Z7,Z8,Z9,Z10,Zc,↓reduceIte,reduceCtorEq, h6]
    obtain ⟨Su, hSu⟩ : ∃ Su : { k : Nat // k ≤ ac.length ∧ ∀ y ∈ ac.take k, ∀ x ∈ p, y.id ≠ x } → AS, ∀ k, Su k = AS.of 104 [(0, .sl 0 6 (acts l)), (1, .sl 0 4 (cms cs)), (7, .sl 0 1 (ints .i64 p)), (8, .v (.int .i64 i)), (9, .v (.int .i64 k.1))] [] [] := ⟨_, fun _ => rfl⟩
    refine kY hΓ Su (fun k => ac.length - k.1) ⟨0, by omega, by simp⟩ (by rw [hSu]; refine kH [] [] ?_; simp only [aR,N0,N1,N2,N3,N4,N5,Z0,Z1,Z2,Z3,Z4,Z5,Z6,Z7,Z8,Z9,Z10,Zc,↓reduceIte,reduceCtorEq] <;> ((repeat' apply And.intro) <;> first | rfl | omega | trivial)) ?_
    rintro ⟨k, hk, hnk⟩
    rw [hSu]
    simp only
    simp only [aR,N0,N1,N2,N3,N4,N5,Z0,Z1,Z2,Z3,Z4,Z5,Z6,Z7,Z8,Z9,Z10,Zc,↓reduceIte,reduceCtorEq, kAR, f1, cmA, kQ]
    (repeat (with_reducible refine And.intro ?_ ?_; focus (first | omega | exact kG | kernel_rfl)))
    (with_reducible first | refine kB (fun h7 => ?_) (fun h7 => ?_) | refine kD (fun h7 => ?_) (fun h7 => ?_))
    · have hka : k < ac.length := by omega
      have f2 := qQ ac hka
      have hnk2 : (∀ x ∈ p, ac[k].id ≠ x) → ∀ y ∈ ac.take (k + 1), ∀ x ∈ p, y.id ≠ x := fun g y hy => by
        rw [List.take_succ_eq_append_getElem hka, List.mem_append] at hy
        rcases hy with hy | hy
        · exact hnk y hy
        · rw [List.mem_singleton.1 hy]; exact g
      generalize ac[k] = a at *
      obtain ⟨kk, id, par, nm, dir, ops⟩ := a
      simp only at hnk2
      simp only [aR,N0,N1,N2,N3,N4,N5,Z0,Z1,Z2,Z3,Z4,Z5,Z6,Z7,Z8,Z9,Z10,Zc,↓reduceIte,reduceCtorEq, h7]
      obtain ⟨Sv, hSv⟩ : ∃ Sv : { j : Nat // j ≤ p.length ∧ ∀ x ∈ p.take j, id ≠ x } → AS, ∀ j, Sv j = AS.of 104 [(0, .sl 0 6 (acts l)), (1, .sl 0 4 (cms cs)), (7, .sl 0 1 (ints .i64 p)), (8, .v (.int .i64 i)), (9, .v (.int .i64 k)), (10, .v (.int .i64 j.1))] [] [] := ⟨_, fun _ => rfl⟩
      refine kY hΓ Sv (fun j => p.length - j.1) ⟨0, by omega, by simp⟩ (by rw [hSv]; refine kH [] [] ?_; simp only [aR,N0,N1,N2,N3,N4,N5,Z0,Z1,Z2,Z3,Z4,Z5,Z6,Z7,Z8,Z9,Z10,Zc,↓reduceIte,reduceCtorEq] <;> ((repeat' apply And.intro) <;> first | rfl | omega | trivial)) ?_
      rintro ⟨j, hj, hnj⟩
      rw [hSv]
      simp only
      simp only [aR,N0,N1,N2,N3,N4,N5,Z0,Z1,Z2,Z3,Z4,Z5,Z6,Z7,Z8,Z9,Z10,Zc,↓reduceIte,reduceCtorEq, zJ]
      (with_reducible first | refine kB (fun h8 => ?_) (fun h8 => ?_) | refine kD (fun h8 => ?_) (fun h8 => ?_))
      · have hjp : j < p.length := by omega
        have f3 : (ints .i64 p).getD j .any = .v (.int .i64 p[j]) := by rw [kEN hjp, List.getD_eq_getElem?_getD, List.getElem?_eq_getElem hjp]; rfl
        have hnj2 : id ≠ p[j] → ∀ x ∈ p.take (j + 1), id ≠ x := fun g x hx => by
          rw [List.take_succ_eq_append_getElem hjp, List.mem_append] at hx
          rcases hx with hx | hx
          · exact hnj x hx
          · rw [List.mem_singleton.1 hx]; exact g
        generalize p[j] = q at *
        by_cases c : id = q
        · simp only [aR,N0,N1,N2,N3,N4,N5,Z0,Z1,Z2,Z3,Z4,Z5,Z6,Z7,Z8,Z9,Z10,Zc,↓reduceIte,reduceCtorEq, h8, f1, f2, f3, cmA, aA, kAR, kQ, zJ, c]
          (repeat (with_reducible refine And.intro ?_ ?_; focus (first | omega | exact kG | kernel_rfl)))
          refine zW (by simp [kC]) ?_
          simp only [aR,N0,N1,N2,N3,N4,N5,Z0,Z1,Z2,Z3,Z4,Z5,Z6,Z7,Z8,Z9,Z10,Zc,↓reduceIte,reduceCtorEq]
        · simp only [aR,N0,N1,N2,N3,N4,N5,Z0,Z1,Z2,Z3,Z4,Z5,Z6,Z7,Z8,Z9,Z10,Zc,↓reduceIte,reduceCtorEq, h8, f1, f2, f3, cmA, aA, kAR, kQ, zJ, c, kA (n := (j : Int) + 1) (by omega) (by omega)]
          (repeat (with_reducible refine And.intro ?_ ?_; focus (first | omega | exact kG | kernel_rfl)))
          refine kI ⟨j + 1, by omega, hnj2 c⟩ (by simp only; omega) ?_
          rw [hSv]; refine kH [] [] ?_
          simp only [aR,N0,N1,N2,N3,N4,N5,Z0,Z1,Z2,Z3,Z4,Z5,Z6,Z7,Z8,Z9,Z10,Zc,↓reduceIte,reduceCtorEq] <;> ((repeat' apply And.intro) <;> first | rfl | omega | trivial)
      · simp only [aR,N0,N1,N2,N3,N4,N5,Z0,Z1,Z2,Z3,Z4,Z5,Z6,Z7,Z8,Z9,Z10,Zc,↓reduceIte,reduceCtorEq, h8, kA (n := (k : Int) + 1) (by omega) (by omega)]
        refine kI ⟨k + 1, by omega, hnk2 fun x hx => hnj x (by rwa [List.take_of_length_le (by omega)])⟩ (by simp only; omega) ?_
        rw [hSu]; refine kH [] [] ?_
        simp only [aR,N0,N1,N2,N3,N4,N5,Z0,Z1,Z2,Z3,Z4,Z5,Z6,Z7,Z8,Z9,Z10,Zc,↓reduceIte,reduceCtorEq] <;> ((repeat' apply And.intro) <;> first | rfl | omega | trivial)
    · simp only [aR,N0,N1,N2,N3,N4,N5,Z0,Z1,Z2,Z3,Z4,Z5,Z6,Z7,Z8,Z9,Z10,Zc,↓reduceIte,reduceCtorEq, h7, kA (n := (i : Int) + 1) (by omega) (by omega)]
      refine kI ⟨i + 1, by omega, hnext (fun x hx y hy => hnk y (by rwa [List.take_of_length_le (by omega)]) x hx) h6⟩ (by simp only; omega) ?_
      rw [hSt]; refine kH [] [] ?_
      simp only [aR,N0,N1,N2,N3,N4,N5,Z0,Z1,Z2,Z3,Z4,Z5,Z6,Z7,Z8,Z9,Z10,Zc,↓reduceIte,reduceCtorEq] <;> ((repeat' apply And.intro) <;> first | rfl | omega | trivial)
  · have hb := hfar fun c hc => hne c (by rwa [List.take_of_length_le (by omega)])
    simp only [aR,N0,N1,N2,N3,N4,N5,Z0,Z1,Z2,Z3,Z4,Z5,Z6,Z7,Z8,Z9,Z10,Zc,↓reduceIte,reduceCtorEq, h5]
    refine call_rbeh (by simp [kC]) rfl rfl ll lok (by omega) cok (by omega) (by omega) ?_
    rw [hb]
    simp only [aR,N0,N1,N2,N3,N4,N5,Z0,Z1,Z2,Z3,Z4,Z5,Z6,Z7,Z8,Z9,Z10,Zc,↓reduceIte,reduceCtorEq]
    refine kEW (by simp [kC]) rfl rfl (by omega) (fun z hz => (lok z hz).1) (by omega) (fun z hz => (lok z hz).1) ?_
    simp only [aR,N0,N1,N2,N3,N4,N5,Z0,Z1,Z2,Z3,Z4,Z5,Z6,Z7,Z8,Z9,Z10,Zc,↓reduceIte,reduceCtorEq]
    refine zW (by simp [kC]) ?_
    simp only [aR,N0,N1,N2,N3,N4,N5,Z0,Z1,Z2,Z3,Z4,Z5,Z6,Z7,Z8,Z9,Z10,Zc,↓reduceIte,reduceCtorEq]
end Go.Proofs
end
