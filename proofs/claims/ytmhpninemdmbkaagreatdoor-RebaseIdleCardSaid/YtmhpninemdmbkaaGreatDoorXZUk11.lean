/-
  A transaction behind commits. How much a tree is; is it qD; whose kB9 a transaction touches. How much a message is, where it bears commits alone.
-/
import Derived.Test.YtmhpninemdmbkaaGreatDoorXZUk8
import Derived.Test.YtmhpninemdmbkaaGreatDoorXZUn7
set_option linter.unusedSimpArgs false
set_option linter.unusedVariables false
set_option linter.defProp false

-- ZUk11
section
namespace Go.Proofs
open Go Go.Rw
open _root_.Nat renaming reduceAdd → N0, reduceSub → N1, reduceMul → N2, reduceLT → N3, reduceLeDiff → N4, reduceEqDiff → N5
open _root_.Int renaming reduceNeg → Z0, reduceAdd → Z1, reduceSub → Z2, reduceMul → Z3, reduceGT → Z4, reduceGE → Z5, reduceLT → Z6, reduceLE → Z7, reduceEq → Z8, reduceNe → Z9, reduceToNat → Z10, cast_ofNat_Int → Zc
set_option maxRecDepth 100000
set_option linter.unusedSimpArgs false
set_option linter.unusedVariables false

structure Cm where
  rev : Int
  client : Int
  seq : Int
  acs : List Ac
  deriving Inhabited, DecidableEq
def cmA (c : Cm) : AV := .agg [.v (.int .i64 c.rev), .v (.int .i64 c.client), .v (.int .i64 c.seq), .sl 0 6 (acts c.acs)]
def cms (l : List Cm) : List AV := l.map cmA
theorem kAR (l : List Cm) : (cms l).length = l.length := by simp [cms]
theorem cms_nil : cms [] = [] := rfl
theorem cms_getD (l : List Cm) {i : Nat} (h : i < l.length) : (cms l).getD i .any = cmA l[i] := by simp [cms, List.getD_eq_getElem?_getD, h]
theorem cmA_er (c : Cm) : (cmA c).er = cmA c := by simp [cmA, AV.er, AV.erL, qL]
theorem kEU : ∀ l : List Cm, AV.erL (cms l) = cms l
  | [] => rfl
  | x :: l => by simp only [cms, List.map_cons, AV.erL, cmA_er]; rw [show List.map cmA l = cms l from rfl, kEU l]
abbrev okCm (c : Cm) : Prop := c.acs.length ≤ 1000000 ∧ ∀ a ∈ c.acs, okA a
abbrev townCon : Con where
  ι := ActsN
  args := fun p => [.sl 0 6 (acts p.1)]
  post := fun p r => r = .sl 0 6 (acts p.1)
theorem town_good : Rw.Good Tryz.prog 54 townCon := by
  have hΓ : kL Tryz.prog [(69, jY)] := (kE kAZ kJ)
  refine kS (nn := 21) hΓ Tryz.func54 (by kernel_rfl) rfl (show Tryz.f54.results.toList = [.tmp 2] from rfl) (fun _ => rfl) (fun x => by simp [AV.erL, AV.er, qL]) ?_
  rintro ⟨l, hl, ho⟩
  simp only [aR,N0,N1,N2,N3,N4,N5,Z0,Z1,Z2,Z3,Z4,Z5,Z6,Z7,Z8,Z9,Z10,Zc,↓reduceIte,reduceCtorEq, kQ]
  obtain ⟨St, hSt⟩ : ∃ St : { i : Nat // i ≤ l.length } → AS, ∀ i, St i = AS.of 21 [(2, .sl 2 6 (acts (l.take i.1))), (5, .sl 0 6 (acts l)), (6, .v (.int .i64 l.length)), (7, .v (.int .i64 i.1))] [] [(i.1, 46)] := ⟨_, fun _ => rfl⟩
  refine kY hΓ St (fun i => l.length - i.1) ⟨0, by omega⟩ (by rw [hSt]; refine kH [] [.nil 6] ?_; simp only [aR,N0,N1,N2,N3,N4,N5,Z0,Z1,Z2,Z3,Z4,Z5,Z6,Z7,Z8,Z9,Z10,Zc,↓reduceIte,reduceCtorEq, List.take_zero, acts, List.map_nil] <;> ((repeat' apply And.intro) <;> first | rfl | omega | trivial)) ?_
  rintro ⟨i, hi⟩
  rw [hSt]
  simp only
  simp only [aR,N0,N1,N2,N3,N4,N5,Z0,Z1,Z2,Z3,Z4,Z5,Z6,Z7,Z8,Z9,Z10,Zc,↓reduceIte,reduceCtorEq, kQ]
  (with_reducible first | refine kB (fun h => ?_) (fun h => ?_) | refine kD (fun h => ?_) (fun h => ?_))
  · have hlt : i < l.length := by omega
    have e1 := qQ l hlt
    have ha := ho _ (List.getElem_mem hlt)
    have e2 : acts (l.take (i + 1)) = acts (l.take i) ++ [aA l[i]] := by
      show (l.take (i + 1)).map aA = (l.take i).map aA ++ [aA l[i]]
      rw [List.take_succ_eq_append_getElem hlt, List.map_append]; rfl
    generalize l[i] = a at *
    obtain ⟨k, id, par, nm, dir, ops⟩ := a
    simp only [aR,N0,N1,N2,N3,N4,N5,Z0,Z1,Z2,Z3,Z4,Z5,Z6,Z7,Z8,Z9,Z10,Zc,↓reduceIte,reduceCtorEq, h, e1, kQ, aA]
    (repeat (with_reducible refine And.intro ?_ ?_; focus (first | omega | exact kG | kernel_rfl)))
    refine kA1 (by simp [kC]) rfl ha.1 ?_
    simp only [aR,N0,N1,N2,N3,N4,N5,Z0,Z1,Z2,Z3,Z4,Z5,Z6,Z7,Z8,Z9,Z10,Zc,↓reduceIte,reduceCtorEq, kQ, List.map_cons, List.map_nil, List.length_take, show min i l.length = i by omega, kA (n := (i : Int) + 1) (by omega) (by omega)]
    (repeat (with_reducible refine And.intro ?_ ?_; focus (first | omega | exact kG | kernel_rfl)))
    refine kI ⟨i + 1, by omega⟩ (by simp only; omega) ?_
    rw [hSt]; refine kH [] [.live 2] ?_
    simp only [aR,N0,N1,N2,N3,N4,N5,Z0,Z1,Z2,Z3,Z4,Z5,Z6,Z7,Z8,Z9,Z10,Zc,↓reduceIte,reduceCtorEq, e2, aA, kQ, List.length_append, List.length_cons, List.length_nil, List.length_take, show min i l.length = i by omega] <;> ((repeat' apply And.intro) <;> first | rfl | omega | trivial)
  · simp only [aR,N0,N1,N2,N3,N4,N5,Z0,Z1,Z2,Z3,Z4,Z5,Z6,Z7,Z8,Z9,Z10,Zc,↓reduceIte,reduceCtorEq, h, show i = l.length by omega, List.take_length]
theorem call_town {Γ : Env} (hf : Γ.get 54 = some townCon) {σ : AS} {dr : Bool} {l : List Ac} {ys : List AV} {d : Option Nat} {K : AS → Prop} (hy : ys = acts l) (hl : l.length ≤ 1000000) (ho : ∀ a ∈ l, okA a)
    (hk : cont σ d (.sl 0 6 (acts l)) K) : kP Tryz.prog Γ dr σ 54 [.sl 0 6 ys] d K := by
  subst hy
  exact qM (C := townCon) (i := ⟨l, hl, ho⟩) (r := .sl 0 6 (acts l)) hf rfl rfl (by simp [AV.erL, AV.er, qL]) rfl (fun _ h => h) (by simp only [AV.er, qL]; exact hk)
def behB (l : List Ac) : List Cm → List Ac × Int
  | [] => (l, 0)
  | c :: r => if (rebR l (effL c.acs)).e ≠ 0 then ([], (rebR l (effL c.acs)).e) else behB (rebR l (effL c.acs)).out r
theorem rebR_ok {l : List Ac} {bys : List On} (hl : l.length ≤ 1000000) (ho : ∀ a ∈ l, okA a) (hb : ∀ x ∈ bys, okL x.ops) : (rebR l bys).out.length ≤ 1000000 ∧ ∀ a ∈ (rebR l bys).out, okA a := by
  obtain ⟨h1, h2⟩ := rebF_ok hb l [] ho (by simp)
  simp only [List.length_nil] at h2
  unfold rebR
  split
  · exact ⟨by simp, by simp⟩
  · split
    · exact ⟨by simp, by simp⟩
    · split
      · exact ⟨by simp, by simp⟩
      · exact ⟨by simp only; omega, h1⟩
abbrev CmsN := { l : List Cm // l.length ≤ 1099511627776 ∧ ∀ c ∈ l, okCm c }
abbrev kDf : Con where
  ι := ActsN × CmsN
  args := fun p => [.sl 0 6 (acts p.1.1), .sl 0 4 (cms p.2.1)]
  post := fun p r => r = .tup [.sl 0 6 (acts (behB p.1.1 p.2.1).1), .v (.int .i64 (behB p.1.1 p.2.1).2)]
theorem rbeh_good : Rw.Good Tryz.prog 24 kDf := by
  have hΓ : kL Tryz.prog [(54, townCon), (15, kDs), (14, jN)] := (kE town_good (kE eff_good (kE kCa kJ)))
  refine kS (nn := 30) hΓ Tryz.func24 (by kernel_rfl) rfl (show Tryz.f24.results.toList = [.tmp 4, .tmp 5] from rfl) (fun _ => rfl) (fun x => by simp [AV.erL, AV.er, qL, kEU]) ?_
  rintro ⟨⟨l, hl, ho⟩, ⟨cs, hc, hco⟩⟩
  simp only [aR,N0,N1,N2,N3,N4,N5,Z0,Z1,Z2,Z3,Z4,Z5,Z6,Z7,Z8,Z9,Z10,Zc,↓reduceIte,reduceCtorEq]
  refine call_town (by simp [kC]) rfl hl ho ?_
  simp only [aR,N0,N1,N2,N3,N4,N5,Z0,Z1,Z2,Z3,Z4,Z5,Z6,Z7,Z8,Z9,Z10,Zc,↓reduceIte,reduceCtorEq, kAR]
  obtain ⟨St, hSt⟩ : ∃ St : { p : List Ac × Nat // p.2 ≤ cs.length ∧ (p.1.length ≤ 1000000 ∧ ∀ a ∈ p.1, okA a) ∧ behB p.1 (cs.drop p.2) = behB l cs } → AS, ∀ p, St p = AS.of 30 [(4, .sl 0 6 (acts p.1.1)), (10, .sl 0 4 (cms cs)), (11, .v (.int .i64 cs.length)), (12, .v (.int .i64 p.1.2))] [] [] := ⟨_, fun _ => rfl⟩
  refine kY hΓ St (fun p => cs.length - p.1.2) ⟨(l, 0), by simp, ⟨hl, ho⟩, rfl⟩ (by rw [hSt]; refine kH [] [] ?_; simp only [aR,N0,N1,N2,N3,N4,N5,Z0,Z1,Z2,Z3,Z4,Z5,Z6,Z7,Z8,Z9,Z10,Zc,↓reduceIte,reduceCtorEq] <;> ((repeat' apply And.intro) <;> first | rfl | omega | trivial)) ?_
  rintro ⟨⟨m, i⟩, hi, ⟨hm, hmo⟩, hb⟩
  simp only at hi hm hmo hb
  rw [hSt]
  simp only
  simp only [aR,N0,N1,N2,N3,N4,N5,Z0,Z1,Z2,Z3,Z4,Z5,Z6,Z7,Z8,Z9,Z10,Zc,↓reduceIte,reduceCtorEq, kAR]
  (with_reducible first | refine kB (fun h => ?_) (fun h => ?_) | refine kD (fun h => ?_) (fun h => ?_))
  · have hlt : i < cs.length := by omega
    have e1 := cms_getD cs hlt
    obtain ⟨c1, c2⟩ := hco _ (List.getElem_mem hlt)
    rw [List.drop_eq_getElem_cons hlt, behB] at hb
    generalize cs[i] = c at *
    obtain ⟨rev, cl, sq, ac⟩ := c
    simp only at c1 c2 hb
    have heo : ∀ z ∈ effL ac, okL z.ops := fun z hz => eff_ok (fun w hw => (c2 w hw).1) hz
    have hel := eff_len ac
    obtain ⟨r1, r2⟩ := rebR_ok hm hmo heo
    simp only [aR,N0,N1,N2,N3,N4,N5,Z0,Z1,Z2,Z3,Z4,Z5,Z6,Z7,Z8,Z9,Z10,Zc,↓reduceIte,reduceCtorEq, h, e1, kAR, cmA]
    (repeat (with_reducible refine And.intro ?_ ?_; focus (first | omega | exact kG | kernel_rfl)))
    refine call_eff (by simp [kC]) rfl (by omega) (fun z hz => (c2 z hz).1) ?_
    simp only [aR,N0,N1,N2,N3,N4,N5,Z0,Z1,Z2,Z3,Z4,Z5,Z6,Z7,Z8,Z9,Z10,Zc,↓reduceIte,reduceCtorEq]
    refine call_rover16 (by simp [kC]) rfl rfl hm hmo (by omega) heo ?_
    by_cases g : (rebR m (effL ac)).e = 0
    · rw [if_neg (by simpa using g)] at hb
      simp only [aR,N0,N1,N2,N3,N4,N5,Z0,Z1,Z2,Z3,Z4,Z5,Z6,Z7,Z8,Z9,Z10,Zc,↓reduceIte,reduceCtorEq, g, kA (n := (i : Int) + 1) (by omega) (by omega)]
      refine kI ⟨((rebR m (effL ac)).out, i + 1), by simp only; omega, ⟨r1, r2⟩, hb⟩ (by simp only; omega) ?_
      rw [hSt]; refine kH [] [] ?_
      simp only [aR,N0,N1,N2,N3,N4,N5,Z0,Z1,Z2,Z3,Z4,Z5,Z6,Z7,Z8,Z9,Z10,Zc,↓reduceIte,reduceCtorEq] <;> ((repeat' apply And.intro) <;> first | rfl | omega | trivial)
    · rw [if_pos g] at hb
      simp only [aR,N0,N1,N2,N3,N4,N5,Z0,Z1,Z2,Z3,Z4,Z5,Z6,Z7,Z8,Z9,Z10,Zc,↓reduceIte,reduceCtorEq, g, ← hb]
      rfl
  · rw [List.drop_of_length_le (by omega), behB] at hb
    simp only [aR,N0,N1,N2,N3,N4,N5,Z0,Z1,Z2,Z3,Z4,Z5,Z6,Z7,Z8,Z9,Z10,Zc,↓reduceIte,reduceCtorEq, h, ← hb]
end Go.Proofs
end

-- ZUk9
section
namespace Go.Proofs
open Go Go.Rw
open _root_.Nat renaming reduceAdd → N0, reduceSub → N1, reduceMul → N2, reduceLT → N3, reduceLeDiff → N4, reduceEqDiff → N5
open _root_.Int renaming reduceNeg → Z0, reduceAdd → Z1, reduceSub → Z2, reduceMul → Z3, reduceGT → Z4, reduceGE → Z5, reduceLT → Z6, reduceLE → Z7, reduceEq → Z8, reduceNe → Z9, reduceToNat → Z10, cast_ofNat_Int → Zc
set_option maxRecDepth 100000
set_option linter.unusedSimpArgs false
set_option linter.unusedVariables false

def nF (m : Int) : Int → List Nd → Int
  | s, [] => s
  | s, x :: r => if s ≤ m then nF m (sumF s [(x.nm.length : Int), (x.text.length : Int), 3]) r else s
abbrev GivenN := { l : List Nd // l.length ≤ 9223372036854775807 ∧ ∀ x ∈ l, x.nm.length ≤ 9223372036854775807 ∧ x.text.length ≤ 9223372036854775807 }
abbrev kCE : Con where
  ι := GivenN × { m : Int // 0 ≤ m ∧ m ≤ 1000000 }
  args := fun p => [.sl 0 5 (kB9 p.1.1), .v (.int .i64 p.2.1)]
  post := fun p r => r = .v (.int .i64 (nF p.2.1 0 p.1.1))
  plain := true
theorem wnodes_good : Rw.Good Tryz.prog 8 kCE := by
  have hΓ : kL Tryz.prog [(31, kD3)] := (kE kDI kJ)
  refine kS (nn := 34) hΓ Tryz.func8 (by kernel_rfl) rfl (show Tryz.f8.results.toList = [.tmp 4] from rfl) (fun _ => rfl) (fun x => by simp [AV.erL, AV.er, nodes_er]) ?_
  rintro ⟨⟨l, hl, hc⟩, ⟨m, hm⟩⟩
  simp only [aR,N0,N1,N2,N3,N4,N5,Z0,Z1,Z2,Z3,Z4,Z5,Z6,Z7,Z8,Z9,Z10,Zc,↓reduceIte,reduceCtorEq, kEL]
  obtain ⟨St, hSt⟩ : ∃ St : { p : Int × Nat // p.2 ≤ l.length ∧ (0 ≤ p.1 ∧ p.1 ≤ 1099511627776) ∧ nF m 0 l = nF m p.1 (l.drop p.2) } → AS, ∀ p, St p = AS.of 34 [(0, .sl 0 5 (kB9 l)), (1, .v (.int .i64 m)), (5, .v (.int .i64 p.1.1)), (6, .v (.int .i64 p.1.2))] [] [] := ⟨_, fun _ => rfl⟩
  refine vc_loopD [(5, [], [])] hΓ St (fun p => l.length - p.1.2) ⟨(0, 0), by omega, by simp only; omega, rfl⟩ (by rw [hSt]; refine kH [] [] ?_; simp only [aR,N0,N1,N2,N3,N4,N5,Z0,Z1,Z2,Z3,Z4,Z5,Z6,Z7,Z8,Z9,Z10,Zc,↓reduceIte,reduceCtorEq] <;> ((repeat' apply And.intro) <;> first | rfl | omega | trivial)) ?_
  rintro ⟨⟨s, i⟩, hi, hs, hb⟩
  simp only at hi hs hb
  rw [hSt]
  simp only
  simp only [aR,N0,N1,N2,N3,N4,N5,Z0,Z1,Z2,Z3,Z4,Z5,Z6,Z7,Z8,Z9,Z10,Zc,↓reduceIte,reduceCtorEq, kN, kEL]
  (with_reducible first | refine kB (fun h => ?_) (fun h => ?_) | refine kD (fun h => ?_) (fun h => ?_))
  · have hlt : i < l.length := by omega
    have hci := hc l[i] (List.getElem_mem hlt)
    have e1 := nodes_getD l hlt
    rw [List.drop_eq_getElem_cons hlt, nF] at hb
    generalize l[i] = a at *
    obtain ⟨id, par, nm, dir, tx⟩ := a
    obtain ⟨hn, ho⟩ := hci
    simp only at hn ho hb e1
    simp (disch := omega) only [aR,N0,N1,N2,N3,N4,N5,Z0,Z1,Z2,Z3,Z4,Z5,Z6,Z7,Z8,Z9,Z10,Zc,↓reduceIte,reduceCtorEq, kA, kN, h]
    (with_reducible first | refine kB (fun h2 => ?_) (fun h2 => ?_) | refine kD (fun h2 => ?_) (fun h2 => ?_))
    · simp (disch := omega) only [aR,N0,N1,N2,N3,N4,N5,Z0,Z1,Z2,Z3,Z4,Z5,Z6,Z7,Z8,Z9,Z10,Zc,↓reduceIte,reduceCtorEq, kA, kN, h2, e1, nA, kEL]
      (repeat (with_reducible refine And.intro ?_ ?_; focus (first | omega | exact kG | kernel_rfl)))
      refine kBn (by simp [kC]) (y := [(nm.length : Int), (tx.length : Int), 3]) rfl hs (by simp; omega) (by simp) ?_
      simp (disch := omega) only [aR,N0,N1,N2,N3,N4,N5,Z0,Z1,Z2,Z3,Z4,Z5,Z6,Z7,Z8,Z9,Z10,Zc,↓reduceIte,reduceCtorEq, kA, kN]
      rw [if_pos h2] at hb
      have hr := jM [(nm.length : Int), (tx.length : Int), 3] hs (by simp)
      refine kI ⟨(sumF s [(nm.length : Int), (tx.length : Int), 3], i + 1), by simp only; omega, by simp only; omega, hb⟩ (by simp only; omega) ?_
      rw [hSt]; refine kH [] [] ?_
      simp only [aR,N0,N1,N2,N3,N4,N5,Z0,Z1,Z2,Z3,Z4,Z5,Z6,Z7,Z8,Z9,Z10,Zc,↓reduceIte,reduceCtorEq] <;> ((repeat' apply And.intro) <;> first | rfl | omega | trivial)
    · simp (disch := omega) only [aR,N0,N1,N2,N3,N4,N5,Z0,Z1,Z2,Z3,Z4,Z5,Z6,Z7,Z8,Z9,Z10,Zc,↓reduceIte,reduceCtorEq, kA, kN, h2]
      rw [hb, if_neg h2]
  · simp only [aR,N0,N1,N2,N3,N4,N5,Z0,Z1,Z2,Z3,Z4,Z5,Z6,Z7,Z8,Z9,Z10,Zc,↓reduceIte,reduceCtorEq, kN, h]
    rw [List.drop_of_length_le (by omega)] at hb
    rw [hb]; rfl
theorem call_wnodes {Γ : Env} (hf : Γ.get 8 = some kCE) {σ : AS} {dr : Bool} {l : List Nd} {m : Int} {ys : List AV} {d : Option Nat} {K : AS → Prop} (hy : ys = kB9 l) (h1 : l.length ≤ 9223372036854775807) (h2 : ∀ a ∈ l, a.nm.length ≤ 9223372036854775807 ∧ a.text.length ≤ 9223372036854775807) (hm : 0 ≤ m ∧ m ≤ 1000000)
    (hk : cont σ d (.v (.int .i64 (nF m 0 l))) K) : kP Tryz.prog Γ dr σ 8 [.sl 0 5 ys, .v (.int .i64 m)] d K := by
  subst hy
  exact kK (C := kCE) (i := (⟨l, h1, h2⟩, ⟨m, hm⟩)) hf rfl rfl rfl (by simp [AV.erL, AV.er, nodes_er]) (fun _ h => h) rfl hk
end Go.Proofs
end

-- ZUk13
section
namespace Go.Proofs
open Go Go.Rw
open _root_.Nat renaming reduceAdd → N0, reduceSub → N1, reduceMul → N2, reduceLT → N3, reduceLeDiff → N4, reduceEqDiff → N5
open _root_.Int renaming reduceNeg → Z0, reduceAdd → Z1, reduceSub → Z2, reduceMul → Z3, reduceGT → Z4, reduceGE → Z5, reduceLT → Z6, reduceLE → Z7, reduceEq → Z8, reduceNe → Z9, reduceToNat → Z10, cast_ofNat_Int → Zc
set_option maxRecDepth 100000
set_option linter.unusedSimpArgs false
set_option linter.unusedVariables false

def cF (m : Int) : Int → List Cm → Int
  | s, [] => s
  | s, c :: r => if s ≤ m then cF m (sumF s [wF m 0 (wA c.acs), 3]) r else s
abbrev wideA (l : List Ac) : Prop := l.length ≤ 9223372036854775807 ∧ ∀ a ∈ l, a.nm.length ≤ 9223372036854775807 ∧ wideC a.ops
theorem wF_bnd (m : Int) : ∀ (l : List (Nat × List Cp)) (s : Int), 0 ≤ s → s ≤ 1099511627776 → 0 ≤ wF m s l ∧ wF m s l ≤ 1099511627776
  | [], s, h, h2 => ⟨h, h2⟩
  | (n, c) :: r, s, h, h2 => by
    rw [wF]
    split
    · have hc := kBV m c 0 (by omega) (by omega)
      have := jM [(n : Int), zC m 0 c, 3] (x := s) ⟨h, h2⟩ (by simp; omega)
      exact wF_bnd m r _ (by omega) this.2
    · exact ⟨h, h2⟩
theorem cF_le {m : Int} (hm : m ≤ 1000000) : ∀ (l : List Cm) {s : Int}, 0 ≤ s → (∀ c ∈ l, wideA c.acs) → cF m s l ≤ m → s + 3 * l.length ≤ m ∧ ∀ c ∈ l, okCm c
  | [], s, _, _, h => by simp only [cF] at h; simp; exact h
  | c :: l, s, hs, hw, h => by
    simp only [cF] at h
    split at h
    · rename_i h1
      have hwc := hw c (List.mem_cons_self ..)
      have hc := wF_bnd m (wA c.acs) 0 (by omega) (by omega)
      have e : sumF s [wF m 0 (wA c.acs), 3] = addI (addI s (wF m 0 (wA c.acs))) 3 := rfl
      have h2 : 0 ≤ addI (addI s (wF m 0 (wA c.acs))) 3 := by unfold addI; omega
      rw [e] at h
      obtain ⟨h3, h4⟩ := cF_le hm l h2 (fun d hd => hw d (List.mem_cons_of_mem _ hd)) h
      have h5 : addI (addI s (wF m 0 (wA c.acs))) 3 ≤ m := by omega
      have h6 : addI (addI s (wF m 0 (wA c.acs))) 3 = s + wF m 0 (wA c.acs) + 3 := by unfold addI at h5 ⊢; omega
      have h7 : wF m 0 (wA c.acs) ≤ m := by omega
      refine ⟨by simp only [List.length_cons]; omega, fun p hp => ?_⟩
      rcases List.mem_cons.1 hp with rfl | hp
      · obtain ⟨g1, g2⟩ := acts_ok hm hwc.2 h7
        obtain ⟨_, g3⟩ := wF_le (by omega) (wA p.acs) (Int.le_refl 0) h7
        exact ⟨g1, fun a ha => ⟨g2 a ha, by have := (g3 (a.nm.length, a.ops) (List.mem_map.2 ⟨a, ha, rfl⟩)).1; omega⟩⟩
      · exact h4 p hp
    · omega
abbrev GivenM := { l : List Cm // l.length ≤ 9223372036854775807 ∧ ∀ c ∈ l, wideA c.acs }
def msgA (l : List Cm) : AV := .agg [.v (.int .i64 0), .v (.int .i64 0), .v (.int .i64 0), .v (.int .i64 0), .v (.int .i64 0), .sl 0 6 [], .sl 0 4 (cms l), .sl 0 5 [], .v (.int .i64 0)]
abbrev msgCon : Con where
  ι := GivenM × { m : Int // 0 ≤ m ∧ m ≤ 1000000 }
  args := fun p => [msgA p.1.1, .v (.int .i64 p.2.1)]
  post := fun p r => r = .v (.int .i64 (cF p.2.1 0 p.1.1))
  plain := true
theorem msg_good : Rw.Good Tryz.prog 21 msgCon := by
  have hΓ : kL Tryz.prog [(9, kEJ), (8, kCE), (31, kD3)] := (kE acts_good (kE wnodes_good (kE kDI kJ)))
  refine kS (nn := 41) hΓ Tryz.func21 (by kernel_rfl) rfl (show Tryz.f21.results.toList = [.tmp 4] from rfl) (fun _ => rfl) (fun x => by simp [AV.erL, AV.er, msgA, kEU]) ?_
  rintro ⟨⟨l, hl, hc⟩, ⟨m, hm⟩⟩
  simp only [aR,N0,N1,N2,N3,N4,N5,Z0,Z1,Z2,Z3,Z4,Z5,Z6,Z7,Z8,Z9,Z10,Zc,↓reduceIte,reduceCtorEq, msgA]
  (repeat (with_reducible refine And.intro ?_ ?_; focus (first | omega | exact kG | kernel_rfl)))
  refine kDd (by simp [kC]) (l := []) rfl (by simp) (by simp) hm ?_
  simp only [aR,N0,N1,N2,N3,N4,N5,Z0,Z1,Z2,Z3,Z4,Z5,Z6,Z7,Z8,Z9,Z10,Zc,↓reduceIte,reduceCtorEq, wA, List.map_nil, wF]
  refine call_wnodes (by simp [kC]) (l := []) rfl (by simp) (by simp) hm ?_
  simp only [aR,N0,N1,N2,N3,N4,N5,Z0,Z1,Z2,Z3,Z4,Z5,Z6,Z7,Z8,Z9,Z10,Zc,↓reduceIte,reduceCtorEq, nF]
  refine kBn (by simp [kC]) (y := [0]) rfl (by omega) (by simp) (by simp) ?_
  simp only [aR,N0,N1,N2,N3,N4,N5,Z0,Z1,Z2,Z3,Z4,Z5,Z6,Z7,Z8,Z9,Z10,Zc,↓reduceIte,reduceCtorEq, show sumF 0 [0] = 0 from rfl]
  obtain ⟨St, hSt⟩ : ∃ St : { p : Int × Nat // p.2 ≤ l.length ∧ (0 ≤ p.1 ∧ p.1 ≤ 1099511627776) ∧ cF m 0 l = cF m p.1 (l.drop p.2) } → AS, ∀ p, St p = AS.of 41 [(1, .v (.int .i64 m)), (2, .ptr 0 0), (5, .v (.int .i64 p.1.1)), (6, .v (.int .i64 p.1.2))] [.cells [.v (.int .i64 0), .v (.int .i64 0), .v (.int .i64 0), .v (.int .i64 0), .v (.int .i64 0), .sl 0 6 [], .sl 0 4 (cms l), .sl 0 5 [], .v (.int .i64 0)]] [] := ⟨_, fun _ => rfl⟩
  refine kY hΓ St (fun p => l.length - p.1.2) ⟨(0, 0), by simp, by simp only; omega, rfl⟩ (by rw [hSt]; refine kH [0] [] ?_; simp only [aR,N0,N1,N2,N3,N4,N5,Z0,Z1,Z2,Z3,Z4,Z5,Z6,Z7,Z8,Z9,Z10,Zc,↓reduceIte,reduceCtorEq] <;> ((repeat' apply And.intro) <;> first | rfl | omega | trivial)) ?_
  rintro ⟨⟨s, i⟩, hi, hs, hb⟩
  simp only at hi hs hb
  rw [hSt]
  simp only
  simp only [aR,N0,N1,N2,N3,N4,N5,Z0,Z1,Z2,Z3,Z4,Z5,Z6,Z7,Z8,Z9,Z10,Zc,↓reduceIte,reduceCtorEq, kAR]
  (with_reducible first | refine kB (fun h => ?_) (fun h => ?_) | refine kD (fun h => ?_) (fun h => ?_))
  · have hlt : i < l.length := by omega
    have hci := hc l[i] (List.getElem_mem hlt)
    have e1 := cms_getD l hlt
    rw [List.drop_eq_getElem_cons hlt, cF] at hb
    generalize l[i] = c at *
    obtain ⟨rev, cl, sq, ac⟩ := c
    obtain ⟨hn, ho⟩ := hci
    simp only at hn ho hb e1
    simp only [aR,N0,N1,N2,N3,N4,N5,Z0,Z1,Z2,Z3,Z4,Z5,Z6,Z7,Z8,Z9,Z10,Zc,↓reduceIte,reduceCtorEq, h]
    (with_reducible first | refine kB (fun h2 => ?_) (fun h2 => ?_) | refine kD (fun h2 => ?_) (fun h2 => ?_))
    · simp only [aR,N0,N1,N2,N3,N4,N5,Z0,Z1,Z2,Z3,Z4,Z5,Z6,Z7,Z8,Z9,Z10,Zc,↓reduceIte,reduceCtorEq, h2, e1, cmA, kAR]
      (repeat (with_reducible refine And.intro ?_ ?_; focus (first | omega | exact kG | kernel_rfl)))
      refine kDd (by simp [kC]) rfl hn ho hm ?_
      have hwb := wF_bnd m (wA ac) 0 (by omega) (by omega)
      simp only [aR,N0,N1,N2,N3,N4,N5,Z0,Z1,Z2,Z3,Z4,Z5,Z6,Z7,Z8,Z9,Z10,Zc,↓reduceIte,reduceCtorEq]
      refine kBn (by simp [kC]) (y := [wF m 0 (wA ac), 3]) rfl hs (by simp; omega) (by simp) ?_
      rw [if_pos h2] at hb
      have hr := jM [wF m 0 (wA ac), 3] hs (by simp; omega)
      simp only [aR,N0,N1,N2,N3,N4,N5,Z0,Z1,Z2,Z3,Z4,Z5,Z6,Z7,Z8,Z9,Z10,Zc,↓reduceIte,reduceCtorEq, kA (n := (i : Int) + 1) (by omega) (by omega)]
      refine kI ⟨(sumF s [wF m 0 (wA ac), 3], i + 1), by simp only; omega, by simp only; omega, hb⟩ (by simp only; omega) ?_
      rw [hSt]; refine kH [0] [] ?_
      simp only [aR,N0,N1,N2,N3,N4,N5,Z0,Z1,Z2,Z3,Z4,Z5,Z6,Z7,Z8,Z9,Z10,Zc,↓reduceIte,reduceCtorEq] <;> ((repeat' apply And.intro) <;> first | rfl | omega | trivial)
    · simp only [aR,N0,N1,N2,N3,N4,N5,Z0,Z1,Z2,Z3,Z4,Z5,Z6,Z7,Z8,Z9,Z10,Zc,↓reduceIte,reduceCtorEq, h2]
      rw [hb, if_neg h2]
  · simp only [aR,N0,N1,N2,N3,N4,N5,Z0,Z1,Z2,Z3,Z4,Z5,Z6,Z7,Z8,Z9,Z10,Zc,↓reduceIte,reduceCtorEq, h]
    rw [List.drop_of_length_le (by omega)] at hb
    rw [hb]; rfl
theorem call_msg {Γ : Env} (hf : Γ.get 21 = some msgCon) {σ : AS} {dr : Bool} {l : List Cm} {m : Int} {y : AV} {d : Option Nat} {K : AS → Prop} (hy : y.er = msgA l) (h1 : l.length ≤ 9223372036854775807) (h2 : ∀ c ∈ l, wideA c.acs) (hm : 0 ≤ m ∧ m ≤ 1000000)
    (hk : cont σ d (.v (.int .i64 (cF m 0 l))) K) : kP Tryz.prog Γ dr σ 21 [y, .v (.int .i64 m)] d K :=
  kK (C := msgCon) (i := (⟨l, h1, h2⟩, ⟨m, hm⟩)) hf rfl rfl rfl (by simp [AV.erL, AV.er, hy]) (fun _ h => h) rfl hk
end Go.Proofs
end
