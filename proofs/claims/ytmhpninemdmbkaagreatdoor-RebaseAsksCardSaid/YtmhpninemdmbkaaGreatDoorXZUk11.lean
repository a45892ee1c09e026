/-
  A transaction behind commits.
-/
import Derived.Test.YtmhpninemdmbkaaGreatDoorXZUk8
import Derived.Test.YtmhpninemdmbkaaGreatDoorXZUn7
set_option linter.unusedSimpArgs false
set_option linter.unusedVariables false
set_option linter.defProp false

-- ZUk11
section
namespace Go.Proofs
open Go Go.Rw
open _root_.Nat renaming reduceAdd → N0, reduceSub → N1, reduceMul → N2, reduceLT → N3, reduceLeDiff → N4, reduceEqDiff → N5
open _root_.Int renaming reduceNeg → Z0, reduceAdd → Z1, reduceSub → Z2, reduceMul → Z3, reduceGT → Z4, reduceGE → Z5, reduceLT → Z6, reduceLE → Z7, reduceEq → Z8, reduceNe → Z9, reduceToNat → Z10, cast_ofNat_Int → Zc
set_option maxRecDepth 100000
structure Cm where
  rev : Int
  client : Int
  seq : Int
  acs : List Ac
  deriving Inhabited, DecidableEq
def cmA (c : Cm) : AV := .agg [.v (.int .i64 c.rev), .v (.int .i64 c.client), .v (.int .i64 c.seq), .sl 0 6 (acts c.acs)]
def cms (l : List Cm) : List AV := l.map cmA
theorem kCG (l : List Cm) : (cms l).length = l.length := by simp [cms]
theorem cms_getD (l : List Cm) {i : Nat} (h : i < l.length) : (cms l).getD i .any = cmA l[i] := by simp [cms, List.getD_eq_getElem?_getD, h]
theorem cmA_er (c : Cm) : (cmA c).er = cmA c := by simp [cmA, AV.er, AV.erL, qF]
theorem kD7 : ∀ l : List Cm, AV.erL (cms l) = cms l
  | [] => rfl
  | x :: l => by simp only [cms, List.map_cons, AV.erL, cmA_er]; rw [show List.map cmA l = cms l from rfl, kD7 l]
abbrev okCm (c : Cm) : Prop := c.acs.length ≤ 1000000 ∧ ∀ a ∈ c.acs, okA a
abbrev townCon : Con where
  ι := ActsN
  args := fun p => [.sl 0 6 (acts p.1)]
  post := fun p r => r = .sl 0 6 (acts p.1)
theorem town_good : Rw.Good Tryz.prog 54 townCon := by
  have hΓ : kL Tryz.prog [(69, kAG)] := (kE kA9 kJ)
  refine kS (nn := 21) hΓ Tryz.func54 (by kernel_rfl) rfl (show Tryz.f54.results.toList = [.tmp 2] from rfl) (fun _ => rfl) (fun x => by simp [AV.erL, AV.er, qF]) ?_
  rintro ⟨l, hl, ho⟩
  simp only [aR,N0,N1,N2,N3,N4,N5,Z0,Z1,Z2,Z3,Z4,Z5,Z6,Z7,Z8,Z9,Z10,Zc,↓reduceIte,reduceCtorEq, kM]
  obtain ⟨St, hSt⟩ : ∃ St : { i : Nat // i ≤ l.length } → AS, ∀ i, St i = AS.of 21 [(2, .sl 2 6 (acts (l.take i.1))), (5, .sl 0 6 (acts l)), (6, .v (.int .i64 l.length)), (7, .v (.int .i64 i.1))] [] [(i.1, 46)] := ⟨_, fun _ => rfl⟩
  refine kX hΓ St (fun i => l.length - i.1) ⟨0, by omega⟩ (by rw [hSt]; refine kH [] [.nil 6] ?_; simp only [aR,N0,N1,N2,N3,N4,N5,Z0,Z1,Z2,Z3,Z4,Z5,Z6,Z7,Z8,Z9,Z10,Zc,↓reduceIte,reduceCtorEq, List.take_zero, acts, List.map_nil] <;> ((repeat' apply And.intro) <;> first | rfl | omega | trivial)) ?_
  rintro ⟨i, hi⟩
  rw [hSt]
  simp only
  simp only [aR,N0,N1,N2,N3,N4,N5,Z0,Z1,Z2,Z3,Z4,Z5,Z6,Z7,Z8,Z9,Z10,Zc,↓reduceIte,reduceCtorEq, kM]
  (with_reducible first | refine kC (fun h => ?_) (fun h => ?_) | refine kF (fun h => ?_) (fun h => ?_))
  · have hlt : i < l.length := by omega
    have e1 := qV l hlt
    have ha := ho _ (List.getElem_mem hlt)
    have e2 : acts (l.take (i + 1)) = acts (l.take i) ++ [aA l[i]] := by
      show (l.take (i + 1)).map aA = (l.take i).map aA ++ [aA l[i]]
      rw [List.take_succ_eq_append_getElem hlt, List.map_append]; rfl
    generalize l[i] = a at *
    obtain ⟨k, id, par, nm, dir, ops⟩ := a
    simp only [aR,N0,N1,N2,N3,N4,N5,Z0,Z1,Z2,Z3,Z4,Z5,Z6,Z7,Z8,Z9,Z10,Zc,↓reduceIte,reduceCtorEq, h, e1, kM, aA]
    (repeat (with_reducible refine And.intro ?_ ?_; focus (first | omega | exact kG | kernel_rfl)))
    refine kA7 (by simp [kB]) rfl ha.1 ?_
    simp only [aR,N0,N1,N2,N3,N4,N5,Z0,Z1,Z2,Z3,Z4,Z5,Z6,Z7,Z8,Z9,Z10,Zc,↓reduceIte,reduceCtorEq, kM, List.map_cons, List.map_nil, List.length_take, show min i l.length = i by omega, kA (n := (i : Int) + 1) (by omega) (by omega)]
    (repeat (with_reducible refine And.intro ?_ ?_; focus (first | omega | exact kG | kernel_rfl)))
    refine kI ⟨i + 1, by omega⟩ (by simp only; omega) ?_
    rw [hSt]; refine kH [] [.live 2] ?_
    simp only [aR,N0,N1,N2,N3,N4,N5,Z0,Z1,Z2,Z3,Z4,Z5,Z6,Z7,Z8,Z9,Z10,Zc,↓reduceIte,reduceCtorEq, e2, aA, kM, List.length_append, List.length_cons, List.length_nil, List.length_take, show min i l.length = i by omega] <;> ((repeat' apply And.intro) <;> first | rfl | omega | trivial)
  · simp only [aR,N0,N1,N2,N3,N4,N5,Z0,Z1,Z2,Z3,Z4,Z5,Z6,Z7,Z8,Z9,Z10,Zc,↓reduceIte,reduceCtorEq, h, show i = l.length by omega, List.take_length]
theorem call_town {Γ : Env} (hf : Γ.get 54 = some townCon) {σ : AS} {dr : Bool} {l : List Ac} {ys : List AV} {d : Option Nat} {K : AS → Prop} (hy : ys = acts l) (hl : l.length ≤ 1000000) (ho : ∀ a ∈ l, okA a)
    (hk : cont σ d (.sl 0 6 (acts l)) K) : kR Tryz.prog Γ dr σ 54 [.sl 0 6 ys] d K := by
  subst hy
  exact qK (C := townCon) (i := ⟨l, hl, ho⟩) (r := .sl 0 6 (acts l)) hf rfl rfl (by simp [AV.erL, AV.er, qF]) rfl (fun _ h => h) (by simp only [AV.er, qF]; exact hk)
def behB (l : List Ac) : List Cm → List Ac × Int
  | [] => (l, 0)
  | c :: r => if (rebR l (effL c.acs)).e ≠ 0 then ([], (rebR l (effL c.acs)).e) else behB (rebR l (effL c.acs)).out r
theorem rebR_ok {l : List Ac} {bys : List On} (hl : l.length ≤ 1000000) (ho : ∀ a ∈ l, okA a) (hb : ∀ x ∈ bys, okL x.ops) : (rebR l bys).out.length ≤ 1000000 ∧ ∀ a ∈ (rebR l bys).out, okA a := by
  obtain ⟨h1, h2⟩ := kEl hb l [] ho (by simp)
  simp only [List.length_nil] at h2
  unfold rebR
  split
  · exact ⟨by simp, by simp⟩
  · split
    · exact ⟨by simp, by simp⟩
    · split
      · exact ⟨by simp, by simp⟩
      · exact ⟨by simp only; omega, h1⟩
abbrev CmsN := { l : List Cm // l.length ≤ 1099511627776 ∧ ∀ c ∈ l, okCm c }
abbrev kBS : Con where
  ι := ActsN × CmsN
  args := fun p => [.sl 0 6 (acts p.1.1), .sl 0 4 (cms p.2.1)]
  post := fun p r => r = .tup [.sl 0 6 (acts (behB p.1.1 p.2.1).1), .v (.int .i64 (behB p.1.1 p.2.1).2)]
theorem rbeh_good : Rw.Good Tryz.prog 24 kBS := by
  have hΓ : kL Tryz.prog [(54, townCon), (15, kBI), (14, qY)] := (kE town_good (kE eff_good (kE kBF kJ)))
  refine kS (nn := 30) hΓ Tryz.func24 (by kernel_rfl) rfl (show Tryz.f24.results.toList = [.tmp 4, .tmp 5] from rfl) (fun _ => rfl) (fun x => by simp [AV.erL, AV.er, qF, kD7]) ?_
  rintro ⟨⟨l, hl, ho⟩, ⟨cs, hc, hco⟩⟩
  simp only [aR,N0,N1,N2,N3,N4,N5,Z0,Z1,Z2,Z3,Z4,Z5,Z6,Z7,Z8,Z9,Z10,Zc,↓reduceIte,reduceCtorEq]
  refine call_town (by simp [kB]) rfl hl ho ?_
  simp only [aR,N0,N1,N2,N3,N4,N5,Z0,Z1,Z2,Z3,Z4,Z5,Z6,Z7,Z8,Z9,Z10,Zc,↓reduceIte,reduceCtorEq, kCG]
  obtain ⟨St, hSt⟩ : ∃ St : { p : List Ac × Nat // p.2 ≤ cs.length ∧ (p.1.length ≤ 1000000 ∧ ∀ a ∈ p.1, okA a) ∧ behB p.1 (cs.drop p.2) = behB l cs } → AS, ∀ p, St p = AS.of 30 [(4, .sl 0 6 (acts p.1.1)), (10, .sl 0 4 (cms cs)), (11, .v (.int .i64 cs.length)), (12, .v (.int .i64 p.1.2))] [] [] := ⟨_, fun _ => rfl⟩
  refine kX hΓ St (fun p => cs.length - p.1.2) ⟨(l, 0), by simp, ⟨hl, ho⟩, rfl⟩ (by rw [hSt]; refine kH [] [] ?_; simp only [aR,N0,N1,N2,N3,N4,N5,Z0,Z1,Z2,Z3,Z4,Z5,Z6,Z7,Z8,Z9,Z10,Zc,↓reduceIte,reduceCtorEq] <;> ((repeat' apply And.intro) <;> first | rfl | omega | trivial)) ?_
  rintro ⟨⟨m, i⟩, hi, ⟨hm, hmo⟩, hb⟩
  simp only at hi hm hmo hb
  rw [hSt]
  simp only
  simp only [aR,N0,N1,N2,N3,N4,N5,Z0,Z1,Z2,Z3,Z4,Z5,Z6,Z7,Z8,Z9,Z10,Zc,↓reduceIte,reduceCtorEq, kCG]
  (with_reducible first | refine kC (fun h => ?_) (fun h => ?_) | refine kF (fun h => ?_) (fun h => ?_))
  · have hlt : i < cs.length := by omega
    have e1 := cms_getD cs hlt
    obtain ⟨c1, c2⟩ := hco _ (List.getElem_mem hlt)
    rw [List.drop_eq_getElem_cons hlt, behB] at hb
    generalize cs[i] = c at *
    obtain ⟨rev, cl, sq, ac⟩ := c
    simp only at c1 c2 hb
    have heo : ∀ z ∈ effL ac, okL z.ops := fun z hz => eff_ok (fun w hw => (c2 w hw).1) hz
    have hel := eff_len ac
    obtain ⟨r1, r2⟩ := rebR_ok hm hmo heo
    simp only [aR,N0,N1,N2,N3,N4,N5,Z0,Z1,Z2,Z3,Z4,Z5,Z6,Z7,Z8,Z9,Z10,Zc,↓reduceIte,reduceCtorEq, h, e1, kCG, cmA]
    (repeat (with_reducible refine And.intro ?_ ?_; focus (first | omega | exact kG | kernel_rfl)))
    refine call_eff (by simp [kB]) rfl (by omega) (fun z hz => (c2 z hz).1) ?_
    simp only [aR,N0,N1,N2,N3,N4,N5,Z0,Z1,Z2,Z3,Z4,Z5,Z6,Z7,Z8,Z9,Z10,Zc,↓reduceIte,reduceCtorEq]
    refine kDV (by simp [kB]) rfl rfl hm hmo (by omega) heo ?_
    by_cases g : (rebR m (effL ac)).e = 0
    · rw [if_neg (by simpa using g)] at hb
      simp only [aR,N0,N1,N2,N3,N4,N5,Z0,Z1,Z2,Z3,Z4,Z5,Z6,Z7,Z8,Z9,Z10,Zc,↓reduceIte,reduceCtorEq, g, kA (n := (i : Int) + 1) (by omega) (by omega)]
      refine kI ⟨((rebR m (effL ac)).out, i + 1), by simp only; omega, ⟨r1, r2⟩, hb⟩ (by simp only; omega) ?_
      rw [hSt]; refine kH [] [] ?_
      simp only [aR,N0,N1,N2,N3,N4,N5,Z0,Z1,Z2,Z3,Z4,Z5,Z6,Z7,Z8,Z9,Z10,Zc,↓reduceIte,reduceCtorEq] <;> ((repeat' apply And.intro) <;> first | rfl | omega | trivial)
    · rw [if_pos g] at hb
      simp only [aR,N0,N1,N2,N3,N4,N5,Z0,Z1,Z2,Z3,Z4,Z5,Z6,Z7,Z8,Z9,Z10,Zc,↓reduceIte,reduceCtorEq, g, ← hb]
      rfl
  · rw [List.drop_of_length_le (by omega), behB] at hb
    simp only [aR,N0,N1,N2,N3,N4,N5,Z0,Z1,Z2,Z3,Z4,Z5,Z6,Z7,Z8,Z9,Z10,Zc,↓reduceIte,reduceCtorEq, h, ← hb]
end Go.Proofs
end
