/-
  effect: own, Get, behind, Over.
-/
import Derived.Test.YtmhpninemdmbkaaGreatDoorXZUe4
import Derived.Test.YtmhpninemdmbkaaGreatDoorXZAx1
set_option linter.unusedSimpArgs false
set_option linter.unusedVariables false
set_option linter.defProp false

-- ZUe6
section
namespace Go.Proofs
open Go Go.Rw
open _root_.Nat renaming reduceAdd → N0, reduceSub → N1, reduceMul → N2, reduceLT → N3, reduceLeDiff → N4, reduceEqDiff → N5
open _root_.Int renaming reduceNeg → Z0, reduceAdd → Z1, reduceSub → Z2, reduceMul → Z3, reduceGT → Z4, reduceGE → Z5, reduceLT → Z6, reduceLE → Z7, reduceEq → Z8, reduceNe → Z9, reduceToNat → Z10, cast_ofNat_Int → Zc
set_option maxRecDepth 100000
abbrev ownCon : Con where
  ι := { x : On // okL x.ops }
  args := fun x => [oA x.1]
  post := fun x r => r = oA x.1
theorem own_good : Rw.Good Tryz.prog 68 ownCon := by
  have hΓ : kL Tryz.prog [(69, kAG)] := (kE kA9 kJ)
  refine kS (nn := 8) hΓ Tryz.func68 (by kernel_rfl) rfl (show Tryz.f68.results.toList = [.cell 2 48] from rfl) (fun _ => rfl) (fun x => by simp [AV.erL, oA_er]) ?_
  rintro ⟨x, ox⟩
  simp only [aR,N0,N1,N2,N3,N4,N5,Z0,Z1,Z2,Z3,Z4,Z5,Z6,Z7,Z8,Z9,Z10,Zc,↓reduceIte,reduceCtorEq, oA]
  refine kA7 (by simp [kB]) rfl ox ?_
  simp only [aR,N0,N1,N2,N3,N4,N5,Z0,Z1,Z2,Z3,Z4,Z5,Z6,Z7,Z8,Z9,Z10,Zc,↓reduceIte,reduceCtorEq, oA]
theorem call_own {Γ : Env} (hf : Γ.get 68 = some ownCon) {σ : AS} {dr : Bool} {x : On} {y : AV} {d : Option Nat} {K : AS → Prop} (hy : y = oA x) (ox : okL x.ops)
    (hk : cont σ d (oA x) K) : kR Tryz.prog Γ dr σ 68 [y] d K := by
  subst hy
  exact qK (C := ownCon) (i := ⟨x, ox⟩) (r := oA x) hf rfl rfl (by simp [AV.erL, oA_er]) (by simp [oA, AV.tagsL, AV.tags]) (fun _ h => h) (by rw [oA_er]; exact hk)
def kAx : On := ⟨0, [], false, false, false, false, 0, []⟩
def getO (id : Int) (l : List On) : On := l.getD (fnd id l) kAx
def hasO (id : Int) (l : List On) : Bool := decide (fnd id l < l.length)
abbrev Ons := { l : List On // l.length ≤ 1099511627776 ∧ ∀ x ∈ l, okL x.ops }
abbrev getCon : Con where
  ι := Ons × Int
  args := fun p => [.sl 0 8 (ones p.1.1), .v (.int .i64 p.2)]
  post := fun p r => r = .tup [oA (getO p.2 p.1.1), .v (.bool (hasO p.2 p.1.1))]
theorem get_good : Rw.Good Tryz.prog 40 getCon := by
  have hΓ : kL Tryz.prog [(44, kA2), (68, ownCon)] := (kE find_good (kE own_good kJ))
  refine kS (nn := 18) hΓ Tryz.func40 (by kernel_rfl) rfl (show Tryz.f40.results.toList = [.cell 4 48, .tmp 5] from rfl) (fun _ => rfl) (fun x => by simp [AV.erL, AV.er, qD]) ?_
  rintro ⟨⟨l, hl, ho⟩, id⟩
  simp only [aR,N0,N1,N2,N3,N4,N5,Z0,Z1,Z2,Z3,Z4,Z5,Z6,Z7,Z8,Z9,Z10,Zc,↓reduceIte,reduceCtorEq, kN]
  refine call_find (by simp [kB]) rfl hl ?_
  by_cases hf : fnd id l < l.length
  · have e1 := qT l hf
    have ox := ho _ (List.getElem_mem hf)
    have eg : getO id l = l[fnd id l] := by simp [getO, List.getD_eq_getElem?_getD, hf]
    have eh : hasO id l = true := by simp [hasO, hf]
    generalize l[fnd id l] = x at *
    simp only [aR,N0,N1,N2,N3,N4,N5,Z0,Z1,Z2,Z3,Z4,Z5,Z6,Z7,Z8,Z9,Z10,Zc,↓reduceIte,reduceCtorEq, oA, fndI, if_pos hf, kN, show ((fnd id l : Nat) : Int) < 0 ↔ False from iff_false_intro (by omega), e1]
    (repeat (with_reducible refine And.intro ?_ ?_; focus (first | omega | exact kG | kernel_rfl)))
    refine call_own (by simp [kB]) rfl ox ?_
    simp only [aR,N0,N1,N2,N3,N4,N5,Z0,Z1,Z2,Z3,Z4,Z5,Z6,Z7,Z8,Z9,Z10,Zc,↓reduceIte,reduceCtorEq, oA, eg, eh]
  · simp only [aR,N0,N1,N2,N3,N4,N5,Z0,Z1,Z2,Z3,Z4,Z5,Z6,Z7,Z8,Z9,Z10,Zc,↓reduceIte,reduceCtorEq, fndI, if_neg hf, kN, List.map_cons, List.map_nil, oA, getO, hasO, List.getD_eq_getElem?_getD, List.getElem?_eq_none (show l.length ≤ fnd id l by omega), Option.getD_none, hf, kAx, qM]
theorem call_get {Γ : Env} (hf : Γ.get 40 = some getCon) {σ : AS} {dr : Bool} {l : List On} {id : Int} {ys : List AV} {d : Option Nat} {K : AS → Prop} (hy : ys = ones l) (hl : l.length ≤ 1099511627776) (ho : ∀ x ∈ l, okL x.ops)
    (hk : cont σ d (.tup [oA (getO id l), .v (.bool (hasO id l))]) K) : kR Tryz.prog Γ dr σ 40 [.sl 0 8 ys, .v (.int .i64 id)] d K := by
  subst hy
  exact qK (C := getCon) (i := (⟨l, hl, ho⟩, id)) (r := .tup [oA (getO id l), .v (.bool (hasO id l))]) hf rfl rfl (by simp [AV.erL, AV.er, qD]) rfl (fun _ h => h) (by simp only [AV.er, AV.erL, oA_er]; exact hk)
def behL (l y : List Cp) : List Cp := if ovE l y = 0 then ovN true l y else l
theorem behL_ok {l y : List Cp} (ol : okL l) (oy : okL y) : okL (behL l y) := by
  unfold behL
  split
  · rename_i h; exact (ov_facts true h ol oy).2.2.2
  · exact ol
abbrev behCon : Con where
  ι := Ed × Ed
  args := fun p => [.sl 0 3 (kU p.1.1), .sl 0 3 (kU p.2.1)]
  post := fun p r => r = .sl 0 3 (kU (behL p.1.1 p.2.1))
theorem beh_good : Rw.Good Tryz.prog 71 behCon := by
  have hΓ : kL Tryz.prog [(70, kBQ)] := (kE over_good kJ)
  refine kS (nn := 17) hΓ Tryz.func71 (by kernel_rfl) rfl (show Tryz.f71.results.toList = [.tmp 4] from rfl) (fun _ => rfl) (fun _ => rfl) ?_
  rintro ⟨⟨a, oa⟩, ⟨b, ob⟩⟩
  simp only [aR,N0,N1,N2,N3,N4,N5,Z0,Z1,Z2,Z3,Z4,Z5,Z6,Z7,Z8,Z9,Z10,Zc,↓reduceIte,reduceCtorEq]
  refine kC9 (by simp [kB]) rfl rfl oa ob ?_
  by_cases he : ovE a b = 0
  · simp only [aR,N0,N1,N2,N3,N4,N5,Z0,Z1,Z2,Z3,Z4,Z5,Z6,Z7,Z8,Z9,Z10,Zc,↓reduceIte,reduceCtorEq, kDo he, res2, behL, he]
  · simp only [aR,N0,N1,N2,N3,N4,N5,Z0,Z1,Z2,Z3,Z4,Z5,Z6,Z7,Z8,Z9,Z10,Zc,↓reduceIte,reduceCtorEq, ovR_err he, res2, he, behL]
theorem call_beh {Γ : Env} (hf : Γ.get 71 = some behCon) {σ : AS} {dr : Bool} {a b : List Cp} {ys zs : List AV} {d : Option Nat} {K : AS → Prop} (hy : ys = kU a) (hz : zs = kU b) (oa : okL a) (ob : okL b)
    (hk : cont σ d (.sl 0 3 (kU (behL a b))) K) : kR Tryz.prog Γ dr σ 71 [.sl 0 3 ys, .sl 0 3 zs] d K := by
  subst hy hz
  exact qK (C := behCon) (i := (⟨a, oa⟩, ⟨b, ob⟩)) (r := .sl 0 3 (kU (behL a b))) hf rfl rfl (by simp [AV.erL, AV.er]) rfl (fun _ h => h) hk
def j8 : On → List Ac → On
  | x, [] => x
  | x, a :: r => j8 (if a.k = 4 ∧ a.id = x.id ∧ x.ops ≠ [] then { x with ops := behL x.ops a.ops } else x) r
theorem overO_ok : ∀ (ac : List Ac) (x : On), okL x.ops → (∀ a ∈ ac, okL a.ops) → okL (j8 x ac).ops
  | [], x, h, _ => h
  | a :: r, x, h, ha => by
    rw [j8]
    refine overO_ok r _ ?_ fun y hy => ha y (List.mem_cons_of_mem _ hy)
    split
    · exact behL_ok h (ha a (List.mem_cons_self ..))
    · exact h
abbrev Acs := { l : List Ac // l.length ≤ 1099511627776 ∧ ∀ a ∈ l, okL a.ops }
abbrev kAD : Con where
  ι := Ons × Acs
  args := fun p => [.sl 0 8 (ones p.1.1), .sl 0 6 (acts p.2.1)]
  post := fun p r => r = .sl 0 8 (ones (p.1.1.map fun x => j8 x p.2.1))
theorem kFU : Rw.Good Tryz.prog 42 kAD := by
  have hΓ : kL Tryz.prog [(68, ownCon), (71, behCon)] := (kE own_good (kE beh_good kJ))
  refine kS (nn := 52) hΓ Tryz.func42 (by kernel_rfl) rfl (show Tryz.f42.results.toList = [.tmp 4] from rfl) (fun _ => rfl) (fun x => by simp [AV.erL, AV.er, qD, qF]) ?_
  rintro ⟨⟨l, hl, ho⟩, ⟨ac, hac, hao⟩⟩
  simp only [aR,N0,N1,N2,N3,N4,N5,Z0,Z1,Z2,Z3,Z4,Z5,Z6,Z7,Z8,Z9,Z10,Zc,↓reduceIte,reduceCtorEq, kN, kM]
  obtain ⟨St, hSt⟩ : ∃ St : { i : Nat // i ≤ l.length } → AS, ∀ i, St i = AS.of 52 [(1, .sl 0 6 (acts ac)), (4, .sl 2 8 (ones ((l.take i.1).map fun x => j8 x ac))), (9, .sl 0 8 (ones l)), (10, .v (.int .i64 l.length)), (11, .v (.int .i64 i.1))] [] [(i.1, 48)] := ⟨_, fun _ => rfl⟩
  refine kX hΓ St (fun i => l.length - i.1) ⟨0, by omega⟩ (by rw [hSt]; refine kH [] [.nil 8] ?_; simp only [aR,N0,N1,N2,N3,N4,N5,Z0,Z1,Z2,Z3,Z4,Z5,Z6,Z7,Z8,Z9,Z10,Zc,↓reduceIte,reduceCtorEq, List.take_zero, List.map_nil, kCL] <;> ((repeat' apply And.intro) <;> first | rfl | omega | trivial)) ?_
  rintro ⟨i, hi⟩
  rw [hSt]
  simp only
  simp only [aR,N0,N1,N2,N3,N4,N5,Z0,Z1,Z2,Z3,Z4,Z5,Z6,Z7,Z8,Z9,Z10,Zc,↓reduceIte,reduceCtorEq, kN]
  (with_reducible first | refine kC (fun h => ?_) (fun h => ?_) | refine kF (fun h => ?_) (fun h => ?_))
  · have hlt : i < l.length := by omega
    have e1 := qT l hlt
    have ox := ho _ (List.getElem_mem hlt)
    have e2 := List.take_succ_eq_append_getElem hlt
    generalize l[i] = x at *
    simp only [aR,N0,N1,N2,N3,N4,N5,Z0,Z1,Z2,Z3,Z4,Z5,Z6,Z7,Z8,Z9,Z10,Zc,↓reduceIte,reduceCtorEq, h, e1, oA, kN]
    (repeat (with_reducible refine And.intro ?_ ?_; focus (first | omega | exact kG | kernel_rfl)))
    refine call_own (by simp [kB]) rfl ox ?_
    simp only [aR,N0,N1,N2,N3,N4,N5,Z0,Z1,Z2,Z3,Z4,Z5,Z6,Z7,Z8,Z9,Z10,Zc,↓reduceIte,reduceCtorEq, oA, kM]
    obtain ⟨Sb, hSb⟩ : ∃ Sb : { p : On × Nat // p.2 ≤ ac.length ∧ okL p.1.ops ∧ j8 p.1 (ac.drop p.2) = j8 x ac } → AS, ∀ p, Sb p = AS.of 52 [(1, .sl 0 6 (acts ac)), (4, .sl 2 8 (ones ((l.take i).map fun x => j8 x ac))), (6, .ptr 0 0), (9, .sl 0 8 (ones l)), (10, .v (.int .i64 l.length)), (11, .v (.int .i64 i)), (17, .sl 0 6 (acts ac)), (18, .v (.int .i64 ac.length)), (19, .v (.int .i64 p.1.2))] [.cells (oA p.1.1).cells] [(i, 48)] := ⟨_, fun _ => rfl⟩
    refine kX hΓ Sb (fun p => ac.length - p.1.2) ⟨(x, 0), by simp, ox, rfl⟩ (by rw [hSb]; refine kH [0] [.live 2] ?_; simp only [aR,N0,N1,N2,N3,N4,N5,Z0,Z1,Z2,Z3,Z4,Z5,Z6,Z7,Z8,Z9,Z10,Zc,↓reduceIte,reduceCtorEq, oA, AV.cells] <;> ((repeat' apply And.intro) <;> first | rfl | omega | trivial)) ?_
    rintro ⟨⟨y, j⟩, hj, oy, hy⟩
    simp only at hj oy hy
    rw [hSb]
    simp only
    simp only [aR,N0,N1,N2,N3,N4,N5,Z0,Z1,Z2,Z3,Z4,Z5,Z6,Z7,Z8,Z9,Z10,Zc,↓reduceIte,reduceCtorEq, oA, AV.cells, kM]
    (with_reducible first | refine kC (fun h2 => ?_) (fun h2 => ?_) | refine kF (fun h2 => ?_) (fun h2 => ?_))
    · have hlt2 : j < ac.length := by omega
      have e3 := qV ac hlt2
      have oa := hao _ (List.getElem_mem hlt2)
      rw [List.drop_eq_getElem_cons hlt2, j8] at hy
      generalize ac[j] = a at *
      by_cases k4 : a.k = 4
      · by_cases k5 : a.id = y.id
        · by_cases k6 : y.ops = []
          · rw [if_neg (fun h => h.2.2 k6)] at hy
            simp only [aR,N0,N1,N2,N3,N4,N5,Z0,Z1,Z2,Z3,Z4,Z5,Z6,Z7,Z8,Z9,Z10,Zc,↓reduceIte,reduceCtorEq, h2, e3, aA, kM, kD, k4, k5, k6, List.length_nil]
            (repeat (with_reducible refine And.intro ?_ ?_; focus (first | omega | exact kG | kernel_rfl)))
            simp only [aR,N0,N1,N2,N3,N4,N5,Z0,Z1,Z2,Z3,Z4,Z5,Z6,Z7,Z8,Z9,Z10,Zc,↓reduceIte,reduceCtorEq, k4, k5, k6, kA (n := (j : Int) + 1) (by omega) (by omega)]
            refine kI ⟨(y, j + 1), by simp only; omega, oy, hy⟩ (by simp only; omega) ?_
            rw [hSb]; refine kH [0] [.live 2] ?_
            simp only [aR,N0,N1,N2,N3,N4,N5,Z0,Z1,Z2,Z3,Z4,Z5,Z6,Z7,Z8,Z9,Z10,Zc,↓reduceIte,reduceCtorEq, oA, AV.cells, k6] <;> ((repeat' apply And.intro) <;> first | rfl | omega | trivial)
          · have k7 : 0 < y.ops.length := List.length_pos_iff.2 k6
            rw [if_pos ⟨k4, k5, k6⟩] at hy
            simp only [aR,N0,N1,N2,N3,N4,N5,Z0,Z1,Z2,Z3,Z4,Z5,Z6,Z7,Z8,Z9,Z10,Zc,↓reduceIte,reduceCtorEq, h2, e3, aA, kM, kD, k4, k5, k7, show ((y.ops.length : Nat) : Int) > 0 ↔ True from iff_true_intro (by omega)]
            (repeat (with_reducible refine And.intro ?_ ?_; focus (first | omega | exact kG | kernel_rfl)))
            refine call_beh (by simp [kB]) rfl rfl oy oa ?_
            simp only [aR,N0,N1,N2,N3,N4,N5,Z0,Z1,Z2,Z3,Z4,Z5,Z6,Z7,Z8,Z9,Z10,Zc,↓reduceIte,reduceCtorEq, k4, k5, kA (n := (j : Int) + 1) (by omega) (by omega)]
            refine kI ⟨({ y with ops := behL y.ops a.ops }, j + 1), by simp only; omega, behL_ok oy oa, hy⟩ (by simp only; omega) ?_
            rw [hSb]; refine kH [0] [.live 2] ?_
            simp only [aR,N0,N1,N2,N3,N4,N5,Z0,Z1,Z2,Z3,Z4,Z5,Z6,Z7,Z8,Z9,Z10,Zc,↓reduceIte,reduceCtorEq, oA, AV.cells] <;> ((repeat' apply And.intro) <;> first | rfl | omega | trivial)
        · rw [if_neg (fun h => k5 h.2.1)] at hy
          simp only [aR,N0,N1,N2,N3,N4,N5,Z0,Z1,Z2,Z3,Z4,Z5,Z6,Z7,Z8,Z9,Z10,Zc,↓reduceIte,reduceCtorEq, h2, e3, aA, kM, kD, k4, k5]
          (repeat (with_reducible refine And.intro ?_ ?_; focus (first | omega | exact kG | kernel_rfl)))
          simp only [aR,N0,N1,N2,N3,N4,N5,Z0,Z1,Z2,Z3,Z4,Z5,Z6,Z7,Z8,Z9,Z10,Zc,↓reduceIte,reduceCtorEq, k4, k5, kA (n := (j : Int) + 1) (by omega) (by omega)]
          refine kI ⟨(y, j + 1), by simp only; omega, oy, hy⟩ (by simp only; omega) ?_
          rw [hSb]; refine kH [0] [.live 2] ?_
          simp only [aR,N0,N1,N2,N3,N4,N5,Z0,Z1,Z2,Z3,Z4,Z5,Z6,Z7,Z8,Z9,Z10,Zc,↓reduceIte,reduceCtorEq, oA, AV.cells] <;> ((repeat' apply And.intro) <;> first | rfl | omega | trivial)
      · rw [if_neg (fun h => k4 h.1)] at hy
        simp only [aR,N0,N1,N2,N3,N4,N5,Z0,Z1,Z2,Z3,Z4,Z5,Z6,Z7,Z8,Z9,Z10,Zc,↓reduceIte,reduceCtorEq, h2, e3, aA, kM, kD, k4]
        (repeat (with_reducible refine And.intro ?_ ?_; focus (first | omega | exact kG | kernel_rfl)))
        simp only [aR,N0,N1,N2,N3,N4,N5,Z0,Z1,Z2,Z3,Z4,Z5,Z6,Z7,Z8,Z9,Z10,Zc,↓reduceIte,reduceCtorEq, k4, kA (n := (j : Int) + 1) (by omega) (by omega)]
        refine kI ⟨(y, j + 1), by simp only; omega, oy, hy⟩ (by simp only; omega) ?_
        rw [hSb]; refine kH [0] [.live 2] ?_
        simp only [aR,N0,N1,N2,N3,N4,N5,Z0,Z1,Z2,Z3,Z4,Z5,Z6,Z7,Z8,Z9,Z10,Zc,↓reduceIte,reduceCtorEq, oA, AV.cells] <;> ((repeat' apply And.intro) <;> first | rfl | omega | trivial)
    · rw [List.drop_of_length_le (by omega), j8] at hy
      have e4 : ones ((l.take (i + 1)).map fun x => j8 x ac) = ones ((l.take i).map fun x => j8 x ac) ++ [oA y] := by rw [e2, List.map_append, List.map_cons, List.map_nil, ← hy]; simp [ones]
      simp only [oA] at e4
      simp only [aR,N0,N1,N2,N3,N4,N5,Z0,Z1,Z2,Z3,Z4,Z5,Z6,Z7,Z8,Z9,Z10,Zc,↓reduceIte,reduceCtorEq, h2, oA, kN, List.length_map, List.length_take, show min i l.length = i by omega, kA (n := (i : Int) + 1) (by omega) (by omega)]
      (repeat (with_reducible refine And.intro ?_ ?_; focus (first | omega | exact kG | kernel_rfl)))
      refine kI ⟨i + 1, by omega⟩ (by simp only; omega) ?_
      rw [hSt]; refine kH [] [.live 2] ?_
      rw [e4]
      simp only [aR,N0,N1,N2,N3,N4,N5,Z0,Z1,Z2,Z3,Z4,Z5,Z6,Z7,Z8,Z9,Z10,Zc,↓reduceIte,reduceCtorEq, List.length_append, List.length_cons, List.length_nil, kN, List.length_map, List.length_take, show min i l.length = i by omega] <;> ((repeat' apply And.intro) <;> first | rfl | omega | trivial)
  · have e5 : l.take i = l := List.take_of_length_le (by omega)
    rw [e5]
    simp only [aR,N0,N1,N2,N3,N4,N5,Z0,Z1,Z2,Z3,Z4,Z5,Z6,Z7,Z8,Z9,Z10,Zc,↓reduceIte,reduceCtorEq, h]
end Go.Proofs
end
