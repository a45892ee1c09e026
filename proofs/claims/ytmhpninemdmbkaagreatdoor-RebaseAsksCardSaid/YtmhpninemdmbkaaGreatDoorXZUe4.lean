/-
  The order of what was done: by ID. effect.Of, up to the sort.
-/
import Derived.Test.YtmhpninemdmbkaaGreatDoorXZUeL
import Derived.Test.YtmhpninemdmbkaaGreatDoorRwK
import Derived.Test.YtmhpninemdmbkaaGreatDoorXZUe5
set_option linter.unusedSimpArgs false
set_option linter.unusedVariables false
set_option linter.defProp false

-- ZUe4
section
namespace Go.Proofs
open Go Go.Shelf Go.RowKit Go.Lib Go.Sort
set_option maxRecDepth 100000
theorem list8 {x : List Value} (h : x.length = 8) : ∃ a b c d e f g i, x = [a, b, c, d, e, f, g, i] := by
  match x, h with
  | [a, b, c, d, e, f, g, i], _ => exact ⟨a, b, c, d, e, f, g, i, rfl⟩
set_option maxHeartbeats 1000000 in
theorem of_cmp : Rw.CmpFirst Tryz.prog 47 8 := by
  intro x y a b W hx hy ox oy ha hb
  obtain ⟨x0, x1, x2, x3, x4, x5, x6, x7, rfl⟩ := list8 hx
  obtain ⟨y0, y1, y2, y3, y4, y5, y6, y7, rfl⟩ := list8 hy
  simp only [List.getD_cons_zero] at ha hb
  subst ha hb
  simp only [List.mem_cons, List.not_mem_nil, or_false, forall_eq_or_imp, forall_eq] at ox oy
  obtain ⟨p0, p1, p2, p3, p4, p5, p6, p7⟩ := ox
  obtain ⟨q0, q1, q2, q3, q4, q5, q6, q7⟩ := oy
  have hcon := fun W' => AnyG.cmp_Compare_int Tryz.cmpInt a b W'
  change ∀ W', Calls Tryz.prog 48 _ _ _ at hcon
  generalize Lib.compareInt a b = r at hcon ⊢
  clear hx hy p0 q0
  go_enter Tryz.func47, Tryz.ntmps47
  go_wp2_with (go_at_call 48; refine (hcon _).mono ?_; rintro e w' ⟨rfl, rfl⟩)
  go_ret
  exact ⟨rfl, 0, _, by rw [alloc_eq_grow, alloc_eq_grow, grow_grow]; rfl⟩
end Go.Proofs
end
-- ZUe3
section
namespace Go.Proofs
open Go Go.Rw
open _root_.Nat renaming reduceAdd → N0, reduceSub → N1, reduceMul → N2, reduceLT → N3, reduceLeDiff → N4, reduceEqDiff → N5
open _root_.Int renaming reduceNeg → Z0, reduceAdd → Z1, reduceSub → Z2, reduceMul → Z3, reduceGT → Z4, reduceGE → Z5, reduceLT → Z6, reduceLE → Z7, reduceEq → Z8, reduceNe → Z9, reduceToNat → Z10, cast_ofNat_Int → Zc
set_option maxRecDepth 100000
theorem call_find {Γ : Env} (hf : Γ.get 44 = some kA2) {σ : AS} {dr : Bool} {l : Nat} {xs : List On} {id : Int} {ys : List AV} {d : Option Nat} {K : AS → Prop} (hy : ys = ones xs) (hl : xs.length ≤ 1099511627776)
    (hk : cont σ d (.v (.int .i64 (fndI id xs))) K) : kR Tryz.prog Γ dr σ 44 [.sl l 8 ys, .v (.int .i64 id)] d K := by
  subst hy
  exact kK (C := kA2) (i := (⟨xs, hl⟩, id)) hf rfl rfl rfl (by simp [AV.erL, AV.er]) (fun _ h => h) rfl hk
theorem kFN (f : On → On) : ∀ (l : List On) {i : Nat} (h : i < l.length), l.modify i f = l.set i (f l[i])
  | x :: l, 0, _ => rfl
  | x :: l, i + 1, h => by simp [kFN f l (i := i) (by simpa using h)]
abbrev kBI : Con where
  ι := { l : List Ac // l.length ≤ 1099511627776 ∧ ∀ a ∈ l, okL a.ops }
  args := fun l => [.sl 0 6 (acts l.1)]
  post := fun l r => r = .sl 0 8 (ones (effL l.1))
theorem eff_good : Rw.Good Tryz.prog 15 kBI := by
  have hΓ : kL Tryz.prog [(44, kA2), (69, kAG)] := (kE find_good (kE kA9 kJ))
  refine kS (nn := 38) hΓ Tryz.func15 (by kernel_rfl) rfl (show Tryz.f15.results.toList = [.tmp 2] from rfl) (fun _ => rfl) (fun _ => rfl) ?_
  rintro ⟨l, hl, ho⟩
  simp only [aR,N0,N1,N2,N3,N4,N5,Z0,Z1,Z2,Z3,Z4,Z5,Z6,Z7,Z8,Z9,Z10,Zc,↓reduceIte,reduceCtorEq, kM]
  obtain ⟨St, hSt⟩ : ∃ St : { p : List On × Nat // p.2 ≤ l.length ∧ p.1.length ≤ p.2 ∧ effS p.1 (l.drop p.2) = effS [] l } → AS, ∀ p, St p = AS.of 38 [(0, .sl 0 6 (acts l)), (2, .sl 2 8 (ones p.1.1)), (4, .v (.int .i64 p.1.2)), (5, .ptr 0 0)] [.cells [.any, .any, .any, .any, .any, .any]] [(p.1.1.length, 48)] := ⟨_, fun _ => rfl⟩
  refine vc_labD [(10, [], [4])] hΓ 1 St (fun p => l.length - p.1.2) 1 rfl rfl ?_ ?_
  · rintro ⟨⟨out, i⟩, hi, hout, hs⟩
    simp only at hi hout hs
    rw [hSt]
    simp only
    simp only [aR,N0,N1,N2,N3,N4,N5,Z0,Z1,Z2,Z3,Z4,Z5,Z6,Z7,Z8,Z9,Z10,Zc,↓reduceIte,reduceCtorEq, kP, kM, kN]
    by_cases h : (i : Int) = l.length
    · rw [List.drop_of_length_le (by omega), effS] at hs
      have hnd : (out.map On.id).Nodup := by rw [hs]; exact kBc l [] (by simp)
      simp only [aR,N0,N1,N2,N3,N4,N5,Z0,Z1,Z2,Z3,Z4,Z5,Z6,Z7,Z8,Z9,Z10,Zc,↓reduceIte,reduceCtorEq, kP, h]
      refine ⟨_, rfl, ?_⟩
      simp only [aR,N0,N1,N2,N3,N4,N5,Z0,Z1,Z2,Z3,Z4,Z5,Z6,Z7,Z8,Z9,Z10,Zc,↓reduceIte,reduceCtorEq, kP, List.map_cons, List.map_nil]
      refine vcCall_raw (by simp [kB, kQ]) (sort_raw (ρ := Tryz.sortOne_ren) (kx := kO) Tryz.sortOne (by omega) Tryz.isAgg48 Tryz.sizeOf48 (enters_of Tryz.func47 (by kernel_rfl) rfl) of_cmp ⟨_, Tryz.func46, by kernel_rfl, rfl⟩ (by omega) (by rw [kN]; omega) (e := 48) (by rw [kN]; rfl) rfl ?_ ?_ ?_ ?_)
      · intro z hz
        obtain ⟨x, _, rfl⟩ := List.mem_map.1 hz
        exact ⟨rfl, oA_er x⟩
      · intro z hz
        obtain ⟨x, _, rfl⟩ := List.mem_map.1 hz
        rfl
      · intro h0
        have : out = [] := List.map_eq_nil_iff.1 h0
        subst this
        simp only [aR,N0,N1,N2,N3,N4,N5,Z0,Z1,Z2,Z3,Z4,Z5,Z6,Z7,Z8,Z9,Z10,Zc,↓reduceIte,reduceCtorEq, kP, kCL]
        rw [effL, ← hs]; simp [ones]
      · intro zs hp hz
        have := sorted_one hnd hp hz
        subst this
        simp only [aR,N0,N1,N2,N3,N4,N5,Z0,Z1,Z2,Z3,Z4,Z5,Z6,Z7,Z8,Z9,Z10,Zc,↓reduceIte,reduceCtorEq, kP, kN]
        rw [effL, ← hs]
    · have hlt : i < l.length := by omega
      have e1 := qV l hlt
      have oa := ho _ (List.getElem_mem hlt)
      rw [List.drop_eq_getElem_cons hlt, effS] at hs
      generalize l[i] = a at *
      simp only [aR,N0,N1,N2,N3,N4,N5,Z0,Z1,Z2,Z3,Z4,Z5,Z6,Z7,Z8,Z9,Z10,Zc,↓reduceIte,reduceCtorEq, kP, h, e1, aA, kM, kA (n := (i : Int) + 1) (by omega) (by omega)]
      (repeat (with_reducible refine And.intro ?_ ?_; focus (first | omega | exact kG | kernel_rfl)))
      refine call_find (by simp [kB]) rfl (by omega) ?_
      by_cases hf : fnd a.id out < out.length
      · rw [if_pos hf, kFN _ _ hf] at hs
        simp only [aR,N0,N1,N2,N3,N4,N5,Z0,Z1,Z2,Z3,Z4,Z5,Z6,Z7,Z8,Z9,Z10,Zc,↓reduceIte,reduceCtorEq, kP, fndI, if_pos hf, kN, show ((fnd a.id out : Nat) : Int) < 0 ↔ False from iff_false_intro (by omega)]
        (repeat (with_reducible refine And.intro ?_ ?_; focus (first | omega | exact kG | kernel_rfl)))
        have hml : (out.set (fnd a.id out) (addA out[fnd a.id out] a)).length = out.length := List.length_set
        refine call_adds hΓ (by simp [kB, kQ]) (by simp [kB]) hf rfl rfl (by decide) oa ?_ (fun hx => ?_)
        · simp only [aR,N0,N1,N2,N3,N4,N5,Z0,Z1,Z2,Z3,Z4,Z5,Z6,Z7,Z8,Z9,Z10,Zc,↓reduceIte,reduceCtorEq, kP, kN]
          refine kI ⟨(out.set (fnd a.id out) (addA out[fnd a.id out] a), i + 1), by simp only; omega, by simp only; omega, hs⟩ (by simp only; omega) ?_
          rw [hSt]
          refine kH [0] [.live 2] ?_
          simp only [aR,N0,N1,N2,N3,N4,N5,Z0,Z1,Z2,Z3,Z4,Z5,Z6,Z7,Z8,Z9,Z10,Zc,↓reduceIte,reduceCtorEq, kN, hml] <;> ((repeat' apply And.intro) <;> first | rfl | omega | trivial)
        · rw [hx, List.set_getElem_self] at hs
          simp only [aR,N0,N1,N2,N3,N4,N5,Z0,Z1,Z2,Z3,Z4,Z5,Z6,Z7,Z8,Z9,Z10,Zc,↓reduceIte,reduceCtorEq, kP, kN]
          refine kI ⟨(out, i + 1), by simp only; omega, by simp only; omega, hs⟩ (by simp only; omega) ?_
          rw [hSt]
          refine kH [0] [.live 2] ?_
          simp only [aR,N0,N1,N2,N3,N4,N5,Z0,Z1,Z2,Z3,Z4,Z5,Z6,Z7,Z8,Z9,Z10,Zc,↓reduceIte,reduceCtorEq, kN, hml] <;> ((repeat' apply And.intro) <;> first | rfl | omega | trivial)
      · rw [if_neg hf] at hs
        simp only [aR,N0,N1,N2,N3,N4,N5,Z0,Z1,Z2,Z3,Z4,Z5,Z6,Z7,Z8,Z9,Z10,Zc,↓reduceIte,reduceCtorEq, kP, fndI, if_neg hf, kN, List.map_cons, List.map_nil]
        (repeat (with_reducible refine And.intro ?_ ?_; focus (first | omega | exact kG | kernel_rfl)))
        have e2 : ones out ++ [AV.agg [AV.v (Value.int IntKind.i64 a.id), AV.sl 0 3 [], AV.v (Value.bool false), AV.v (Value.bool false), AV.v (Value.bool false), AV.v (Value.bool false), AV.v (Value.int IntKind.i64 0), AV.v (sv [])]] = ones (out ++ [⟨a.id, [], false, false, false, false, 0, []⟩]) := by simp [ones, oA, kU]
        simp only [aR,N0,N1,N2,N3,N4,N5,Z0,Z1,Z2,Z3,Z4,Z5,Z6,Z7,Z8,Z9,Z10,Zc,↓reduceIte,reduceCtorEq, kP, e2, kN, List.length_append, List.length_cons, List.length_nil]
        (repeat (with_reducible refine And.intro ?_ ?_; focus (first | omega | exact kG | kernel_rfl)))
        have hlast : (out ++ [(⟨a.id, [], false, false, false, false, 0, []⟩ : On)])[out.length]'(by simp) = ⟨a.id, [], false, false, false, false, 0, []⟩ := by simp
        refine call_adds hΓ (by simp [kB, kQ]) (by simp [kB]) (by simp) hlast (by simp) (by decide) oa ?_ (fun hx => ?_)
        · have e3 : (out ++ [(⟨a.id, [], false, false, false, false, 0, []⟩ : On)]).set out.length (addA ⟨a.id, [], false, false, false, false, 0, []⟩ a) = out ++ [addA ⟨a.id, [], false, false, false, false, 0, []⟩ a] := by
            rw [List.set_append_right _ _ (Nat.le_refl _)]; simp
          simp only [aR,N0,N1,N2,N3,N4,N5,Z0,Z1,Z2,Z3,Z4,Z5,Z6,Z7,Z8,Z9,Z10,Zc,↓reduceIte,reduceCtorEq, kP, kN, e3, List.length_append, List.length_cons, List.length_nil]
          refine kI ⟨(out ++ [addA ⟨a.id, [], false, false, false, false, 0, []⟩ a], i + 1), by simp only; omega, by simp only [List.length_append, List.length_cons, List.length_nil]; omega, hs⟩ (by simp only; omega) ?_
          rw [hSt]
          refine kH [0] [.live 2] ?_
          simp only [aR,N0,N1,N2,N3,N4,N5,Z0,Z1,Z2,Z3,Z4,Z5,Z6,Z7,Z8,Z9,Z10,Zc,↓reduceIte,reduceCtorEq, kN, List.length_append, List.length_cons, List.length_nil] <;> ((repeat' apply And.intro) <;> first | rfl | omega | trivial)
        · rw [hx] at hs
          simp only [aR,N0,N1,N2,N3,N4,N5,Z0,Z1,Z2,Z3,Z4,Z5,Z6,Z7,Z8,Z9,Z10,Zc,↓reduceIte,reduceCtorEq, kP, kN, List.length_append, List.length_cons, List.length_nil]
          refine kI ⟨(out ++ [⟨a.id, [], false, false, false, false, 0, []⟩], i + 1), by simp only; omega, by simp only [List.length_append, List.length_cons, List.length_nil]; omega, hs⟩ (by simp only; omega) ?_
          rw [hSt]
          refine kH [0] [.live 2] ?_
          simp only [aR,N0,N1,N2,N3,N4,N5,Z0,Z1,Z2,Z3,Z4,Z5,Z6,Z7,Z8,Z9,Z10,Zc,↓reduceIte,reduceCtorEq, kN, List.length_append, List.length_cons, List.length_nil] <;> ((repeat' apply And.intro) <;> first | rfl | omega | trivial)
  · simp only [aR,N0,N1,N2,N3,N4,N5,Z0,Z1,Z2,Z3,Z4,Z5,Z6,Z7,Z8,Z9,Z10,Zc,↓reduceIte,reduceCtorEq, kM]
    refine ⟨⟨([], 0), by simp, by simp, rfl⟩, ?_⟩
    rw [hSt]
    refine kH [0] [.nil 8] ?_
    simp only [aR,N0,N1,N2,N3,N4,N5,Z0,Z1,Z2,Z3,Z4,Z5,Z6,Z7,Z8,Z9,Z10,Zc,↓reduceIte,reduceCtorEq] <;> ((repeat' apply And.intro) <;> first | rfl | omega | trivial)
end Go.Proofs
end
