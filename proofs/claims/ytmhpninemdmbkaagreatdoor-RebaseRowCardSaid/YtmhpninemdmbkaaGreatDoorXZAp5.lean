/-
  Edits undone, by the program; both, by the document.
-/
import Derived.Test.YtmhpninemdmbkaaGreatDoorXZAp0
set_option linter.unusedSimpArgs false
set_option linter.unusedVariables false
set_option linter.defProp false

-- ZAp5
section
namespace Go.Proofs
open Go Go.Rw
open _root_.Nat renaming reduceAdd → N0, reduceSub → N1, reduceMul → N2, reduceLT → N3, reduceLeDiff → N4, reduceEqDiff → N5
open _root_.Int renaming reduceNeg → Z0, reduceAdd → Z1, reduceSub → Z2, reduceMul → Z3, reduceGT → Z4, reduceGE → Z5, reduceLT → Z6, reduceLE → Z7, reduceEq → Z8, reduceNe → Z9, reduceToNat → Z10, cast_ofNat_Int → Zc
set_option maxRecDepth 100000
set_option linter.unusedSimpArgs false
set_option linter.unusedVariables false

/-- What comes of an edit, from a part on. -/
abbrev RDo (cs : List Nat) (l : List Cp) := { p : List UInt8 × Nat × Nat // p.2.2 ≤ l.length ∧ fit (cs.drop p.2.1) (l.drop p.2.2) ∧ p.2.1 ≤ cs.length ∧ p.1 ++ encs (doL (cs.drop p.2.1) (l.drop p.2.2)) = encs (doL cs l) }
theorem rdo_good : Rw.Good Tryz.prog 62 doCon := by
  have hΓ : kL Tryz.prog [(58, jW), (34, jV), (35, kA4), (77, kAU), (85, kBx)] := (kD kDr (kD kDy (kD kBk (kD kEq (kD rslice_good kJ)))))
  refine kR (nn := 74) hΓ Tryz.func62 (by kernel_rfl) rfl (show Tryz.f62.results.toList = [.tmp 4, .tmp 5] from rfl) (fun _ => rfl) (fun _ => rfl) ?_
  rintro ⟨⟨s, hs⟩, ⟨l, hl⟩⟩
  have e0 : ∀ e, errI s l = e → e ≠ 0 → doR s l = res2 (.v (sv [])) e := fun e h h2 => by unfold doR zQ; rw [h, if_neg h2]
  simp only [aR,N0,N1,N2,N3,N4,N5,Z0,Z1,Z2,Z3,Z4,Z5,Z6,Z7,Z8,Z9,Z10,Zc,↓reduceIte,reduceCtorEq]
  refine kED (by simp [kC]) rfl hl ?_
  by_cases hc : kX l = 0
  · simp only [aR,N0,N1,N2,N3,N4,N5,Z0,Z1,Z2,Z3,Z4,Z5,Z6,Z7,Z8,Z9,Z10,Zc,↓reduceIte,reduceCtorEq, hc]
    refine kBu (by simp [kC]) hs ?_
    rcases kAc (pts s) with hp | ⟨cs, hp⟩
    · have he : errI s l = 2 := by unfold errI; rw [if_pos hc, hp]
      simp only [aR,N0,N1,N2,N3,N4,N5,Z0,Z1,Z2,Z3,Z4,Z5,Z6,Z7,Z8,Z9,Z10,Zc,↓reduceIte,reduceCtorEq, hp, Option.isSome_none]
      rw [e0 2 he (by decide)]; rfl
    · simp only [aR,N0,N1,N2,N3,N4,N5,Z0,Z1,Z2,Z3,Z4,Z5,Z6,Z7,Z8,Z9,Z10,Zc,↓reduceIte,reduceCtorEq, hp, Option.isSome_some]
      refine kBo (by simp [kC]) hs ?_
      simp only [aR,N0,N1,N2,N3,N4,N5,Z0,Z1,Z2,Z3,Z4,Z5,Z6,Z7,Z8,Z9,Z10,Zc,↓reduceIte,reduceCtorEq, cnt, hp]
      refine kFI (by simp [kC]) rfl hl ?_
      by_cases hb : (cs.length : Int) = zH l
      · have he : errI s l = 0 := by unfold errI; rw [if_pos hc, hp]; simp only; rw [if_pos hb]
        have hfit := fit_check hc hb
        obtain ⟨hok, hse⟩ := zV hp
        have hcl := kBH hp
        have hcc := zB hc
        have hen := kEX (cs := doL cs l)
        have hou := out_do l cs 0 (by omega) hfit hcc.2.2.2.2.2
        have ho2 : outL l = outF 0 l := rfl
        simp only [aR,N0,N1,N2,N3,N4,N5,Z0,Z1,Z2,Z3,Z4,Z5,Z6,Z7,Z8,Z9,Z10,Zc,↓reduceIte,reduceCtorEq, hb, kF]
        obtain ⟨St, hSt⟩ : ∃ St : RDo cs l → AS, ∀ p, St p = AS.of 74 [(0, .v (sv s)), (1, .sl 0 3 (kN l)), (7, .v (sv p.1.1)), (8, .v (.int .i64 p.1.2.1)), (9, .v (.int .i64 p.1.2.2))] [] [] := ⟨_, fun _ => rfl⟩
        refine kZ hΓ St (fun p => l.length - p.1.2.2) ⟨([], 0, 0), by simp, by simpa using hfit, by simp, by simp⟩ (by rw [hSt]; refine kH [] [] ?_; simp only [aR,N0,N1,N2,N3,N4,N5,Z0,Z1,Z2,Z3,Z4,Z5,Z6,Z7,Z8,Z9,Z10,Zc,↓reduceIte,reduceCtorEq] <;> ((repeat' apply And.intro) <;> first | rfl | omega | trivial)) ?_
        rintro ⟨⟨out, a, i⟩, hi, hf, ha, ho⟩
        simp only at hi hf ha ho
        have hle : out.length ≤ 8000 := by
          have := congrArg List.length ho
          rw [List.length_append] at this
          omega
        rw [hSt]
        simp only
        simp only [aR,N0,N1,N2,N3,N4,N5,Z0,Z1,Z2,Z3,Z4,Z5,Z6,Z7,Z8,Z9,Z10,Zc,↓reduceIte,reduceCtorEq, kF]
        (with_reducible first | refine kB (fun h => ?_) (fun h => ?_) | refine kE (fun h => ?_) (fun h => ?_))
        · have hlt : i < l.length := by omega
          have e1 := qC l hlt
          have hct := okL.text hl (List.getElem_mem hlt)
          rw [List.drop_eq_getElem_cons hlt] at hf ho
          obtain ⟨hso, hn0, hnl, hf2⟩ := fit_cons hf
          have hso2 := kA6 hso
          have hcs := qD hso
          rw [List.drop_drop] at hf2
          rw [List.length_drop] at hnl
          have d1 := fun h => do_ins (cs := cs.drop a) (r := l.drop (i + 1)) hso2 h
          have d2 := fun h => do_del (cs := cs.drop a) (r := l.drop (i + 1)) hso2 h
          have d3 := fun h h' => kFF (cs := cs.drop a) (r := l.drop (i + 1)) hso2 h h'
          generalize l[i] = c at *
          obtain ⟨k, n, t⟩ := c
          simp only at *
          have again : ∀ (σ : AS) (out2 : List UInt8) (a2 : Nat), Weak σ (AS.of 74 [(0, .v (sv s)), (1, .sl 0 3 (kN l)), (7, .v (sv out2)), (8, .v (.int .i64 a2)), (9, .v (.int .i64 (i + 1 : Nat)))] [] []) → fit (cs.drop a2) (l.drop (i + 1)) → a2 ≤ cs.length → out2 ++ encs (doL (cs.drop a2) (l.drop (i + 1))) = encs (doL cs l) → ∃ y : RDo cs l, l.length - y.1.2.2 < l.length - i ∧ Weak σ (St y) := fun σ o2 a2 hw h1 h2 h3 =>
            ⟨⟨(o2, a2, i + 1), by simp only; omega, h1, h2, h3⟩, by simp only; omega, by rw [hSt]; exact hw⟩
          simp (disch := omega) only [aR,N0,N1,N2,N3,N4,N5,Z0,Z1,Z2,Z3,Z4,Z5,Z6,Z7,Z8,Z9,Z10,Zc,↓reduceIte,reduceCtorEq, kA, h, e1, kF]
          (repeat (with_reducible refine And.intro ?_ ?_; focus (first | omega | exact kG | kernel_rfl)))
          (with_reducible first | refine kB (fun h1 => ?_) (fun h1 => ?_) | refine kE (fun h1 => ?_) (fun h1 => ?_))
          · subst h1
            rw [d3 (by decide) (by decide), List.drop_drop] at ho
            have hab : 0 ≤ (a : Int) ∧ (a : Int) ≤ (a : Int) + n ∧ (a : Int) + n ≤ (cs.length : Int) := by omega
            have hsl : ((a : Int) + n).toNat - a = n.toNat := by omega
            have hlen4 := kEX (cs := (cs.drop a).take n.toNat)
            rw [List.length_take] at hlen4
            simp (disch := omega) only [aR,N0,N1,N2,N3,N4,N5,Z0,Z1,Z2,Z3,Z4,Z5,Z6,Z7,Z8,Z9,Z10,Zc,↓reduceIte,reduceCtorEq, kA, e1, kF]
            (repeat (with_reducible refine And.intro ?_ ?_; focus (first | omega | exact kG | kernel_rfl)))
            subst hse
            refine call_rslice (by simp [kC]) hok hs hab ?_
            simp (disch := omega) only [aR,N0,N1,N2,N3,N4,N5,Z0,Z1,Z2,Z3,Z4,Z5,Z6,Z7,Z8,Z9,Z10,Zc,↓reduceIte,reduceCtorEq, kA, hsl, e1, kF]
            (repeat (with_reducible refine And.intro ?_ ?_; focus (first | omega | exact kG | kernel_rfl)))
            refine again _ (out ++ encs ((cs.drop a).take n.toNat)) (a + n.toNat) ?_ hf2 (by omega) (by rw [← ho, zW, List.append_assoc])
            refine kH [] [] ?_
            simp only [aR,N0,N1,N2,N3,N4,N5,Z0,Z1,Z2,Z3,Z4,Z5,Z6,Z7,Z8,Z9,Z10,Zc,↓reduceIte,reduceCtorEq] <;> ((repeat' apply And.intro) <;> first | rfl | omega | trivial)
          · simp (disch := omega) only [aR,N0,N1,N2,N3,N4,N5,Z0,Z1,Z2,Z3,Z4,Z5,Z6,Z7,Z8,Z9,Z10,Zc,↓reduceIte,reduceCtorEq, kA, h1]
            (with_reducible first | refine kB (fun h2 => ?_) (fun h2 => ?_) | refine kE (fun h2 => ?_) (fun h2 => ?_))
            · subst h2
              rw [d1 rfl] at ho
              rcases hcs with ⟨_, hz, _, hv⟩ | ⟨h13, _⟩
              · subst hz
                simp (disch := omega) only [aR,N0,N1,N2,N3,N4,N5,Z0,Z1,Z2,Z3,Z4,Z5,Z6,Z7,Z8,Z9,Z10,Zc,↓reduceIte,reduceCtorEq, kA, e1, kF]
                (repeat (with_reducible refine And.intro ?_ ?_; focus (first | omega | exact kG | kernel_rfl)))
                refine again _ (out ++ t) a ?_ (by simpa using hf2) ha (by rw [← ho, zW, List.append_assoc, (jJ hv).1])
                refine kH [] [] ?_
                simp only [aR,N0,N1,N2,N3,N4,N5,Z0,Z1,Z2,Z3,Z4,Z5,Z6,Z7,Z8,Z9,Z10,Zc,↓reduceIte,reduceCtorEq] <;> ((repeat' apply And.intro) <;> first | rfl | omega | trivial)
              · omega
            · simp (disch := omega) only [aR,N0,N1,N2,N3,N4,N5,Z0,Z1,Z2,Z3,Z4,Z5,Z6,Z7,Z8,Z9,Z10,Zc,↓reduceIte,reduceCtorEq, kA, h2]
              have h3 : k = 3 := by omega
              subst h3
              rw [d2 rfl, List.drop_drop] at ho
              simp (disch := omega) only [aR,N0,N1,N2,N3,N4,N5,Z0,Z1,Z2,Z3,Z4,Z5,Z6,Z7,Z8,Z9,Z10,Zc,↓reduceIte,reduceCtorEq, kA, e1, kF]
              (repeat (with_reducible refine And.intro ?_ ?_; focus (first | omega | exact kG | kernel_rfl)))
              refine again _ out (a + n.toNat) ?_ hf2 (by omega) ho
              refine kH [] [] ?_
              simp only [aR,N0,N1,N2,N3,N4,N5,Z0,Z1,Z2,Z3,Z4,Z5,Z6,Z7,Z8,Z9,Z10,Zc,↓reduceIte,reduceCtorEq] <;> ((repeat' apply And.intro) <;> first | rfl | omega | trivial)
        · have hin : i = l.length := by omega
          simp only [aR,N0,N1,N2,N3,N4,N5,Z0,Z1,Z2,Z3,Z4,Z5,Z6,Z7,Z8,Z9,Z10,Zc,↓reduceIte,reduceCtorEq, h]
          rw [hin, List.drop_length, doL, kAT, List.append_nil] at ho
          unfold doR zQ
          rw [he, if_pos rfl, hcl, ho]; rfl
      · have he : errI s l = 11 := by unfold errI; rw [if_pos hc, hp]; simp only; rw [if_neg hb]
        simp only [aR,N0,N1,N2,N3,N4,N5,Z0,Z1,Z2,Z3,Z4,Z5,Z6,Z7,Z8,Z9,Z10,Zc,↓reduceIte,reduceCtorEq, hb]
        rw [e0 11 he (by decide)]; rfl
  · have he : errI s l = kX l := by unfold errI; rw [if_neg hc]
    simp only [aR,N0,N1,N2,N3,N4,N5,Z0,Z1,Z2,Z3,Z4,Z5,Z6,Z7,Z8,Z9,Z10,Zc,↓reduceIte,reduceCtorEq, hc]
    rw [e0 _ he hc]; rfl
end Go.Proofs
end
