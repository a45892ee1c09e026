/-
  The document's Over.
-/
import Derived.Test.YtmhpninemdmbkaaGreatDoorXZAx1
set_option linter.unusedSimpArgs false
set_option linter.unusedVariables false
set_option linter.defProp false

-- ZAx3
section
namespace Go.Proofs
open Go Go.Rw
open _root_.Nat renaming reduceAdd → N0, reduceSub → N1, reduceMul → N2, reduceLT → N3, reduceLeDiff → N4, reduceEqDiff → N5
open _root_.Int renaming reduceNeg → Z0, reduceAdd → Z1, reduceSub → Z2, reduceMul → Z3, reduceGT → Z4, reduceGE → Z5, reduceLT → Z6, reduceLE → Z7, reduceEq → Z8, reduceNe → Z9, reduceToNat → Z10, cast_ofNat_Int → Zc
set_option maxRecDepth 100000
abbrev RV (fi : Bool) (a b raw : List Cp) := { p : List Cp × (Nat × Nat) × (Nat × Nat) × Nat // (p.2.1.1 ≤ a.length ∧ p.2.2.1.1 ≤ b.length) ∧ WOK (a.drop p.2.1.1, p.2.1.2) ∧ WOK (b.drop p.2.2.1.1, p.2.2.1.2) ∧ (wU (a.drop p.2.1.1, p.2.1.2)).length + (wU (b.drop p.2.2.1.1, p.2.2.1.2)).length ≤ p.2.2.2 ∧ p.1.length + p.2.2.2 ≤ 10000 ∧ p.1 ++ zW fi p.2.2.2 (a.drop p.2.1.1, p.2.1.2) (b.drop p.2.2.1.1, p.2.2.1.2) = raw ∧ bU (wU (a.drop p.2.1.1, p.2.1.2)) = bU (wU (b.drop p.2.2.1.1, p.2.2.1.2)) }
theorem kF1 : Rw.Good Tryz.prog 52 kBQ := by
  have hΓ : kL Tryz.prog [(58, jX), (77, kA4), (81, kCh), (35, j7), (85, kBT)] := (kE kET (kE kFF (kE rnorm_good (kE kEG (kE rslice_good kJ)))))
  refine kS (nn := 96) hΓ Tryz.func52 (by kernel_rfl) rfl (show Tryz.f52.results.toList = [.tmp 6, .tmp 7] from rfl) (fun _ => rfl) (fun _ => rfl) ?_
  rintro ⟨⟨a, oa⟩, ⟨b, ob⟩, fi⟩
  simp only [aR,N0,N1,N2,N3,N4,N5,Z0,Z1,Z2,Z3,Z4,Z5,Z6,Z7,Z8,Z9,Z10,Zc,↓reduceIte,reduceCtorEq, kD]
  generalize hF : (unL a).length + (unL b).length = F
  generalize hraw : zW fi F (a, 0) (b, 0) = raw
  refine kBz (by simp [kB]) rfl oa ?_
  by_cases d1 : qI a = 0
  case neg =>
    simp only [aR,N0,N1,N2,N3,N4,N5,Z0,Z1,Z2,Z3,Z4,Z5,Z6,Z7,Z8,Z9,Z10,Zc,↓reduceIte,reduceCtorEq, d1]
    have he : ovE a b = qI a := by unfold ovE; rw [if_neg d1]
    unfold ovR
    rw [he, if_neg d1]; rfl
  simp only [aR,N0,N1,N2,N3,N4,N5,Z0,Z1,Z2,Z3,Z4,Z5,Z6,Z7,Z8,Z9,Z10,Zc,↓reduceIte,reduceCtorEq, d1]
  refine kBz (by simp [kB]) rfl ob ?_
  by_cases d2 : qI b = 0
  case neg =>
    simp only [aR,N0,N1,N2,N3,N4,N5,Z0,Z1,Z2,Z3,Z4,Z5,Z6,Z7,Z8,Z9,Z10,Zc,↓reduceIte,reduceCtorEq, d2]
    have he : ovE a b = qI b := by unfold ovE; rw [if_pos d1, if_neg d2]
    unfold ovR
    rw [he, if_neg d2]; rfl
  simp only [aR,N0,N1,N2,N3,N4,N5,Z0,Z1,Z2,Z3,Z4,Z5,Z6,Z7,Z8,Z9,Z10,Zc,↓reduceIte,reduceCtorEq, d2]
  refine kCw (by simp [kB]) rfl oa ?_
  simp only [aR,N0,N1,N2,N3,N4,N5,Z0,Z1,Z2,Z3,Z4,Z5,Z6,Z7,Z8,Z9,Z10,Zc,↓reduceIte,reduceCtorEq]
  refine kCw (by simp [kB]) rfl ob ?_
  by_cases d3 : zY a = zY b
  case neg =>
    simp only [aR,N0,N1,N2,N3,N4,N5,Z0,Z1,Z2,Z3,Z4,Z5,Z6,Z7,Z8,Z9,Z10,Zc,↓reduceIte,reduceCtorEq, d3]
    have he : ovE a b = 11 := by unfold ovE; rw [if_pos d1, if_pos d2, if_neg d3]
    unfold ovR
    rw [he]; rfl
  simp only [aR,N0,N1,N2,N3,N4,N5,Z0,Z1,Z2,Z3,Z4,Z5,Z6,Z7,Z8,Z9,Z10,Zc,↓reduceIte,reduceCtorEq, d3, List.map_cons, List.map_nil]
  have he : ovE a b = 0 := by unfold ovE; rw [if_pos d1, if_pos d2, if_pos d3]
  obtain ⟨f1, f2, f3⟩ := jN d1
  obtain ⟨f4, f5, f6⟩ := jN d2
  obtain ⟨St, hSt⟩ : ∃ St : RV fi a b raw → AS, ∀ p, St p = AS.of 96 [(2, .v (.bool fi)), (9, .ptr 0 0), (10, .ptr 1 0), (11, .sl 2 3 (kU p.1.1))] [.cells [.sl 0 3 (kU a), .v (.int .i64 p.1.2.1.1), .v (.int .i64 p.1.2.1.2)], .cells [.sl 0 3 (kU b), .v (.int .i64 p.1.2.2.1.1), .v (.int .i64 p.1.2.2.1.2)]] [(p.1.1.length, 80)] := ⟨_, fun _ => rfl⟩
  refine kX hΓ St (fun p => p.1.2.2.2) ⟨([], (0, 0), (0, 0), F), ⟨by simp, by simp⟩, kBX d1 oa, kBX d2 ob, by simp only [wU, List.drop_zero]; omega, by simp only [List.length_nil]; omega, hraw, by simp only [wU, List.drop_zero]; omega⟩ (by rw [hSt]; refine kH [0, 1] [.nil 3] ?_; simp only [aR,N0,N1,N2,N3,N4,N5,Z0,Z1,Z2,Z3,Z4,Z5,Z6,Z7,Z8,Z9,Z10,Zc,↓reduceIte,reduceCtorEq, qM] <;> ((repeat' apply And.intro) <;> first | rfl | omega | trivial)) ?_
  rintro ⟨⟨out, ⟨at1, n1⟩, ⟨at2, n2⟩, f⟩, ⟨ha1, ha2⟩, hx, hy, hf, hlen, hr, hbal⟩
  simp only at ha1 ha2 hx hy hf hlen hr hbal
  rw [hSt]
  simp only
  have kx := (kind_out hx.1).2
  have ky := (kind_out hy.1).2
  simp only [aR,N0,N1,N2,N3,N4,N5,Z0,Z1,Z2,Z3,Z4,Z5,Z6,Z7,Z8,Z9,Z10,Zc,↓reduceIte,reduceCtorEq, kD]
  refine kAX hΓ (by simp [kB, kQ]) oa ha1 rfl ?_
  by_cases k0 : qA (a.drop at1) = 0
  · have hx0 : wU (a.drop at1, n1) = [] := by
      rcases kAl hx.1 with ⟨_, h0⟩ | h | h | h
      · exact h0
      · simp only at h; omega
      · simp only at h; omega
      · simp only at h; omega
    rw [hx0] at hbal
    have ky3 := ky hbal.symm
    simp only at ky3
    simp only [aR,N0,N1,N2,N3,N4,N5,Z0,Z1,Z2,Z3,Z4,Z5,Z6,Z7,Z8,Z9,Z10,Zc,↓reduceIte,reduceCtorEq, k0]
    refine kAX hΓ (by simp [kB, kQ]) ob ha2 rfl ?_
    by_cases k1 : qA (b.drop at2) = 0
    · have hend : raw = out := by
        rw [← hr]
        cases f with
        | zero => simp [zW]
        | succ f => rw [zW, if_neg (by simp only; omega), if_neg (by simp only; omega), if_pos (.inl k0)]; simp
      have f7 := (over_raw fi d1 d2 oa ob).2.2.1
      rw [hF, hraw, hend] at f7
      simp only [aR,N0,N1,N2,N3,N4,N5,Z0,Z1,Z2,Z3,Z4,Z5,Z6,Z7,Z8,Z9,Z10,Zc,↓reduceIte,reduceCtorEq, k1]
      refine kEd (by simp [kB]) (by omega) rfl f7 ?_
      simp only [aR,N0,N1,N2,N3,N4,N5,Z0,Z1,Z2,Z3,Z4,Z5,Z6,Z7,Z8,Z9,Z10,Zc,↓reduceIte,reduceCtorEq]
      unfold ovR ovN
      rw [if_pos he, hF, hraw, hend]
      rfl
    · have ky2 : qA (b.drop at2) = 2 := by rcases ky3 with h | h; exact absurd h k1; exact h
      have hbal : bU (wU (a.drop at1, n1)) = bU (wU (b.drop at2, n2)) := by rw [hx0]; exact hbal
      simp only [aR,N0,N1,N2,N3,N4,N5,Z0,Z1,Z2,Z3,Z4,Z5,Z6,Z7,Z8,Z9,Z10,Zc,↓reduceIte,reduceCtorEq, ky2]
      refine kAX hΓ (by simp [kB, kQ]) oa ha1 rfl ?_
      simp only [aR,N0,N1,N2,N3,N4,N5,Z0,Z1,Z2,Z3,Z4,Z5,Z6,Z7,Z8,Z9,Z10,Zc,↓reduceIte,reduceCtorEq, k0]
      refine kAX hΓ (by simp [kB, kQ]) ob ha2 rfl ?_
      simp only [aR,N0,N1,N2,N3,N4,N5,Z0,Z1,Z2,Z3,Z4,Z5,Z6,Z7,Z8,Z9,Z10,Zc,↓reduceIte,reduceCtorEq, ky2]
      have hp := qW hy.1 (by simp only; omega)
      simp only at hp
      obtain ⟨e1, e2, e3, e4, e5, e6⟩ := qQ hy.1 (by simp only; omega) hp (Nat.le_refl _)
      obtain ⟨_, ob2⟩ := kDW hy.1 (by simp only; omega) hp (Nat.le_refl _)
      rw [show qA (b.drop at2, n2).1 = 2 from ky2] at ob2
      simp only [if_true] at e1 e2 e3 e4 e5 e6 ob2
      obtain ⟨f, rfl⟩ : ∃ g, f = g + 1 := ⟨f - 1, by omega⟩
      rw [zW, if_neg (by rintro ⟨h, _⟩; simp only at h; omega), if_pos (show qA (b.drop at2, n2).1 = 2 from ky2)] at hr
      simp only at hr
      refine jW hΓ (by simp [kB, kQ]) (by simp [kB]) (by omega) (fun j hj => by match j, hj with | j + 2, _ => rfl) ob hy (by omega) rfl ?_
      intro h0 q1 q1n
      have q10 := q1 0 (by omega)
      have q11 := q1 1 (by omega)
      simp only [aR,N0,N1,N2,N3,N4,N5,Z0,Z1,Z2,Z3,Z4,Z5,Z6,Z7,Z8,Z9,Z10,Zc,↓reduceIte,reduceCtorEq, kD, List.map_cons, List.map_nil]
      (repeat (with_reducible refine And.intro ?_ ?_; focus (first | omega | exact kG | kernel_rfl)))
      refine jW hΓ (by simp [kB, kQ]) (by simp [kB]) (by omega) q1n ob hy (by omega) q11 ?_
      intro h1 g1 g1n
      have g10 := g1 0 (by omega)
      have g11 := g1 1 (by omega)
      rw [q10] at g10
      rw [q11] at g11
      simp only [aR,N0,N1,N2,N3,N4,N5,Z0,Z1,Z2,Z3,Z4,Z5,Z6,Z7,Z8,Z9,Z10,Zc,↓reduceIte,reduceCtorEq]
      refine kAs hΓ (by simp [kB, kQ]) (by simp [kB, kQ]) (by simp [kB]) (by simp [kB]) (by omega) g1n ob hy (by omega) (Nat.le_refl _) g11 ?_
      intro h2 v u1 u2 hv u3 u4
      have uo := u3 0 (by omega) (by omega)
      rw [g10] at uo
      have hw2 := jU hy (by simp only; omega) hp (Nat.le_refl _)
      try simp only at hw2
      generalize lenW (b.drop at2) n2 = ly at *
      generalize jP (b.drop at2, n2) ly = pc at *
      generalize adv (b.drop at2, n2) ly = w2 at *
      have hw3 : w2 = (b.drop v, w2.2) := by rw [u2]
      rw [hw3] at hw2 hr e6 ob2
      simp only [aR,N0,N1,N2,N3,N4,N5,Z0,Z1,Z2,Z3,Z4,Z5,Z6,Z7,Z8,Z9,Z10,Zc,↓reduceIte,reduceCtorEq, kD, u1, uo, cA, qP]
      try (repeat (with_reducible refine And.intro ?_ ?_; focus (first | omega | exact kG | kernel_rfl)))
      refine kI ⟨(out ++ [⟨1, (ly : Int), []⟩], (at1, n1), (v, w2.2), f), ⟨ha1, hv⟩, hx, hw2, by simp only; omega, by simp only [List.length_append, List.length_singleton]; omega, by simp only; rw [← hr]; simp, by simp only; omega⟩ (by simp only; omega) ?_
      rw [hSt]
      refine kH [0, 1] [.live 2] ?_
      simp only [aR,N0,N1,N2,N3,N4,N5,Z0,Z1,Z2,Z3,Z4,Z5,Z6,Z7,Z8,Z9,Z10,Zc,↓reduceIte,reduceCtorEq, kD, List.length_append, List.length_singleton, u1, uo] <;> ((repeat' apply And.intro) <;> first | rfl | omega | trivial)
  · simp only [aR,N0,N1,N2,N3,N4,N5,Z0,Z1,Z2,Z3,Z4,Z5,Z6,Z7,Z8,Z9,Z10,Zc,↓reduceIte,reduceCtorEq, k0]
    refine kAX hΓ (by simp [kB, kQ]) oa ha1 rfl ?_
    by_cases k2 : qA (a.drop at1) = 2
    · cases fi with
      | true =>
        simp only [aR,N0,N1,N2,N3,N4,N5,Z0,Z1,Z2,Z3,Z4,Z5,Z6,Z7,Z8,Z9,Z10,Zc,↓reduceIte,reduceCtorEq, k2]
        have hp := qW hx.1 (by simp only; omega)
        simp only at hp
        obtain ⟨e1, e2, e3, e4, e5, e6⟩ := qQ hx.1 (by simp only; omega) hp (Nat.le_refl _)
        obtain ⟨_, ob2⟩ := kDW hx.1 (by simp only; omega) hp (Nat.le_refl _)
        rw [show qA (a.drop at1, n1).1 = 2 from k2] at ob2
        simp only [if_true] at e1 e2 e3 e4 e5 e6 ob2
        obtain ⟨f, rfl⟩ : ∃ g, f = g + 1 := ⟨f - 1, by omega⟩
        rw [zW, if_pos ⟨k2, .inl rfl⟩] at hr
        simp only at hr
        refine jW hΓ (by simp [kB, kQ]) (by simp [kB]) (by omega) (fun j hj => by match j, hj with | j + 2, _ => rfl) oa hx (by omega) rfl ?_
        intro h1 g1 g1n
        have g10 := g1 0 (by omega)
        have g11 := g1 1 (by omega)
        simp only [aR,N0,N1,N2,N3,N4,N5,Z0,Z1,Z2,Z3,Z4,Z5,Z6,Z7,Z8,Z9,Z10,Zc,↓reduceIte,reduceCtorEq]
        refine kAs hΓ (by simp [kB, kQ]) (by simp [kB, kQ]) (by simp [kB]) (by simp [kB]) (by omega) g1n oa hx (by omega) (Nat.le_refl _) g10 ?_
        intro h2 v u1 u2 hv u3 u4
        have uo := u3 1 (by omega) (by omega)
        rw [g11] at uo
        have hw2 := jU hx (by simp only; omega) hp (Nat.le_refl _)
        try simp only at hw2
        generalize jP (a.drop at1, n1) (lenW (a.drop at1) n1) = pc at *
        generalize adv (a.drop at1, n1) (lenW (a.drop at1) n1) = w2 at *
        obtain ⟨pk, pn, pt⟩ := pc
        have hw3 : w2 = (a.drop v, w2.2) := by rw [u2]
        rw [hw3] at hw2 hr e6 ob2
        simp only [aR,N0,N1,N2,N3,N4,N5,Z0,Z1,Z2,Z3,Z4,Z5,Z6,Z7,Z8,Z9,Z10,Zc,↓reduceIte,reduceCtorEq, kD, u1, uo, cA, qP]
        (repeat (with_reducible refine And.intro ?_ ?_; focus (first | omega | exact kG | kernel_rfl)))
        refine kI ⟨(out ++ [⟨pk, pn, pt⟩], (v, w2.2), (at2, n2), f), ⟨hv, ha2⟩, hw2, hy, by simp only; omega, by simp only [List.length_append, List.length_singleton]; omega, by simp only; rw [← hr]; simp, by simp only; omega⟩ (by simp only; omega) ?_
        rw [hSt]
        refine kH [0, 1] [.live 2] ?_
        simp only [aR,N0,N1,N2,N3,N4,N5,Z0,Z1,Z2,Z3,Z4,Z5,Z6,Z7,Z8,Z9,Z10,Zc,↓reduceIte,reduceCtorEq, kD, List.length_append, u1, uo] <;> ((repeat' apply And.intro) <;> first | rfl | omega | trivial)
      | false =>
        simp only [aR,N0,N1,N2,N3,N4,N5,Z0,Z1,Z2,Z3,Z4,Z5,Z6,Z7,Z8,Z9,Z10,Zc,↓reduceIte,reduceCtorEq, k2]
        refine kAX hΓ (by simp [kB, kQ]) ob ha2 rfl ?_
        by_cases ky2 : qA (b.drop at2) = 2
        · simp only [aR,N0,N1,N2,N3,N4,N5,Z0,Z1,Z2,Z3,Z4,Z5,Z6,Z7,Z8,Z9,Z10,Zc,↓reduceIte,reduceCtorEq, ky2]
          refine kAX hΓ (by simp [kB, kQ]) ob ha2 rfl ?_
          simp only [aR,N0,N1,N2,N3,N4,N5,Z0,Z1,Z2,Z3,Z4,Z5,Z6,Z7,Z8,Z9,Z10,Zc,↓reduceIte,reduceCtorEq, ky2]
          have hp := qW hy.1 (by simp only; omega)
          simp only at hp
          obtain ⟨e1, e2, e3, e4, e5, e6⟩ := qQ hy.1 (by simp only; omega) hp (Nat.le_refl _)
          obtain ⟨_, ob2⟩ := kDW hy.1 (by simp only; omega) hp (Nat.le_refl _)
          rw [show qA (b.drop at2, n2).1 = 2 from ky2] at ob2
          simp only [if_true] at e1 e2 e3 e4 e5 e6 ob2
          obtain ⟨f, rfl⟩ : ∃ g, f = g + 1 := ⟨f - 1, by omega⟩
          rw [zW, if_neg (by rintro ⟨_, h | h⟩; exact absurd h (by decide); exact h ky2), if_pos (show qA (b.drop at2, n2).1 = 2 from ky2)] at hr
          simp only at hr
          refine jW hΓ (by simp [kB, kQ]) (by simp [kB]) (by omega) (fun j hj => by match j, hj with | j + 2, _ => rfl) ob hy (by omega) rfl ?_
          intro h0 q1 q1n
          have q10 := q1 0 (by omega)
          have q11 := q1 1 (by omega)
          simp only [aR,N0,N1,N2,N3,N4,N5,Z0,Z1,Z2,Z3,Z4,Z5,Z6,Z7,Z8,Z9,Z10,Zc,↓reduceIte,reduceCtorEq, kD, List.map_cons, List.map_nil]
          (repeat (with_reducible refine And.intro ?_ ?_; focus (first | omega | exact kG | kernel_rfl)))
          refine jW hΓ (by simp [kB, kQ]) (by simp [kB]) (by omega) q1n ob hy (by omega) q11 ?_
          intro h1 g1 g1n
          have g10 := g1 0 (by omega)
          have g11 := g1 1 (by omega)
          rw [q10] at g10
          rw [q11] at g11
          simp only [aR,N0,N1,N2,N3,N4,N5,Z0,Z1,Z2,Z3,Z4,Z5,Z6,Z7,Z8,Z9,Z10,Zc,↓reduceIte,reduceCtorEq]
          refine kAs hΓ (by simp [kB, kQ]) (by simp [kB, kQ]) (by simp [kB]) (by simp [kB]) (by omega) g1n ob hy (by omega) (Nat.le_refl _) g11 ?_
          intro h2 v u1 u2 hv u3 u4
          have uo := u3 0 (by omega) (by omega)
          rw [g10] at uo
          have hw2 := jU hy (by simp only; omega) hp (Nat.le_refl _)
          try simp only at hw2
          generalize lenW (b.drop at2) n2 = ly at *
          generalize jP (b.drop at2, n2) ly = pc at *
          generalize adv (b.drop at2, n2) ly = w2 at *
          have hw3 : w2 = (b.drop v, w2.2) := by rw [u2]
          rw [hw3] at hw2 hr e6 ob2
          simp only [aR,N0,N1,N2,N3,N4,N5,Z0,Z1,Z2,Z3,Z4,Z5,Z6,Z7,Z8,Z9,Z10,Zc,↓reduceIte,reduceCtorEq, kD, u1, uo, cA, qP]
          try (repeat (with_reducible refine And.intro ?_ ?_; focus (first | omega | exact kG | kernel_rfl)))
          refine kI ⟨(out ++ [⟨1, (ly : Int), []⟩], (at1, n1), (v, w2.2), f), ⟨ha1, hv⟩, hx, hw2, by simp only; omega, by simp only [List.length_append, List.length_singleton]; omega, by simp only; rw [← hr]; simp, by simp only; omega⟩ (by simp only; omega) ?_
          rw [hSt]
          refine kH [0, 1] [.live 2] ?_
          simp only [aR,N0,N1,N2,N3,N4,N5,Z0,Z1,Z2,Z3,Z4,Z5,Z6,Z7,Z8,Z9,Z10,Zc,↓reduceIte,reduceCtorEq, kD, List.length_append, List.length_singleton, u1, uo] <;> ((repeat' apply And.intro) <;> first | rfl | omega | trivial)
        · simp only [aR,N0,N1,N2,N3,N4,N5,Z0,Z1,Z2,Z3,Z4,Z5,Z6,Z7,Z8,Z9,Z10,Zc,↓reduceIte,reduceCtorEq, ky2]
          have hp := qW hx.1 (by simp only; omega)
          simp only at hp
          obtain ⟨e1, e2, e3, e4, e5, e6⟩ := qQ hx.1 (by simp only; omega) hp (Nat.le_refl _)
          obtain ⟨_, ob2⟩ := kDW hx.1 (by simp only; omega) hp (Nat.le_refl _)
          rw [show qA (a.drop at1, n1).1 = 2 from k2] at ob2
          simp only [if_true] at e1 e2 e3 e4 e5 e6 ob2
          obtain ⟨f, rfl⟩ : ∃ g, f = g + 1 := ⟨f - 1, by omega⟩
          rw [zW, if_pos ⟨k2, .inr ky2⟩] at hr
          simp only at hr
          refine jW hΓ (by simp [kB, kQ]) (by simp [kB]) (by omega) (fun j hj => by match j, hj with | j + 2, _ => rfl) oa hx (by omega) rfl ?_
          intro h1 g1 g1n
          have g10 := g1 0 (by omega)
          have g11 := g1 1 (by omega)
          simp only [aR,N0,N1,N2,N3,N4,N5,Z0,Z1,Z2,Z3,Z4,Z5,Z6,Z7,Z8,Z9,Z10,Zc,↓reduceIte,reduceCtorEq]
          refine kAs hΓ (by simp [kB, kQ]) (by simp [kB, kQ]) (by simp [kB]) (by simp [kB]) (by omega) g1n oa hx (by omega) (Nat.le_refl _) g10 ?_
          intro h2 v u1 u2 hv u3 u4
          have uo := u3 1 (by omega) (by omega)
          rw [g11] at uo
          have hw2 := jU hx (by simp only; omega) hp (Nat.le_refl _)
          try simp only at hw2
          generalize jP (a.drop at1, n1) (lenW (a.drop at1) n1) = pc at *
          generalize adv (a.drop at1, n1) (lenW (a.drop at1) n1) = w2 at *
          obtain ⟨pk, pn, pt⟩ := pc
          have hw3 : w2 = (a.drop v, w2.2) := by rw [u2]
          rw [hw3] at hw2 hr e6 ob2
          simp only [aR,N0,N1,N2,N3,N4,N5,Z0,Z1,Z2,Z3,Z4,Z5,Z6,Z7,Z8,Z9,Z10,Zc,↓reduceIte,reduceCtorEq, kD, u1, uo, cA, qP]
          (repeat (with_reducible refine And.intro ?_ ?_; focus (first | omega | exact kG | kernel_rfl)))
          refine kI ⟨(out ++ [⟨pk, pn, pt⟩], (v, w2.2), (at2, n2), f), ⟨hv, ha2⟩, hw2, hy, by simp only; omega, by simp only [List.length_append, List.length_singleton]; omega, by simp only; rw [← hr]; simp, by simp only; omega⟩ (by simp only; omega) ?_
          rw [hSt]
          refine kH [0, 1] [.live 2] ?_
          simp only [aR,N0,N1,N2,N3,N4,N5,Z0,Z1,Z2,Z3,Z4,Z5,Z6,Z7,Z8,Z9,Z10,Zc,↓reduceIte,reduceCtorEq, kD, List.length_append, u1, uo] <;> ((repeat' apply And.intro) <;> first | rfl | omega | trivial)
    simp only [aR,N0,N1,N2,N3,N4,N5,Z0,Z1,Z2,Z3,Z4,Z5,Z6,Z7,Z8,Z9,Z10,Zc,↓reduceIte,reduceCtorEq, k2]
    refine kAX hΓ (by simp [kB, kQ]) ob ha2 rfl ?_
    by_cases ky2 : qA (b.drop at2) = 2
    · simp only [aR,N0,N1,N2,N3,N4,N5,Z0,Z1,Z2,Z3,Z4,Z5,Z6,Z7,Z8,Z9,Z10,Zc,↓reduceIte,reduceCtorEq, ky2]
      have hp := qW hy.1 (by simp only; omega)
      simp only at hp
      obtain ⟨e1, e2, e3, e4, e5, e6⟩ := qQ hy.1 (by simp only; omega) hp (Nat.le_refl _)
      obtain ⟨_, ob2⟩ := kDW hy.1 (by simp only; omega) hp (Nat.le_refl _)
      rw [show qA (b.drop at2, n2).1 = 2 from ky2] at ob2
      simp only [if_true] at e1 e2 e3 e4 e5 e6 ob2
      obtain ⟨f, rfl⟩ : ∃ g, f = g + 1 := ⟨f - 1, by omega⟩
      rw [zW, if_neg (by rintro ⟨h, _⟩; exact k2 h), if_pos (show qA (b.drop at2, n2).1 = 2 from ky2)] at hr
      simp only at hr
      refine jW hΓ (by simp [kB, kQ]) (by simp [kB]) (by omega) (fun j hj => by match j, hj with | j + 2, _ => rfl) ob hy (by omega) rfl ?_
      intro h0 q1 q1n
      have q10 := q1 0 (by omega)
      have q11 := q1 1 (by omega)
      simp only [aR,N0,N1,N2,N3,N4,N5,Z0,Z1,Z2,Z3,Z4,Z5,Z6,Z7,Z8,Z9,Z10,Zc,↓reduceIte,reduceCtorEq, kD, List.map_cons, List.map_nil]
      (repeat (with_reducible refine And.intro ?_ ?_; focus (first | omega | exact kG | kernel_rfl)))
      refine jW hΓ (by simp [kB, kQ]) (by simp [kB]) (by omega) q1n ob hy (by omega) q11 ?_
      intro h1 g1 g1n
      have g10 := g1 0 (by omega)
      have g11 := g1 1 (by omega)
      rw [q10] at g10
      rw [q11] at g11
      simp only [aR,N0,N1,N2,N3,N4,N5,Z0,Z1,Z2,Z3,Z4,Z5,Z6,Z7,Z8,Z9,Z10,Zc,↓reduceIte,reduceCtorEq]
      refine kAs hΓ (by simp [kB, kQ]) (by simp [kB, kQ]) (by simp [kB]) (by simp [kB]) (by omega) g1n ob hy (by omega) (Nat.le_refl _) g11 ?_
      intro h2 v u1 u2 hv u3 u4
      have uo := u3 0 (by omega) (by omega)
      rw [g10] at uo
      have hw2 := jU hy (by simp only; omega) hp (Nat.le_refl _)
      try simp only at hw2
      generalize lenW (b.drop at2) n2 = ly at *
      generalize jP (b.drop at2, n2) ly = pc at *
      generalize adv (b.drop at2, n2) ly = w2 at *
      have hw3 : w2 = (b.drop v, w2.2) := by rw [u2]
      rw [hw3] at hw2 hr e6 ob2
      simp only [aR,N0,N1,N2,N3,N4,N5,Z0,Z1,Z2,Z3,Z4,Z5,Z6,Z7,Z8,Z9,Z10,Zc,↓reduceIte,reduceCtorEq, kD, u1, uo, cA, qP]
      try (repeat (with_reducible refine And.intro ?_ ?_; focus (first | omega | exact kG | kernel_rfl)))
      refine kI ⟨(out ++ [⟨1, (ly : Int), []⟩], (at1, n1), (v, w2.2), f), ⟨ha1, hv⟩, hx, hw2, by simp only; omega, by simp only [List.length_append, List.length_singleton]; omega, by simp only; rw [← hr]; simp, by simp only; omega⟩ (by simp only; omega) ?_
      rw [hSt]
      refine kH [0, 1] [.live 2] ?_
      simp only [aR,N0,N1,N2,N3,N4,N5,Z0,Z1,Z2,Z3,Z4,Z5,Z6,Z7,Z8,Z9,Z10,Zc,↓reduceIte,reduceCtorEq, kD, List.length_append, List.length_singleton, u1, uo] <;> ((repeat' apply And.intro) <;> first | rfl | omega | trivial)
    simp only [aR,N0,N1,N2,N3,N4,N5,Z0,Z1,Z2,Z3,Z4,Z5,Z6,Z7,Z8,Z9,Z10,Zc,↓reduceIte,reduceCtorEq, ky2]
    have k4 : ¬ qA (b.drop at2) = 0 := by
      intro h
      have hy0 : wU (b.drop at2, n2) = [] := by
        rcases kAl hy.1 with ⟨_, h0⟩ | h | h | h
        · exact h0
        · simp only at h; omega
        · simp only at h; omega
        · simp only at h; omega
      rw [hy0] at hbal
      have := kx hbal
      try simp only at this
      omega
    have hpx := qW hx.1 k0
    have hpy := qW hy.1 k4
    simp only at hpx hpy
    refine jW hΓ (by simp [kB, kQ]) (by simp [kB]) (by omega) (fun j hj => by match j, hj with | j + 2, _ => rfl) oa hx k0 rfl ?_
    intro h1 g1 g1n
    have g10 := g1 0 (by omega)
    have g11 := g1 1 (by omega)
    simp only [aR,N0,N1,N2,N3,N4,N5,Z0,Z1,Z2,Z3,Z4,Z5,Z6,Z7,Z8,Z9,Z10,Zc,↓reduceIte,reduceCtorEq]
    refine jW hΓ (by simp [kB, kQ]) (by simp [kB]) (by omega) g1n ob hy k4 g11 ?_
    intro h2 g2 g2n
    have g20 := g2 0 (by omega)
    have g21 := g2 1 (by omega)
    rw [g10] at g20
    rw [g11] at g21
    have hmin : min ((lenW (a.drop at1) n1 : Nat) : Int) ((lenW (b.drop at2) n2 : Nat) : Int) = ((min (lenW (a.drop at1) n1) (lenW (b.drop at2) n2) : Nat) : Int) := by omega
    obtain ⟨f, rfl⟩ : ∃ g, f = g + 1 := ⟨f - 1, by
      have := (qQ hx.1 k0 hpx (Nat.le_refl _)).2.2.2.2.2
      try simp only at this
      omega⟩
    rw [zW, if_neg (show ¬ (qA (a.drop at1, n1).1 = 2 ∧ _) from fun h => k2 h.1), if_neg (show ¬ qA (b.drop at2, n2).1 = 2 from ky2), if_neg (by simp [k0, k4])] at hr
    simp only at hr
    generalize hm : min (lenW (a.drop at1) n1) (lenW (b.drop at2) n2) = m at *
    obtain ⟨e1, e2, e3, e4, e5, e6⟩ := qQ (n := m) hx.1 k0 (by omega) (by simp only; omega)
    obtain ⟨u1, u2, u3, u4, u5, u6⟩ := qQ (n := m) hy.1 k4 (by omega) (by simp only; omega)
    obtain ⟨_, ob1⟩ := kDW (n := m) hx.1 k0 (by omega) (by simp only; omega)
    obtain ⟨_, ob2⟩ := kDW (n := m) hy.1 k4 (by omega) (by simp only; omega)
    rw [if_neg (show ¬ qA (a.drop at1, n1).1 = 2 from k2)] at ob1
    rw [if_neg (show ¬ qA (b.drop at2, n2).1 = 2 from ky2)] at ob2
    simp only [aR,N0,N1,N2,N3,N4,N5,Z0,Z1,Z2,Z3,Z4,Z5,Z6,Z7,Z8,Z9,Z10,Zc,↓reduceIte,reduceCtorEq, kB7, hmin]
    refine kAs hΓ (by simp [kB, kQ]) (by simp [kB, kQ]) (by simp [kB]) (by simp [kB]) (by omega) g2n oa hx k0 (by omega) g20 ?_
    intro h3 v1 p1 p2 hv1 p3 p4
    have p5 := p3 1 (by omega) (by omega)
    rw [g21] at p5
    have hx2 := jU hx k0 (n := m) (by omega) (by simp only; omega)
    simp only [aR,N0,N1,N2,N3,N4,N5,Z0,Z1,Z2,Z3,Z4,Z5,Z6,Z7,Z8,Z9,Z10,Zc,↓reduceIte,reduceCtorEq]
    refine kAs hΓ (by simp [kB, kQ]) (by simp [kB, kQ]) (by simp [kB]) (by simp [kB]) (by omega) p4 ob hy k4 (by omega) p5 ?_
    intro h4 v2 r1 r2 hv2 r3 r4
    have r5 := r3 0 (by omega) (by omega)
    rw [p1] at r5
    have hy2 := jU hy k4 (n := m) (by omega) (by simp only; omega)
    simp only at e5 u5
    generalize jP (a.drop at1, n1) m = pc at *
    generalize adv (a.drop at1, n1) m = w1 at *
    generalize jP (b.drop at2, n2) m = qc at *
    generalize adv (b.drop at2, n2) m = w2 at *
    obtain ⟨pk, pn, pt⟩ := pc
    obtain ⟨qk, qn, qt⟩ := qc
    simp only at e5 u5
    rw [← u5] at hr
    have hw3 : w1 = (a.drop v1, w1.2) := by rw [p2]
    have hw4 : w2 = (b.drop v2, w2.2) := by rw [r2]
    rw [hw3] at hx2 e6 ob1 hr
    rw [hw4] at hy2 u6 ob2 hr
    clear hmin
    by_cases c5 : qk = 1
    · rw [if_pos c5] at hr
      simp only [aR,N0,N1,N2,N3,N4,N5,Z0,Z1,Z2,Z3,Z4,Z5,Z6,Z7,Z8,Z9,Z10,Zc,↓reduceIte,reduceCtorEq, kD, r1, r5, cA, qP, c5]
      (repeat (with_reducible refine And.intro ?_ ?_; focus (first | omega | exact kG | kernel_rfl)))
      refine kI ⟨(out ++ [⟨pk, pn, pt⟩], (v1, w1.2), (v2, w2.2), f), ⟨hv1, hv2⟩, hx2, hy2, by simp only; omega, by simp only [List.length_append, List.length_singleton]; omega, by simp only; rw [← hr]; simp, by simp only; omega⟩ (by simp only; omega) ?_
      rw [hSt]
      refine kH [0, 1] [.live 2] ?_
      simp only [aR,N0,N1,N2,N3,N4,N5,Z0,Z1,Z2,Z3,Z4,Z5,Z6,Z7,Z8,Z9,Z10,Zc,↓reduceIte,reduceCtorEq, kD, List.length_append, r1, r5] <;> ((repeat' apply And.intro) <;> first | rfl | omega | trivial)
    rw [if_neg c5] at hr
    rw [List.nil_append] at hr
    simp only [aR,N0,N1,N2,N3,N4,N5,Z0,Z1,Z2,Z3,Z4,Z5,Z6,Z7,Z8,Z9,Z10,Zc,↓reduceIte,reduceCtorEq, kD, r1, r5, cA, qP, c5]
    refine kI ⟨(out, (v1, w1.2), (v2, w2.2), f), ⟨hv1, hv2⟩, hx2, hy2, by simp only; omega, by simp only; omega, by simp only; exact hr, by simp only; omega⟩ (by simp only; omega) ?_
    rw [hSt]
    refine kH [0, 1] [.live 2] ?_
    simp only [aR,N0,N1,N2,N3,N4,N5,Z0,Z1,Z2,Z3,Z4,Z5,Z6,Z7,Z8,Z9,Z10,Zc,↓reduceIte,reduceCtorEq, kD, List.length_append, r1, r5] <;> ((repeat' apply And.intro) <;> first | rfl | omega | trivial)
end Go.Proofs
end
