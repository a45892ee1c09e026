/-
  The document's tree: an act. The document's Check of a transaction. The document's transaction on a tree.
-/
import Derived.Test.YtmhpninemdmbkaaGreatDoorXZUk2
import Derived.Test.YtmhpninemdmbkaaGreatDoorXZAp5
import Derived.Test.YtmhpninemdmbkaaGreatDoorXZAw9
import Derived.Test.YtmhpninemdmbkaaGreatDoorRwJ
set_option linter.unusedSimpArgs false
set_option linter.unusedVariables false
set_option linter.defProp false

-- ZUk3
section
namespace Go.Proofs
open Go Go.Rw
open _root_.Nat renaming reduceAdd → N0, reduceSub → N1, reduceMul → N2, reduceLT → N3, reduceLeDiff → N4, reduceEqDiff → N5
open _root_.Int renaming reduceNeg → Z0, reduceAdd → Z1, reduceSub → Z2, reduceMul → Z3, reduceGT → Z4, reduceGE → Z5, reduceLT → Z6, reduceLE → Z7, reduceEq → Z8, reduceNe → Z9, reduceToNat → Z10, cast_ofNat_Int → Zc
set_option maxRecDepth 100000
set_option linter.unusedSimpArgs false
set_option linter.unusedVariables false

end Go.Proofs
end

-- ZUk4
section
namespace Go.Proofs
open Go Go.Rw
open _root_.Nat renaming reduceAdd → N0, reduceSub → N1, reduceMul → N2, reduceLT → N3, reduceLeDiff → N4, reduceEqDiff → N5
open _root_.Int renaming reduceNeg → Z0, reduceAdd → Z1, reduceSub → Z2, reduceMul → Z3, reduceGT → Z4, reduceGE → Z5, reduceLT → Z6, reduceLE → Z7, reduceEq → Z8, reduceNe → Z9, reduceToNat → Z10, cast_ofNat_Int → Zc
set_option maxRecDepth 100000
set_option linter.unusedSimpArgs false
set_option linter.unusedVariables false

theorem cnt_part {c : Cp} (h : qD c = true) : cnt c.t = if c.k = 2 then lc c.t else 0 := by
  rcases qB h with ⟨h1, _, _, h2⟩ | ⟨h1, _, h2⟩
  · rw [if_pos h1, cnt_cpts, lc_cpts h2]
  · rw [if_neg (by omega), h2]; rfl
theorem bad_rest {a : Ac} (h1 : ¬ a.k < 1) (h2 : ¬ a.k > 4) (h3 : a = zA a) : badA a = decide (a.id < 1 ∨ a.id > 1099511627776 ∨ a.par < 0 ∨ a.par > 1099511627776 ∨ ((a.k = 1 ∨ a.k = 3) ∧ jD a.nm = false)) := by
  unfold badA
  rw [Bool.eq_iff_iff, decide_eq_true_eq, decide_eq_true_eq]
  constructor
  · rintro (h | h | h | h)
    · exact absurd h h1
    · exact absurd h h2
    · exact absurd h3 h
    · exact h
  · exact fun h => .inr (.inr (.inr h))
theorem plain_ops {a : Ac} (h : a = zA a) (hk : a.k ≠ 4) : a.ops = [] := by
  rw [h]
  unfold zA
  repeat' split
  all_goals first | rfl | contradiction
theorem one_bad {a : Ac} (h : badA a = true) : oneI a = 1 := by rw [oneI, h]; rfl
theorem one_ok {a : Ac} (h : badA a = false) : oneI a = if a.k = 4 then qG a.ops else 0 := by rw [oneI, h]; rfl
theorem putS_snoc {l : List Ac} {i : Nat} (h : i < l.length) : putS (l.take (i + 1)) = putS (l.take i) + putC l[i].ops := by
  rw [List.take_succ_eq_append_getElem h]
  generalize l.take i = x
  generalize l[i] = a
  induction x with
  | nil => simp [putS]
  | cons b x ih => simp only [List.cons_append, putS, ih]; omega
theorem putC_snoc {l : List Cp} {i : Nat} (h : i < l.length) : putC (l.take (i + 1)) = putC (l.take i) + (if l[i].k = 2 then lc l[i].t else 0) := by
  rw [List.take_succ_eq_append_getElem h]
  generalize l.take i = x
  generalize l[i] = a
  induction x with
  | nil => simp [putC]
  | cons b x ih => simp only [List.cons_append, putC, ih]; omega
theorem putC_le (l : List Cp) (i : Nat) : putC (l.take i) ≤ putC l := by
  induction l generalizing i with
  | nil => simp [putC]
  | cons c l ih =>
    cases i with
    | zero => simp [putC]
    | succ i => rw [List.take_succ_cons, putC, putC]; have := ih i; omega
set_option maxHeartbeats 8000000 in
theorem rtcheck_good : Rw.Good Tryz.prog 30 jS := by
  have hΓ : kL Tryz.prog [(57, kBB), (49, kAK), (32, kC4), (58, jW), (35, kBz)] := (kE rplain_good (kE kEB (kE rname_good (kE rcheck_good (kE rcount_good kJ)))))
  refine kS (nn := 121) hΓ Tryz.func30 (by kernel_rfl) rfl (show Tryz.f30.results.toList = [.tmp 2] from rfl) (fun _ => rfl) (fun x => by simp [AV.erL, AV.er, qL]) ?_
  rintro ⟨l, hl, ho⟩
  simp only [aR,N0,N1,N2,N3,N4,N5,Z0,Z1,Z2,Z3,Z4,Z5,Z6,Z7,Z8,Z9,Z10,Zc,↓reduceIte,reduceCtorEq, kQ]
  by_cases hlen : (l.length : Int) > 20
  · have e0 : txnE l = 3 := by unfold txnE; rw [if_pos (by omega)]
    simp only [aR,N0,N1,N2,N3,N4,N5,Z0,Z1,Z2,Z3,Z4,Z5,Z6,Z7,Z8,Z9,Z10,Zc,↓reduceIte,reduceCtorEq, hlen, e0]
  have e0 : txnE l = if zP [] l ≠ 0 then zP [] l else if (putS l : Int) > 2000 then 3 else 0 := by unfold txnE; rw [if_neg (by omega)]
  have hsl := putS_le l fun a ha => (ho a ha).1
  simp only [aR,N0,N1,N2,N3,N4,N5,Z0,Z1,Z2,Z3,Z4,Z5,Z6,Z7,Z8,Z9,Z10,Zc,↓reduceIte,reduceCtorEq, hlen, kQ]
  obtain ⟨St, hSt⟩ : ∃ St : { i : Nat // i ≤ l.length ∧ zP (l.take i) (l.drop i) = zP [] l ∧ putS (l.take i) ≤ i * 1099511627776 } → AS, ∀ i, St i = AS.of 121 [(0, .sl 0 6 (acts l)), (3, .v (.int .i64 (putS (l.take i.1)))), (4, .v (.int .i64 i.1))] [] [] := ⟨_, fun _ => rfl⟩
  refine kY hΓ St (fun i => l.length - i.1) ⟨0, by omega, by simp, by simp [putS]⟩ (by rw [hSt]; refine kH [] [] ?_; simp only [aR,N0,N1,N2,N3,N4,N5,Z0,Z1,Z2,Z3,Z4,Z5,Z6,Z7,Z8,Z9,Z10,Zc,↓reduceIte,reduceCtorEq, List.take_zero, putS] <;> ((repeat' apply And.intro) <;> first | rfl | omega | trivial)) ?_
  rintro ⟨i, hi, hc, hpi⟩
  rw [hSt]
  simp only
  simp only [aR,N0,N1,N2,N3,N4,N5,Z0,Z1,Z2,Z3,Z4,Z5,Z6,Z7,Z8,Z9,Z10,Zc,↓reduceIte,reduceCtorEq, kQ]
  (with_reducible first | refine kB (fun h => ?_) (fun h => ?_) | refine kD (fun h => ?_) (fun h => ?_))
  · have hlt : i < l.length := by omega
    have e1 := qQ l hlt
    have ha := ho _ (List.getElem_mem hlt)
    have hps := putS_snoc hlt
    rw [List.drop_eq_getElem_cons hlt, zP, ← List.take_succ_eq_append_getElem hlt] at hc
    have hcl : kBp (l.take i) l[i] = (l.take i).any fun b => decide (b.k = 4 ∧ b.id = l[i].id) := rfl
    generalize l[i] = a at *
    obtain ⟨k, id, par, nm, dir, ops⟩ := a
    obtain ⟨oa, hn⟩ := ha
    simp only at oa hn hps
    have wr1 := kA (n := (i : Int) + 1) (by omega) (by omega)
    have bad : badA ⟨k, id, par, nm, dir, ops⟩ = true → txnE l = 1 := fun hb => by
      have h1 := one_bad hb
      rw [if_pos (by rw [h1]; decide), h1] at hc
      rw [e0, ← hc]; rfl
    simp only [aR,N0,N1,N2,N3,N4,N5,Z0,Z1,Z2,Z3,Z4,Z5,Z6,Z7,Z8,Z9,Z10,Zc,↓reduceIte,reduceCtorEq, h, e1, aA, kQ]
    (repeat (with_reducible refine And.intro ?_ ?_; focus (first | omega | exact kG | kernel_rfl)))
    by_cases h1 : k < 1
    · have eb := bad (by simp [badA, h1])
      simp only [aR,N0,N1,N2,N3,N4,N5,Z0,Z1,Z2,Z3,Z4,Z5,Z6,Z7,Z8,Z9,Z10,Zc,↓reduceIte,reduceCtorEq, h1, eb]
    by_cases h2 : k > 4
    · have eb := bad (by simp [badA, h2])
      simp only [aR,N0,N1,N2,N3,N4,N5,Z0,Z1,Z2,Z3,Z4,Z5,Z6,Z7,Z8,Z9,Z10,Zc,↓reduceIte,reduceCtorEq, h1, h2, eb]
    simp only [aR,N0,N1,N2,N3,N4,N5,Z0,Z1,Z2,Z3,Z4,Z5,Z6,Z7,Z8,Z9,Z10,Zc,↓reduceIte,reduceCtorEq, h1, h2]
    refine kEm (by simp [kC]) (a := ⟨k, id, par, nm, dir, ops⟩) rfl oa ?_
    simp only [aR,N0,N1,N2,N3,N4,N5,Z0,Z1,Z2,Z3,Z4,Z5,Z6,Z7,Z8,Z9,Z10,Zc,↓reduceIte,reduceCtorEq, h1, h2]
    refine kEY (by simp [kC]) (a := ⟨k, id, par, nm, dir, ops⟩) rfl rfl oa (plainA_ok (a := ⟨k, id, par, nm, dir, ops⟩) oa) ?_
    obtain ⟨b, hb⟩ : ∃ b, decide ((⟨k, id, par, nm, dir, ops⟩ : Ac) = zA ⟨k, id, par, nm, dir, ops⟩) = b := ⟨_, rfl⟩
    rw [hb]
    cases b
    · have hb2 : ¬ (⟨k, id, par, nm, dir, ops⟩ : Ac) = zA ⟨k, id, par, nm, dir, ops⟩ := of_decide_eq_false hb
      have eb := bad (by simp [badA, hb2])
      simp only [aR,N0,N1,N2,N3,N4,N5,Z0,Z1,Z2,Z3,Z4,Z5,Z6,Z7,Z8,Z9,Z10,Zc,↓reduceIte,reduceCtorEq, h1, h2, eb]
    have hb2 : (⟨k, id, par, nm, dir, ops⟩ : Ac) = zA ⟨k, id, par, nm, dir, ops⟩ := of_decide_eq_true hb
    have br := bad_rest (a := ⟨k, id, par, nm, dir, ops⟩) h1 h2 hb2
    have hpl := plain_ops hb2
    simp only at br hpl
    clear hb hb2
    by_cases h3 : id < 1
    · have eb := bad (by rw [br]; simp [h3])
      simp only [aR,N0,N1,N2,N3,N4,N5,Z0,Z1,Z2,Z3,Z4,Z5,Z6,Z7,Z8,Z9,Z10,Zc,↓reduceIte,reduceCtorEq, h1, h2, h3, eb]
    by_cases h4 : id > 1099511627776
    · have eb := bad (by rw [br]; simp [h4])
      simp only [aR,N0,N1,N2,N3,N4,N5,Z0,Z1,Z2,Z3,Z4,Z5,Z6,Z7,Z8,Z9,Z10,Zc,↓reduceIte,reduceCtorEq, h1, h2, h3, h4, eb]
    by_cases h5 : par < 0
    · have eb := bad (by rw [br]; simp [h5])
      simp only [aR,N0,N1,N2,N3,N4,N5,Z0,Z1,Z2,Z3,Z4,Z5,Z6,Z7,Z8,Z9,Z10,Zc,↓reduceIte,reduceCtorEq, h1, h2, h3, h4, h5, eb]
    by_cases h6 : par > 1099511627776
    · have eb := bad (by rw [br]; simp [h6])
      simp only [aR,N0,N1,N2,N3,N4,N5,Z0,Z1,Z2,Z3,Z4,Z5,Z6,Z7,Z8,Z9,Z10,Zc,↓reduceIte,reduceCtorEq, h1, h2, h3, h4, h5, h6, eb]
    have good : ¬ ((k = 1 ∨ k = 3) ∧ jD nm = false) → badA ⟨k, id, par, nm, dir, ops⟩ = false := fun hh => by
      rw [br, decide_eq_false_iff_not]
      rintro (h | h | h | h | h)
      · exact h3 h
      · exact h4 h
      · exact h5 h
      · exact h6 h
      · exact hh h
    -- whatever is not an edit
    have other : k ≠ 4 → badA ⟨k, id, par, nm, dir, ops⟩ = false → zP (l.take (i + 1)) (l.drop (i + 1)) = zP [] l ∧ putS (l.take (i + 1)) = putS (l.take i) := fun hk hbd => by
      have g1 := one_ok hbd
      rw [if_neg hk] at g1
      rw [if_neg (by rw [g1]; simp), if_neg (fun hh => hk hh.1)] at hc
      refine ⟨hc, ?_⟩
      rw [hps, hpl hk]; simp [putC]
    by_cases k1 : k = 1
    · subst k1
      simp only [aR,N0,N1,N2,N3,N4,N5,Z0,Z1,Z2,Z3,Z4,Z5,Z6,Z7,Z8,Z9,Z10,Zc,↓reduceIte,reduceCtorEq, h3, h4, h5, h6]
      refine kD5 (by simp [kC]) hn ?_
      cases hnm : jD nm
      · have eb := bad (by rw [br]; simp [hnm])
        simp only [aR,N0,N1,N2,N3,N4,N5,Z0,Z1,Z2,Z3,Z4,Z5,Z6,Z7,Z8,Z9,Z10,Zc,↓reduceIte,reduceCtorEq, eb]
      · obtain ⟨g1, g2⟩ := other (by decide) (good (by simp [hnm]))
        simp only [aR,N0,N1,N2,N3,N4,N5,Z0,Z1,Z2,Z3,Z4,Z5,Z6,Z7,Z8,Z9,Z10,Zc,↓reduceIte,reduceCtorEq, wr1]
        refine kI ⟨i + 1, by omega, g1, by omega⟩ (by simp only; omega) ?_
        rw [hSt]; refine kH [] [] ?_
        simp only [aR,N0,N1,N2,N3,N4,N5,Z0,Z1,Z2,Z3,Z4,Z5,Z6,Z7,Z8,Z9,Z10,Zc,↓reduceIte,reduceCtorEq, g2] <;> ((repeat' apply And.intro) <;> first | rfl | omega | trivial)
    by_cases k3 : k = 3
    · subst k3
      simp only [aR,N0,N1,N2,N3,N4,N5,Z0,Z1,Z2,Z3,Z4,Z5,Z6,Z7,Z8,Z9,Z10,Zc,↓reduceIte,reduceCtorEq, h3, h4, h5, h6]
      refine kD5 (by simp [kC]) hn ?_
      cases hnm : jD nm
      · have eb := bad (by rw [br]; simp [hnm])
        simp only [aR,N0,N1,N2,N3,N4,N5,Z0,Z1,Z2,Z3,Z4,Z5,Z6,Z7,Z8,Z9,Z10,Zc,↓reduceIte,reduceCtorEq, eb]
      · obtain ⟨g1, g2⟩ := other (by decide) (good (by simp [hnm]))
        simp only [aR,N0,N1,N2,N3,N4,N5,Z0,Z1,Z2,Z3,Z4,Z5,Z6,Z7,Z8,Z9,Z10,Zc,↓reduceIte,reduceCtorEq, wr1]
        refine kI ⟨i + 1, by omega, g1, by omega⟩ (by simp only; omega) ?_
        rw [hSt]; refine kH [] [] ?_
        simp only [aR,N0,N1,N2,N3,N4,N5,Z0,Z1,Z2,Z3,Z4,Z5,Z6,Z7,Z8,Z9,Z10,Zc,↓reduceIte,reduceCtorEq, g2] <;> ((repeat' apply And.intro) <;> first | rfl | omega | trivial)
    have gd := good (fun hh => by rcases hh.1 with h | h; exact k1 h; exact k3 h)
    by_cases k4 : k = 4
    case neg =>
      obtain ⟨g1, g2⟩ := other k4 gd
      simp only [aR,N0,N1,N2,N3,N4,N5,Z0,Z1,Z2,Z3,Z4,Z5,Z6,Z7,Z8,Z9,Z10,Zc,↓reduceIte,reduceCtorEq, h1, h2, h3, h4, h5, h6, k1, k3, k4, wr1]
      refine kI ⟨i + 1, by omega, g1, by omega⟩ (by simp only; omega) ?_
      rw [hSt]; refine kH [] [] ?_
      simp only [aR,N0,N1,N2,N3,N4,N5,Z0,Z1,Z2,Z3,Z4,Z5,Z6,Z7,Z8,Z9,Z10,Zc,↓reduceIte,reduceCtorEq, g2] <;> ((repeat' apply And.intro) <;> first | rfl | omega | trivial)
    subst k4
    have g1 := one_ok gd
    rw [if_pos rfl] at g1
    simp only at g1
    simp only [aR,N0,N1,N2,N3,N4,N5,Z0,Z1,Z2,Z3,Z4,Z5,Z6,Z7,Z8,Z9,Z10,Zc,↓reduceIte,reduceCtorEq, h3, h4, h5, h6]
    refine call_rcheck (by simp [kC]) rfl oa ?_
    by_cases hck : qG ops = 0
    case neg =>
      rw [if_pos (by rw [g1]; exact hck), g1] at hc
      rw [← hc, if_pos hck] at e0
      simp only [aR,N0,N1,N2,N3,N4,N5,Z0,Z1,Z2,Z3,Z4,Z5,Z6,Z7,Z8,Z9,Z10,Zc,↓reduceIte,reduceCtorEq, hck, e0]
    rw [if_neg (by rw [g1, hck]; simp)] at hc
    have hso := (kA6 hck).2.2.1
    have hol := (kA6 hck).1
    simp only [aR,N0,N1,N2,N3,N4,N5,Z0,Z1,Z2,Z3,Z4,Z5,Z6,Z7,Z8,Z9,Z10,Zc,↓reduceIte,reduceCtorEq, hck]
    obtain ⟨Sb, hSb⟩ : ∃ Sb : { j : Nat // j ≤ i ∧ ((l.take i).any fun b => decide (b.k = 4 ∧ b.id = id)) = ((l.take i).drop j).any fun b => decide (b.k = 4 ∧ b.id = id) } → AS, ∀ j, Sb j = AS.of 121 [(0, .sl 0 6 (acts l)), (3, .v (.int .i64 (putS (l.take i)))), (4, .v (.int .i64 i)), (5, .ptr 0 0), (7, .v (.int .i64 j.1))] [.cells [.v (.int .i64 4), .v (.int .i64 id), .v (.int .i64 par), .v (sv nm), .v (.bool dir), .sl 0 3 (kR ops)]] [] := ⟨_, fun _ => rfl⟩
    refine kY hΓ Sb (fun j => i - j.1) ⟨0, by omega, by simp⟩ (by rw [hSb]; refine kH [0] [] ?_; simp only [aR,N0,N1,N2,N3,N4,N5,Z0,Z1,Z2,Z3,Z4,Z5,Z6,Z7,Z8,Z9,Z10,Zc,↓reduceIte,reduceCtorEq] <;> ((repeat' apply And.intro) <;> first | rfl | omega | trivial)) ?_
    rintro ⟨j, hj, hcj⟩
    rw [hSb]
    simp only
    simp only [aR,N0,N1,N2,N3,N4,N5,Z0,Z1,Z2,Z3,Z4,Z5,Z6,Z7,Z8,Z9,Z10,Zc,↓reduceIte,reduceCtorEq]
    (with_reducible first | refine kB (fun h7 => ?_) (fun h7 => ?_) | refine kD (fun h7 => ?_) (fun h7 => ?_))
    · have hlt2 : j < l.length := by omega
      have hlt3 : j < (l.take i).length := by rw [List.length_take]; omega
      have e3 := qQ l hlt2
      rw [List.drop_eq_getElem_cons hlt3, List.any_cons, List.getElem_take] at hcj
      generalize l[j] = b at *
      obtain ⟨bk, bid, bpar, bnm, bdir, bops⟩ := b
      simp only at hcj
      have wr2 := kA (n := (j : Int) + 1) (by omega) (by omega)
      by_cases k5 : bk = 4
      · by_cases k6 : bid = id
        · have hT : kBp (l.take i) ⟨4, id, par, nm, dir, ops⟩ = true := by rw [hcl, hcj]; simp [k5, k6]
          rw [if_pos ⟨rfl, hT⟩] at hc
          rw [← hc, if_pos (by omega)] at e0
          simp only [aR,N0,N1,N2,N3,N4,N5,Z0,Z1,Z2,Z3,Z4,Z5,Z6,Z7,Z8,Z9,Z10,Zc,↓reduceIte,reduceCtorEq, h7, e3, aA, kQ, k5, k6, e0]
          (repeat (with_reducible refine And.intro ?_ ?_; focus (first | omega | exact kG | kernel_rfl)))
          ((repeat' apply And.intro) <;> first | rfl | omega | trivial)
        · simp only [aR,N0,N1,N2,N3,N4,N5,Z0,Z1,Z2,Z3,Z4,Z5,Z6,Z7,Z8,Z9,Z10,Zc,↓reduceIte,reduceCtorEq, h7, e3, aA, kQ, k5, k6, wr2]
          (repeat (with_reducible refine And.intro ?_ ?_; focus (first | omega | exact kG | kernel_rfl)))
          refine kI ⟨j + 1, by omega, by rw [hcj]; simp [k6]⟩ (by simp only; omega) ?_
          rw [hSb]; refine kH [0] [] ?_
          simp only [aR,N0,N1,N2,N3,N4,N5,Z0,Z1,Z2,Z3,Z4,Z5,Z6,Z7,Z8,Z9,Z10,Zc,↓reduceIte,reduceCtorEq] <;> ((repeat' apply And.intro) <;> first | rfl | omega | trivial)
      · simp only [aR,N0,N1,N2,N3,N4,N5,Z0,Z1,Z2,Z3,Z4,Z5,Z6,Z7,Z8,Z9,Z10,Zc,↓reduceIte,reduceCtorEq, h7, e3, aA, kQ, k5, wr2]
        (repeat (with_reducible refine And.intro ?_ ?_; focus (first | omega | exact kG | kernel_rfl)))
        refine kI ⟨j + 1, by omega, by rw [hcj]; simp [k5]⟩ (by simp only; omega) ?_
        rw [hSb]; refine kH [0] [] ?_
        simp only [aR,N0,N1,N2,N3,N4,N5,Z0,Z1,Z2,Z3,Z4,Z5,Z6,Z7,Z8,Z9,Z10,Zc,↓reduceIte,reduceCtorEq] <;> ((repeat' apply And.intro) <;> first | rfl | omega | trivial)
    · rw [List.drop_of_length_le (by rw [List.length_take]; omega)] at hcj
      have hF : kBp (l.take i) ⟨4, id, par, nm, dir, ops⟩ = false := by rw [hcl, hcj]; rfl
      rw [if_neg (by rw [hF]; simp)] at hc
      have hpt := putC_tot ops
      have hot := oa.2.1
      simp only [aR,N0,N1,N2,N3,N4,N5,Z0,Z1,Z2,Z3,Z4,Z5,Z6,Z7,Z8,Z9,Z10,Zc,↓reduceIte,reduceCtorEq, h7]
      obtain ⟨Sd, hSd⟩ : ∃ Sd : { t : Nat // t ≤ ops.length } → AS, ∀ t, Sd t = AS.of 121 [(0, .sl 0 6 (acts l)), (3, .v (.int .i64 ((putS (l.take i) + putC (ops.take t.1) : Nat) : Int))), (4, .v (.int .i64 i)), (5, .ptr 0 0), (8, .v (.int .i64 t.1))] [.cells [.v (.int .i64 4), .v (.int .i64 id), .v (.int .i64 par), .v (sv nm), .v (.bool dir), .sl 0 3 (kR ops)]] [] := ⟨_, fun _ => rfl⟩
      refine kY hΓ Sd (fun t => ops.length - t.1) ⟨0, by omega⟩ (by rw [hSd]; refine kH [0] [] ?_; simp only [aR,N0,N1,N2,N3,N4,N5,Z0,Z1,Z2,Z3,Z4,Z5,Z6,Z7,Z8,Z9,Z10,Zc,↓reduceIte,reduceCtorEq, List.take_zero, putC] <;> ((repeat' apply And.intro) <;> first | rfl | omega | trivial)) ?_
      rintro ⟨t, ht⟩
      rw [hSd]
      simp only
      simp only [aR,N0,N1,N2,N3,N4,N5,Z0,Z1,Z2,Z3,Z4,Z5,Z6,Z7,Z8,Z9,Z10,Zc,↓reduceIte,reduceCtorEq, kF]
      (with_reducible first | refine kB (fun h8 => ?_) (fun h8 => ?_) | refine kD (fun h8 => ?_) (fun h8 => ?_))
      · have hlt4 : t < ops.length := by omega
        have e4 := qA ops hlt4
        have hct := okL.text oa (List.getElem_mem hlt4)
        have hcp := cnt_part (hso _ (List.getElem_mem hlt4))
        have hpc := putC_snoc hlt4
        have hpl1 := putC_le ops (t + 1)
        have hpl2 := putC_le ops t
        rw [← hcp] at hpc
        generalize ops[t] = c at *
        obtain ⟨ck, cn, ct⟩ := c
        simp only at hct hpc
        simp only [aR,N0,N1,N2,N3,N4,N5,Z0,Z1,Z2,Z3,Z4,Z5,Z6,Z7,Z8,Z9,Z10,Zc,↓reduceIte,reduceCtorEq, h8, e4, cA, kF]
        (repeat (with_reducible refine And.intro ?_ ?_; focus (first | omega | exact kG | kernel_rfl)))
        refine call_rcount (by simp [kC]) hct ?_
        simp only [aR,N0,N1,N2,N3,N4,N5,Z0,Z1,Z2,Z3,Z4,Z5,Z6,Z7,Z8,Z9,Z10,Zc,↓reduceIte,reduceCtorEq, kA (n := ((putS (l.take i) + putC (ops.take t) : Nat) : Int) + cnt ct) (by omega) (by omega), kA (n := (t : Int) + 1) (by omega) (by omega)]
        refine kI ⟨t + 1, by omega⟩ (by simp only; omega) ?_
        rw [hSd]; refine kH [0] [] ?_
        simp only [aR,N0,N1,N2,N3,N4,N5,Z0,Z1,Z2,Z3,Z4,Z5,Z6,Z7,Z8,Z9,Z10,Zc,↓reduceIte,reduceCtorEq, hpc] <;> ((repeat' apply And.intro) <;> first | rfl | omega | trivial)
      · have e5 : ops.take t = ops := List.take_of_length_le (by omega)
        simp only [aR,N0,N1,N2,N3,N4,N5,Z0,Z1,Z2,Z3,Z4,Z5,Z6,Z7,Z8,Z9,Z10,Zc,↓reduceIte,reduceCtorEq, h8, e5, wr1]
        refine kI ⟨i + 1, by omega, hc, by omega⟩ (by simp only; omega) ?_
        rw [hSt]; refine kH [] [] ?_
        simp only [aR,N0,N1,N2,N3,N4,N5,Z0,Z1,Z2,Z3,Z4,Z5,Z6,Z7,Z8,Z9,Z10,Zc,↓reduceIte,reduceCtorEq, hps] <;> ((repeat' apply And.intro) <;> first | rfl | omega | trivial)
  · rw [List.drop_of_length_le (by omega), zP] at hc
    rw [← hc, if_neg (by simp)] at e0
    simp only [aR,N0,N1,N2,N3,N4,N5,Z0,Z1,Z2,Z3,Z4,Z5,Z6,Z7,Z8,Z9,Z10,Zc,↓reduceIte,reduceCtorEq, h, show l.take i = l from List.take_of_length_le (by omega)]
    by_cases hp : (putS l : Int) > 2000
    · rw [if_pos hp] at e0
      simp only [aR,N0,N1,N2,N3,N4,N5,Z0,Z1,Z2,Z3,Z4,Z5,Z6,Z7,Z8,Z9,Z10,Zc,↓reduceIte,reduceCtorEq, hp, e0]
    · rw [if_neg hp] at e0
      simp only [aR,N0,N1,N2,N3,N4,N5,Z0,Z1,Z2,Z3,Z4,Z5,Z6,Z7,Z8,Z9,Z10,Zc,↓reduceIte,reduceCtorEq, hp, e0]
end Go.Proofs
end

-- ZUk5
section
namespace Go.Proofs
open Go Go.Rw
open _root_.Nat renaming reduceAdd → N0, reduceSub → N1, reduceMul → N2, reduceLT → N3, reduceLeDiff → N4, reduceEqDiff → N5
open _root_.Int renaming reduceNeg → Z0, reduceAdd → Z1, reduceSub → Z2, reduceMul → Z3, reduceGT → Z4, reduceGE → Z5, reduceLT → Z6, reduceLE → Z7, reduceEq → Z8, reduceNe → Z9, reduceToNat → Z10, cast_ofNat_Int → Zc
set_option maxRecDepth 100000
set_option linter.unusedSimpArgs false
set_option linter.unusedVariables false

end Go.Proofs
end
