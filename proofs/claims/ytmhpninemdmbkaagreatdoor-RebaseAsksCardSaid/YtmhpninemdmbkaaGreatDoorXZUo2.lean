/-
  Which edits may be. Parts put behind others; the normal form. The document's normal form. Parts held against each other; edits that are alike. An edit of a place; what does nothing; the law's own readiness. OpOf answers true. Sums, held; how much an edit takes. Laws of the normal form. What the normal form keeps.
-/
import Derived.Test.YtmhpninemdmbkaaGreatDoorXZUo1
set_option linter.unusedSimpArgs false
set_option linter.unusedVariables false
set_option linter.defProp false

-- ZUo2
section
namespace Go.Proofs
open Go Go.Rw
open _root_.Nat renaming reduceAdd → N0, reduceSub → N1, reduceMul → N2, reduceLT → N3, reduceLeDiff → N4, reduceEqDiff → N5
open _root_.Int renaming reduceNeg → Z0, reduceAdd → Z1, reduceSub → Z2, reduceMul → Z3, reduceGT → Z4, reduceGE → Z5, reduceLT → Z6, reduceLE → Z7, reduceEq → Z8, reduceNe → Z9, reduceToNat → Z10, cast_ofNat_Int → Zc
set_option maxRecDepth 100000
abbrev soundCon : Con := kBB qE
abbrev someCon : Con := kBB qJ
def ahead (l : List Cp) (i : Nat) : Option Cp := if i = 0 then none else l[i - 1]?
abbrev j6 : Con where
  ι := Ed
  args := fun l => [.sl 0 3 (kU l.1)]
  post := fun l r => r = .v (.bool (qL l.1))
  plain := true
theorem normal_good : Rw.Good Tryz.prog 115 j6 := by
  have hΓ : kL Tryz.prog [(127, soundCon)] := (kE sound_good kJ)
  refine kS (nn := 45) hΓ Tryz.func115 (by kernel_rfl) rfl (show Tryz.f115.results.toList = [.tmp 2] from rfl) (fun _ => rfl) (fun _ => rfl) ?_
  rintro ⟨l, hl, htot, hc⟩
  simp only [aR,N0,N1,N2,N3,N4,N5,Z0,Z1,Z2,Z3,Z4,Z5,Z6,Z7,Z8,Z9,Z10,Zc,↓reduceIte,reduceCtorEq, kD]
  obtain ⟨St, hSt⟩ : ∃ St : { i : Nat // i ≤ l.length ∧ qL l = zP (ahead l i) (l.drop i) } → AS, ∀ i, St i = AS.of 45 [(0, .sl 0 3 (kU l)), (5, .sl 0 3 (kU l)), (6, .v (.int .i64 l.length)), (7, .v (.int .i64 i.1))] [] [] := ⟨_, fun _ => rfl⟩
  refine kX hΓ St (fun i => l.length - i.1) ⟨0, by omega, rfl⟩ (by rw [hSt]; refine kH [] [] ?_; simp only [aR,N0,N1,N2,N3,N4,N5,Z0,Z1,Z2,Z3,Z4,Z5,Z6,Z7,Z8,Z9,Z10,Zc,↓reduceIte,reduceCtorEq] <;> ((repeat' apply And.intro) <;> first | rfl | omega | trivial)) ?_
  rintro ⟨i, hi, hb⟩
  rw [hSt]
  simp only
  simp only [aR,N0,N1,N2,N3,N4,N5,Z0,Z1,Z2,Z3,Z4,Z5,Z6,Z7,Z8,Z9,Z10,Zc,↓reduceIte,reduceCtorEq]
  (with_reducible first | refine kC (fun h => ?_) (fun h => ?_) | refine kF (fun h => ?_) (fun h => ?_))
  · have hlt : i < l.length := by omega
    have hci := okL.text ⟨hl, htot, hc⟩ (List.getElem_mem hlt)
    have e1 := k9 l hlt
    rw [List.drop_eq_getElem_cons hlt] at hb
    simp only [zP] at hb
    have hne : ahead l (i + 1) = some l[i] := by simp [ahead, hlt]
    rw [← hne] at hb
    simp (disch := omega) only [aR,N0,N1,N2,N3,N4,N5,Z0,Z1,Z2,Z3,Z4,Z5,Z6,Z7,Z8,Z9,Z10,Zc,↓reduceIte,reduceCtorEq, kA, h, e1, kD]
    (repeat (with_reducible refine And.intro ?_ ?_; focus (first | omega | exact kG | kernel_rfl)))
    refine call_sound (by simp [kB]) hci ?_
    have again : ∀ σ : AS, Weak σ (AS.of 45 [(0, .sl 0 3 (kU l)), (5, .sl 0 3 (kU l)), (6, .v (.int .i64 l.length)), (7, .v (.int .i64 (i + 1 : Nat)))] [] []) → qL l = zP (ahead l (i + 1)) (l.drop (i + 1)) → ∀ (x : { i : Nat // i ≤ l.length ∧ qL l = zP (ahead l i) (l.drop i) }), x.1 = i → kEA St (fun i => l.length - i.1) x σ := fun σ hw hb2 x hx =>
      kI ⟨i + 1, by omega, hb2⟩ (by simp only; omega) (by rw [hSt]; exact hw)
    cases hs : qE l[i] with
    | false =>
      simp only [aR,N0,N1,N2,N3,N4,N5,Z0,Z1,Z2,Z3,Z4,Z5,Z6,Z7,Z8,Z9,Z10,Zc,↓reduceIte,reduceCtorEq, hs]
      rw [hb, hs]; rfl
    | true =>
      rw [hs, Bool.true_and] at hb
      by_cases h0 : i = 0
      · subst h0
        simp only [aR,N0,N1,N2,N3,N4,N5,Z0,Z1,Z2,Z3,Z4,Z5,Z6,Z7,Z8,Z9,Z10,Zc,↓reduceIte,reduceCtorEq, hs]
        have hb3 : qL l = zP (ahead l (0 + 1)) (l.drop (0 + 1)) := by
          rw [hb]; rfl
        refine again _ ?_ hb3 _ rfl
        refine kH [] [] ?_
        simp only [aR,N0,N1,N2,N3,N4,N5,Z0,Z1,Z2,Z3,Z4,Z5,Z6,Z7,Z8,Z9,Z10,Zc,↓reduceIte,reduceCtorEq] <;> ((repeat' apply And.intro) <;> first | rfl | omega | trivial)
      · have hp : ahead l i = some l[i - 1] := by simp [ahead, h0]
        have e2 : (kU l).getD (i - 1) .any = .agg [.v (.int .i64 l[i - 1].k), .v (.int .i64 l[i - 1].n), .v (sv l[i - 1].t)] := k9 l (by omega)
        have e3 : ((i : Int) - 1).toNat = i - 1 := by omega
        rw [hp] at hb
        simp only at hb
        simp (disch := omega) only [aR,N0,N1,N2,N3,N4,N5,Z0,Z1,Z2,Z3,Z4,Z5,Z6,Z7,Z8,Z9,Z10,Zc,↓reduceIte,reduceCtorEq, kA, hs, show (i : Int) > 0 by omega, kD, e3, e2]
        (repeat (with_reducible refine And.intro ?_ ?_; focus (first | omega | exact kG | kernel_rfl)))
        have fol : follows l[i - 1] l[i] = true → qL l = zP (ahead l (i + 1)) (l.drop (i + 1)) := fun h => by rw [hb, h, Bool.true_and]
        have nof : follows l[i - 1] l[i] = false → qL l = false := fun h => by rw [hb, h, Bool.false_and]
        (try ((with_reducible first | refine kC (fun q1 => ?_) (fun q1 => ?_) | refine kF (fun q1 => ?_) (fun q1 => ?_)) <;> simp (disch := omega) only [aR,N0,N1,N2,N3,N4,N5,Z0,Z1,Z2,Z3,Z4,Z5,Z6,Z7,Z8,Z9,Z10,Zc,↓reduceIte,reduceCtorEq, kA, q1, kD, e3, e2] <;> (with_reducible first | (refine And.intro ?_ ?_; focus (first | omega | exact kG | kernel_rfl)); (repeat (with_reducible refine And.intro ?_ ?_; focus (first | omega | exact kG | kernel_rfl))); (try simp (disch := omega) only [aR,N0,N1,N2,N3,N4,N5,Z0,Z1,Z2,Z3,Z4,Z5,Z6,Z7,Z8,Z9,Z10,Zc,↓reduceIte,reduceCtorEq, kA, q1, kD, e3, e2]) | skip) <;> (try ((with_reducible first | refine kC (fun q2 => ?_) (fun q2 => ?_) | refine kF (fun q2 => ?_) (fun q2 => ?_)) <;> simp (disch := omega) only [aR,N0,N1,N2,N3,N4,N5,Z0,Z1,Z2,Z3,Z4,Z5,Z6,Z7,Z8,Z9,Z10,Zc,↓reduceIte,reduceCtorEq, kA, q2, kD, e3, e2] <;> (with_reducible first | (refine And.intro ?_ ?_; focus (first | omega | exact kG | kernel_rfl)); (repeat (with_reducible refine And.intro ?_ ?_; focus (first | omega | exact kG | kernel_rfl))); (try simp (disch := omega) only [aR,N0,N1,N2,N3,N4,N5,Z0,Z1,Z2,Z3,Z4,Z5,Z6,Z7,Z8,Z9,Z10,Zc,↓reduceIte,reduceCtorEq, kA, q2, kD, e3, e2]) | skip) <;> (try ((with_reducible first | refine kC (fun q3 => ?_) (fun q3 => ?_) | refine kF (fun q3 => ?_) (fun q3 => ?_)) <;> simp (disch := omega) only [aR,N0,N1,N2,N3,N4,N5,Z0,Z1,Z2,Z3,Z4,Z5,Z6,Z7,Z8,Z9,Z10,Zc,↓reduceIte,reduceCtorEq, kA, q3, kD, e3, e2] <;> (with_reducible first | (refine And.intro ?_ ?_; focus (first | omega | exact kG | kernel_rfl)); (repeat (with_reducible refine And.intro ?_ ?_; focus (first | omega | exact kG | kernel_rfl))); (try simp (disch := omega) only [aR,N0,N1,N2,N3,N4,N5,Z0,Z1,Z2,Z3,Z4,Z5,Z6,Z7,Z8,Z9,Z10,Zc,↓reduceIte,reduceCtorEq, kA, q3, kD, e3, e2]) | skip) <;> (try ((with_reducible first | refine kC (fun q4 => ?_) (fun q4 => ?_) | refine kF (fun q4 => ?_) (fun q4 => ?_)) <;> simp (disch := omega) only [aR,N0,N1,N2,N3,N4,N5,Z0,Z1,Z2,Z3,Z4,Z5,Z6,Z7,Z8,Z9,Z10,Zc,↓reduceIte,reduceCtorEq, kA, q4, kD, e3, e2] <;> (with_reducible first | (refine And.intro ?_ ?_; focus (first | omega | exact kG | kernel_rfl)); (repeat (with_reducible refine And.intro ?_ ?_; focus (first | omega | exact kG | kernel_rfl))); (try simp (disch := omega) only [aR,N0,N1,N2,N3,N4,N5,Z0,Z1,Z2,Z3,Z4,Z5,Z6,Z7,Z8,Z9,Z10,Zc,↓reduceIte,reduceCtorEq, kA, q4, kD, e3, e2]) | skip) <;> skip))))))))
        all_goals first
          | (rw [nof (by simp [follows]; omega)])
          | (refine again _ ?_ (fol (by simp [follows]; omega)) _ rfl
             refine kH [] [] ?_
             simp only [aR,N0,N1,N2,N3,N4,N5,Z0,Z1,Z2,Z3,Z4,Z5,Z6,Z7,Z8,Z9,Z10,Zc,↓reduceIte,reduceCtorEq] <;> ((repeat' apply And.intro) <;> first | rfl | omega | trivial))
          | trace_state
  · simp only [aR,N0,N1,N2,N3,N4,N5,Z0,Z1,Z2,Z3,Z4,Z5,Z6,Z7,Z8,Z9,Z10,Zc,↓reduceIte,reduceCtorEq, h]
    rw [List.drop_of_length_le (by omega)] at hb
    rw [hb]; rfl
theorem call_normal {Γ : Env} (hf : Γ.get 115 = some j6) {σ : AS} {dr : Bool} {l : List Cp} {t : Nat} {ys : List AV} {d : Option Nat} {K : AS → Prop} (hy : ys = kU l) (h : okL l)
    (hk : cont σ d (.v (.bool (qL l))) K) : kR Tryz.prog Γ dr σ 115 [.sl t 3 ys] d K := by
  subst hy
  exact kK (C := j6) (i := ⟨l, h⟩) hf rfl rfl rfl rfl (fun _ h => h) rfl hk
abbrev jX : Con where
  ι := Ed
  args := fun l => [.sl 0 3 (kU l.1)]
  post := fun l r => r = .v (.int .i64 (qI l.1))
  plain := true
theorem kFP : Rw.Good Tryz.prog 90 jX := by
  have hΓ : kL Tryz.prog [(115, j6), (116, kA4), (117, kD8)] := (kE normal_good (kE base_good (kE out_good kJ)))
  refine kS (nn := 20) hΓ Tryz.func90 (by kernel_rfl) rfl (show Tryz.f90.results.toList = [.tmp 2] from rfl) (fun _ => rfl) (fun _ => rfl) ?_
  rintro ⟨l, hl⟩
  simp only [aR,N0,N1,N2,N3,N4,N5,Z0,Z1,Z2,Z3,Z4,Z5,Z6,Z7,Z8,Z9,Z10,Zc,↓reduceIte,reduceCtorEq, kD]
  have c1 : 100 < (l.length : Int) → qI l = 3 := fun h => by rw [qI, if_pos (by omega)]
  have c2 : ¬ 100 < (l.length : Int) → qL l = false → qI l = 1 := fun h h2 => by rw [qI, if_neg (by omega), if_pos h2]
  have c3 : ¬ 100 < (l.length : Int) → qL l = true → (zY l > 2000 ∨ outL l > 2000) → qI l = 3 := fun h h2 h3 => by rw [qI, if_neg (by omega), if_neg (by rw [h2]; decide), if_pos h3]
  have c4 : ¬ 100 < (l.length : Int) → qL l = true → ¬ (zY l > 2000 ∨ outL l > 2000) → qI l = 0 := fun h h2 h3 => by rw [qI, if_neg (by omega), if_neg (by rw [h2]; decide), if_neg h3]
  (with_reducible first | refine kC (fun h => ?_) (fun h => ?_) | refine kF (fun h => ?_) (fun h => ?_))
  · simp only [aR,N0,N1,N2,N3,N4,N5,Z0,Z1,Z2,Z3,Z4,Z5,Z6,Z7,Z8,Z9,Z10,Zc,↓reduceIte,reduceCtorEq, h, c1 (by omega)]
  · simp only [aR,N0,N1,N2,N3,N4,N5,Z0,Z1,Z2,Z3,Z4,Z5,Z6,Z7,Z8,Z9,Z10,Zc,↓reduceIte,reduceCtorEq, h]
    refine call_normal (by simp [kB]) rfl hl ?_
    cases hn : qL l with
    | false => simp only [aR,N0,N1,N2,N3,N4,N5,Z0,Z1,Z2,Z3,Z4,Z5,Z6,Z7,Z8,Z9,Z10,Zc,↓reduceIte,reduceCtorEq, hn, c2 (by omega) hn]
    | true =>
      simp only [aR,N0,N1,N2,N3,N4,N5,Z0,Z1,Z2,Z3,Z4,Z5,Z6,Z7,Z8,Z9,Z10,Zc,↓reduceIte,reduceCtorEq, hn]
      refine kEg (by simp [kB]) rfl hl ?_
      simp only [aR,N0,N1,N2,N3,N4,N5,Z0,Z1,Z2,Z3,Z4,Z5,Z6,Z7,Z8,Z9,Z10,Zc,↓reduceIte,reduceCtorEq]
      (with_reducible first | refine kC (fun h1 => ?_) (fun h1 => ?_) | refine kF (fun h1 => ?_) (fun h1 => ?_))
      · simp only [aR,N0,N1,N2,N3,N4,N5,Z0,Z1,Z2,Z3,Z4,Z5,Z6,Z7,Z8,Z9,Z10,Zc,↓reduceIte,reduceCtorEq, h1, c3 (by omega) hn (.inl (by omega))]
      · simp only [aR,N0,N1,N2,N3,N4,N5,Z0,Z1,Z2,Z3,Z4,Z5,Z6,Z7,Z8,Z9,Z10,Zc,↓reduceIte,reduceCtorEq, h1]
        refine call_out (by simp [kB]) rfl hl ?_
        simp only [aR,N0,N1,N2,N3,N4,N5,Z0,Z1,Z2,Z3,Z4,Z5,Z6,Z7,Z8,Z9,Z10,Zc,↓reduceIte,reduceCtorEq]
        (with_reducible first | refine kC (fun h2 => ?_) (fun h2 => ?_) | refine kF (fun h2 => ?_) (fun h2 => ?_))
        · simp only [aR,N0,N1,N2,N3,N4,N5,Z0,Z1,Z2,Z3,Z4,Z5,Z6,Z7,Z8,Z9,Z10,Zc,↓reduceIte,reduceCtorEq, h2, c3 (by omega) hn (.inr (by omega))]
        · simp only [aR,N0,N1,N2,N3,N4,N5,Z0,Z1,Z2,Z3,Z4,Z5,Z6,Z7,Z8,Z9,Z10,Zc,↓reduceIte,reduceCtorEq, h2, c4 (by omega) hn (by omega)]
theorem kDD {Γ : Env} (hf : Γ.get 90 = some jX) {σ : AS} {dr : Bool} {l : List Cp} {t : Nat} {ys : List AV} {d : Option Nat} {K : AS → Prop} (hy : ys = kU l) (h : okL l)
    (hk : cont σ d (.v (.int .i64 (qI l))) K) : kR Tryz.prog Γ dr σ 90 [.sl t 3 ys] d K := by
  subst hy
  exact kK (C := jX) (i := ⟨l, h⟩) hf rfl rfl rfl rfl (fun _ h => h) rfl hk
end Go.Proofs
end
-- ZUo3
section
namespace Go.Proofs
open Go Go.Rw
open _root_.Nat renaming reduceAdd → N0, reduceSub → N1, reduceMul → N2, reduceLT → N3, reduceLeDiff → N4, reduceEqDiff → N5
open _root_.Int renaming reduceNeg → Z0, reduceAdd → Z1, reduceSub → Z2, reduceMul → Z3, reduceGT → Z4, reduceGE → Z5, reduceLT → Z6, reduceLE → Z7, reduceEq → Z8, reduceNe → Z9, reduceToNat → Z10, cast_ofNat_Int → Zc
set_option maxRecDepth 100000
theorem ofV1_aggv {a : Array Value} : ofV1 (.agg a) = .v (.agg a) := rfl
def pN (c : Cp) : List Cp := if qJ c then [c] else []
def putN (k : Int) (t : List UInt8) (g : Int) : Nat → List Cp
  | 0 => []
  | 1 => pN ⟨1, k, []⟩
  | 2 => pN ⟨1, k, []⟩ ++ pN ⟨2, 0, t⟩
  | _ => pN ⟨1, k, []⟩ ++ pN ⟨2, 0, t⟩ ++ pN ⟨3, g, []⟩
theorem putN_three (k : Int) (t : List UInt8) (g : Int) : putN k t g 3 = putL k t g := by
  unfold putN putL pN qJ
  simp
theorem pN_len (c : Cp) : (pN c).length ≤ 1 := by
  unfold pN
  split <;> simp
theorem putN_len (k : Int) (t : List UInt8) (g : Int) (j : Nat) : (putN k t g j).length ≤ 3 := by
  have h1 := pN_len ⟨1, k, []⟩
  have h2 := pN_len ⟨2, 0, t⟩
  have h3 := pN_len ⟨3, g, []⟩
  match j with
  | 0 => simp [putN]
  | 1 => simp only [putN]; omega
  | 2 => simp only [putN, List.length_append]; omega
  | n + 3 => simp only [putN, List.length_append]; omega
abbrev Pt := { p : (List Cp × Int) × (List UInt8 × Int) // p.1.1.length ≤ 4000000000000 ∧ (0 ≤ p.1.2 ∧ p.1.2 ≤ 1099511627776) ∧ p.2.1.length ≤ 1099511627776 ∧ (0 ≤ p.2.2 ∧ p.2.2 ≤ 1099511627776) }
abbrev putCon : Con where
  ι := Pt
  args := fun p => [.sl 2 3 (kU p.1.1.1), .v (.int .i64 p.1.1.2), .v (sv p.1.2.1), .v (.int .i64 p.1.2.2)]
  post := fun p r => r = .sl 2 3 (kU (p.1.1.1 ++ putL p.1.1.2 p.1.2.1 p.1.2.2))
  own := some (0, 80)
  take := some (0, 80)
theorem put_good : Rw.Good Tryz.prog 121 putCon := by
  have hΓ : kL Tryz.prog [(119, someCon)] := (kE some_good kJ)
  refine good_tk (nn := 31) hΓ Tryz.func121 (by kernel_rfl) rfl (show Tryz.f121.results.toList = [.tmp 8] from rfl) (fun _ => rfl) (fun _ => rfl) ?_
  rintro ⟨⟨⟨l, k⟩, ⟨t, g⟩⟩, hl, hk, ht, hg⟩
  simp only at hl hk ht hg
  have hmin : min k 1099511627776 = k := by omega
  have hmin2 : min g 1099511627776 = g := by omega
  simp only [aR,N0,N1,N2,N3,N4,N5,Z0,Z1,Z2,Z3,Z4,Z5,Z6,Z7,Z8,Z9,Z10,Zc,↓reduceIte,reduceCtorEq, kD, kB7, hmin, hmin2, List.map_cons, List.map_nil, ofV1_aggv]
  obtain ⟨St, hSt⟩ : ∃ St : { j : Nat // j ≤ 3 } → AS, ∀ j, St j = AS.of 31 [(0, .sl 2 3 (kU (l ++ putN k t g j.1))), (19, .agg [.v (.int .i64 1), .v (.int .i64 k), .v (sv []), .v (.int .i64 2), .v (.int .i64 0), .v (sv t), .v (.int .i64 3), .v (.int .i64 g), .v (sv [])]), (20, .v (.int .i64 j.1))] [] [((kU (l ++ putN k t g j.1)).length, 80)] false := ⟨_, fun _ => rfl⟩
  refine kX hΓ St (fun j => 3 - j.1) ⟨0, by omega⟩ (by rw [hSt]; refine kH [] [.live 2] ?_; simp only [aR,N0,N1,N2,N3,N4,N5,Z0,Z1,Z2,Z3,Z4,Z5,Z6,Z7,Z8,Z9,Z10,Zc,↓reduceIte,reduceCtorEq, putN, kD] <;> ((repeat' apply And.intro) <;> first | rfl | omega | trivial)) ?_
  rintro ⟨j, hj⟩
  rw [hSt]
  simp only
  have hpl := putN_len k t g j
  have again : ∀ σ : AS, (j < 3) → Weak σ (AS.of 31 [(0, .sl 2 3 (kU (l ++ putN k t g (j + 1)))), (19, .agg [.v (.int .i64 1), .v (.int .i64 k), .v (sv []), .v (.int .i64 2), .v (.int .i64 0), .v (sv t), .v (.int .i64 3), .v (.int .i64 g), .v (sv [])]), (20, .v (.int .i64 (j + 1 : Nat)))] [] [((kU (l ++ putN k t g (j + 1))).length, 80)] false) → ∀ (x : { j : Nat // j ≤ 3 }), x.1 = j → kEA St (fun j => 3 - j.1) x σ := fun σ h3 hw x hx =>
    kI ⟨j + 1, by omega⟩ (by simp only; omega) (by rw [hSt]; exact hw)
  match j with
  | 0 =>
    simp only [aR,N0,N1,N2,N3,N4,N5,Z0,Z1,Z2,Z3,Z4,Z5,Z6,Z7,Z8,Z9,Z10,Zc,↓reduceIte,reduceCtorEq, kD, putN]
    refine kC6 (c := ⟨1, k, []⟩) (by simp [kB]) (by simp only [List.length_nil]; omega) ?_
    cases hs : qJ ⟨1, k, []⟩ with
    | false =>
      simp (disch := omega) only [aR,N0,N1,N2,N3,N4,N5,Z0,Z1,Z2,Z3,Z4,Z5,Z6,Z7,Z8,Z9,Z10,Zc,↓reduceIte,reduceCtorEq, kA, hs]
      refine again _ (by omega) ?_ _ rfl
      rw [show putN k t g (0 + 1) = putN k t g 0 from by simp [putN, pN, hs]]
      refine kH [] [.live 2] ?_
      simp only [aR,N0,N1,N2,N3,N4,N5,Z0,Z1,Z2,Z3,Z4,Z5,Z6,Z7,Z8,Z9,Z10,Zc,↓reduceIte,reduceCtorEq, kD, putN] <;> ((repeat' apply And.intro) <;> first | rfl | omega | trivial)
    | true =>
      simp (disch := omega) only [aR,N0,N1,N2,N3,N4,N5,Z0,Z1,Z2,Z3,Z4,Z5,Z6,Z7,Z8,Z9,Z10,Zc,↓reduceIte,reduceCtorEq, kA, hs, kD, qP, List.append_assoc, List.length_append]
      (repeat (with_reducible refine And.intro ?_ ?_; focus (first | omega | exact kG | kernel_rfl)))
      refine again _ (by omega) ?_ _ rfl
      rw [show putN k t g (0 + 1) = putN k t g 0 ++ [⟨1, k, []⟩] from by simp [putN, pN, hs]]
      refine kH [] [.live 2] ?_
      simp only [aR,N0,N1,N2,N3,N4,N5,Z0,Z1,Z2,Z3,Z4,Z5,Z6,Z7,Z8,Z9,Z10,Zc,↓reduceIte,reduceCtorEq, kD, List.append_assoc, List.length_append, putN] <;> ((repeat' apply And.intro) <;> first | rfl | omega | trivial)
  | 1 =>
    simp only [aR,N0,N1,N2,N3,N4,N5,Z0,Z1,Z2,Z3,Z4,Z5,Z6,Z7,Z8,Z9,Z10,Zc,↓reduceIte,reduceCtorEq, kD, List.length_append]
    refine kC6 (c := ⟨2, 0, t⟩) (by simp [kB]) (by simp only [List.length_nil]; omega) ?_
    cases hs : qJ ⟨2, 0, t⟩ with
    | false =>
      simp (disch := omega) only [aR,N0,N1,N2,N3,N4,N5,Z0,Z1,Z2,Z3,Z4,Z5,Z6,Z7,Z8,Z9,Z10,Zc,↓reduceIte,reduceCtorEq, kA, hs]
      refine again _ (by omega) ?_ _ rfl
      rw [show putN k t g (1 + 1) = putN k t g 1 from by simp [putN, pN, hs]]
      refine kH [] [.live 2] ?_
      simp only [aR,N0,N1,N2,N3,N4,N5,Z0,Z1,Z2,Z3,Z4,Z5,Z6,Z7,Z8,Z9,Z10,Zc,↓reduceIte,reduceCtorEq, kD, List.length_append] <;> ((repeat' apply And.intro) <;> first | rfl | omega | trivial)
    | true =>
      simp (disch := omega) only [aR,N0,N1,N2,N3,N4,N5,Z0,Z1,Z2,Z3,Z4,Z5,Z6,Z7,Z8,Z9,Z10,Zc,↓reduceIte,reduceCtorEq, kA, hs, kD, qP, List.append_assoc, List.length_append]
      (repeat (with_reducible refine And.intro ?_ ?_; focus (first | omega | exact kG | kernel_rfl)))
      refine again _ (by omega) ?_ _ rfl
      rw [show putN k t g (1 + 1) = putN k t g 1 ++ [⟨2, 0, t⟩] from by simp [putN, pN, hs]]
      refine kH [] [.live 2] ?_
      simp only [aR,N0,N1,N2,N3,N4,N5,Z0,Z1,Z2,Z3,Z4,Z5,Z6,Z7,Z8,Z9,Z10,Zc,↓reduceIte,reduceCtorEq, kD, List.append_assoc, List.length_append, List.length_append] <;> ((repeat' apply And.intro) <;> first | rfl | omega | trivial)
  | 2 =>
    simp only [aR,N0,N1,N2,N3,N4,N5,Z0,Z1,Z2,Z3,Z4,Z5,Z6,Z7,Z8,Z9,Z10,Zc,↓reduceIte,reduceCtorEq, kD, List.length_append]
    refine kC6 (c := ⟨3, g, []⟩) (by simp [kB]) (by simp only [List.length_nil]; omega) ?_
    cases hs : qJ ⟨3, g, []⟩ with
    | false =>
      simp (disch := omega) only [aR,N0,N1,N2,N3,N4,N5,Z0,Z1,Z2,Z3,Z4,Z5,Z6,Z7,Z8,Z9,Z10,Zc,↓reduceIte,reduceCtorEq, kA, hs]
      refine again _ (by omega) ?_ _ rfl
      rw [show putN k t g (2 + 1) = putN k t g 2 from by simp [putN, pN, hs]]
      refine kH [] [.live 2] ?_
      simp only [aR,N0,N1,N2,N3,N4,N5,Z0,Z1,Z2,Z3,Z4,Z5,Z6,Z7,Z8,Z9,Z10,Zc,↓reduceIte,reduceCtorEq, kD, List.length_append] <;> ((repeat' apply And.intro) <;> first | rfl | omega | trivial)
    | true =>
      simp (disch := omega) only [aR,N0,N1,N2,N3,N4,N5,Z0,Z1,Z2,Z3,Z4,Z5,Z6,Z7,Z8,Z9,Z10,Zc,↓reduceIte,reduceCtorEq, kA, hs, kD, qP, List.append_assoc, List.length_append]
      (repeat (with_reducible refine And.intro ?_ ?_; focus (first | omega | exact kG | kernel_rfl)))
      refine again _ (by omega) ?_ _ rfl
      rw [show putN k t g (2 + 1) = putN k t g 2 ++ [⟨3, g, []⟩] from by simp [putN, pN, hs]]
      refine kH [] [.live 2] ?_
      simp only [aR,N0,N1,N2,N3,N4,N5,Z0,Z1,Z2,Z3,Z4,Z5,Z6,Z7,Z8,Z9,Z10,Zc,↓reduceIte,reduceCtorEq, kD, List.append_assoc, List.length_append, List.length_append] <;> ((repeat' apply And.intro) <;> first | rfl | omega | trivial)
  | 3 =>
    simp only [aR,N0,N1,N2,N3,N4,N5,Z0,Z1,Z2,Z3,Z4,Z5,Z6,Z7,Z8,Z9,Z10,Zc,↓reduceIte,reduceCtorEq]
    rw [putN_three]
  | n + 4 => omega
theorem call_put {Γ : Env} (hf : Γ.get 121 = some putCon) {n : Nat} {t : Nat → AV} {hd : Nat → Nat → AV} {nh nl : Nat} {h : Nat → Option AO} {fm : Nat → Nat} {lv : Nat → Option (Nat × Nat)} {mu : Bool} {tag : Nat} {l : List Cp} {k : Int} {tx : List UInt8} {g : Int} {ys : List AV} {d : Option Nat} {K : AS → Prop}
    (hy : ys = kU l) (h2 : 2 ≤ tag) (hlv : lv tag = some (ys.length, 80)) (hone : ∀ l2, lv l2 ≠ none → fm l2 = fm tag → l2 = tag)
    (hl : l.length ≤ 4000000000000) (hkk : 0 ≤ k ∧ k ≤ 1099511627776) (ht : tx.length ≤ 1099511627776) (hg : 0 ≤ g ∧ g ≤ 1099511627776)
    (hk : cont ⟨n, t, hd, ⟨nh, h, nl + 1, upd fm nl (fm tag), upd (upd lv tag none) nl (some ((kU (l ++ putL k tx g)).length, 80)), mu⟩⟩ d (.sl nl 3 (kU (l ++ putL k tx g))) K) :
    kR Tryz.prog Γ false ⟨n, t, hd, ⟨nh, h, nl, fm, lv, mu⟩⟩ 121 [.sl tag 3 ys, .v (.int .i64 k), .v (sv tx), .v (.int .i64 g)] d K := by
  subst hy
  refine vcCall_take (C := putCon) (i := ⟨((l, k), (tx, g)), hl, hkk, ht, hg⟩) hf rfl rfl rfl (l := tag) (sz := 3) (xs := kU l) rfl h2 hlv rfl ?_ rfl hone ?_
  · have : (tag == 0) = false := by simp; omega
    simp [AV.tagsL, AV.tags]; omega
  · rintro r rfl
    exact hk
theorem nf_no {k : Int} {t : List UInt8} {g : Int} {c : Cp} {r : List Cp} (h : qJ c = false) : nfF k t g (c :: r) = nfF k t g r := by rw [nfF, if_pos h]
theorem kCk {k : Int} {t : List UInt8} {g : Int} {c : Cp} {r : List Cp} (h : qJ c = true) (h2 : c.k = 2) : nfF k t g (c :: r) = nfF k (t ++ c.t) g r := by rw [nfF, if_neg (by rw [h]; decide), if_pos h2]
theorem kCr {k : Int} {t : List UInt8} {g : Int} {c : Cp} {r : List Cp} (h : qJ c = true) (h2 : c.k = 3) : nfF k t g (c :: r) = nfF k t (addI g c.n) r := by rw [nfF, if_neg (by rw [h]; decide), if_neg (by omega), if_pos h2]
theorem kF0 {k : Int} {t : List UInt8} {g : Int} {c : Cp} {r : List Cp} (h : qJ c = true) (h2 : ¬ c.k = 2) (h3 : ¬ c.k = 3) (h4 : t ≠ [] ∨ g > 0) : nfF k t g (c :: r) = putL k t g ++ nfF (addI 0 c.n) [] 0 r := by rw [nfF, if_neg (by rw [h]; decide), if_neg h2, if_neg h3, if_pos h4]
theorem kDJ {k : Int} {t : List UInt8} {g : Int} {c : Cp} {r : List Cp} (h : qJ c = true) (h2 : ¬ c.k = 2) (h3 : ¬ c.k = 3) (h4 : ¬ (t ≠ [] ∨ g > 0)) : nfF k t g (c :: r) = nfF (addI k c.n) t g r := by rw [nfF, if_neg (by rw [h]; decide), if_neg h2, if_neg h3, if_neg h4]
theorem kCX {c : Cp} (h : qJ c = true) (h2 : ¬ c.k = 2) : 0 < c.n := by
  simp only [qJ, if_neg h2] at h
  simp at h; omega
abbrev kCh : Con where
  ι := Ed
  args := fun l => [.sl 0 3 (kU l.1)]
  post := fun l r => r = .sl 0 3 (kU (nf l.1))
abbrev NSt (l : List Cp) := { p : (List Cp × Nat) × ((Int × List UInt8) × Int) // p.1.2 ≤ l.length ∧ (0 ≤ p.2.1.1 ∧ p.2.1.1 ≤ 1099511627776) ∧ (0 ≤ p.2.2 ∧ p.2.2 ≤ 1099511627776) ∧ p.2.1.2.length + tot (l.drop p.1.2) ≤ 1099511627776 ∧ p.1.1 ++ nfF p.2.1.1 p.2.1.2 p.2.2 (l.drop p.1.2) = nf l }
theorem norm_good : Rw.Good Tryz.prog 99 kCh := by
  have hΓ : kL Tryz.prog [(119, someCon), (120, kEz), (121, putCon)] := (kE some_good (kE add_good (kE put_good kJ)))
  refine kS (nn := 55) hΓ Tryz.func99 (by kernel_rfl) rfl (show Tryz.f99.results.toList = [.tmp 2] from rfl) (fun _ => rfl) (fun _ => rfl) ?_
  rintro ⟨l, hl, htot, hc⟩
  have hlen := (kDO l 0 [] 0 (by omega) (by omega)).1
  simp only [aR,N0,N1,N2,N3,N4,N5,Z0,Z1,Z2,Z3,Z4,Z5,Z6,Z7,Z8,Z9,Z10,Zc,↓reduceIte,reduceCtorEq, kD]
  obtain ⟨St, hSt⟩ : ∃ St : NSt l → AS, ∀ p, St p = AS.of 55 [(0, .sl 0 3 (kU l)), (2, .sl 2 3 (kU p.1.1.1)), (3, .ptr 0 0), (4, .v (sv p.1.2.1.2)), (5, .v (.int .i64 p.1.2.2)), (6, .v (.int .i64 p.1.2.1.1)), (7, .v (.int .i64 p.1.1.2))] [.cells [.any, .any, .any]] [(p.1.1.1.length, 80)] := ⟨_, fun _ => rfl⟩
  refine vc_lab hΓ 1 St (fun p => l.length - p.1.1.2) 1 rfl rfl ?_ ?_
  · rintro ⟨⟨⟨out, i⟩, ⟨⟨k, t⟩, g⟩⟩, hi, hk, hg, ht, hn⟩
    simp only at hi hk hg ht hn
    have hout : out.length ≤ 4000000000000 := by
      have := congrArg List.length hn
      rw [List.length_append] at this
      unfold nf at this
      omega
    rw [hSt]
    simp only
    simp only [aR,N0,N1,N2,N3,N4,N5,Z0,Z1,Z2,Z3,Z4,Z5,Z6,Z7,Z8,Z9,Z10,Zc,↓reduceIte,reduceCtorEq, kD]
    (with_reducible first | refine kC (fun h => ?_) (fun h => ?_) | refine kF (fun h => ?_) (fun h => ?_))
    · simp only [aR,N0,N1,N2,N3,N4,N5,Z0,Z1,Z2,Z3,Z4,Z5,Z6,Z7,Z8,Z9,Z10,Zc,↓reduceIte,reduceCtorEq]
      refine ⟨_, rfl, ?_⟩
      simp only [aR,N0,N1,N2,N3,N4,N5,Z0,Z1,Z2,Z3,Z4,Z5,Z6,Z7,Z8,Z9,Z10,Zc,↓reduceIte,reduceCtorEq]
      refine call_put (by simp [kB]) rfl (by omega) (by simp [kD]) (by simp) hout hk (by omega) hg ?_
      simp only [aR,N0,N1,N2,N3,N4,N5,Z0,Z1,Z2,Z3,Z4,Z5,Z6,Z7,Z8,Z9,Z10,Zc,↓reduceIte,reduceCtorEq]
      rw [← hn, List.drop_of_length_le (by omega)]
      rfl
    · have hlt : i < l.length := by omega
      have e1 := k9 l hlt
      have hci := okL.text ⟨hl, htot, hc⟩ (List.getElem_mem hlt)
      have hcn := hc l[i] (List.getElem_mem hlt)
      have hpos : qJ l[i] = true → ¬ l[i].k = 2 → 0 < l[i].n := kCX
      have hd2 := ht
      rw [List.drop_eq_getElem_cons hlt] at hn hd2
      simp only [tot] at hd2
      have again : ∀ (σ : AS) (out2 : List Cp) (k2 : Int) (t2 : List UInt8) (g2 : Int), Weak σ (AS.of 55 [(0, .sl 0 3 (kU l)), (2, .sl 2 3 (kU out2)), (3, .ptr 0 0), (4, .v (sv t2)), (5, .v (.int .i64 g2)), (6, .v (.int .i64 k2)), (7, .v (.int .i64 (i + 1 : Nat)))] [.cells [.any, .any, .any]] [(out2.length, 80)]) →
          (0 ≤ k2 ∧ k2 ≤ 1099511627776) → (0 ≤ g2 ∧ g2 ≤ 1099511627776) → t2.length + tot (l.drop (i + 1)) ≤ 1099511627776 → out2 ++ nfF k2 t2 g2 (l.drop (i + 1)) = nf l →
          ∃ y : NSt l, l.length - y.1.1.2 < l.length - i ∧ Weak σ (St y) := fun σ out2 k2 t2 g2 hw h1 h2 h3 h4 =>
        ⟨⟨((out2, i + 1), ((k2, t2), g2)), by simp only; omega, h1, h2, h3, h4⟩, by simp only; omega, by rw [hSt]; exact hw⟩
      generalize l[i] = c at *
      obtain ⟨ck, cn, ct⟩ := c
      simp only at hci hcn hpos hd2 e1
      simp (disch := omega) only [aR,N0,N1,N2,N3,N4,N5,Z0,Z1,Z2,Z3,Z4,Z5,Z6,Z7,Z8,Z9,Z10,Zc,↓reduceIte,reduceCtorEq, kA, h, e1, kD]
      (repeat (with_reducible refine And.intro ?_ ?_; focus (first | omega | exact kG | kernel_rfl)))
      refine kC6 (c := ⟨ck, cn, ct⟩) (by simp [kB]) hci ?_
      cases hs : qJ ⟨ck, cn, ct⟩ with
      | false =>
        simp only [aR,N0,N1,N2,N3,N4,N5,Z0,Z1,Z2,Z3,Z4,Z5,Z6,Z7,Z8,Z9,Z10,Zc,↓reduceIte,reduceCtorEq, hs]
        refine again _ out k t g ?_ hk hg (by omega) (by rw [← hn, nf_no hs])
        refine kH [0] [.live 2] ?_
        simp only [aR,N0,N1,N2,N3,N4,N5,Z0,Z1,Z2,Z3,Z4,Z5,Z6,Z7,Z8,Z9,Z10,Zc,↓reduceIte,reduceCtorEq, kD] <;> ((repeat' apply And.intro) <;> first | rfl | omega | trivial)
      | true =>
        simp only [aR,N0,N1,N2,N3,N4,N5,Z0,Z1,Z2,Z3,Z4,Z5,Z6,Z7,Z8,Z9,Z10,Zc,↓reduceIte,reduceCtorEq, hs]
        (with_reducible first | refine kC (fun h2 => ?_) (fun h2 => ?_) | refine kF (fun h2 => ?_) (fun h2 => ?_))
        · simp (disch := omega) only [aR,N0,N1,N2,N3,N4,N5,Z0,Z1,Z2,Z3,Z4,Z5,Z6,Z7,Z8,Z9,Z10,Zc,↓reduceIte,reduceCtorEq, kA, h2]
          (repeat (with_reducible refine And.intro ?_ ?_; focus (first | omega | exact kG | kernel_rfl)))
          refine again _ out k (t ++ ct) g ?_ hk hg (by rw [List.length_append]; omega) (by rw [← hn, kCk hs h2])
          refine kH [0] [.live 2] ?_
          simp only [aR,N0,N1,N2,N3,N4,N5,Z0,Z1,Z2,Z3,Z4,Z5,Z6,Z7,Z8,Z9,Z10,Zc,↓reduceIte,reduceCtorEq, kD] <;> ((repeat' apply And.intro) <;> first | rfl | omega | trivial)
        · simp (disch := omega) only [aR,N0,N1,N2,N3,N4,N5,Z0,Z1,Z2,Z3,Z4,Z5,Z6,Z7,Z8,Z9,Z10,Zc,↓reduceIte,reduceCtorEq, kA, h2]
          have hp := hpos hs h2
          (with_reducible first | refine kC (fun h3 => ?_) (fun h3 => ?_) | refine kF (fun h3 => ?_) (fun h3 => ?_))
          · simp (disch := omega) only [aR,N0,N1,N2,N3,N4,N5,Z0,Z1,Z2,Z3,Z4,Z5,Z6,Z7,Z8,Z9,Z10,Zc,↓reduceIte,reduceCtorEq, kA, h3]
            refine kAn (by simp [kB]) hg (by omega) ?_
            simp only [aR,N0,N1,N2,N3,N4,N5,Z0,Z1,Z2,Z3,Z4,Z5,Z6,Z7,Z8,Z9,Z10,Zc,↓reduceIte,reduceCtorEq]
            refine again _ out k t (addI g cn) ?_ hk (k8 hg.1 (by omega)) (by omega) (by rw [← hn, kCr hs h3])
            refine kH [0] [.live 2] ?_
            simp only [aR,N0,N1,N2,N3,N4,N5,Z0,Z1,Z2,Z3,Z4,Z5,Z6,Z7,Z8,Z9,Z10,Zc,↓reduceIte,reduceCtorEq, kD] <;> ((repeat' apply And.intro) <;> first | rfl | omega | trivial)
          · simp (disch := omega) only [aR,N0,N1,N2,N3,N4,N5,Z0,Z1,Z2,Z3,Z4,Z5,Z6,Z7,Z8,Z9,Z10,Zc,↓reduceIte,reduceCtorEq, kA, h3]
            by_cases h4 : t ≠ [] ∨ g > 0
            · have fin : ∀ (σ : AS), Weak σ (AS.of 55 [(0, .sl 0 3 (kU l)), (2, .sl 2 3 (kU (out ++ putL k t g))), (3, .ptr 0 0), (4, .v (sv [])), (5, .v (.int .i64 0)), (6, .v (.int .i64 (addI 0 cn))), (7, .v (.int .i64 (i + 1 : Nat)))] [.cells [.any, .any, .any]] [((out ++ putL k t g).length, 80)]) → ∃ y : NSt l, l.length - y.1.1.2 < l.length - i ∧ Weak σ (St y) := fun σ hw =>
                again σ (out ++ putL k t g) (addI 0 cn) [] 0 hw (k8 (by omega) (by omega)) (by omega) (by rw [List.length_nil]; omega) (by rw [← hn, kF0 hs h2 h3 h4, List.append_assoc])
              by_cases h5 : t = []
              · have h6 : g > 0 := by
                  rcases h4 with h | h
                  · exact absurd h5 h
                  · exact h
                subst h5
                simp (disch := omega) only [aR,N0,N1,N2,N3,N4,N5,Z0,Z1,Z2,Z3,Z4,Z5,Z6,Z7,Z8,Z9,Z10,Zc,↓reduceIte,reduceCtorEq, kA, h6]
                refine call_put (by simp [kB]) rfl (by omega) (by simp [kD]) (by simp) hout hk (by simp only [List.length_nil]; omega) hg ?_
                simp only [aR,N0,N1,N2,N3,N4,N5,Z0,Z1,Z2,Z3,Z4,Z5,Z6,Z7,Z8,Z9,Z10,Zc,↓reduceIte,reduceCtorEq]
                refine kAn (by simp [kB]) ⟨by omega, by omega⟩ (by omega) ?_
                simp only [aR,N0,N1,N2,N3,N4,N5,Z0,Z1,Z2,Z3,Z4,Z5,Z6,Z7,Z8,Z9,Z10,Zc,↓reduceIte,reduceCtorEq]
                refine fin _ ?_
                refine kH [0] [.live 3] ?_
                simp only [aR,N0,N1,N2,N3,N4,N5,Z0,Z1,Z2,Z3,Z4,Z5,Z6,Z7,Z8,Z9,Z10,Zc,↓reduceIte,reduceCtorEq, kD] <;> ((repeat' apply And.intro) <;> first | rfl | omega | trivial)
              · simp (disch := omega) only [aR,N0,N1,N2,N3,N4,N5,Z0,Z1,Z2,Z3,Z4,Z5,Z6,Z7,Z8,Z9,Z10,Zc,↓reduceIte,reduceCtorEq, kA, h5]
                refine call_put (by simp [kB]) rfl (by omega) (by simp [kD]) (by simp) hout hk (by omega) hg ?_
                simp only [aR,N0,N1,N2,N3,N4,N5,Z0,Z1,Z2,Z3,Z4,Z5,Z6,Z7,Z8,Z9,Z10,Zc,↓reduceIte,reduceCtorEq]
                refine kAn (by simp [kB]) ⟨by omega, by omega⟩ (by omega) ?_
                simp only [aR,N0,N1,N2,N3,N4,N5,Z0,Z1,Z2,Z3,Z4,Z5,Z6,Z7,Z8,Z9,Z10,Zc,↓reduceIte,reduceCtorEq]
                refine fin _ ?_
                refine kH [0] [.live 3] ?_
                simp only [aR,N0,N1,N2,N3,N4,N5,Z0,Z1,Z2,Z3,Z4,Z5,Z6,Z7,Z8,Z9,Z10,Zc,↓reduceIte,reduceCtorEq, kD] <;> ((repeat' apply And.intro) <;> first | rfl | omega | trivial)
            · have h5 : t = [] := Classical.byContradiction fun h => h4 (.inl h)
              have h6 : ¬ g > 0 := fun h => h4 (.inr h)
              simp (disch := omega) only [aR,N0,N1,N2,N3,N4,N5,Z0,Z1,Z2,Z3,Z4,Z5,Z6,Z7,Z8,Z9,Z10,Zc,↓reduceIte,reduceCtorEq, kA, h5, h6]
              refine kAn (by simp [kB]) hk (by omega) ?_
              simp only [aR,N0,N1,N2,N3,N4,N5,Z0,Z1,Z2,Z3,Z4,Z5,Z6,Z7,Z8,Z9,Z10,Zc,↓reduceIte,reduceCtorEq]
              refine again _ out (addI k cn) t g ?_ (k8 hk.1 (by omega)) hg (by omega) (by rw [← hn, kDJ hs h2 h3 h4])
              refine kH [0] [.live 2] ?_
              simp only [aR,N0,N1,N2,N3,N4,N5,Z0,Z1,Z2,Z3,Z4,Z5,Z6,Z7,Z8,Z9,Z10,Zc,↓reduceIte,reduceCtorEq, kD, h5] <;> ((repeat' apply And.intro) <;> first | rfl | omega | trivial)
  · simp only [aR,N0,N1,N2,N3,N4,N5,Z0,Z1,Z2,Z3,Z4,Z5,Z6,Z7,Z8,Z9,Z10,Zc,↓reduceIte,reduceCtorEq]
    refine ⟨⟨(([], 0), ((0, []), 0)), by simp, by simp, by simp, by simpa using htot, rfl⟩, ?_⟩
    rw [hSt]
    refine kH [0] [.nil 3] ?_
    simp only [aR,N0,N1,N2,N3,N4,N5,Z0,Z1,Z2,Z3,Z4,Z5,Z6,Z7,Z8,Z9,Z10,Zc,↓reduceIte,reduceCtorEq, qM] <;> ((repeat' apply And.intro) <;> first | rfl | omega | trivial)
theorem kEd {Γ : Env} {f : Nat} (hf : Γ.get f = some kCh) {n : Nat} {t : Nat → AV} {hd : Nat → Nat → AV} {nh nl : Nat} {h : Nat → Option AO} {fm : Nat → Nat} {lv : Nat → Option (Nat × Nat)} {mu : Bool} {l : List Cp} {tg : Nat} {ys : List AV} {d : Option Nat} {K : AS → Prop} (htg : 2 ≤ tg) (hy : ys = kU l) (hl : okL l)
    (hk : cont ⟨n, t, hd, ⟨nh, h, nl, fm, kill fm [tg] lv, mu⟩⟩ d (.sl 0 3 (kU (nf l))) K) : kR Tryz.prog Γ false ⟨n, t, hd, ⟨nh, h, nl, fm, lv, mu⟩⟩ f [.sl tg 3 ys] d K := by
  subst hy
  refine kAk (C := kCh) (i := ⟨l, hl⟩) hf rfl rfl rfl rfl (ts := [tg]) ?_ ?_
  · simp [AV.tagsL, AV.tags]; omega
  · rintro r rfl
    exact hk
end Go.Proofs
end
-- ZUo4
section
namespace Go.Proofs
open Go Go.Rw
open _root_.Nat renaming reduceAdd → N0, reduceSub → N1, reduceMul → N2, reduceLT → N3, reduceLeDiff → N4, reduceEqDiff → N5
open _root_.Int renaming reduceNeg → Z0, reduceAdd → Z1, reduceSub → Z2, reduceMul → Z3, reduceGT → Z4, reduceGE → Z5, reduceLT → Z6, reduceLE → Z7, reduceEq → Z8, reduceNe → Z9, reduceToNat → Z10, cast_ofNat_Int → Zc
set_option maxRecDepth 100000
def heldI (a b : Int) : Int := min (min (max a 0) 1099511627776 + min (max b 0) 1099511627776) 1099511627776
theorem heldI_eq {a b : Int} (ha : 0 ≤ a ∧ a ≤ 1099511627776) : heldI a b = addI a (max b 0) := by unfold heldI addI; omega
theorem addI_zero {a : Int} (ha : 0 ≤ a ∧ a ≤ 1099511627776) {b : Int} (hb : b ≤ 0) : addI a (max b 0) = a := by unfold addI; omega
abbrev kDK : Con where
  ι := I64 × I64
  args := fun p => [.v (.int .i64 p.1.1), .v (.int .i64 p.2.1)]
  post := fun p r => r = .v (.int .i64 (heldI p.1.1 p.2.1))
  plain := true
theorem kE8 : Rw.Good Tryz.prog 110 kDK := by
  have hΓ : kL Tryz.prog [] := kJ
  refine kS (nn := 15) hΓ Tryz.func110 (by kernel_rfl) rfl (show Tryz.f110.results.toList = [.tmp 4] from rfl) (fun _ => rfl) (fun _ => rfl) ?_
  rintro ⟨⟨a, ha1, ha2⟩, ⟨b, hb1, hb2⟩⟩
  simp (disch := omega) only [aR,N0,N1,N2,N3,N4,N5,Z0,Z1,Z2,Z3,Z4,Z5,Z6,Z7,Z8,Z9,Z10,Zc,↓reduceIte,reduceCtorEq, kA, zU, kB7]
  unfold heldI
  rfl
theorem kAf {Γ : Env} (hf : Γ.get 110 = some kDK) {σ : AS} {dr : Bool} {a b : Int} {d : Option Nat} {K : AS → Prop} (ha : 0 ≤ a ∧ a ≤ 1099511627776) (hb : -9223372036854775808 ≤ b ∧ b ≤ 9223372036854775807)
    (hk : cont σ d (.v (.int .i64 (addI a (max b 0)))) K) : kR Tryz.prog Γ dr σ 110 [.v (.int .i64 a), .v (.int .i64 b)] d K :=
  kK (C := kDK) (i := (⟨a, by omega, by omega⟩, ⟨b, hb⟩)) hf rfl rfl rfl rfl (fun _ h => h) rfl (by rw [heldI_eq ha]; exact hk)
abbrev RSt (l : List Cp) := { p : (List Cp × Nat) × ((Int × List UInt8) × Int) // (p.1.2 ≤ l.length ∧ (0 ≤ p.2.1.1 ∧ p.2.1.1 ≤ 1099511627776) ∧ (0 ≤ p.2.2 ∧ p.2.2 ≤ 1099511627776) ∧ p.2.1.2.length + tot (l.drop p.1.2) ≤ 1099511627776 ∧ p.1.1 ++ nfF p.2.1.1 p.2.1.2 p.2.2 (l.drop p.1.2) = nf l) ∨ (p.1.2 = l.length + 1 ∧ p.1.1 = nf l) }
theorem rnorm_good : Rw.Good Tryz.prog 81 kCh := by
  have hΓ : kL Tryz.prog [(110, kDK)] := (kE kE8 kJ)
  refine kS (nn := 117) hΓ Tryz.func81 (by kernel_rfl) rfl (show Tryz.f81.results.toList = [.tmp 2] from rfl) (fun _ => rfl) (fun _ => rfl) ?_
  rintro ⟨l, hl, htot, hc⟩
  have hlen := (kDO l 0 [] 0 (by omega) (by omega)).1
  simp only [aR,N0,N1,N2,N3,N4,N5,Z0,Z1,Z2,Z3,Z4,Z5,Z6,Z7,Z8,Z9,Z10,Zc,↓reduceIte,reduceCtorEq, kD]
  obtain ⟨St, hSt⟩ : ∃ St : RSt l → AS, ∀ p, St p = AS.of 117 [(0, .sl 0 3 (kU l)), (3, .sl 2 3 (kU p.1.1.1)), (4, .v (.int .i64 p.1.2.1.1)), (5, .v (.int .i64 p.1.2.2)), (6, .v (sv p.1.2.1.2)), (7, .v (.int .i64 p.1.1.2))] [] [(p.1.1.1.length, 80)] := ⟨_, fun _ => rfl⟩
  refine kX hΓ St (fun p => l.length + 1 - p.1.1.2) ⟨(([], 0), ((0, []), 0)), .inl ⟨by simp, by simp, by simp, by simpa using htot, rfl⟩⟩ (by rw [hSt]; refine kH [] [.nil 3] ?_; simp only [aR,N0,N1,N2,N3,N4,N5,Z0,Z1,Z2,Z3,Z4,Z5,Z6,Z7,Z8,Z9,Z10,Zc,↓reduceIte,reduceCtorEq, qM] <;> ((repeat' apply And.intro) <;> first | rfl | omega | trivial)) ?_
  rintro ⟨⟨⟨out, i⟩, ⟨⟨k, t⟩, g⟩⟩, ⟨hi, hk, hg, ht, hn⟩ | ⟨hi, hn⟩⟩
  · simp only at hi hk hg ht hn
    have hout : out.length ≤ 4000000000000 := by
      have := congrArg List.length hn
      rw [List.length_append] at this
      unfold nf at this
      omega
    rw [hSt]
    simp only
    by_cases hlt : i < l.length
    · have e1 := k9 l hlt
      have hci := okL.text ⟨hl, htot, hc⟩ (List.getElem_mem hlt)
      have hcn := hc l[i] (List.getElem_mem hlt)
      have hpos : qJ l[i] = true → ¬ l[i].k = 2 → 0 < l[i].n := kCX
      have hd2 := ht
      rw [List.drop_eq_getElem_cons hlt] at hn hd2
      simp only [tot] at hd2
      have again : ∀ (σ : AS) (out2 : List Cp) (k2 : Int) (t2 : List UInt8) (g2 : Int), Weak σ (AS.of 117 [(0, .sl 0 3 (kU l)), (3, .sl 2 3 (kU out2)), (4, .v (.int .i64 k2)), (5, .v (.int .i64 g2)), (6, .v (sv t2)), (7, .v (.int .i64 (i + 1 : Nat)))] [] [(out2.length, 80)]) →
          (0 ≤ k2 ∧ k2 ≤ 1099511627776) → (0 ≤ g2 ∧ g2 ≤ 1099511627776) → t2.length + tot (l.drop (i + 1)) ≤ 1099511627776 → out2 ++ nfF k2 t2 g2 (l.drop (i + 1)) = nf l →
          ∃ y : RSt l, l.length + 1 - y.1.1.2 < l.length + 1 - i ∧ Weak σ (St y) := fun σ out2 k2 t2 g2 hw h1 h2 h3 h4 =>
        ⟨⟨((out2, i + 1), ((k2, t2), g2)), .inl ⟨by simp only; omega, h1, h2, h3, h4⟩⟩, by simp only; omega, by rw [hSt]; exact hw⟩
      have hI : (i : Int) < l.length := by omega
      generalize l[i] = c at *
      obtain ⟨ck, cn, ct⟩ := c
      simp only at hci hcn hpos hd2 e1
      simp (disch := omega) only [aR,N0,N1,N2,N3,N4,N5,Z0,Z1,Z2,Z3,Z4,Z5,Z6,Z7,Z8,Z9,Z10,Zc,↓reduceIte,reduceCtorEq, kA, e1, kD, show ((i : Int) ≤ l.length) by omega, show ((i : Int) < l.length) by omega]
      (repeat (with_reducible refine And.intro ?_ ?_; focus (first | omega | exact kG | kernel_rfl)))
      (with_reducible first | refine kC (fun q1 => ?_) (fun q1 => ?_) | refine kF (fun q1 => ?_) (fun q1 => ?_))
      · simp (disch := omega) only [aR,N0,N1,N2,N3,N4,N5,Z0,Z1,Z2,Z3,Z4,Z5,Z6,Z7,Z8,Z9,Z10,Zc,↓reduceIte,reduceCtorEq, kA, q1, kD, e1, hI]
        (repeat (with_reducible refine And.intro ?_ ?_; focus (first | omega | exact kG | kernel_rfl)))
        cases hs : qJ ⟨ck, cn, ct⟩ with
        | false =>
          have he : ct = [] := by
            simp only [qJ, if_pos q1] at hs
            simpa using hs
          refine again _ out k (t ++ ct) g ?_ hk hg (by rw [List.length_append]; omega) (by rw [← hn, nf_no hs, he, List.append_nil])
          refine kH [] [.live 2] ?_
          simp only [aR,N0,N1,N2,N3,N4,N5,Z0,Z1,Z2,Z3,Z4,Z5,Z6,Z7,Z8,Z9,Z10,Zc,↓reduceIte,reduceCtorEq, kD] <;> ((repeat' apply And.intro) <;> first | rfl | omega | trivial)
        | true =>
          refine again _ out k (t ++ ct) g ?_ hk hg (by rw [List.length_append]; omega) (by rw [← hn, kCk hs q1])
          refine kH [] [.live 2] ?_
          simp only [aR,N0,N1,N2,N3,N4,N5,Z0,Z1,Z2,Z3,Z4,Z5,Z6,Z7,Z8,Z9,Z10,Zc,↓reduceIte,reduceCtorEq, kD] <;> ((repeat' apply And.intro) <;> first | rfl | omega | trivial)
      · simp (disch := omega) only [aR,N0,N1,N2,N3,N4,N5,Z0,Z1,Z2,Z3,Z4,Z5,Z6,Z7,Z8,Z9,Z10,Zc,↓reduceIte,reduceCtorEq, kA, q1, kD, e1, hI]
        (repeat (with_reducible refine And.intro ?_ ?_; focus (first | omega | exact kG | kernel_rfl)))
        (with_reducible first | refine kC (fun q2 => ?_) (fun q2 => ?_) | refine kF (fun q2 => ?_) (fun q2 => ?_))
        · simp (disch := omega) only [aR,N0,N1,N2,N3,N4,N5,Z0,Z1,Z2,Z3,Z4,Z5,Z6,Z7,Z8,Z9,Z10,Zc,↓reduceIte,reduceCtorEq, kA, q2, kD, e1, hI]
          (repeat (with_reducible refine And.intro ?_ ?_; focus (first | omega | exact kG | kernel_rfl)))
          refine kAf (by simp [kB]) hg hcn ?_
          simp (disch := omega) only [aR,N0,N1,N2,N3,N4,N5,Z0,Z1,Z2,Z3,Z4,Z5,Z6,Z7,Z8,Z9,Z10,Zc,↓reduceIte,reduceCtorEq, kA]
          have hm := k8 hg.1 (show 0 ≤ max cn 0 by omega)
          cases hs : qJ ⟨ck, cn, ct⟩ with
          | false =>
            have he : cn ≤ 0 := by
              simp only [qJ, if_neg q1] at hs
              simpa [q2] using hs
            refine again _ out k t (addI g (max cn 0)) ?_ hk hm (by omega) (by rw [← hn, nf_no hs, addI_zero hg he])
            refine kH [] [.live 2] ?_
            simp only [aR,N0,N1,N2,N3,N4,N5,Z0,Z1,Z2,Z3,Z4,Z5,Z6,Z7,Z8,Z9,Z10,Zc,↓reduceIte,reduceCtorEq, kD] <;> ((repeat' apply And.intro) <;> first | rfl | omega | trivial)
          | true =>
            have hp := hpos hs q1
            refine again _ out k t (addI g (max cn 0)) ?_ hk hm (by omega) (by rw [← hn, kCr hs q2, show max cn 0 = cn by omega])
            refine kH [] [.live 2] ?_
            simp only [aR,N0,N1,N2,N3,N4,N5,Z0,Z1,Z2,Z3,Z4,Z5,Z6,Z7,Z8,Z9,Z10,Zc,↓reduceIte,reduceCtorEq, kD] <;> ((repeat' apply And.intro) <;> first | rfl | omega | trivial)
        · simp (disch := omega) only [aR,N0,N1,N2,N3,N4,N5,Z0,Z1,Z2,Z3,Z4,Z5,Z6,Z7,Z8,Z9,Z10,Zc,↓reduceIte,reduceCtorEq, kA, q2, kD, e1, hI]
          (repeat (with_reducible refine And.intro ?_ ?_; focus (first | omega | exact kG | kernel_rfl)))
          cases hs : qJ ⟨ck, cn, ct⟩ with
          | false =>
            have he : ¬ ck = 1 ∨ cn < 1 := by
              simp only [qJ, if_neg q1] at hs
              simp [q2] at hs
              omega
            have fin : ∀ σ : AS, Weak σ (AS.of 117 [(0, .sl 0 3 (kU l)), (3, .sl 2 3 (kU out)), (4, .v (.int .i64 k)), (5, .v (.int .i64 g)), (6, .v (sv t)), (7, .v (.int .i64 (i + 1 : Nat)))] [] [(out.length, 80)]) → ∃ y : RSt l, l.length + 1 - y.1.1.2 < l.length + 1 - i ∧ Weak σ (St y) := fun σ hw => again σ out k t g hw hk hg (by omega) (by rw [← hn, nf_no hs])
            by_cases q3 : ck = 1
            · simp (disch := omega) only [aR,N0,N1,N2,N3,N4,N5,Z0,Z1,Z2,Z3,Z4,Z5,Z6,Z7,Z8,Z9,Z10,Zc,↓reduceIte,reduceCtorEq, kA, e1, kD, hI, q3, show cn < 1 by omega]
              (repeat (with_reducible refine And.intro ?_ ?_; focus (first | omega | exact kG | kernel_rfl)))
              refine fin _ ?_
              refine kH [] [.live 2] ?_
              simp only [aR,N0,N1,N2,N3,N4,N5,Z0,Z1,Z2,Z3,Z4,Z5,Z6,Z7,Z8,Z9,Z10,Zc,↓reduceIte,reduceCtorEq, kD] <;> ((repeat' apply And.intro) <;> first | rfl | omega | trivial)
            · simp (disch := omega) only [aR,N0,N1,N2,N3,N4,N5,Z0,Z1,Z2,Z3,Z4,Z5,Z6,Z7,Z8,Z9,Z10,Zc,↓reduceIte,reduceCtorEq, kA, q3, kD, e1, hI]
              refine fin _ ?_
              refine kH [] [.live 2] ?_
              simp only [aR,N0,N1,N2,N3,N4,N5,Z0,Z1,Z2,Z3,Z4,Z5,Z6,Z7,Z8,Z9,Z10,Zc,↓reduceIte,reduceCtorEq, kD] <;> ((repeat' apply And.intro) <;> first | rfl | omega | trivial)
          | true =>
            have hp := hpos hs q1
            have q3 : ck = 1 := by
              simp only [qJ, if_neg q1] at hs
              simp [q2] at hs
              omega
            have q4 : ¬ cn < 1 := by omega
            have q5 : ¬ (i : Int) = l.length := by omega
            have hmx : max cn 0 = cn := by omega
            by_cases h4 : t ≠ [] ∨ g > 0
            · by_cases a1 : k > 0 <;> by_cases a2 : t = [] <;> by_cases a3 : g > 0
              all_goals try (exfalso; rcases h4 with h4 | h4 <;> contradiction)
              all_goals
                have hP : putL k t g = (if k > 0 then [⟨1, k, []⟩] else []) ++ ((if t ≠ [] then [⟨2, 0, t⟩] else []) ++ (if g > 0 then [⟨3, g, []⟩] else [])) := rfl
                simp (disch := omega) only [aR,N0,N1,N2,N3,N4,N5,Z0,Z1,Z2,Z3,Z4,Z5,Z6,Z7,Z8,Z9,Z10,Zc,↓reduceIte,reduceCtorEq, kA, e1, kD, hI, q3, q4, q5, a1, a2, a3, qP, List.append_assoc, List.length_append, List.map_cons, List.map_nil]
                (repeat (with_reducible refine And.intro ?_ ?_; focus (first | omega | exact kG | kernel_rfl)))
                try (refine kAf (by simp [kB]) ⟨by omega, by omega⟩ hcn ?_)
                simp (disch := omega) only [aR,N0,N1,N2,N3,N4,N5,Z0,Z1,Z2,Z3,Z4,Z5,Z6,Z7,Z8,Z9,Z10,Zc,↓reduceIte,reduceCtorEq, kA]
                refine again _ (out ++ putL k t g) (addI 0 (max cn 0)) [] 0 ?_ (k8 (by omega) (by omega)) (by omega) (by rw [List.length_nil]; omega) (by rw [← hn, kF0 hs q1 q2 h4, List.append_assoc, hmx])
                rw [hP]
                refine kH [] [.live 2] ?_
                simp only [aR,N0,N1,N2,N3,N4,N5,Z0,Z1,Z2,Z3,Z4,Z5,Z6,Z7,Z8,Z9,Z10,Zc,↓reduceIte,reduceCtorEq, kD, a1, a2, a3, List.length_append, List.append_assoc, not_true, not_false_iff] <;> ((repeat' apply And.intro) <;> first | rfl | omega | trivial)
            · have h5 : t = [] := Classical.byContradiction fun h => h4 (.inl h)
              have h6 : ¬ g > 0 := fun h => h4 (.inr h)
              simp (disch := omega) only [aR,N0,N1,N2,N3,N4,N5,Z0,Z1,Z2,Z3,Z4,Z5,Z6,Z7,Z8,Z9,Z10,Zc,↓reduceIte,reduceCtorEq, kA, e1, kD, hI, q3, q4, q5, h5, h6]
              (repeat (with_reducible refine And.intro ?_ ?_; focus (first | omega | exact kG | kernel_rfl)))
              refine kAf (by simp [kB]) hk hcn ?_
              simp (disch := omega) only [aR,N0,N1,N2,N3,N4,N5,Z0,Z1,Z2,Z3,Z4,Z5,Z6,Z7,Z8,Z9,Z10,Zc,↓reduceIte,reduceCtorEq, kA]
              refine again _ out (addI k (max cn 0)) t g ?_ (k8 hk.1 (by omega)) hg (by omega) (by rw [← hn, kDJ hs q1 q2 h4, hmx])
              refine kH [] [.live 2] ?_
              simp only [aR,N0,N1,N2,N3,N4,N5,Z0,Z1,Z2,Z3,Z4,Z5,Z6,Z7,Z8,Z9,Z10,Zc,↓reduceIte,reduceCtorEq, kD, h5] <;> ((repeat' apply And.intro) <;> first | rfl | omega | trivial)
    · have hiE : i = l.length := by omega
      have hI : ¬ (i : Int) < l.length := by omega
      have hI2 : (i : Int) ≤ l.length := by omega
      have hI3 : (i : Int) = l.length := by omega
      rw [List.drop_of_length_le (by omega), nfF] at hn
      rw [List.drop_of_length_le (by omega)] at ht
      simp only [tot] at ht
      have again : ∀ (σ : AS) (k2 : Int) (t2 : List UInt8) (g2 : Int), Weak σ (AS.of 117 [(0, .sl 0 3 (kU l)), (3, .sl 2 3 (kU (out ++ putL k t g))), (4, .v (.int .i64 k2)), (5, .v (.int .i64 g2)), (6, .v (sv t2)), (7, .v (.int .i64 (i + 1 : Nat)))] [] [((out ++ putL k t g).length, 80)]) →
          ∃ y : RSt l, l.length + 1 - y.1.1.2 < l.length + 1 - i ∧ Weak σ (St y) := fun σ k2 t2 g2 hw =>
        ⟨⟨((out ++ putL k t g, i + 1), ((k2, t2), g2)), .inr ⟨by simp only; omega, hn⟩⟩, by simp only; omega, by rw [hSt]; exact hw⟩
      by_cases a1 : k > 0 <;> by_cases a2 : t = [] <;> by_cases a3 : g > 0
      all_goals
        have hP : putL k t g = (if k > 0 then [⟨1, k, []⟩] else []) ++ ((if t ≠ [] then [⟨2, 0, t⟩] else []) ++ (if g > 0 then [⟨3, g, []⟩] else [])) := rfl
        simp (disch := omega) only [aR,N0,N1,N2,N3,N4,N5,Z0,Z1,Z2,Z3,Z4,Z5,Z6,Z7,Z8,Z9,Z10,Zc,↓reduceIte,reduceCtorEq, kA, kD, hI, hI2, hI3, Int.le_refl, Int.lt_irrefl, a1, a2, a3, qP, List.append_assoc, List.length_append, List.map_cons, List.map_nil]
        (repeat (with_reducible refine And.intro ?_ ?_; focus (first | omega | exact kG | kernel_rfl)))
        refine again _ 0 [] 0 ?_
        rw [hP]
        refine kH [] [.live 2] ?_
        simp only [aR,N0,N1,N2,N3,N4,N5,Z0,Z1,Z2,Z3,Z4,Z5,Z6,Z7,Z8,Z9,Z10,Zc,↓reduceIte,reduceCtorEq, kD, a1, a2, a3, hiE, List.length_append, List.append_assoc, not_true, not_false_iff] <;> ((repeat' apply And.intro) <;> first | rfl | omega | trivial)
  · simp only at hi hn
    subst hn
    rw [hSt]
    simp only
    have hI2 : ¬ (i : Int) ≤ l.length := by omega
    simp (disch := omega) only [aR,N0,N1,N2,N3,N4,N5,Z0,Z1,Z2,Z3,Z4,Z5,Z6,Z7,Z8,Z9,Z10,Zc,↓reduceIte,reduceCtorEq, kA, kD, hI2]
end Go.Proofs
end
-- ZUo5
section
namespace Go.Proofs
open Go Go.Rw
open _root_.Nat renaming reduceAdd → N0, reduceSub → N1, reduceMul → N2, reduceLT → N3, reduceLeDiff → N4, reduceEqDiff → N5
open _root_.Int renaming reduceNeg → Z0, reduceAdd → Z1, reduceSub → Z2, reduceMul → Z3, reduceGT → Z4, reduceGE → Z5, reduceLT → Z6, reduceLE → Z7, reduceEq → Z8, reduceNe → Z9, reduceToNat → Z10, cast_ofNat_Int → Zc
set_option maxRecDepth 100000
section
variable {P : Program}
theorem kDN {t : TypeId} {cs : Array Value} {off : Nat} {v : Value} {td : TypeDesc} (ht : P.underlying t = some td) (ha : (match td with | .struct _ | .array _ _ => true | _ => false) = false) (hv : cs[off]? = some v) : calm P (part t cs off) = some v := by
  simp only [part, isAgg, underlying, kW, qG, Option.bind_some, ht, zR]
  cases td <;> first | (cases ha; done) | (simp [hv, kW])
theorem calm_eqI {d : Nat} {t : TypeId} {k k' : IntKind} {a b : Int} (h : P.underlying t = some (.int k')) : calm P (Op.equalIn (d + 1) t (.int k a) (.int k b)) = some (a == b) := by
  simp [Op.equalIn, kW, underlying, h]
theorem calm_eqS {d : Nat} {t : TypeId} {a b : List UInt8} (h : P.underlying t = some .string) : calm P (Op.equalIn (d + 1) t (.string ⟨a.toArray⟩) (.string ⟨b.toArray⟩)) = some (a == b) := by
  simp [Op.equalIn, kW, underlying, h]
  show (a.toArray == b.toArray) = (a == b)
  simp
theorem calm_eq3 {d : Nat} {t ti ts : TypeId} {k : IntKind} {f1 f2 f3 : Field} {a b a' b' : Int} {s s' : List UInt8} (ht : P.underlying t = some (.struct #[f1, f2, f3])) (hp : P.stoodInHeld t = false) (hi : P.underlying ti = some (.int k)) (hs : P.underlying ts = some .string)
    (h1 : f1.type = ti ∧ f1.offset = 0 ∧ f1.name ≠ "_") (h2 : f2.type = ti ∧ f2.offset = 1 ∧ f2.name ≠ "_") (h3 : f3.type = ts ∧ f3.offset = 2 ∧ f3.name ≠ "_") :
    calm P (Op.equalIn (d + 2) t (.agg #[.int .i64 a, .int .i64 b, .string ⟨s.toArray⟩]) (.agg #[.int .i64 a', .int .i64 b', .string ⟨s'.toArray⟩])) = some (a == a' && b == b' && s == s') := by
  obtain ⟨rfl, o1, n1⟩ := h1
  obtain ⟨e2, o2, n2⟩ := h2
  obtain ⟨rfl, o3, n3⟩ := h3
  have p0 : ∀ (a b : Int) (s : List UInt8), calm P (part f1.type #[.int .i64 a, .int .i64 b, .string ⟨s.toArray⟩] 0) = some (.int .i64 a) := fun a b s => kDN hi rfl rfl
  have p1 : ∀ (a b : Int) (s : List UInt8), calm P (part f1.type #[.int .i64 a, .int .i64 b, .string ⟨s.toArray⟩] 1) = some (.int .i64 b) := fun a b s => kDN hi rfl rfl
  have p2 : ∀ (a b : Int) (s : List UInt8), calm P (part f3.type #[.int .i64 a, .int .i64 b, .string ⟨s.toArray⟩] 2) = some (.string ⟨s.toArray⟩) := fun a b s => kDN hs rfl rfl
  rw [Op.equalIn]
  simp only [kW, underlying, qG, Option.bind_some, ht, zR, hp, Bool.false_eq_true, if_false, ← Array.forIn_toList, List.forIn_cons, List.forIn_nil, n1, n2, n3, o1, o2, o3, e2, p0, p1, p2, calm_eqI hi, calm_eqS hs, if_true, ne_eq, not_false_eq_true]
  by_cases c1 : a = a' <;> by_cases c2 : b = b' <;> by_cases c3 : s = s' <;> simp [c1, c2, c3, kW, p0, p1, p2, calm_eqI hi, calm_eqS hs]
theorem bin_neq3 {t ti ts : TypeId} {x y : Operand} {k : IntKind} {f1 f2 f3 : Field} {a b a' b' : Int} {s s' : List UInt8} (hg : P.eqGuardType P.depth t = false) (ht : P.underlying t = some (.struct #[f1, f2, f3])) (hp : P.stoodInHeld t = false) (hi : P.underlying ti = some (.int k)) (hs : P.underlying ts = some .string)
    (h1 : f1.type = ti ∧ f1.offset = 0 ∧ f1.name ≠ "_") (h2 : f2.type = ti ∧ f2.offset = 1 ∧ f2.name ≠ "_") (h3 : f3.type = ts ∧ f3.offset = 2 ∧ f3.name ≠ "_") :
    binA P .neq t x y (.agg [.v (.int .i64 a), .v (.int .i64 b), .v (sv s)]) (.agg [.v (.int .i64 a'), .v (.int .i64 b'), .v (sv s')]) = some (.v (.bool (decide (¬ (a = a' ∧ b = b' ∧ s = s'))))) := by
  have e : Op.maxDepth = 9998 + 2 := rfl
  have hq := calm_eq3 (P := P) (d := 9998) (a := a) (b := b) (a' := a') (b' := b') (s := s) (s' := s') ht hp hi hs h1 h2 h3
  unfold binA
  rw [show binV P .neq t x y (.agg [.v (.int .i64 a), .v (.int .i64 b), .v (sv s)]) (.agg [.v (.int .i64 a'), .v (.int .i64 b'), .v (sv s')]) = none from rfl]
  simp only [kAu, kA1, Option.map_some, Option.none_or, res, kW, eqGuard, sv, qG, Option.bind_some, hg]
  simp [kW, calm_map, binOp, Op.equal, e, hq, hg]
  by_cases c1 : a = a' <;> by_cases c2 : b = b' <;> by_cases c3 : s = s' <;> simp [c1, c2, c3]
def is3 (P : Program) (t ti ts : TypeId) : Bool := match P.underlying t with
  | some (.struct fs) => match fs.toList with
    | [f1, f2, f3] => (f1.type == ti && (f1.offset == 0 && f1.name != "_")) && ((f2.type == ti && (f2.offset == 1 && f2.name != "_")) && (f3.type == ts && (f3.offset == 2 && f3.name != "_")))
    | _ => false
  | _ => false
theorem bin_neq4 {t ti ts : TypeId} {x y : Operand} {k : IntKind} {a b a' b' : Int} {s s' : List UInt8} (hg : P.eqGuardType P.depth t = false) (h3 : is3 P t ti ts = true) (hp : P.stoodInHeld t = false) (hi : P.underlying ti = some (.int k)) (hs : P.underlying ts = some .string) :
    binA P .neq t x y (.agg [.v (.int .i64 a), .v (.int .i64 b), .v (sv s)]) (.agg [.v (.int .i64 a'), .v (.int .i64 b'), .v (sv s')]) = some (.v (.bool (decide (¬ (a = a' ∧ b = b' ∧ s = s'))))) := by
  unfold is3 at h3
  split at h3
  · rename_i fs hf
    split at h3
    · rename_i f1 f2 f3 hl
      have : fs = #[f1, f2, f3] := by rw [← hl]
      subst this
      simp only [Bool.and_eq_true, beq_iff_eq, bne_iff_ne] at h3
      exact bin_neq3 hg hf hp hi hs h3.1 h3.2.1 h3.2.2
    · cases h3
  · cases h3
end
theorem comp_neq {x y : Operand} {a b a' b' : Int} {s s' : List UInt8} : binA Tryz.prog .neq 80 x y (.agg [.v (.int .i64 a), .v (.int .i64 b), .v (sv s)]) (.agg [.v (.int .i64 a'), .v (.int .i64 b'), .v (sv s')]) = some (.v (.bool (decide (¬ (a = a' ∧ b = b' ∧ s = s'))))) :=
  bin_neq4 (ti := 3) (ts := 9) (k := .i64) (by kernel_rfl) (by kernel_rfl) (by kernel_rfl) (by kernel_rfl) (by kernel_rfl)
abbrev Cps := { p : List Cp × List Cp // p.1.length ≤ 4000000000000 ∧ p.2.length ≤ 4000000000000 }
abbrev kCF : Con where
  ι := Cps
  args := fun p => [.sl 0 3 (kU p.1.1), .sl 0 3 (kU p.1.2)]
  post := fun p r => r = .v (.bool (decide (p.1.1 = p.1.2)))
  plain := true
theorem kEr {Γ : Env} {f : Nat} (hf : Γ.get f = some kCF) {σ : AS} {dr : Bool} {x y : List Cp} {s t : Nat} {xs ys : List AV} {d : Option Nat} {K : AS → Prop} (hx : xs = kU x) (hy : ys = kU y) (h1 : x.length ≤ 4000000000000) (h2 : y.length ≤ 4000000000000)
    (hk : cont σ d (.v (.bool (decide (x = y)))) K) : kR Tryz.prog Γ dr σ f [.sl s 3 xs, .sl t 3 ys] d K := by
  subst hx; subst hy
  exact kK (C := kCF) (i := ⟨(x, y), h1, h2⟩) hf rfl rfl rfl rfl (fun _ h => h) rfl hk
theorem drop_eq2 {x y : List Cp} {i : Nat} (h1 : i < x.length) (h2 : i < y.length) : (x.drop i = y.drop i) ↔ ((x[i].k = y[i].k ∧ x[i].n = y[i].n ∧ x[i].t = y[i].t) ∧ x.drop (i + 1) = y.drop (i + 1)) := by
  rw [List.drop_eq_getElem_cons h1, List.drop_eq_getElem_cons h2, List.cons.injEq]
  constructor
  · rintro ⟨h, h3⟩; exact ⟨by rw [h]; exact ⟨rfl, rfl, rfl⟩, h3⟩
  · rintro ⟨⟨a, b, c⟩, h3⟩
    refine ⟨?_, h3⟩
    generalize x[i] = u at *
    generalize y[i] = v at *
    cases u; cases v
    simp only at a b c
    subst a; subst b; subst c; rfl
theorem kFW : Rw.Good Tryz.prog 56 kCF := by
  have hΓ : kL Tryz.prog [] := kJ
  refine kS (nn := 54) hΓ Tryz.func56 (by kernel_rfl) rfl (show Tryz.f56.results.toList = [.tmp 4] from rfl) (fun _ => rfl) (fun _ => rfl) ?_
  rintro ⟨⟨x, y⟩, hx, hy⟩
  simp only at hx hy
  simp only [aR,N0,N1,N2,N3,N4,N5,Z0,Z1,Z2,Z3,Z4,Z5,Z6,Z7,Z8,Z9,Z10,Zc,↓reduceIte,reduceCtorEq, kD]
  (with_reducible first | refine kC (fun h => ?_) (fun h => ?_) | refine kF (fun h => ?_) (fun h => ?_))
  · simp only [aR,N0,N1,N2,N3,N4,N5,Z0,Z1,Z2,Z3,Z4,Z5,Z6,Z7,Z8,Z9,Z10,Zc,↓reduceIte,reduceCtorEq, h]
    have : ¬ x = y := fun e => h (by rw [e])
    simp [this]
  · simp only [aR,N0,N1,N2,N3,N4,N5,Z0,Z1,Z2,Z3,Z4,Z5,Z6,Z7,Z8,Z9,Z10,Zc,↓reduceIte,reduceCtorEq, h]
    have hxy : x.length = y.length := by omega
    obtain ⟨St, hSt⟩ : ∃ St : { i : Nat // i ≤ x.length ∧ (x = y ↔ x.drop i = y.drop i) } → AS, ∀ i, St i = AS.of 54 [(0, .sl 0 3 (kU x)), (1, .sl 0 3 (kU y)), (5, .v (.int .i64 i.1))] [] [] := ⟨_, fun _ => rfl⟩
    refine kX hΓ St (fun i => x.length - i.1) ⟨0, by omega, Iff.rfl⟩ (by rw [hSt]; refine kH [] [] ?_; simp only [aR,N0,N1,N2,N3,N4,N5,Z0,Z1,Z2,Z3,Z4,Z5,Z6,Z7,Z8,Z9,Z10,Zc,↓reduceIte,reduceCtorEq] <;> ((repeat' apply And.intro) <;> first | rfl | omega | trivial)) ?_
    rintro ⟨i, hi, hb⟩
    rw [hSt]
    simp only
    simp only [aR,N0,N1,N2,N3,N4,N5,Z0,Z1,Z2,Z3,Z4,Z5,Z6,Z7,Z8,Z9,Z10,Zc,↓reduceIte,reduceCtorEq, kD]
    (with_reducible first | refine kC (fun h2 => ?_) (fun h2 => ?_) | refine kF (fun h2 => ?_) (fun h2 => ?_))
    · have h3 : i < x.length := by omega
      have h4 : i < y.length := by omega
      have e1 := k9 x h3
      have e2 := k9 y h4
      rw [drop_eq2 h3 h4] at hb
      have again : ∀ σ : AS, Weak σ (AS.of 54 [(0, .sl 0 3 (kU x)), (1, .sl 0 3 (kU y)), (5, .v (.int .i64 (i + 1 : Nat)))] [] []) → (x[i].k = y[i].k ∧ x[i].n = y[i].n ∧ x[i].t = y[i].t) → ∀ (z : { i : Nat // i ≤ x.length ∧ (x = y ↔ x.drop i = y.drop i) }), z.1 = i → kEA St (fun i => x.length - i.1) z σ := fun σ hw h z hz =>
        kI ⟨i + 1, by omega, by rw [hb]; exact ⟨fun a => a.2, fun a => ⟨h, a⟩⟩⟩ (by simp only; omega) (by rw [hSt]; exact hw)
      have no : ¬ (x[i].k = y[i].k ∧ x[i].n = y[i].n ∧ x[i].t = y[i].t) → decide (x = y) = false := fun h => by rw [decide_eq_false_iff_not, hb]; exact fun a => h a.1
      generalize x[i] = u at *
      generalize y[i] = v at *
      obtain ⟨k, n, t⟩ := u
      obtain ⟨k', n', t'⟩ := v
      simp only at no again e1 e2
      simp (disch := omega) only [aR,N0,N1,N2,N3,N4,N5,Z0,Z1,Z2,Z3,Z4,Z5,Z6,Z7,Z8,Z9,Z10,Zc,↓reduceIte,reduceCtorEq, kA, h2, kD, e1, e2]
      (repeat (with_reducible refine And.intro ?_ ?_; focus (first | omega | exact kG | kernel_rfl)))
      (try ((with_reducible first | refine kC (fun q1 => ?_) (fun q1 => ?_) | refine kF (fun q1 => ?_) (fun q1 => ?_)) <;> simp (disch := omega) only [aR,N0,N1,N2,N3,N4,N5,Z0,Z1,Z2,Z3,Z4,Z5,Z6,Z7,Z8,Z9,Z10,Zc,↓reduceIte,reduceCtorEq, kA, q1, kD, e1, e2] <;> (with_reducible first | (refine And.intro ?_ ?_; focus (first | omega | exact kG | kernel_rfl)); (repeat (with_reducible refine And.intro ?_ ?_; focus (first | omega | exact kG | kernel_rfl))); (try simp (disch := omega) only [aR,N0,N1,N2,N3,N4,N5,Z0,Z1,Z2,Z3,Z4,Z5,Z6,Z7,Z8,Z9,Z10,Zc,↓reduceIte,reduceCtorEq, kA, q1, kD, e1, e2]) | skip) <;> (try ((with_reducible first | refine kC (fun q2 => ?_) (fun q2 => ?_) | refine kF (fun q2 => ?_) (fun q2 => ?_)) <;> simp (disch := omega) only [aR,N0,N1,N2,N3,N4,N5,Z0,Z1,Z2,Z3,Z4,Z5,Z6,Z7,Z8,Z9,Z10,Zc,↓reduceIte,reduceCtorEq, kA, q2, kD, e1, e2] <;> (with_reducible first | (refine And.intro ?_ ?_; focus (first | omega | exact kG | kernel_rfl)); (repeat (with_reducible refine And.intro ?_ ?_; focus (first | omega | exact kG | kernel_rfl))); (try simp (disch := omega) only [aR,N0,N1,N2,N3,N4,N5,Z0,Z1,Z2,Z3,Z4,Z5,Z6,Z7,Z8,Z9,Z10,Zc,↓reduceIte,reduceCtorEq, kA, q2, kD, e1, e2]) | skip) <;> (try ((with_reducible first | refine kC (fun q3 => ?_) (fun q3 => ?_) | refine kF (fun q3 => ?_) (fun q3 => ?_)) <;> simp (disch := omega) only [aR,N0,N1,N2,N3,N4,N5,Z0,Z1,Z2,Z3,Z4,Z5,Z6,Z7,Z8,Z9,Z10,Zc,↓reduceIte,reduceCtorEq, kA, q3, kD, e1, e2] <;> (with_reducible first | (refine And.intro ?_ ?_; focus (first | omega | exact kG | kernel_rfl)); (repeat (with_reducible refine And.intro ?_ ?_; focus (first | omega | exact kG | kernel_rfl))); (try simp (disch := omega) only [aR,N0,N1,N2,N3,N4,N5,Z0,Z1,Z2,Z3,Z4,Z5,Z6,Z7,Z8,Z9,Z10,Zc,↓reduceIte,reduceCtorEq, kA, q3, kD, e1, e2]) | skip) <;> skip))))))
      all_goals first
        | (rw [no (by intro a; first | exact q1 a.1 | exact q2 a.2.1 | exact q3 a.2.2)]; done)
        | (refine again _ ?_ ⟨Decidable.not_not.1 q1, Decidable.not_not.1 q2, Decidable.not_not.1 q3⟩ _ rfl
           refine kH [] [] ?_
           simp only [aR,N0,N1,N2,N3,N4,N5,Z0,Z1,Z2,Z3,Z4,Z5,Z6,Z7,Z8,Z9,Z10,Zc,↓reduceIte,reduceCtorEq] <;> ((repeat' apply And.intro) <;> first | rfl | omega | trivial))
        | trace_state
    · simp only [aR,N0,N1,N2,N3,N4,N5,Z0,Z1,Z2,Z3,Z4,Z5,Z6,Z7,Z8,Z9,Z10,Zc,↓reduceIte,reduceCtorEq, h2]
      rw [List.drop_of_length_le (by omega), List.drop_of_length_le (by omega)] at hb
      rw [decide_eq_true (hb.2 rfl)]
theorem sequal_good : Rw.Good Tryz.prog 113 kCF := by
  have hΓ : kL Tryz.prog [] := kJ
  refine kS (nn := 26) hΓ Tryz.func113 (by kernel_rfl) rfl (show Tryz.f113.results.toList = [.tmp 4] from rfl) (fun _ => rfl) (fun _ => rfl) ?_
  rintro ⟨⟨x, y⟩, hx, hy⟩
  simp only at hx hy
  simp only [aR,N0,N1,N2,N3,N4,N5,Z0,Z1,Z2,Z3,Z4,Z5,Z6,Z7,Z8,Z9,Z10,Zc,↓reduceIte,reduceCtorEq, kD]
  (with_reducible first | refine kC (fun h => ?_) (fun h => ?_) | refine kF (fun h => ?_) (fun h => ?_))
  · simp only [aR,N0,N1,N2,N3,N4,N5,Z0,Z1,Z2,Z3,Z4,Z5,Z6,Z7,Z8,Z9,Z10,Zc,↓reduceIte,reduceCtorEq, h]
    have : ¬ x = y := fun e => h (by rw [e])
    simp [this]
  · simp only [aR,N0,N1,N2,N3,N4,N5,Z0,Z1,Z2,Z3,Z4,Z5,Z6,Z7,Z8,Z9,Z10,Zc,↓reduceIte,reduceCtorEq, h]
    have hxy : x.length = y.length := by omega
    obtain ⟨St, hSt⟩ : ∃ St : { i : Nat // i ≤ x.length ∧ (x = y ↔ x.drop i = y.drop i) } → AS, ∀ i, St i = AS.of 26 [(0, .sl 0 3 (kU x)), (1, .sl 0 3 (kU y)), (12, .v (.int .i64 x.length)), (13, .v (.int .i64 i.1))] [] [] := ⟨_, fun _ => rfl⟩
    refine kX hΓ St (fun i => x.length - i.1) ⟨0, by omega, Iff.rfl⟩ (by rw [hSt]; refine kH [] [] ?_; simp only [aR,N0,N1,N2,N3,N4,N5,Z0,Z1,Z2,Z3,Z4,Z5,Z6,Z7,Z8,Z9,Z10,Zc,↓reduceIte,reduceCtorEq, kD] <;> ((repeat' apply And.intro) <;> first | rfl | omega | trivial)) ?_
    rintro ⟨i, hi, hb⟩
    rw [hSt]
    simp only
    simp only [aR,N0,N1,N2,N3,N4,N5,Z0,Z1,Z2,Z3,Z4,Z5,Z6,Z7,Z8,Z9,Z10,Zc,↓reduceIte,reduceCtorEq, kD]
    (with_reducible first | refine kC (fun h2 => ?_) (fun h2 => ?_) | refine kF (fun h2 => ?_) (fun h2 => ?_))
    · have h3 : i < x.length := by omega
      have h4 : i < y.length := by omega
      have e1 := k9 x h3
      have e2 := k9 y h4
      rw [drop_eq2 h3 h4] at hb
      have again : ∀ σ : AS, Weak σ (AS.of 26 [(0, .sl 0 3 (kU x)), (1, .sl 0 3 (kU y)), (12, .v (.int .i64 x.length)), (13, .v (.int .i64 (i + 1 : Nat)))] [] []) → (x[i].k = y[i].k ∧ x[i].n = y[i].n ∧ x[i].t = y[i].t) → ∀ (z : { i : Nat // i ≤ x.length ∧ (x = y ↔ x.drop i = y.drop i) }), z.1 = i → kEA St (fun i => x.length - i.1) z σ := fun σ hw h z hz =>
        kI ⟨i + 1, by omega, by rw [hb]; exact ⟨fun a => a.2, fun a => ⟨h, a⟩⟩⟩ (by simp only; omega) (by rw [hSt]; exact hw)
      have no : ¬ (x[i].k = y[i].k ∧ x[i].n = y[i].n ∧ x[i].t = y[i].t) → decide (x = y) = false := fun h => by rw [decide_eq_false_iff_not, hb]; exact fun a => h a.1
      generalize x[i] = u at *
      generalize y[i] = v at *
      obtain ⟨k, n, t⟩ := u
      obtain ⟨k', n', t'⟩ := v
      simp only at no again e1 e2
      simp (disch := omega) only [aR,N0,N1,N2,N3,N4,N5,Z0,Z1,Z2,Z3,Z4,Z5,Z6,Z7,Z8,Z9,Z10,Zc,↓reduceIte,reduceCtorEq, kA, h2, kD, e1, e2, comp_neq]
      (repeat (with_reducible refine And.intro ?_ ?_; focus (first | omega | exact kG | kernel_rfl)))
      (with_reducible first | refine kC (fun q1 => ?_) (fun q1 => ?_) | refine kF (fun q1 => ?_) (fun q1 => ?_))
      · simp (disch := omega) only [aR,N0,N1,N2,N3,N4,N5,Z0,Z1,Z2,Z3,Z4,Z5,Z6,Z7,Z8,Z9,Z10,Zc,↓reduceIte,reduceCtorEq, kA, q1]
        rw [no q1]
      · simp (disch := omega) only [aR,N0,N1,N2,N3,N4,N5,Z0,Z1,Z2,Z3,Z4,Z5,Z6,Z7,Z8,Z9,Z10,Zc,↓reduceIte,reduceCtorEq, kA, q1]
        refine again _ ?_ (Decidable.not_not.1 q1) _ rfl
        refine kH [] [] ?_
        simp only [aR,N0,N1,N2,N3,N4,N5,Z0,Z1,Z2,Z3,Z4,Z5,Z6,Z7,Z8,Z9,Z10,Zc,↓reduceIte,reduceCtorEq] <;> ((repeat' apply And.intro) <;> first | rfl | omega | trivial)
    · simp only [aR,N0,N1,N2,N3,N4,N5,Z0,Z1,Z2,Z3,Z4,Z5,Z6,Z7,Z8,Z9,Z10,Zc,↓reduceIte,reduceCtorEq, h2]
      rw [List.drop_of_length_le (by omega), List.drop_of_length_le (by omega)] at hb
      rw [decide_eq_true (hb.2 rfl)]
end Go.Proofs
end
-- ZUo6
section
namespace Go.Proofs
open Go Go.Rw
open _root_.Nat renaming reduceAdd → N0, reduceSub → N1, reduceMul → N2, reduceLT → N3, reduceLeDiff → N4, reduceEqDiff → N5
open _root_.Int renaming reduceNeg → Z0, reduceAdd → Z1, reduceSub → Z2, reduceMul → Z3, reduceGT → Z4, reduceGE → Z5, reduceLT → Z6, reduceLE → Z7, reduceEq → Z8, reduceNe → Z9, reduceToNat → Z10, cast_ofNat_Int → Zc
set_option maxRecDepth 100000
def ofBad (n a b : Int) (t : List UInt8) : Prop := a < 0 ∨ b < a ∨ n < b ∨ pts t = none
instance (n a b : Int) (t : List UInt8) : Decidable (ofBad n a b t) := by unfold ofBad; exact inferInstance
def keepL (n : Int) : List Cp := if n < 1 then [] else [⟨1, n, []⟩]
abbrev keepCon : Con where
  ι := I64
  args := fun n => [.v (.int .i64 n.1)]
  post := fun n r => r = .sl 0 3 (kU (keepL n.1))
theorem keep_good : Rw.Good Tryz.prog 98 keepCon := by
  have hΓ : kL Tryz.prog [] := kJ
  refine kS (nn := 8) hΓ Tryz.func98 (by kernel_rfl) rfl (show Tryz.f98.results.toList = [.tmp 2] from rfl) (fun _ => rfl) (fun _ => rfl) ?_
  rintro ⟨n, hn⟩
  simp only [aR,N0,N1,N2,N3,N4,N5,Z0,Z1,Z2,Z3,Z4,Z5,Z6,Z7,Z8,Z9,Z10,Zc,↓reduceIte,reduceCtorEq]
  by_cases h : n < 1
  · simp only [aR,N0,N1,N2,N3,N4,N5,Z0,Z1,Z2,Z3,Z4,Z5,Z6,Z7,Z8,Z9,Z10,Zc,↓reduceIte,reduceCtorEq, h, keepL]
    rfl
  · simp only [aR,N0,N1,N2,N3,N4,N5,Z0,Z1,Z2,Z3,Z4,Z5,Z6,Z7,Z8,Z9,Z10,Zc,↓reduceIte,reduceCtorEq, h, keepL, List.map_cons, List.map_nil]
    rfl
theorem call_keep {Γ : Env} (hf : Γ.get 98 = some keepCon) {σ : AS} {dr : Bool} {n : Int} {d : Option Nat} {K : AS → Prop} (hn : -9223372036854775808 ≤ n ∧ n ≤ 9223372036854775807)
    (hk : cont σ d (.sl 0 3 (kU (keepL n))) K) : kR Tryz.prog Γ dr σ 98 [.v (.int .i64 n)] d K :=
  qK (C := keepCon) (i := ⟨n, hn⟩) (r := .sl 0 3 (kU (keepL n))) hf rfl rfl rfl rfl (fun _ h => h) hk
end Go.Proofs
end
-- ZUo7
section
namespace Go.Proofs
open Go Go.Rw
set_option maxRecDepth 100000
theorem jG {n m : Int} (h1 : n + m ≤ 1099511627776) : addI n m = n + m := by unfold addI; omega
theorem kCa : ∀ (x y : List Cp) (n : Int), zX n (x ++ y) = zX (zX n x) y
  | [], _, _ => rfl
  | c :: x, y, n => by simp only [List.cons_append, zX]; exact kCa x y _
theorem kDl : ∀ (x y : List Cp) (n : Int), outF n (x ++ y) = outF (outF n x) y
  | [], _, _ => rfl
  | c :: x, y, n => by simp only [List.cons_append, outF]; exact kDl x y _
theorem kFE {m k g : Int} {t : List UInt8} (hk : 0 ≤ k) (hg : 0 ≤ g) (h : m + k + g ≤ 1099511627776) : zX m (putL k t g) = m + k + g := by
  have e1 : zX m (if k > 0 then [⟨1, k, []⟩] else []) = m + k := by
    split
    · simp only [zX, true_or, if_true, addI]; omega
    · simp only [zX]; omega
  have e2 : zX (m + k) (if t ≠ [] then [⟨2, 0, t⟩] else []) = m + k := by
    split
    · simp [zX]
    · rfl
  have e3 : zX (m + k) (if g > 0 then [⟨3, g, []⟩] else []) = m + k + g := by
    split
    · simp only [zX, or_true, if_true, addI]; omega
    · simp only [zX]; omega
  rw [putL, kCa, e1, kCa, e2, e3]
theorem outF_putL {m k g : Int} {t : List UInt8} (hk : 0 ≤ k) (h : m + k + lc t ≤ 1099511627776) : outF m (putL k t g) = m + k + lc t := by
  have e1 : outF m (if k > 0 then [⟨1, k, []⟩] else []) = m + k := by
    split
    · simp only [outF, if_true, addI]; omega
    · simp only [outF]; omega
  have e2 : outF (m + k) (if t ≠ [] then [⟨2, 0, t⟩] else []) = m + k + lc t := by
    split
    · simp [outF, addI]; omega
    · rename_i h
      have : t = [] := Classical.byContradiction fun h2 => h h2
      subst this
      simp [outF, kD6]
  have e3 : outF (m + k + lc t) (if g > 0 then [⟨3, g, []⟩] else []) = m + k + lc t := by
    split
    · simp [outF]
    · rfl
  rw [putL, kDl, e1, kDl, e2, e3]
end Go.Proofs
end
-- ZUo8
section
namespace Go.Proofs
open Go Go.Rw
open _root_.Nat renaming reduceAdd → N0, reduceSub → N1, reduceMul → N2, reduceLT → N3, reduceLeDiff → N4, reduceEqDiff → N5
open _root_.Int renaming reduceNeg → Z0, reduceAdd → Z1, reduceSub → Z2, reduceMul → Z3, reduceGT → Z4, reduceGE → Z5, reduceLT → Z6, reduceLE → Z7, reduceEq → Z8, reduceNe → Z9, reduceToNat → Z10, cast_ofNat_Int → Zc
set_option maxRecDepth 100000
def sumF (x : Int) (ys : List Int) : Int := ys.foldl addI x
theorem sumF_top : ∀ (ys : List Int), (∀ y ∈ ys, 0 ≤ y) → sumF 1099511627776 ys = 1099511627776
  | [], _ => rfl
  | y :: ys, h => by
    show sumF (addI 1099511627776 y) ys = _
    have := h y (by simp)
    rw [show addI 1099511627776 y = 1099511627776 by unfold addI; omega, sumF_top ys fun z hz => h z (by simp [hz])]
abbrev Sm := { p : Int × List Int // (0 ≤ p.1 ∧ p.1 ≤ 1099511627776) ∧ (∀ y ∈ p.2, 0 ≤ y ∧ y ≤ 9223372036854775807) ∧ p.2.length ≤ 9223372036854775807 }
abbrev kDP : Con where
  ι := Sm
  args := fun p => [.v (.int .i64 p.1.1), .sl 0 1 (ints .i64 p.1.2)]
  post := fun p r => r = .v (.int .i64 (sumF p.1.1 p.1.2))
  plain := true
theorem kCf : Rw.Good Tryz.prog 31 kDP := by
  have hΓ : kL Tryz.prog [] := kJ
  refine kS (nn := 30) hΓ Tryz.func31 (by kernel_rfl) rfl (show Tryz.f31.results.toList = [.tmp 4] from rfl) (fun _ => rfl) (fun _ => rfl) ?_
  rintro ⟨⟨x, ys⟩, hx, hy, hl⟩
  simp only at hx hy hl
  simp only [aR,N0,N1,N2,N3,N4,N5,Z0,Z1,Z2,Z3,Z4,Z5,Z6,Z7,Z8,Z9,Z10,Zc,↓reduceIte,reduceCtorEq, jC]
  obtain ⟨St, hSt⟩ : ∃ St : { p : Int × Nat // p.2 ≤ ys.length ∧ (0 ≤ p.1 ∧ p.1 ≤ 1099511627776) ∧ sumF x ys = sumF p.1 (ys.drop p.2) } → AS, ∀ p, St p = AS.of 30 [(0, .v (.int .i64 p.1.1)), (1, .sl 0 1 (ints .i64 ys)), (5, .v (.int .i64 p.1.2))] [] [] := ⟨_, fun _ => rfl⟩
  refine kX hΓ St (fun p => ys.length - p.1.2) ⟨(x, 0), by omega, hx, rfl⟩ (by rw [hSt]; refine kH [] [] ?_; simp only [aR,N0,N1,N2,N3,N4,N5,Z0,Z1,Z2,Z3,Z4,Z5,Z6,Z7,Z8,Z9,Z10,Zc,↓reduceIte,reduceCtorEq] <;> ((repeat' apply And.intro) <;> first | rfl | omega | trivial)) ?_
  rintro ⟨⟨s, i⟩, hi, hs, hb⟩
  simp only at hi hs hb
  rw [hSt]
  simp only
  simp only [aR,N0,N1,N2,N3,N4,N5,Z0,Z1,Z2,Z3,Z4,Z5,Z6,Z7,Z8,Z9,Z10,Zc,↓reduceIte,reduceCtorEq, jC]
  (with_reducible first | refine kC (fun h => ?_) (fun h => ?_) | refine kF (fun h => ?_) (fun h => ?_))
  · have hlt : i < ys.length := by omega
    have hyi := hy ys[i] (List.getElem_mem hlt)
    have hge : ∀ y ∈ ys.drop i, 0 ≤ y := fun y hm => (hy y (List.mem_of_mem_drop hm)).1
    rw [List.drop_eq_getElem_cons hlt] at hb hge
    have e1 : (ints .i64 ys).getD i .any = .v (.int .i64 ys[i]) := by simp [ints, List.getD_eq_getElem?_getD, hlt]
    have hs2 : ¬ s > 1099511627776 := by omega
    have early : ys[i] > 1099511627776 - s → sumF x ys = 1099511627776 := fun h => by
      rw [hb]
      show sumF (addI s ys[i]) _ = _
      rw [show addI s ys[i] = 1099511627776 by unfold addI; omega, sumF_top _ fun z hz => hge z (List.mem_cons_of_mem _ hz)]
    generalize ys[i] = y at *
    simp (disch := omega) only [aR,N0,N1,N2,N3,N4,N5,Z0,Z1,Z2,Z3,Z4,Z5,Z6,Z7,Z8,Z9,Z10,Zc,↓reduceIte,reduceCtorEq, kA, h, hs2, e1, jC]
    (repeat (with_reducible refine And.intro ?_ ?_; focus (first | omega | exact kG | kernel_rfl)))
    (with_reducible first | refine kC (fun h2 => ?_) (fun h2 => ?_) | refine kF (fun h2 => ?_) (fun h2 => ?_))
    · simp (disch := omega) only [aR,N0,N1,N2,N3,N4,N5,Z0,Z1,Z2,Z3,Z4,Z5,Z6,Z7,Z8,Z9,Z10,Zc,↓reduceIte,reduceCtorEq, kA, h2, e1, jC]
      rw [early h2]
    · simp (disch := omega) only [aR,N0,N1,N2,N3,N4,N5,Z0,Z1,Z2,Z3,Z4,Z5,Z6,Z7,Z8,Z9,Z10,Zc,↓reduceIte,reduceCtorEq, kA, h2, e1, jC]
      (repeat (with_reducible refine And.intro ?_ ?_; focus (first | omega | exact kG | kernel_rfl)))
      have hr : addI s y = s + y := jG (by omega)
      refine kI ⟨(s + y, i + 1), by simp only; omega, by simp only; omega, by rw [hb, ← hr]; rfl⟩ (by simp only; omega) ?_
      rw [hSt]; refine kH [] [] ?_
      simp only [aR,N0,N1,N2,N3,N4,N5,Z0,Z1,Z2,Z3,Z4,Z5,Z6,Z7,Z8,Z9,Z10,Zc,↓reduceIte,reduceCtorEq] <;> ((repeat' apply And.intro) <;> first | rfl | omega | trivial)
  · simp only [aR,N0,N1,N2,N3,N4,N5,Z0,Z1,Z2,Z3,Z4,Z5,Z6,Z7,Z8,Z9,Z10,Zc,↓reduceIte,reduceCtorEq, h]
    rw [List.drop_of_length_le (by omega)] at hb
    rw [hb]; rfl
theorem kBf {Γ : Env} (hf : Γ.get 31 = some kDP) {σ : AS} {dr : Bool} {x : Int} {y : List Int} {t : Nat} {ys : List AV} {d : Option Nat} {K : AS → Prop} (hy : ys = ints .i64 y) (h1 : 0 ≤ x ∧ x ≤ 1099511627776) (h2 : ∀ z ∈ y, 0 ≤ z ∧ z ≤ 9223372036854775807) (h3 : y.length ≤ 9223372036854775807)
    (hk : cont σ d (.v (.int .i64 (sumF x y))) K) : kR Tryz.prog Γ dr σ 31 [.v (.int .i64 x), .sl t 1 ys] d K := by
  subst hy
  exact kK (C := kDP) (i := ⟨(x, y), h1, h2, h3⟩) hf rfl rfl rfl rfl (fun _ h => h) rfl hk
theorem jD : ∀ (ys : List Int) {x : Int}, (0 ≤ x ∧ x ≤ 1099511627776) → (∀ y ∈ ys, 0 ≤ y) → x ≤ sumF x ys ∧ sumF x ys ≤ 1099511627776
  | [], x, h, _ => by simp [sumF]; omega
  | y :: ys, x, h, hy => by
    have h1 := hy y (by simp)
    have h2 := k8 h.1 h1
    have h3 : x ≤ addI x y := by unfold addI; omega
    have h4 := jD ys h2 fun z hz => hy z (by simp [hz])
    show x ≤ sumF (addI x y) ys ∧ sumF (addI x y) ys ≤ _
    omega
def zD (m : Int) : Int → List Cp → Int
  | s, [] => s
  | s, c :: r => if s ≤ m then zD m (sumF s [c.t.length, 2]) r else s
theorem compsF_le {m : Int} (hm : m < 1099511627776) : ∀ (l : List Cp) {s : Int}, 0 ≤ s → zD m s l ≤ m → s + tot l + 2 * l.length ≤ m
  | [], s, _, h => by simp only [zD] at h; simp [tot]; exact h
  | c :: r, s, hs, h => by
    simp only [zD] at h
    split at h
    · rename_i h1
      have e : sumF s [(c.t.length : Int), 2] = addI (addI s c.t.length) 2 := rfl
      have h2 : 0 ≤ addI (addI s c.t.length) 2 := by unfold addI; omega
      rw [e] at h
      have h3 := compsF_le hm r h2 h
      simp only [tot, List.length_cons]
      have h4 : addI (addI s c.t.length) 2 ≤ m := by omega
      have h5 : addI (addI s c.t.length) 2 = s + c.t.length + 2 := by unfold addI at h4 ⊢; omega
      omega
    · omega
abbrev Wide := { l : List Cp // l.length ≤ 9223372036854775807 ∧ ∀ c ∈ l, c.t.length ≤ 9223372036854775807 }
end Go.Proofs
end
-- ZUo9
section
namespace Go.Proofs
open Go Go.Rw
set_option maxRecDepth 100000
def fol (q k : Int) : Bool := !(decide (q = k) || (decide (q = 3) && decide (k = 2)))
def neat (c : Cp) : Bool := if c.k = 2 then decide (c.n = 0) && decide (c.t ≠ []) else (decide (c.k = 1) || decide (c.k = 3)) && decide (0 < c.n) && decide (c.n ≤ 1099511627776) && decide (c.t = [])
def kBy : Int → List Cp → Bool
  | _, [] => true
  | q, c :: r => neat c && fol q c.k && kBy c.k r
theorem putL_g {k : Int} {t : List UInt8} {g : Int} (hg : g > 0) : putL k t g = putL k t 0 ++ [⟨3, g, []⟩] := by
  unfold putL
  rw [if_pos hg, if_neg (by omega : ¬ (0 : Int) > 0), List.append_nil, List.append_assoc]
theorem putL_t {k : Int} {t : List UInt8} (ht : t ≠ []) : putL k t 0 = putL k [] 0 ++ [⟨2, 0, t⟩] := by
  unfold putL
  simp [ht]
theorem shape_app : ∀ (a b : List Cp) (q q2 : Int), kBy q a = true → (∀ c ∈ a.getLast?, c.k = q2) → (a = [] → q = q2) → kBy q2 b = true → kBy q (a ++ b) = true
  | [], b, q, q2, _, _, h, hb => by rw [h rfl]; exact hb
  | [c], b, q, q2, ha, hl, _, hb => by
    simp only [kBy, Bool.and_true, List.cons_append, List.nil_append] at ha ⊢
    have := hl c (by simp)
    rw [this, hb, ← this, ha]; rfl
  | c :: d :: a, b, q, q2, ha, hl, _, hb => by
    simp only [kBy, List.cons_append] at ha ⊢
    rw [Bool.and_eq_true] at ha ⊢
    have := shape_app (d :: a) b c.k q2 (by simpa only [kBy] using ha.2) (fun x hx => hl x (by simpa using hx)) (fun h => by cases h) hb
    exact ⟨ha.1, by simpa only [List.cons_append, kBy] using this⟩
theorem kFb {q k g : Int} {t : List UInt8} (hk : k ≤ 1099511627776) (hg : g ≤ 1099511627776) (hq : q = 0 ∨ ((q = 2 ∨ q = 3) ∧ k > 0)) : kBy q (putL k t g) = true := by
  unfold putL
  by_cases h1 : k > 0 <;> by_cases h2 : t = [] <;> by_cases h3 : g > 0
  all_goals
    simp only [h1, h2, h3, if_true, if_false, ne_eq, not_true_eq_false, not_false_eq_true, List.nil_append, List.append_nil, List.cons_append, kBy, neat, fol, Bool.and_true]
    try (rcases hq with rfl | ⟨rfl | rfl, h4⟩ <;> simp [h2] <;> omega)
theorem last_putL {k g : Int} {t : List UInt8} (h : t ≠ [] ∨ g > 0) : (∀ c ∈ (putL k t g).getLast?, c.k = (if g > 0 then 3 else 2)) ∧ putL k t g ≠ [] := by
  by_cases h3 : g > 0
  · rw [putL_g h3, if_pos h3]
    simp
  · have h2 : t ≠ [] := by
      rcases h with h | h
      · exact h
      · exact absurd h h3
    have e : putL k t g = putL k t 0 := by unfold putL; rw [if_neg h3, if_neg (by omega : ¬ (0 : Int) > 0)]
    rw [e, putL_t h2, if_neg h3]
    simp
theorem kBb : ∀ (l : List Cp) (q k : Int) (t : List UInt8) (g : Int), (0 ≤ k ∧ k ≤ 1099511627776) → (0 ≤ g ∧ g ≤ 1099511627776) → (q = 0 ∨ ((q = 2 ∨ q = 3) ∧ k > 0)) → kBy q (nfF k t g l) = true
  | [], q, k, t, g, hk, hg, hq => by rw [nfF]; exact kFb hk.2 hg.2 hq
  | c :: r, q, k, t, g, hk, hg, hq => by
    by_cases hs : qJ c = false
    · rw [nf_no hs]; exact kBb r q k t g hk hg hq
    · have hs : qJ c = true := by simpa using hs
      by_cases h2 : c.k = 2
      · rw [kCk hs h2]; exact kBb r q k _ g hk hg hq
      · have hp := kCX hs h2
        by_cases h3 : c.k = 3
        · rw [kCr hs h3]; exact kBb r q k t _ hk (k8 hg.1 (by omega)) hq
        · by_cases h4 : t ≠ [] ∨ g > 0
          · rw [kF0 hs h2 h3 h4]
            obtain ⟨h5, h6⟩ := last_putL (k := k) h4
            refine shape_app _ _ q _ (kFb hk.2 hg.2 hq) h5 (fun h => absurd h h6) (kBb r _ _ [] 0 (k8 (by omega) (by omega)) (by omega) (.inr ⟨by split <;> simp, by unfold addI; omega⟩))
          · rw [kDJ hs h2 h3 h4]
            refine kBb r q _ t g (k8 hk.1 (by omega)) hg ?_
            rcases hq with h | ⟨h, h7⟩
            · exact .inl h
            · exact .inr ⟨h, by unfold addI; omega⟩
end Go.Proofs
end
-- ZUo10
section
namespace Go.Proofs
open Go Go.Rw
set_option maxRecDepth 100000
def tn : List Cp → Int
  | [] => 0
  | c :: r => max c.n 0 + tn r
def sumN : Int → List Cp → Int
  | s, [] => s
  | s, c :: r => sumN (addI s (max c.n 0)) r
theorem kEI : ∀ l : List Cp, 0 ≤ tn l
  | [] => by simp [tn]
  | c :: r => by simp only [tn]; have := kEI r; omega
theorem sumN_eq : ∀ (l : List Cp) {s : Int}, (0 ≤ s ∧ s ≤ 1099511627776) → sumN s l = min (s + tn l) 1099511627776
  | [], s, h => by simp only [sumN, tn]; omega
  | c :: r, s, h => by
    have h2 := k8 h.1 (show 0 ≤ max c.n 0 by omega)
    have := kEI r
    simp only [sumN, tn]
    rw [sumN_eq r h2]
    unfold addI
    omega
def allV (l : List Cp) : Bool := l.all fun c => (pts c.t).isSome
theorem addI_z {x : Int} (h : x ≤ 1099511627776) : addI x 0 = x := by unfold addI; omega
theorem kCu : ∀ (l : List Cp) (m k : Int) (t : List UInt8) (g : Int), 0 ≤ m → 0 ≤ k → 0 ≤ g → m + k + g + tn l ≤ 1099511627776 → zX m (nfF k t g l) = zX (m + k + g) l
  | [], m, k, t, g, hm, hk, hg, h => by
    simp only [tn] at h
    rw [nfF, kFE hk hg (by omega)]; rfl
  | c :: r, m, k, t, g, hm, hk, hg, h => by
    have htn := kEI r
    simp only [tn] at h
    by_cases hs : qJ c = false
    · rw [nf_no hs, kCu r m k t g hm hk hg (by omega)]
      simp only [zX]
      split
      · rename_i h13
        have : c.n ≤ 0 := by
          unfold qJ at hs
          rw [if_neg (by omega)] at hs
          simp at hs
          exact hs (by omega)
        rw [show max c.n 0 = 0 by omega, addI_z (by omega)]
      · rfl
    · have hs : qJ c = true := by simpa using hs
      by_cases h2 : c.k = 2
      · rw [kCk hs h2, kCu r m k _ g hm hk hg (by omega)]
        simp only [zX]
        rw [if_neg (by omega)]
      · have hp := kCX hs h2
        have h13 : c.k = 1 ∨ c.k = 3 := by
          unfold qJ at hs
          rw [if_neg h2] at hs
          simp at hs
          exact hs.1
        have e : zX (m + k + g) (c :: r) = zX (m + k + g + c.n) r := by
          simp only [zX]
          rw [if_pos h13, show max c.n 0 = c.n by omega, jG (by omega)]
        rw [e]
        by_cases h3 : c.k = 3
        · rw [kCr hs h3, jG (by omega), kCu r m k t _ hm hk (by omega) (by omega), show m + k + (g + c.n) = m + k + g + c.n by omega]
        · by_cases h4 : t ≠ [] ∨ g > 0
          · rw [kF0 hs h2 h3 h4, jG (by omega), kCa, kFE hk hg (by omega), kCu r (m + k + g) (0 + c.n) [] 0 (by omega) (by omega) (by omega) (by omega), show m + k + g + (0 + c.n) + 0 = m + k + g + c.n by omega]
          · rw [kDJ hs h2 h3 h4, jG (by omega), kCu r m (k + c.n) t g hm (by omega) hg (by omega), show m + (k + c.n) + g = m + k + g + c.n by omega]
theorem pts_app {s t : List UInt8} (h1 : (pts s).isSome = true) (h2 : (pts t).isSome = true) : lc (s ++ t) = lc s + lc t ∧ (pts (s ++ t)).isSome = true := by
  obtain ⟨a, ha⟩ := Option.isSome_iff_exists.1 h1
  obtain ⟨b, hb⟩ := Option.isSome_iff_exists.1 h2
  obtain ⟨oa, rfl⟩ := jY ha
  obtain ⟨ob, rfl⟩ := jY hb
  have oab : ∀ c ∈ a ++ b, okc c := fun c hc => by
    rcases List.mem_append.1 hc with h | h
    · exact oa c h
    · exact ob c h
  rw [← jL, kEk _ oab, kEk _ oa, kEk _ ob, kCp oab, List.length_append]
  exact ⟨rfl, rfl⟩
theorem kFR : ∀ (l : List Cp) (m k : Int) (t : List UInt8) (g : Int), 0 ≤ m → 0 ≤ k → (pts t).isSome = true → allV l = true → m + k + t.length + tn l + tot l ≤ 1099511627776 → outF m (nfF k t g l) = outF (m + k + lc t) l
  | [], m, k, t, g, hm, hk, ht, hv, h => by
    have := kDY t
    simp only [tn, tot] at h
    rw [nfF, outF_putL hk (by omega)]; rfl
  | c :: r, m, k, t, g, hm, hk, ht, hv, h => by
    have htn := kEI r
    have hlt := kDY t
    have hlc := kDY c.t
    simp only [tn, tot] at h
    simp only [allV, List.all_cons, Bool.and_eq_true] at hv
    obtain ⟨hvc, hvr⟩ := hv
    by_cases hs : qJ c = false
    · rw [nf_no hs, kFR r m k t g hm hk ht hvr (by omega)]
      simp only [outF]
      split
      · rename_i h1
        have : c.n ≤ 0 := by
          unfold qJ at hs
          rw [if_neg (by omega)] at hs
          simp at hs
          exact hs (by omega)
        rw [show max c.n 0 = 0 by omega, addI_z (by omega)]
      · split
        · rename_i h2
          have : c.t = [] := by
            unfold qJ at hs
            rw [if_pos h2] at hs
            simpa using hs
          rw [this, kD6, show ((0 : Nat) : Int) = 0 from rfl, addI_z (by omega)]
        · rfl
    · have hs : qJ c = true := by simpa using hs
      by_cases h2 : c.k = 2
      · obtain ⟨e1, e2⟩ := pts_app ht hvc
        rw [kCk hs h2, kFR r m k _ g hm hk e2 hvr (by rw [List.length_append]; omega), e1]
        simp only [outF]
        rw [if_neg (by omega), if_pos h2, jG (by omega), show m + k + ((lc t + lc c.t : Nat) : Int) = m + k + lc t + lc c.t by omega]
      · have hp := kCX hs h2
        by_cases h3 : c.k = 3
        · rw [kCr hs h3, kFR r m k t _ hm hk ht hvr (by omega)]
          simp only [outF]
          rw [if_neg (by omega), if_neg h2]
        · have h1 : c.k = 1 := by
            unfold qJ at hs
            rw [if_neg h2] at hs
            simp at hs
            omega
          have e : outF (m + k + lc t) (c :: r) = outF (m + k + lc t + c.n) r := by
            simp only [outF]
            rw [if_pos h1, show max c.n 0 = c.n by omega, jG (by omega)]
          rw [e]
          by_cases h4 : t ≠ [] ∨ g > 0
          · rw [kF0 hs h2 h3 h4, jG (by omega), kDl, outF_putL hk (by omega), kFR r (m + k + lc t) (0 + c.n) [] 0 (by omega) (by omega) (by rw [kAr]; rfl) hvr (by simp only [List.length_nil]; omega), kD6, show m + k + (lc t : Int) + (0 + c.n) + ((0 : Nat) : Int) = m + k + lc t + c.n by omega]
          · rw [kDJ hs h2 h3 h4, jG (by omega), kFR r m (k + c.n) t g hm (by omega) ht hvr (by omega), show m + (k + c.n) + (lc t : Int) = m + k + lc t + c.n by omega]
theorem kF9 {k g : Int} {t : List UInt8} (ht : (pts t).isSome = true) : allV (putL k t g) = true := by
  have h0 : (pts []).isSome = true := by rw [kAr]; rfl
  unfold putL allV
  repeat' split
  all_goals simp [h0, ht]
theorem kB4 : ∀ (l : List Cp) (k : Int) (t : List UInt8) (g : Int), (pts t).isSome = true → allV l = true → allV (nfF k t g l) = true
  | [], k, t, g, ht, _ => by rw [nfF]; exact kF9 ht
  | c :: r, k, t, g, ht, hv => by
    simp only [allV, List.all_cons, Bool.and_eq_true] at hv
    obtain ⟨hvc, hvr⟩ := hv
    have h0 : (pts []).isSome = true := by rw [kAr]; rfl
    rw [nfF]
    repeat' split
    · exact kB4 r k t g ht hvr
    · exact kB4 r k _ g (pts_app ht hvc).2 hvr
    · exact kB4 r k t _ ht hvr
    · unfold allV
      rw [List.all_append, Bool.and_eq_true]
      exact ⟨kF9 ht, kB4 r _ [] 0 h0 hvr⟩
    · exact kB4 r _ t g ht hvr
theorem kDQ : ∀ (l : List Cp) (p : Option Cp), kBy (match p with | none => 0 | some c => c.k) l = true → allV l = true → zP p l = true
  | [], _, _, _ => rfl
  | c :: r, p, h, hv => by
    simp only [kBy, Bool.and_eq_true] at h
    simp only [allV, List.all_cons, Bool.and_eq_true] at hv
    simp only [zP, Bool.and_eq_true]
    refine ⟨⟨?_, ?_⟩, kDQ r (some c) h.2 hv.2⟩
    · have hn := h.1.1
      unfold neat at hn
      unfold qE
      split
      · rename_i h2
        rw [if_pos h2] at hn
        simp at hn
        simp [hn, hv.1]
      · rename_i h2
        rw [if_neg h2] at hn
        simp at hn
        rw [if_pos hn.1.1.1]
        simp [hn.2]; omega
    · cases p with
      | none => rfl
      | some q => exact h.1.2
theorem nf_normal {l : List Cp} (h : allV l = true) : qL (nf l) = true :=
  kDQ _ none (kBb l 0 0 [] 0 (by omega) (by omega) (.inl rfl)) (kB4 l 0 [] 0 (by rw [kAr]; rfl) h)
end Go.Proofs
end
