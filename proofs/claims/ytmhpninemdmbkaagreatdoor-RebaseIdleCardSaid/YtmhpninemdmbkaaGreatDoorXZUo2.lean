/-
  Which edits may be. Parts put behind others; the normal form. The document's normal form. Parts held against each other; edits that are alike.
-/
import Derived.Test.YtmhpninemdmbkaaGreatDoorXZUo1
set_option linter.unusedSimpArgs false
set_option linter.unusedVariables false
set_option linter.defProp false

-- ZUo2
section
namespace Go.Proofs
open Go Go.Rw
open _root_.Nat renaming reduceAdd → N0, reduceSub → N1, reduceMul → N2, reduceLT → N3, reduceLeDiff → N4, reduceEqDiff → N5
open _root_.Int renaming reduceNeg → Z0, reduceAdd → Z1, reduceSub → Z2, reduceMul → Z3, reduceGT → Z4, reduceGE → Z5, reduceLT → Z6, reduceLE → Z7, reduceEq → Z8, reduceNe → Z9, reduceToNat → Z10, cast_ofNat_Int → Zc
set_option maxRecDepth 100000
set_option linter.unusedSimpArgs false
set_option linter.unusedVariables false

abbrev soundCon : Con := kAq qD
abbrev someCon : Con := kAq qJ
/-- The part ahead of a place. -/
def ahead (l : List Cp) (i : Nat) : Option Cp := if i = 0 then none else l[i - 1]?
abbrev jR : Con where
  ι := Ed
  args := fun l => [.sl 0 3 (kR l.1)]
  post := fun l r => r = .v (.bool (qF l.1))
  plain := true
theorem normal_good : Rw.Good Tryz.prog 115 jR := by
  have hΓ : kL Tryz.prog [(127, soundCon)] := (kE sound_good kJ)
  refine kS (nn := 45) hΓ Tryz.func115 (by kernel_rfl) rfl (show Tryz.f115.results.toList = [.tmp 2] from rfl) (fun _ => rfl) (fun _ => rfl) ?_
  rintro ⟨l, hl, htot, hc⟩
  simp only [aR,N0,N1,N2,N3,N4,N5,Z0,Z1,Z2,Z3,Z4,Z5,Z6,Z7,Z8,Z9,Z10,Zc,↓reduceIte,reduceCtorEq, kF]
  obtain ⟨St, hSt⟩ : ∃ St : { i : Nat // i ≤ l.length ∧ qF l = zH (ahead l i) (l.drop i) } → AS, ∀ i, St i = AS.of 45 [(0, .sl 0 3 (kR l)), (5, .sl 0 3 (kR l)), (6, .v (.int .i64 l.length)), (7, .v (.int .i64 i.1))] [] [] := ⟨_, fun _ => rfl⟩
  refine kY hΓ St (fun i => l.length - i.1) ⟨0, by omega, rfl⟩ (by rw [hSt]; refine kH [] [] ?_; simp only [aR,N0,N1,N2,N3,N4,N5,Z0,Z1,Z2,Z3,Z4,Z5,Z6,Z7,Z8,Z9,Z10,Zc,↓reduceIte,reduceCtorEq] <;> ((repeat' apply And.intro) <;> first | rfl | omega | trivial)) ?_
  rintro ⟨i, hi, hb⟩
  rw [hSt]
  simp only
  simp only [aR,N0,N1,N2,N3,N4,N5,Z0,Z1,Z2,Z3,Z4,Z5,Z6,Z7,Z8,Z9,Z10,Zc,↓reduceIte,reduceCtorEq]
  (with_reducible first | refine kB (fun h => ?_) (fun h => ?_) | refine kD (fun h => ?_) (fun h => ?_))
  · have hlt : i < l.length := by omega
    have hci := okL.text ⟨hl, htot, hc⟩ (List.getElem_mem hlt)
    have e1 := qA l hlt
    rw [List.drop_eq_getElem_cons hlt] at hb
    simp only [zH] at hb
    have hne : ahead l (i + 1) = some l[i] := by simp [ahead, hlt]
    rw [← hne] at hb
    simp (disch := omega) only [aR,N0,N1,N2,N3,N4,N5,Z0,Z1,Z2,Z3,Z4,Z5,Z6,Z7,Z8,Z9,Z10,Zc,↓reduceIte,reduceCtorEq, kA, h, e1, kF]
    (repeat (with_reducible refine And.intro ?_ ?_; focus (first | omega | exact kG | kernel_rfl)))
    refine call_sound (by simp [kC]) hci ?_
    have again : ∀ σ : AS, Weak σ (AS.of 45 [(0, .sl 0 3 (kR l)), (5, .sl 0 3 (kR l)), (6, .v (.int .i64 l.length)), (7, .v (.int .i64 (i + 1 : Nat)))] [] []) → qF l = zH (ahead l (i + 1)) (l.drop (i + 1)) → ∀ (x : { i : Nat // i ≤ l.length ∧ qF l = zH (ahead l i) (l.drop i) }), x.1 = i → kDU St (fun i => l.length - i.1) x σ := fun σ hw hb2 x hx =>
      kI ⟨i + 1, by omega, hb2⟩ (by simp only; omega) (by rw [hSt]; exact hw)
    cases hs : qD l[i] with
    | false =>
      simp only [aR,N0,N1,N2,N3,N4,N5,Z0,Z1,Z2,Z3,Z4,Z5,Z6,Z7,Z8,Z9,Z10,Zc,↓reduceIte,reduceCtorEq, hs]
      rw [hb, hs]; rfl
    | true =>
      rw [hs, Bool.true_and] at hb
      by_cases h0 : i = 0
      · subst h0
        simp only [aR,N0,N1,N2,N3,N4,N5,Z0,Z1,Z2,Z3,Z4,Z5,Z6,Z7,Z8,Z9,Z10,Zc,↓reduceIte,reduceCtorEq, hs]
        have hb3 : qF l = zH (ahead l (0 + 1)) (l.drop (0 + 1)) := by
          rw [hb]; rfl
        refine again _ ?_ hb3 _ rfl
        refine kH [] [] ?_
        simp only [aR,N0,N1,N2,N3,N4,N5,Z0,Z1,Z2,Z3,Z4,Z5,Z6,Z7,Z8,Z9,Z10,Zc,↓reduceIte,reduceCtorEq] <;> ((repeat' apply And.intro) <;> first | rfl | omega | trivial)
      · have hp : ahead l i = some l[i - 1] := by simp [ahead, h0]
        have e2 : (kR l).getD (i - 1) .any = .agg [.v (.int .i64 l[i - 1].k), .v (.int .i64 l[i - 1].n), .v (sv l[i - 1].t)] := qA l (by omega)
        have e3 : ((i : Int) - 1).toNat = i - 1 := by omega
        rw [hp] at hb
        simp only at hb
        simp (disch := omega) only [aR,N0,N1,N2,N3,N4,N5,Z0,Z1,Z2,Z3,Z4,Z5,Z6,Z7,Z8,Z9,Z10,Zc,↓reduceIte,reduceCtorEq, kA, hs, show (i : Int) > 0 by omega, kF, e3, e2]
        (repeat (with_reducible refine And.intro ?_ ?_; focus (first | omega | exact kG | kernel_rfl)))
        have fol : follows l[i - 1] l[i] = true → qF l = zH (ahead l (i + 1)) (l.drop (i + 1)) := fun h => by rw [hb, h, Bool.true_and]
        have nof : follows l[i - 1] l[i] = false → qF l = false := fun h => by rw [hb, h, Bool.false_and]
        (try ((with_reducible first | refine kB (fun q1 => ?_) (fun q1 => ?_) | refine kD (fun q1 => ?_) (fun q1 => ?_)) <;> simp (disch := omega) only [aR,N0,N1,N2,N3,N4,N5,Z0,Z1,Z2,Z3,Z4,Z5,Z6,Z7,Z8,Z9,Z10,Zc,↓reduceIte,reduceCtorEq, kA, q1, kF, e3, e2] <;> (with_reducible first | (refine And.intro ?_ ?_; focus (first | omega | exact kG | kernel_rfl)); (repeat (with_reducible refine And.intro ?_ ?_; focus (first | omega | exact kG | kernel_rfl))); (try simp (disch := omega) only [aR,N0,N1,N2,N3,N4,N5,Z0,Z1,Z2,Z3,Z4,Z5,Z6,Z7,Z8,Z9,Z10,Zc,↓reduceIte,reduceCtorEq, kA, q1, kF, e3, e2]) | skip) <;> (try ((with_reducible first | refine kB (fun q2 => ?_) (fun q2 => ?_) | refine kD (fun q2 => ?_) (fun q2 => ?_)) <;> simp (disch := omega) only [aR,N0,N1,N2,N3,N4,N5,Z0,Z1,Z2,Z3,Z4,Z5,Z6,Z7,Z8,Z9,Z10,Zc,↓reduceIte,reduceCtorEq, kA, q2, kF, e3, e2] <;> (with_reducible first | (refine And.intro ?_ ?_; focus (first | omega | exact kG | kernel_rfl)); (repeat (with_reducible refine And.intro ?_ ?_; focus (first | omega | exact kG | kernel_rfl))); (try simp (disch := omega) only [aR,N0,N1,N2,N3,N4,N5,Z0,Z1,Z2,Z3,Z4,Z5,Z6,Z7,Z8,Z9,Z10,Zc,↓reduceIte,reduceCtorEq, kA, q2, kF, e3, e2]) | skip) <;> (try ((with_reducible first | refine kB (fun q3 => ?_) (fun q3 => ?_) | refine kD (fun q3 => ?_) (fun q3 => ?_)) <;> simp (disch := omega) only [aR,N0,N1,N2,N3,N4,N5,Z0,Z1,Z2,Z3,Z4,Z5,Z6,Z7,Z8,Z9,Z10,Zc,↓reduceIte,reduceCtorEq, kA, q3, kF, e3, e2] <;> (with_reducible first | (refine And.intro ?_ ?_; focus (first | omega | exact kG | kernel_rfl)); (repeat (with_reducible refine And.intro ?_ ?_; focus (first | omega | exact kG | kernel_rfl))); (try simp (disch := omega) only [aR,N0,N1,N2,N3,N4,N5,Z0,Z1,Z2,Z3,Z4,Z5,Z6,Z7,Z8,Z9,Z10,Zc,↓reduceIte,reduceCtorEq, kA, q3, kF, e3, e2]) | skip) <;> (try ((with_reducible first | refine kB (fun q4 => ?_) (fun q4 => ?_) | refine kD (fun q4 => ?_) (fun q4 => ?_)) <;> simp (disch := omega) only [aR,N0,N1,N2,N3,N4,N5,Z0,Z1,Z2,Z3,Z4,Z5,Z6,Z7,Z8,Z9,Z10,Zc,↓reduceIte,reduceCtorEq, kA, q4, kF, e3, e2] <;> (with_reducible first | (refine And.intro ?_ ?_; focus (first | omega | exact kG | kernel_rfl)); (repeat (with_reducible refine And.intro ?_ ?_; focus (first | omega | exact kG | kernel_rfl))); (try simp (disch := omega) only [aR,N0,N1,N2,N3,N4,N5,Z0,Z1,Z2,Z3,Z4,Z5,Z6,Z7,Z8,Z9,Z10,Zc,↓reduceIte,reduceCtorEq, kA, q4, kF, e3, e2]) | skip) <;> skip))))))))
        all_goals first
          | (rw [nof (by simp [follows]; omega)])
          | (refine again _ ?_ (fol (by simp [follows]; omega)) _ rfl
             refine kH [] [] ?_
             simp only [aR,N0,N1,N2,N3,N4,N5,Z0,Z1,Z2,Z3,Z4,Z5,Z6,Z7,Z8,Z9,Z10,Zc,↓reduceIte,reduceCtorEq] <;> ((repeat' apply And.intro) <;> first | rfl | omega | trivial))
          | trace_state
  · simp only [aR,N0,N1,N2,N3,N4,N5,Z0,Z1,Z2,Z3,Z4,Z5,Z6,Z7,Z8,Z9,Z10,Zc,↓reduceIte,reduceCtorEq, h]
    rw [List.drop_of_length_le (by omega)] at hb
    rw [hb]; rfl
theorem call_normal {Γ : Env} (hf : Γ.get 115 = some jR) {σ : AS} {dr : Bool} {l : List Cp} {t : Nat} {ys : List AV} {d : Option Nat} {K : AS → Prop} (hy : ys = kR l) (h : okL l)
    (hk : cont σ d (.v (.bool (qF l))) K) : kP Tryz.prog Γ dr σ 115 [.sl t 3 ys] d K := by
  subst hy
  exact kK (C := jR) (i := ⟨l, h⟩) hf rfl rfl rfl rfl (fun _ h => h) rfl hk
abbrev jW : Con where
  ι := Ed
  args := fun l => [.sl 0 3 (kR l.1)]
  post := fun l r => r = .v (.int .i64 (qG l.1))
  plain := true
theorem kEf : Rw.Good Tryz.prog 90 jW := by
  have hΓ : kL Tryz.prog [(115, jR), (116, kAb), (117, kC7)] := (kE normal_good (kE base_good (kE out_good kJ)))
  refine kS (nn := 20) hΓ Tryz.func90 (by kernel_rfl) rfl (show Tryz.f90.results.toList = [.tmp 2] from rfl) (fun _ => rfl) (fun _ => rfl) ?_
  rintro ⟨l, hl⟩
  simp only [aR,N0,N1,N2,N3,N4,N5,Z0,Z1,Z2,Z3,Z4,Z5,Z6,Z7,Z8,Z9,Z10,Zc,↓reduceIte,reduceCtorEq, kF]
  have c1 : 100 < (l.length : Int) → qG l = 3 := fun h => by rw [qG, if_pos (by omega)]
  have c2 : ¬ 100 < (l.length : Int) → qF l = false → qG l = 1 := fun h h2 => by rw [qG, if_neg (by omega), if_pos h2]
  have c3 : ¬ 100 < (l.length : Int) → qF l = true → (zZ l > 2000 ∨ outL l > 2000) → qG l = 3 := fun h h2 h3 => by rw [qG, if_neg (by omega), if_neg (by rw [h2]; decide), if_pos h3]
  have c4 : ¬ 100 < (l.length : Int) → qF l = true → ¬ (zZ l > 2000 ∨ outL l > 2000) → qG l = 0 := fun h h2 h3 => by rw [qG, if_neg (by omega), if_neg (by rw [h2]; decide), if_neg h3]
  (with_reducible first | refine kB (fun h => ?_) (fun h => ?_) | refine kD (fun h => ?_) (fun h => ?_))
  · simp only [aR,N0,N1,N2,N3,N4,N5,Z0,Z1,Z2,Z3,Z4,Z5,Z6,Z7,Z8,Z9,Z10,Zc,↓reduceIte,reduceCtorEq, h, c1 (by omega)]
  · simp only [aR,N0,N1,N2,N3,N4,N5,Z0,Z1,Z2,Z3,Z4,Z5,Z6,Z7,Z8,Z9,Z10,Zc,↓reduceIte,reduceCtorEq, h]
    refine call_normal (by simp [kC]) rfl hl ?_
    cases hn : qF l with
    | false => simp only [aR,N0,N1,N2,N3,N4,N5,Z0,Z1,Z2,Z3,Z4,Z5,Z6,Z7,Z8,Z9,Z10,Zc,↓reduceIte,reduceCtorEq, hn, c2 (by omega) hn]
    | true =>
      simp only [aR,N0,N1,N2,N3,N4,N5,Z0,Z1,Z2,Z3,Z4,Z5,Z6,Z7,Z8,Z9,Z10,Zc,↓reduceIte,reduceCtorEq, hn]
      refine kDY (by simp [kC]) rfl hl ?_
      simp only [aR,N0,N1,N2,N3,N4,N5,Z0,Z1,Z2,Z3,Z4,Z5,Z6,Z7,Z8,Z9,Z10,Zc,↓reduceIte,reduceCtorEq]
      (with_reducible first | refine kB (fun h1 => ?_) (fun h1 => ?_) | refine kD (fun h1 => ?_) (fun h1 => ?_))
      · simp only [aR,N0,N1,N2,N3,N4,N5,Z0,Z1,Z2,Z3,Z4,Z5,Z6,Z7,Z8,Z9,Z10,Zc,↓reduceIte,reduceCtorEq, h1, c3 (by omega) hn (.inl (by omega))]
      · simp only [aR,N0,N1,N2,N3,N4,N5,Z0,Z1,Z2,Z3,Z4,Z5,Z6,Z7,Z8,Z9,Z10,Zc,↓reduceIte,reduceCtorEq, h1]
        refine call_out (by simp [kC]) rfl hl ?_
        simp only [aR,N0,N1,N2,N3,N4,N5,Z0,Z1,Z2,Z3,Z4,Z5,Z6,Z7,Z8,Z9,Z10,Zc,↓reduceIte,reduceCtorEq]
        (with_reducible first | refine kB (fun h2 => ?_) (fun h2 => ?_) | refine kD (fun h2 => ?_) (fun h2 => ?_))
        · simp only [aR,N0,N1,N2,N3,N4,N5,Z0,Z1,Z2,Z3,Z4,Z5,Z6,Z7,Z8,Z9,Z10,Zc,↓reduceIte,reduceCtorEq, h2, c3 (by omega) hn (.inr (by omega))]
        · simp only [aR,N0,N1,N2,N3,N4,N5,Z0,Z1,Z2,Z3,Z4,Z5,Z6,Z7,Z8,Z9,Z10,Zc,↓reduceIte,reduceCtorEq, h2, c4 (by omega) hn (by omega)]
theorem kC6 {Γ : Env} (hf : Γ.get 90 = some jW) {σ : AS} {dr : Bool} {l : List Cp} {t : Nat} {ys : List AV} {d : Option Nat} {K : AS → Prop} (hy : ys = kR l) (h : okL l)
    (hk : cont σ d (.v (.int .i64 (qG l))) K) : kP Tryz.prog Γ dr σ 90 [.sl t 3 ys] d K := by
  subst hy
  exact kK (C := jW) (i := ⟨l, h⟩) hf rfl rfl rfl rfl (fun _ h => h) rfl hk
end Go.Proofs
end

-- ZUo3
section
namespace Go.Proofs
open Go Go.Rw
open _root_.Nat renaming reduceAdd → N0, reduceSub → N1, reduceMul → N2, reduceLT → N3, reduceLeDiff → N4, reduceEqDiff → N5
open _root_.Int renaming reduceNeg → Z0, reduceAdd → Z1, reduceSub → Z2, reduceMul → Z3, reduceGT → Z4, reduceGE → Z5, reduceLT → Z6, reduceLE → Z7, reduceEq → Z8, reduceNe → Z9, reduceToNat → Z10, cast_ofNat_Int → Zc
set_option maxRecDepth 100000
set_option linter.unusedSimpArgs false
set_option linter.unusedVariables false

theorem ofV1_aggv {a : Array Value} : ofV1 (.agg a) = .v (.agg a) := rfl
/-- What is put behind others, up to a place. -/
def pN (c : Cp) : List Cp := if qJ c then [c] else []
def putN (k : Int) (t : List UInt8) (g : Int) : Nat → List Cp
  | 0 => []
  | 1 => pN ⟨1, k, []⟩
  | 2 => pN ⟨1, k, []⟩ ++ pN ⟨2, 0, t⟩
  | _ => pN ⟨1, k, []⟩ ++ pN ⟨2, 0, t⟩ ++ pN ⟨3, g, []⟩
theorem putN_three (k : Int) (t : List UInt8) (g : Int) : putN k t g 3 = putL k t g := by
  unfold putN putL pN qJ
  simp
theorem pN_len (c : Cp) : (pN c).length ≤ 1 := by
  unfold pN
  split <;> simp
theorem putN_len (k : Int) (t : List UInt8) (g : Int) (j : Nat) : (putN k t g j).length ≤ 3 := by
  have h1 := pN_len ⟨1, k, []⟩
  have h2 := pN_len ⟨2, 0, t⟩
  have h3 := pN_len ⟨3, g, []⟩
  match j with
  | 0 => simp [putN]
  | 1 => simp only [putN]; omega
  | 2 => simp only [putN, List.length_append]; omega
  | n + 3 => simp only [putN, List.length_append]; omega
abbrev Pt := { p : (List Cp × Int) × (List UInt8 × Int) // p.1.1.length ≤ 4000000000000 ∧ (0 ≤ p.1.2 ∧ p.1.2 ≤ 1099511627776) ∧ p.2.1.length ≤ 1099511627776 ∧ (0 ≤ p.2.2 ∧ p.2.2 ≤ 1099511627776) }
abbrev putCon : Con where
  ι := Pt
  args := fun p => [.sl 2 3 (kR p.1.1.1), .v (.int .i64 p.1.1.2), .v (sv p.1.2.1), .v (.int .i64 p.1.2.2)]
  post := fun p r => r = .sl 2 3 (kR (p.1.1.1 ++ putL p.1.1.2 p.1.2.1 p.1.2.2))
  own := some (0, 80)
  take := some (0, 80)
theorem put_good : Rw.Good Tryz.prog 121 putCon := by
  have hΓ : kL Tryz.prog [(119, someCon)] := (kE some_good kJ)
  refine good_tk (nn := 31) hΓ Tryz.func121 (by kernel_rfl) rfl (show Tryz.f121.results.toList = [.tmp 8] from rfl) (fun _ => rfl) (fun _ => rfl) ?_
  rintro ⟨⟨⟨l, k⟩, ⟨t, g⟩⟩, hl, hk, ht, hg⟩
  simp only at hl hk ht hg
  have hmin : min k 1099511627776 = k := by omega
  have hmin2 : min g 1099511627776 = g := by omega
  simp only [aR,N0,N1,N2,N3,N4,N5,Z0,Z1,Z2,Z3,Z4,Z5,Z6,Z7,Z8,Z9,Z10,Zc,↓reduceIte,reduceCtorEq, kF, kDF, hmin, hmin2, List.map_cons, List.map_nil, ofV1_aggv]
  obtain ⟨St, hSt⟩ : ∃ St : { j : Nat // j ≤ 3 } → AS, ∀ j, St j = AS.of 31 [(0, .sl 2 3 (kR (l ++ putN k t g j.1))), (19, .agg [.v (.int .i64 1), .v (.int .i64 k), .v (sv []), .v (.int .i64 2), .v (.int .i64 0), .v (sv t), .v (.int .i64 3), .v (.int .i64 g), .v (sv [])]), (20, .v (.int .i64 j.1))] [] [((kR (l ++ putN k t g j.1)).length, 80)] false := ⟨_, fun _ => rfl⟩
  refine kY hΓ St (fun j => 3 - j.1) ⟨0, by omega⟩ (by rw [hSt]; refine kH [] [.live 2] ?_; simp only [aR,N0,N1,N2,N3,N4,N5,Z0,Z1,Z2,Z3,Z4,Z5,Z6,Z7,Z8,Z9,Z10,Zc,↓reduceIte,reduceCtorEq, putN, kF] <;> ((repeat' apply And.intro) <;> first | rfl | omega | trivial)) ?_
  rintro ⟨j, hj⟩
  rw [hSt]
  simp only
  have hpl := putN_len k t g j
  have again : ∀ σ : AS, (j < 3) → Weak σ (AS.of 31 [(0, .sl 2 3 (kR (l ++ putN k t g (j + 1)))), (19, .agg [.v (.int .i64 1), .v (.int .i64 k), .v (sv []), .v (.int .i64 2), .v (.int .i64 0), .v (sv t), .v (.int .i64 3), .v (.int .i64 g), .v (sv [])]), (20, .v (.int .i64 (j + 1 : Nat)))] [] [((kR (l ++ putN k t g (j + 1))).length, 80)] false) → ∀ (x : { j : Nat // j ≤ 3 }), x.1 = j → kDU St (fun j => 3 - j.1) x σ := fun σ h3 hw x hx =>
    kI ⟨j + 1, by omega⟩ (by simp only; omega) (by rw [hSt]; exact hw)
  match j with
  | 0 =>
    simp only [aR,N0,N1,N2,N3,N4,N5,Z0,Z1,Z2,Z3,Z4,Z5,Z6,Z7,Z8,Z9,Z10,Zc,↓reduceIte,reduceCtorEq, kF, putN]
    refine kBx (c := ⟨1, k, []⟩) (by simp [kC]) (by simp only [List.length_nil]; omega) ?_
    cases hs : qJ ⟨1, k, []⟩ with
    | false =>
      simp (disch := omega) only [aR,N0,N1,N2,N3,N4,N5,Z0,Z1,Z2,Z3,Z4,Z5,Z6,Z7,Z8,Z9,Z10,Zc,↓reduceIte,reduceCtorEq, kA, hs]
      refine again _ (by omega) ?_ _ rfl
      rw [show putN k t g (0 + 1) = putN k t g 0 from by simp [putN, pN, hs]]
      refine kH [] [.live 2] ?_
      simp only [aR,N0,N1,N2,N3,N4,N5,Z0,Z1,Z2,Z3,Z4,Z5,Z6,Z7,Z8,Z9,Z10,Zc,↓reduceIte,reduceCtorEq, kF, putN] <;> ((repeat' apply And.intro) <;> first | rfl | omega | trivial)
    | true =>
      simp (disch := omega) only [aR,N0,N1,N2,N3,N4,N5,Z0,Z1,Z2,Z3,Z4,Z5,Z6,Z7,Z8,Z9,Z10,Zc,↓reduceIte,reduceCtorEq, kA, hs, kF, jO, List.append_assoc, List.length_append]
      (repeat (with_reducible refine And.intro ?_ ?_; focus (first | omega | exact kG | kernel_rfl)))
      refine again _ (by omega) ?_ _ rfl
      rw [show putN k t g (0 + 1) = putN k t g 0 ++ [⟨1, k, []⟩] from by simp [putN, pN, hs]]
      refine kH [] [.live 2] ?_
      simp only [aR,N0,N1,N2,N3,N4,N5,Z0,Z1,Z2,Z3,Z4,Z5,Z6,Z7,Z8,Z9,Z10,Zc,↓reduceIte,reduceCtorEq, kF, List.append_assoc, List.length_append, putN] <;> ((repeat' apply And.intro) <;> first | rfl | omega | trivial)
  | 1 =>
    simp only [aR,N0,N1,N2,N3,N4,N5,Z0,Z1,Z2,Z3,Z4,Z5,Z6,Z7,Z8,Z9,Z10,Zc,↓reduceIte,reduceCtorEq, kF, List.length_append]
    refine kBx (c := ⟨2, 0, t⟩) (by simp [kC]) (by simp only [List.length_nil]; omega) ?_
    cases hs : qJ ⟨2, 0, t⟩ with
    | false =>
      simp (disch := omega) only [aR,N0,N1,N2,N3,N4,N5,Z0,Z1,Z2,Z3,Z4,Z5,Z6,Z7,Z8,Z9,Z10,Zc,↓reduceIte,reduceCtorEq, kA, hs]
      refine again _ (by omega) ?_ _ rfl
      rw [show putN k t g (1 + 1) = putN k t g 1 from by simp [putN, pN, hs]]
      refine kH [] [.live 2] ?_
      simp only [aR,N0,N1,N2,N3,N4,N5,Z0,Z1,Z2,Z3,Z4,Z5,Z6,Z7,Z8,Z9,Z10,Zc,↓reduceIte,reduceCtorEq, kF, List.length_append] <;> ((repeat' apply And.intro) <;> first | rfl | omega | trivial)
    | true =>
      simp (disch := omega) only [aR,N0,N1,N2,N3,N4,N5,Z0,Z1,Z2,Z3,Z4,Z5,Z6,Z7,Z8,Z9,Z10,Zc,↓reduceIte,reduceCtorEq, kA, hs, kF, jO, List.append_assoc, List.length_append]
      (repeat (with_reducible refine And.intro ?_ ?_; focus (first | omega | exact kG | kernel_rfl)))
      refine again _ (by omega) ?_ _ rfl
      rw [show putN k t g (1 + 1) = putN k t g 1 ++ [⟨2, 0, t⟩] from by simp [putN, pN, hs]]
      refine kH [] [.live 2] ?_
      simp only [aR,N0,N1,N2,N3,N4,N5,Z0,Z1,Z2,Z3,Z4,Z5,Z6,Z7,Z8,Z9,Z10,Zc,↓reduceIte,reduceCtorEq, kF, List.append_assoc, List.length_append, List.length_append] <;> ((repeat' apply And.intro) <;> first | rfl | omega | trivial)
  | 2 =>
    simp only [aR,N0,N1,N2,N3,N4,N5,Z0,Z1,Z2,Z3,Z4,Z5,Z6,Z7,Z8,Z9,Z10,Zc,↓reduceIte,reduceCtorEq, kF, List.length_append]
    refine kBx (c := ⟨3, g, []⟩) (by simp [kC]) (by simp only [List.length_nil]; omega) ?_
    cases hs : qJ ⟨3, g, []⟩ with
    | false =>
      simp (disch := omega) only [aR,N0,N1,N2,N3,N4,N5,Z0,Z1,Z2,Z3,Z4,Z5,Z6,Z7,Z8,Z9,Z10,Zc,↓reduceIte,reduceCtorEq, kA, hs]
      refine again _ (by omega) ?_ _ rfl
      rw [show putN k t g (2 + 1) = putN k t g 2 from by simp [putN, pN, hs]]
      refine kH [] [.live 2] ?_
      simp only [aR,N0,N1,N2,N3,N4,N5,Z0,Z1,Z2,Z3,Z4,Z5,Z6,Z7,Z8,Z9,Z10,Zc,↓reduceIte,reduceCtorEq, kF, List.length_append] <;> ((repeat' apply And.intro) <;> first | rfl | omega | trivial)
    | true =>
      simp (disch := omega) only [aR,N0,N1,N2,N3,N4,N5,Z0,Z1,Z2,Z3,Z4,Z5,Z6,Z7,Z8,Z9,Z10,Zc,↓reduceIte,reduceCtorEq, kA, hs, kF, jO, List.append_assoc, List.length_append]
      (repeat (with_reducible refine And.intro ?_ ?_; focus (first | omega | exact kG | kernel_rfl)))
      refine again _ (by omega) ?_ _ rfl
      rw [show putN k t g (2 + 1) = putN k t g 2 ++ [⟨3, g, []⟩] from by simp [putN, pN, hs]]
      refine kH [] [.live 2] ?_
      simp only [aR,N0,N1,N2,N3,N4,N5,Z0,Z1,Z2,Z3,Z4,Z5,Z6,Z7,Z8,Z9,Z10,Zc,↓reduceIte,reduceCtorEq, kF, List.append_assoc, List.length_append, List.length_append] <;> ((repeat' apply And.intro) <;> first | rfl | omega | trivial)
  | 3 =>
    simp only [aR,N0,N1,N2,N3,N4,N5,Z0,Z1,Z2,Z3,Z4,Z5,Z6,Z7,Z8,Z9,Z10,Zc,↓reduceIte,reduceCtorEq]
    rw [putN_three]
  | n + 4 => omega
theorem call_put {Γ : Env} (hf : Γ.get 121 = some putCon) {n : Nat} {t : Nat → AV} {hd : Nat → Nat → AV} {nh nl : Nat} {h : Nat → Option AO} {fm : Nat → Nat} {lv : Nat → Option (Nat × Nat)} {mu : Bool} {tag : Nat} {l : List Cp} {k : Int} {tx : List UInt8} {g : Int} {ys : List AV} {d : Option Nat} {K : AS → Prop}
    (hy : ys = kR l) (h2 : 2 ≤ tag) (hlv : lv tag = some (ys.length, 80)) (hone : ∀ l2, lv l2 ≠ none → fm l2 = fm tag → l2 = tag)
    (hl : l.length ≤ 4000000000000) (hkk : 0 ≤ k ∧ k ≤ 1099511627776) (ht : tx.length ≤ 1099511627776) (hg : 0 ≤ g ∧ g ≤ 1099511627776)
    (hk : cont ⟨n, t, hd, ⟨nh, h, nl + 1, upd fm nl (fm tag), upd (upd lv tag none) nl (some ((kR (l ++ putL k tx g)).length, 80)), mu⟩⟩ d (.sl nl 3 (kR (l ++ putL k tx g))) K) :
    kP Tryz.prog Γ false ⟨n, t, hd, ⟨nh, h, nl, fm, lv, mu⟩⟩ 121 [.sl tag 3 ys, .v (.int .i64 k), .v (sv tx), .v (.int .i64 g)] d K := by
  subst hy
  refine vcCall_take (C := putCon) (i := ⟨((l, k), (tx, g)), hl, hkk, ht, hg⟩) hf rfl rfl rfl (l := tag) (sz := 3) (xs := kR l) rfl h2 hlv rfl ?_ rfl hone ?_
  · have : (tag == 0) = false := by simp; omega
    simp [AV.tagsL, AV.tags]; omega
  · rintro r rfl
    exact hk
theorem nf_no {k : Int} {t : List UInt8} {g : Int} {c : Cp} {r : List Cp} (h : qJ c = false) : nfF k t g (c :: r) = nfF k t g r := by rw [nfF, if_pos h]
theorem kD6 {k : Int} {t : List UInt8} {g : Int} {c : Cp} {r : List Cp} (h : qJ c = true) (h2 : c.k = 2) : nfF k t g (c :: r) = nfF k (t ++ c.t) g r := by rw [nfF, if_neg (by rw [h]; decide), if_pos h2]
theorem kDn {k : Int} {t : List UInt8} {g : Int} {c : Cp} {r : List Cp} (h : qJ c = true) (h2 : c.k = 3) : nfF k t g (c :: r) = nfF k t (addI g c.n) r := by rw [nfF, if_neg (by rw [h]; decide), if_neg (by omega), if_pos h2]
theorem nf_put {k : Int} {t : List UInt8} {g : Int} {c : Cp} {r : List Cp} (h : qJ c = true) (h2 : ¬ c.k = 2) (h3 : ¬ c.k = 3) (h4 : t ≠ [] ∨ g > 0) : nfF k t g (c :: r) = putL k t g ++ nfF (addI 0 c.n) [] 0 r := by rw [nfF, if_neg (by rw [h]; decide), if_neg h2, if_neg h3, if_pos h4]
theorem kDx {k : Int} {t : List UInt8} {g : Int} {c : Cp} {r : List Cp} (h : qJ c = true) (h2 : ¬ c.k = 2) (h3 : ¬ c.k = 3) (h4 : ¬ (t ≠ [] ∨ g > 0)) : nfF k t g (c :: r) = nfF (addI k c.n) t g r := by rw [nfF, if_neg (by rw [h]; decide), if_neg h2, if_neg h3, if_neg h4]
theorem kCz {c : Cp} (h : qJ c = true) (h2 : ¬ c.k = 2) : 0 < c.n := by
  simp only [qJ, if_neg h2] at h
  simp at h; omega
abbrev normCon : Con where
  ι := Ed
  args := fun l => [.sl 0 3 (kR l.1)]
  post := fun l r => r = .sl 0 3 (kR (nf l.1))
abbrev NSt (l : List Cp) := { p : (List Cp × Nat) × ((Int × List UInt8) × Int) // p.1.2 ≤ l.length ∧ (0 ≤ p.2.1.1 ∧ p.2.1.1 ≤ 1099511627776) ∧ (0 ≤ p.2.2 ∧ p.2.2 ≤ 1099511627776) ∧ p.2.1.2.length + tot (l.drop p.1.2) ≤ 1099511627776 ∧ p.1.1 ++ nfF p.2.1.1 p.2.1.2 p.2.2 (l.drop p.1.2) = nf l }
theorem norm_good : Rw.Good Tryz.prog 99 normCon := by
  have hΓ : kL Tryz.prog [(119, someCon), (120, kEi), (121, putCon)] := (kE some_good (kE add_good (kE put_good kJ)))
  refine kS (nn := 55) hΓ Tryz.func99 (by kernel_rfl) rfl (show Tryz.f99.results.toList = [.tmp 2] from rfl) (fun _ => rfl) (fun _ => rfl) ?_
  rintro ⟨l, hl, htot, hc⟩
  have hlen := (kED l 0 [] 0 (by omega) (by omega)).1
  simp only [aR,N0,N1,N2,N3,N4,N5,Z0,Z1,Z2,Z3,Z4,Z5,Z6,Z7,Z8,Z9,Z10,Zc,↓reduceIte,reduceCtorEq, kF]
  obtain ⟨St, hSt⟩ : ∃ St : NSt l → AS, ∀ p, St p = AS.of 55 [(0, .sl 0 3 (kR l)), (2, .sl 2 3 (kR p.1.1.1)), (3, .ptr 0 0), (4, .v (sv p.1.2.1.2)), (5, .v (.int .i64 p.1.2.2)), (6, .v (.int .i64 p.1.2.1.1)), (7, .v (.int .i64 p.1.1.2))] [.cells [.any, .any, .any]] [(p.1.1.1.length, 80)] := ⟨_, fun _ => rfl⟩
  refine vc_lab hΓ 1 St (fun p => l.length - p.1.1.2) 1 rfl rfl ?_ ?_
  · rintro ⟨⟨⟨out, i⟩, ⟨⟨k, t⟩, g⟩⟩, hi, hk, hg, ht, hn⟩
    simp only at hi hk hg ht hn
    have hout : out.length ≤ 4000000000000 := by
      have := congrArg List.length hn
      rw [List.length_append] at this
      unfold nf at this
      omega
    rw [hSt]
    simp only
    simp only [aR,N0,N1,N2,N3,N4,N5,Z0,Z1,Z2,Z3,Z4,Z5,Z6,Z7,Z8,Z9,Z10,Zc,↓reduceIte,reduceCtorEq, kF]
    (with_reducible first | refine kB (fun h => ?_) (fun h => ?_) | refine kD (fun h => ?_) (fun h => ?_))
    · simp only [aR,N0,N1,N2,N3,N4,N5,Z0,Z1,Z2,Z3,Z4,Z5,Z6,Z7,Z8,Z9,Z10,Zc,↓reduceIte,reduceCtorEq]
      refine ⟨_, rfl, ?_⟩
      simp only [aR,N0,N1,N2,N3,N4,N5,Z0,Z1,Z2,Z3,Z4,Z5,Z6,Z7,Z8,Z9,Z10,Zc,↓reduceIte,reduceCtorEq]
      refine call_put (by simp [kC]) rfl (by omega) (by simp [kF]) (by simp) hout hk (by omega) hg ?_
      simp only [aR,N0,N1,N2,N3,N4,N5,Z0,Z1,Z2,Z3,Z4,Z5,Z6,Z7,Z8,Z9,Z10,Zc,↓reduceIte,reduceCtorEq]
      rw [← hn, List.drop_of_length_le (by omega)]
      rfl
    · have hlt : i < l.length := by omega
      have e1 := qA l hlt
      have hci := okL.text ⟨hl, htot, hc⟩ (List.getElem_mem hlt)
      have hcn := hc l[i] (List.getElem_mem hlt)
      have hpos : qJ l[i] = true → ¬ l[i].k = 2 → 0 < l[i].n := kCz
      have hd2 := ht
      rw [List.drop_eq_getElem_cons hlt] at hn hd2
      simp only [tot] at hd2
      have again : ∀ (σ : AS) (out2 : List Cp) (k2 : Int) (t2 : List UInt8) (g2 : Int), Weak σ (AS.of 55 [(0, .sl 0 3 (kR l)), (2, .sl 2 3 (kR out2)), (3, .ptr 0 0), (4, .v (sv t2)), (5, .v (.int .i64 g2)), (6, .v (.int .i64 k2)), (7, .v (.int .i64 (i + 1 : Nat)))] [.cells [.any, .any, .any]] [(out2.length, 80)]) →
          (0 ≤ k2 ∧ k2 ≤ 1099511627776) → (0 ≤ g2 ∧ g2 ≤ 1099511627776) → t2.length + tot (l.drop (i + 1)) ≤ 1099511627776 → out2 ++ nfF k2 t2 g2 (l.drop (i + 1)) = nf l →
          ∃ y : NSt l, l.length - y.1.1.2 < l.length - i ∧ Weak σ (St y) := fun σ out2 k2 t2 g2 hw h1 h2 h3 h4 =>
        ⟨⟨((out2, i + 1), ((k2, t2), g2)), by simp only; omega, h1, h2, h3, h4⟩, by simp only; omega, by rw [hSt]; exact hw⟩
      generalize l[i] = c at *
      obtain ⟨ck, cn, ct⟩ := c
      simp only at hci hcn hpos hd2 e1
      simp (disch := omega) only [aR,N0,N1,N2,N3,N4,N5,Z0,Z1,Z2,Z3,Z4,Z5,Z6,Z7,Z8,Z9,Z10,Zc,↓reduceIte,reduceCtorEq, kA, h, e1, kF]
      (repeat (with_reducible refine And.intro ?_ ?_; focus (first | omega | exact kG | kernel_rfl)))
      refine kBx (c := ⟨ck, cn, ct⟩) (by simp [kC]) hci ?_
      cases hs : qJ ⟨ck, cn, ct⟩ with
      | false =>
        simp only [aR,N0,N1,N2,N3,N4,N5,Z0,Z1,Z2,Z3,Z4,Z5,Z6,Z7,Z8,Z9,Z10,Zc,↓reduceIte,reduceCtorEq, hs]
        refine again _ out k t g ?_ hk hg (by omega) (by rw [← hn, nf_no hs])
        refine kH [0] [.live 2] ?_
        simp only [aR,N0,N1,N2,N3,N4,N5,Z0,Z1,Z2,Z3,Z4,Z5,Z6,Z7,Z8,Z9,Z10,Zc,↓reduceIte,reduceCtorEq, kF] <;> ((repeat' apply And.intro) <;> first | rfl | omega | trivial)
      | true =>
        simp only [aR,N0,N1,N2,N3,N4,N5,Z0,Z1,Z2,Z3,Z4,Z5,Z6,Z7,Z8,Z9,Z10,Zc,↓reduceIte,reduceCtorEq, hs]
        (with_reducible first | refine kB (fun h2 => ?_) (fun h2 => ?_) | refine kD (fun h2 => ?_) (fun h2 => ?_))
        · simp (disch := omega) only [aR,N0,N1,N2,N3,N4,N5,Z0,Z1,Z2,Z3,Z4,Z5,Z6,Z7,Z8,Z9,Z10,Zc,↓reduceIte,reduceCtorEq, kA, h2]
          (repeat (with_reducible refine And.intro ?_ ?_; focus (first | omega | exact kG | kernel_rfl)))
          refine again _ out k (t ++ ct) g ?_ hk hg (by rw [List.length_append]; omega) (by rw [← hn, kD6 hs h2])
          refine kH [0] [.live 2] ?_
          simp only [aR,N0,N1,N2,N3,N4,N5,Z0,Z1,Z2,Z3,Z4,Z5,Z6,Z7,Z8,Z9,Z10,Zc,↓reduceIte,reduceCtorEq, kF] <;> ((repeat' apply And.intro) <;> first | rfl | omega | trivial)
        · simp (disch := omega) only [aR,N0,N1,N2,N3,N4,N5,Z0,Z1,Z2,Z3,Z4,Z5,Z6,Z7,Z8,Z9,Z10,Zc,↓reduceIte,reduceCtorEq, kA, h2]
          have hp := hpos hs h2
          (with_reducible first | refine kB (fun h3 => ?_) (fun h3 => ?_) | refine kD (fun h3 => ?_) (fun h3 => ?_))
          · simp (disch := omega) only [aR,N0,N1,N2,N3,N4,N5,Z0,Z1,Z2,Z3,Z4,Z5,Z6,Z7,Z8,Z9,Z10,Zc,↓reduceIte,reduceCtorEq, kA, h3]
            refine kA4 (by simp [kC]) hg (by omega) ?_
            simp only [aR,N0,N1,N2,N3,N4,N5,Z0,Z1,Z2,Z3,Z4,Z5,Z6,Z7,Z8,Z9,Z10,Zc,↓reduceIte,reduceCtorEq]
            refine again _ out k t (addI g cn) ?_ hk (k8 hg.1 (by omega)) (by omega) (by rw [← hn, kDn hs h3])
            refine kH [0] [.live 2] ?_
            simp only [aR,N0,N1,N2,N3,N4,N5,Z0,Z1,Z2,Z3,Z4,Z5,Z6,Z7,Z8,Z9,Z10,Zc,↓reduceIte,reduceCtorEq, kF] <;> ((repeat' apply And.intro) <;> first | rfl | omega | trivial)
          · simp (disch := omega) only [aR,N0,N1,N2,N3,N4,N5,Z0,Z1,Z2,Z3,Z4,Z5,Z6,Z7,Z8,Z9,Z10,Zc,↓reduceIte,reduceCtorEq, kA, h3]
            by_cases h4 : t ≠ [] ∨ g > 0
            · have fin : ∀ (σ : AS), Weak σ (AS.of 55 [(0, .sl 0 3 (kR l)), (2, .sl 2 3 (kR (out ++ putL k t g))), (3, .ptr 0 0), (4, .v (sv [])), (5, .v (.int .i64 0)), (6, .v (.int .i64 (addI 0 cn))), (7, .v (.int .i64 (i + 1 : Nat)))] [.cells [.any, .any, .any]] [((out ++ putL k t g).length, 80)]) → ∃ y : NSt l, l.length - y.1.1.2 < l.length - i ∧ Weak σ (St y) := fun σ hw =>
                again σ (out ++ putL k t g) (addI 0 cn) [] 0 hw (k8 (by omega) (by omega)) (by omega) (by rw [List.length_nil]; omega) (by rw [← hn, nf_put hs h2 h3 h4, List.append_assoc])
              by_cases h5 : t = []
              · have h6 : g > 0 := by
                  rcases h4 with h | h
                  · exact absurd h5 h
                  · exact h
                subst h5
                simp (disch := omega) only [aR,N0,N1,N2,N3,N4,N5,Z0,Z1,Z2,Z3,Z4,Z5,Z6,Z7,Z8,Z9,Z10,Zc,↓reduceIte,reduceCtorEq, kA, h6]
                refine call_put (by simp [kC]) rfl (by omega) (by simp [kF]) (by simp) hout hk (by simp only [List.length_nil]; omega) hg ?_
                simp only [aR,N0,N1,N2,N3,N4,N5,Z0,Z1,Z2,Z3,Z4,Z5,Z6,Z7,Z8,Z9,Z10,Zc,↓reduceIte,reduceCtorEq]
                refine kA4 (by simp [kC]) ⟨by omega, by omega⟩ (by omega) ?_
                simp only [aR,N0,N1,N2,N3,N4,N5,Z0,Z1,Z2,Z3,Z4,Z5,Z6,Z7,Z8,Z9,Z10,Zc,↓reduceIte,reduceCtorEq]
                refine fin _ ?_
                refine kH [0] [.live 3] ?_
                simp only [aR,N0,N1,N2,N3,N4,N5,Z0,Z1,Z2,Z3,Z4,Z5,Z6,Z7,Z8,Z9,Z10,Zc,↓reduceIte,reduceCtorEq, kF] <;> ((repeat' apply And.intro) <;> first | rfl | omega | trivial)
              · simp (disch := omega) only [aR,N0,N1,N2,N3,N4,N5,Z0,Z1,Z2,Z3,Z4,Z5,Z6,Z7,Z8,Z9,Z10,Zc,↓reduceIte,reduceCtorEq, kA, h5]
                refine call_put (by simp [kC]) rfl (by omega) (by simp [kF]) (by simp) hout hk (by omega) hg ?_
                simp only [aR,N0,N1,N2,N3,N4,N5,Z0,Z1,Z2,Z3,Z4,Z5,Z6,Z7,Z8,Z9,Z10,Zc,↓reduceIte,reduceCtorEq]
                refine kA4 (by simp [kC]) ⟨by omega, by omega⟩ (by omega) ?_
                simp only [aR,N0,N1,N2,N3,N4,N5,Z0,Z1,Z2,Z3,Z4,Z5,Z6,Z7,Z8,Z9,Z10,Zc,↓reduceIte,reduceCtorEq]
                refine fin _ ?_
                refine kH [0] [.live 3] ?_
                simp only [aR,N0,N1,N2,N3,N4,N5,Z0,Z1,Z2,Z3,Z4,Z5,Z6,Z7,Z8,Z9,Z10,Zc,↓reduceIte,reduceCtorEq, kF] <;> ((repeat' apply And.intro) <;> first | rfl | omega | trivial)
            · have h5 : t = [] := Classical.byContradiction fun h => h4 (.inl h)
              have h6 : ¬ g > 0 := fun h => h4 (.inr h)
              simp (disch := omega) only [aR,N0,N1,N2,N3,N4,N5,Z0,Z1,Z2,Z3,Z4,Z5,Z6,Z7,Z8,Z9,Z10,Zc,↓reduceIte,reduceCtorEq, kA, h5, h6]
              refine kA4 (by simp [kC]) hk (by omega) ?_
              simp only [aR,N0,N1,N2,N3,N4,N5,Z0,Z1,Z2,Z3,Z4,Z5,Z6,Z7,Z8,Z9,Z10,Zc,↓reduceIte,reduceCtorEq]
              refine again _ out (addI k cn) t g ?_ (k8 hk.1 (by omega)) hg (by omega) (by rw [← hn, kDx hs h2 h3 h4])
              refine kH [0] [.live 2] ?_
              simp only [aR,N0,N1,N2,N3,N4,N5,Z0,Z1,Z2,Z3,Z4,Z5,Z6,Z7,Z8,Z9,Z10,Zc,↓reduceIte,reduceCtorEq, kF, h5] <;> ((repeat' apply And.intro) <;> first | rfl | omega | trivial)
  · simp only [aR,N0,N1,N2,N3,N4,N5,Z0,Z1,Z2,Z3,Z4,Z5,Z6,Z7,Z8,Z9,Z10,Zc,↓reduceIte,reduceCtorEq]
    refine ⟨⟨(([], 0), ((0, []), 0)), by simp, by simp, by simp, by simpa using htot, rfl⟩, ?_⟩
    rw [hSt]
    refine kH [0] [.nil 3] ?_
    simp only [aR,N0,N1,N2,N3,N4,N5,Z0,Z1,Z2,Z3,Z4,Z5,Z6,Z7,Z8,Z9,Z10,Zc,↓reduceIte,reduceCtorEq, qS] <;> ((repeat' apply And.intro) <;> first | rfl | omega | trivial)
theorem call_norm {Γ : Env} {f : Nat} (hf : Γ.get f = some normCon) {n : Nat} {t : Nat → AV} {hd : Nat → Nat → AV} {nh nl : Nat} {h : Nat → Option AO} {fm : Nat → Nat} {lv : Nat → Option (Nat × Nat)} {mu : Bool} {l : List Cp} {tg : Nat} {ys : List AV} {d : Option Nat} {K : AS → Prop} (htg : 2 ≤ tg) (hy : ys = kR l) (hl : okL l)
    (hk : cont ⟨n, t, hd, ⟨nh, h, nl, fm, kill fm [tg] lv, mu⟩⟩ d (.sl 0 3 (kR (nf l))) K) : kP Tryz.prog Γ false ⟨n, t, hd, ⟨nh, h, nl, fm, lv, mu⟩⟩ f [.sl tg 3 ys] d K := by
  subst hy
  refine kAa (C := normCon) (i := ⟨l, hl⟩) hf rfl rfl rfl rfl (ts := [tg]) ?_ ?_
  · simp [AV.tagsL, AV.tags]; omega
  · rintro r rfl
    exact hk
end Go.Proofs
end

-- ZUo4
section
namespace Go.Proofs
open Go Go.Rw
open _root_.Nat renaming reduceAdd → N0, reduceSub → N1, reduceMul → N2, reduceLT → N3, reduceLeDiff → N4, reduceEqDiff → N5
open _root_.Int renaming reduceNeg → Z0, reduceAdd → Z1, reduceSub → Z2, reduceMul → Z3, reduceGT → Z4, reduceGE → Z5, reduceLT → Z6, reduceLE → Z7, reduceEq → Z8, reduceNe → Z9, reduceToNat → Z10, cast_ofNat_Int → Zc
set_option maxRecDepth 100000
set_option linter.unusedSimpArgs false
set_option linter.unusedVariables false

def heldI (a b : Int) : Int := min (min (max a 0) 1099511627776 + min (max b 0) 1099511627776) 1099511627776
theorem heldI_eq {a b : Int} (ha : 0 ≤ a ∧ a ≤ 1099511627776) : heldI a b = addI a (max b 0) := by unfold heldI addI; omega
abbrev kDM : Con where
  ι := I64 × I64
  args := fun p => [.v (.int .i64 p.1.1), .v (.int .i64 p.2.1)]
  post := fun p r => r = .v (.int .i64 (heldI p.1.1 p.2.1))
  plain := true
theorem held_good : Rw.Good Tryz.prog 110 kDM := by
  have hΓ : kL Tryz.prog [] := kJ
  refine kS (nn := 15) hΓ Tryz.func110 (by kernel_rfl) rfl (show Tryz.f110.results.toList = [.tmp 4] from rfl) (fun _ => rfl) (fun _ => rfl) ?_
  rintro ⟨⟨a, ha1, ha2⟩, ⟨b, hb1, hb2⟩⟩
  simp (disch := omega) only [aR,N0,N1,N2,N3,N4,N5,Z0,Z1,Z2,Z3,Z4,Z5,Z6,Z7,Z8,Z9,Z10,Zc,↓reduceIte,reduceCtorEq, kA, zT, kDF]
  unfold heldI
  rfl
theorem kD9 {Γ : Env} (hf : Γ.get 110 = some kDM) {σ : AS} {dr : Bool} {a b : Int} {d : Option Nat} {K : AS → Prop} (ha : 0 ≤ a ∧ a ≤ 1099511627776) (hb : -9223372036854775808 ≤ b ∧ b ≤ 9223372036854775807)
    (hk : cont σ d (.v (.int .i64 (addI a (max b 0)))) K) : kP Tryz.prog Γ dr σ 110 [.v (.int .i64 a), .v (.int .i64 b)] d K :=
  kK (C := kDM) (i := (⟨a, by omega, by omega⟩, ⟨b, hb⟩)) hf rfl rfl rfl rfl (fun _ h => h) rfl (by rw [heldI_eq ha]; exact hk)

end Go.Proofs
end

-- ZUo5
section
namespace Go.Proofs
open Go Go.Rw
open _root_.Nat renaming reduceAdd → N0, reduceSub → N1, reduceMul → N2, reduceLT → N3, reduceLeDiff → N4, reduceEqDiff → N5
open _root_.Int renaming reduceNeg → Z0, reduceAdd → Z1, reduceSub → Z2, reduceMul → Z3, reduceGT → Z4, reduceGE → Z5, reduceLT → Z6, reduceLE → Z7, reduceEq → Z8, reduceNe → Z9, reduceToNat → Z10, cast_ofNat_Int → Zc
set_option maxRecDepth 100000
set_option linter.unusedSimpArgs false
set_option linter.unusedVariables false

section
variable {P : Program}
theorem kC5 {t : TypeId} {cs : Array Value} {off : Nat} {v : Value} {td : TypeDesc} (ht : P.underlying t = some td) (ha : (match td with | .struct _ | .array _ _ => true | _ => false) = false) (hv : cs[off]? = some v) : calm P (part t cs off) = some v := by
  simp only [part, isAgg, underlying, kU, qC, Option.bind_some, ht, zM]
  cases td <;> first | (cases ha; done) | (simp [hv, kU])
theorem calm_eqI {d : Nat} {t : TypeId} {k k' : IntKind} {a b : Int} (h : P.underlying t = some (.int k')) : calm P (Op.equalIn (d + 1) t (.int k a) (.int k b)) = some (a == b) := by
  simp [Op.equalIn, kU, underlying, h]
theorem calm_eqS {d : Nat} {t : TypeId} {a b : List UInt8} (h : P.underlying t = some .string) : calm P (Op.equalIn (d + 1) t (.string ⟨a.toArray⟩) (.string ⟨b.toArray⟩)) = some (a == b) := by
  simp [Op.equalIn, kU, underlying, h]
  show (a.toArray == b.toArray) = (a == b)
  simp
/-- Structs of two numbers and a text. -/
theorem calm_eq3 {d : Nat} {t ti ts : TypeId} {k : IntKind} {f1 f2 f3 : Field} {a b a' b' : Int} {s s' : List UInt8} (ht : P.underlying t = some (.struct #[f1, f2, f3])) (hp : P.stoodInHeld t = false) (hi : P.underlying ti = some (.int k)) (hs : P.underlying ts = some .string)
    (h1 : f1.type = ti ∧ f1.offset = 0 ∧ f1.name ≠ "_") (h2 : f2.type = ti ∧ f2.offset = 1 ∧ f2.name ≠ "_") (h3 : f3.type = ts ∧ f3.offset = 2 ∧ f3.name ≠ "_") :
    calm P (Op.equalIn (d + 2) t (.agg #[.int .i64 a, .int .i64 b, .string ⟨s.toArray⟩]) (.agg #[.int .i64 a', .int .i64 b', .string ⟨s'.toArray⟩])) = some (a == a' && b == b' && s == s') := by
  obtain ⟨rfl, o1, n1⟩ := h1
  obtain ⟨e2, o2, n2⟩ := h2
  obtain ⟨rfl, o3, n3⟩ := h3
  have p0 : ∀ (a b : Int) (s : List UInt8), calm P (part f1.type #[.int .i64 a, .int .i64 b, .string ⟨s.toArray⟩] 0) = some (.int .i64 a) := fun a b s => kC5 hi rfl rfl
  have p1 : ∀ (a b : Int) (s : List UInt8), calm P (part f1.type #[.int .i64 a, .int .i64 b, .string ⟨s.toArray⟩] 1) = some (.int .i64 b) := fun a b s => kC5 hi rfl rfl
  have p2 : ∀ (a b : Int) (s : List UInt8), calm P (part f3.type #[.int .i64 a, .int .i64 b, .string ⟨s.toArray⟩] 2) = some (.string ⟨s.toArray⟩) := fun a b s => kC5 hs rfl rfl
  rw [Op.equalIn]
  simp only [kU, underlying, qC, Option.bind_some, ht, zM, hp, Bool.false_eq_true, if_false, ← Array.forIn_toList, List.forIn_cons, List.forIn_nil, n1, n2, n3, o1, o2, o3, e2, p0, p1, p2, calm_eqI hi, calm_eqS hs, if_true, ne_eq, not_false_eq_true]
  by_cases c1 : a = a' <;> by_cases c2 : b = b' <;> by_cases c3 : s = s' <;> simp [c1, c2, c3, kU, p0, p1, p2, calm_eqI hi, calm_eqS hs]
theorem bin_neq3 {t ti ts : TypeId} {x y : Operand} {k : IntKind} {f1 f2 f3 : Field} {a b a' b' : Int} {s s' : List UInt8} (hg : P.eqGuardType P.depth t = false) (ht : P.underlying t = some (.struct #[f1, f2, f3])) (hp : P.stoodInHeld t = false) (hi : P.underlying ti = some (.int k)) (hs : P.underlying ts = some .string)
    (h1 : f1.type = ti ∧ f1.offset = 0 ∧ f1.name ≠ "_") (h2 : f2.type = ti ∧ f2.offset = 1 ∧ f2.name ≠ "_") (h3 : f3.type = ts ∧ f3.offset = 2 ∧ f3.name ≠ "_") :
    binA P .neq t x y (.agg [.v (.int .i64 a), .v (.int .i64 b), .v (sv s)]) (.agg [.v (.int .i64 a'), .v (.int .i64 b'), .v (sv s')]) = some (.v (.bool (decide (¬ (a = a' ∧ b = b' ∧ s = s'))))) := by
  have e : Op.maxDepth = 9998 + 2 := rfl
  have hq := calm_eq3 (P := P) (d := 9998) (a := a) (b := b) (a' := a') (b' := b') (s := s) (s' := s') ht hp hi hs h1 h2 h3
  unfold binA
  rw [show binV P .neq t x y (.agg [.v (.int .i64 a), .v (.int .i64 b), .v (sv s)]) (.agg [.v (.int .i64 a'), .v (.int .i64 b'), .v (sv s')]) = none from rfl]
  simp only [kAd, kAN, Option.map_some, Option.none_or, res, kU, eqGuard, sv, qC, Option.bind_some, hg]
  simp [kU, calm_map, binOp, Op.equal, e, hq, hg]
  by_cases c1 : a = a' <;> by_cases c2 : b = b' <;> by_cases c3 : s = s' <;> simp [c1, c2, c3]
/-- A struct of two numbers and a text. -/
def is3 (P : Program) (t ti ts : TypeId) : Bool := match P.underlying t with
  | some (.struct fs) => match fs.toList with
    | [f1, f2, f3] => (f1.type == ti && (f1.offset == 0 && f1.name != "_")) && ((f2.type == ti && (f2.offset == 1 && f2.name != "_")) && (f3.type == ts && (f3.offset == 2 && f3.name != "_")))
    | _ => false
  | _ => false
theorem bin_neq4 {t ti ts : TypeId} {x y : Operand} {k : IntKind} {a b a' b' : Int} {s s' : List UInt8} (hg : P.eqGuardType P.depth t = false) (h3 : is3 P t ti ts = true) (hp : P.stoodInHeld t = false) (hi : P.underlying ti = some (.int k)) (hs : P.underlying ts = some .string) :
    binA P .neq t x y (.agg [.v (.int .i64 a), .v (.int .i64 b), .v (sv s)]) (.agg [.v (.int .i64 a'), .v (.int .i64 b'), .v (sv s')]) = some (.v (.bool (decide (¬ (a = a' ∧ b = b' ∧ s = s'))))) := by
  unfold is3 at h3
  split at h3
  · rename_i fs hf
    split at h3
    · rename_i f1 f2 f3 hl
      have : fs = #[f1, f2, f3] := by rw [← hl]
      subst this
      simp only [Bool.and_eq_true, beq_iff_eq, bne_iff_ne] at h3
      exact bin_neq3 hg hf hp hi hs h3.1 h3.2.1 h3.2.2
    · cases h3
  · cases h3
end
theorem comp_neq {x y : Operand} {a b a' b' : Int} {s s' : List UInt8} : binA Tryz.prog .neq 80 x y (.agg [.v (.int .i64 a), .v (.int .i64 b), .v (sv s)]) (.agg [.v (.int .i64 a'), .v (.int .i64 b'), .v (sv s')]) = some (.v (.bool (decide (¬ (a = a' ∧ b = b' ∧ s = s'))))) :=
  bin_neq4 (ti := 3) (ts := 9) (k := .i64) (by kernel_rfl) (by kernel_rfl) (by kernel_rfl) (by kernel_rfl) (by kernel_rfl)

abbrev Cps := { p : List Cp × List Cp // p.1.length ≤ 4000000000000 ∧ p.2.length ≤ 4000000000000 }
abbrev kC3 : Con where
  ι := Cps
  args := fun p => [.sl 0 3 (kR p.1.1), .sl 0 3 (kR p.1.2)]
  post := fun p r => r = .v (.bool (decide (p.1.1 = p.1.2)))
  plain := true
theorem call_same {Γ : Env} {f : Nat} (hf : Γ.get f = some kC3) {σ : AS} {dr : Bool} {x y : List Cp} {s t : Nat} {xs ys : List AV} {d : Option Nat} {K : AS → Prop} (hx : xs = kR x) (hy : ys = kR y) (h1 : x.length ≤ 4000000000000) (h2 : y.length ≤ 4000000000000)
    (hk : cont σ d (.v (.bool (decide (x = y)))) K) : kP Tryz.prog Γ dr σ f [.sl s 3 xs, .sl t 3 ys] d K := by
  subst hx; subst hy
  exact kK (C := kC3) (i := ⟨(x, y), h1, h2⟩) hf rfl rfl rfl rfl (fun _ h => h) rfl hk
theorem drop_eq2 {x y : List Cp} {i : Nat} (h1 : i < x.length) (h2 : i < y.length) : (x.drop i = y.drop i) ↔ ((x[i].k = y[i].k ∧ x[i].n = y[i].n ∧ x[i].t = y[i].t) ∧ x.drop (i + 1) = y.drop (i + 1)) := by
  rw [List.drop_eq_getElem_cons h1, List.drop_eq_getElem_cons h2, List.cons.injEq]
  constructor
  · rintro ⟨h, h3⟩; exact ⟨by rw [h]; exact ⟨rfl, rfl, rfl⟩, h3⟩
  · rintro ⟨⟨a, b, c⟩, h3⟩
    refine ⟨?_, h3⟩
    generalize x[i] = u at *
    generalize y[i] = v at *
    cases u; cases v
    simp only at a b c
    subst a; subst b; subst c; rfl
theorem rsame_good : Rw.Good Tryz.prog 56 kC3 := by
  have hΓ : kL Tryz.prog [] := kJ
  refine kS (nn := 54) hΓ Tryz.func56 (by kernel_rfl) rfl (show Tryz.f56.results.toList = [.tmp 4] from rfl) (fun _ => rfl) (fun _ => rfl) ?_
  rintro ⟨⟨x, y⟩, hx, hy⟩
  simp only at hx hy
  simp only [aR,N0,N1,N2,N3,N4,N5,Z0,Z1,Z2,Z3,Z4,Z5,Z6,Z7,Z8,Z9,Z10,Zc,↓reduceIte,reduceCtorEq, kF]
  (with_reducible first | refine kB (fun h => ?_) (fun h => ?_) | refine kD (fun h => ?_) (fun h => ?_))
  · simp only [aR,N0,N1,N2,N3,N4,N5,Z0,Z1,Z2,Z3,Z4,Z5,Z6,Z7,Z8,Z9,Z10,Zc,↓reduceIte,reduceCtorEq, h]
    have : ¬ x = y := fun e => h (by rw [e])
    simp [this]
  · simp only [aR,N0,N1,N2,N3,N4,N5,Z0,Z1,Z2,Z3,Z4,Z5,Z6,Z7,Z8,Z9,Z10,Zc,↓reduceIte,reduceCtorEq, h]
    have hxy : x.length = y.length := by omega
    obtain ⟨St, hSt⟩ : ∃ St : { i : Nat // i ≤ x.length ∧ (x = y ↔ x.drop i = y.drop i) } → AS, ∀ i, St i = AS.of 54 [(0, .sl 0 3 (kR x)), (1, .sl 0 3 (kR y)), (5, .v (.int .i64 i.1))] [] [] := ⟨_, fun _ => rfl⟩
    refine kY hΓ St (fun i => x.length - i.1) ⟨0, by omega, Iff.rfl⟩ (by rw [hSt]; refine kH [] [] ?_; simp only [aR,N0,N1,N2,N3,N4,N5,Z0,Z1,Z2,Z3,Z4,Z5,Z6,Z7,Z8,Z9,Z10,Zc,↓reduceIte,reduceCtorEq] <;> ((repeat' apply And.intro) <;> first | rfl | omega | trivial)) ?_
    rintro ⟨i, hi, hb⟩
    rw [hSt]
    simp only
    simp only [aR,N0,N1,N2,N3,N4,N5,Z0,Z1,Z2,Z3,Z4,Z5,Z6,Z7,Z8,Z9,Z10,Zc,↓reduceIte,reduceCtorEq, kF]
    (with_reducible first | refine kB (fun h2 => ?_) (fun h2 => ?_) | refine kD (fun h2 => ?_) (fun h2 => ?_))
    · have h3 : i < x.length := by omega
      have h4 : i < y.length := by omega
      have e1 := qA x h3
      have e2 := qA y h4
      rw [drop_eq2 h3 h4] at hb
      have again : ∀ σ : AS, Weak σ (AS.of 54 [(0, .sl 0 3 (kR x)), (1, .sl 0 3 (kR y)), (5, .v (.int .i64 (i + 1 : Nat)))] [] []) → (x[i].k = y[i].k ∧ x[i].n = y[i].n ∧ x[i].t = y[i].t) → ∀ (z : { i : Nat // i ≤ x.length ∧ (x = y ↔ x.drop i = y.drop i) }), z.1 = i → kDU St (fun i => x.length - i.1) z σ := fun σ hw h z hz =>
        kI ⟨i + 1, by omega, by rw [hb]; exact ⟨fun a => a.2, fun a => ⟨h, a⟩⟩⟩ (by simp only; omega) (by rw [hSt]; exact hw)
      have no : ¬ (x[i].k = y[i].k ∧ x[i].n = y[i].n ∧ x[i].t = y[i].t) → decide (x = y) = false := fun h => by rw [decide_eq_false_iff_not, hb]; exact fun a => h a.1
      generalize x[i] = u at *
      generalize y[i] = v at *
      obtain ⟨k, n, t⟩ := u
      obtain ⟨k', n', t'⟩ := v
      simp only at no again e1 e2
      simp (disch := omega) only [aR,N0,N1,N2,N3,N4,N5,Z0,Z1,Z2,Z3,Z4,Z5,Z6,Z7,Z8,Z9,Z10,Zc,↓reduceIte,reduceCtorEq, kA, h2, kF, e1, e2]
      (repeat (with_reducible refine And.intro ?_ ?_; focus (first | omega | exact kG | kernel_rfl)))
      (try ((with_reducible first | refine kB (fun q1 => ?_) (fun q1 => ?_) | refine kD (fun q1 => ?_) (fun q1 => ?_)) <;> simp (disch := omega) only [aR,N0,N1,N2,N3,N4,N5,Z0,Z1,Z2,Z3,Z4,Z5,Z6,Z7,Z8,Z9,Z10,Zc,↓reduceIte,reduceCtorEq, kA, q1, kF, e1, e2] <;> (with_reducible first | (refine And.intro ?_ ?_; focus (first | omega | exact kG | kernel_rfl)); (repeat (with_reducible refine And.intro ?_ ?_; focus (first | omega | exact kG | kernel_rfl))); (try simp (disch := omega) only [aR,N0,N1,N2,N3,N4,N5,Z0,Z1,Z2,Z3,Z4,Z5,Z6,Z7,Z8,Z9,Z10,Zc,↓reduceIte,reduceCtorEq, kA, q1, kF, e1, e2]) | skip) <;> (try ((with_reducible first | refine kB (fun q2 => ?_) (fun q2 => ?_) | refine kD (fun q2 => ?_) (fun q2 => ?_)) <;> simp (disch := omega) only [aR,N0,N1,N2,N3,N4,N5,Z0,Z1,Z2,Z3,Z4,Z5,Z6,Z7,Z8,Z9,Z10,Zc,↓reduceIte,reduceCtorEq, kA, q2, kF, e1, e2] <;> (with_reducible first | (refine And.intro ?_ ?_; focus (first | omega | exact kG | kernel_rfl)); (repeat (with_reducible refine And.intro ?_ ?_; focus (first | omega | exact kG | kernel_rfl))); (try simp (disch := omega) only [aR,N0,N1,N2,N3,N4,N5,Z0,Z1,Z2,Z3,Z4,Z5,Z6,Z7,Z8,Z9,Z10,Zc,↓reduceIte,reduceCtorEq, kA, q2, kF, e1, e2]) | skip) <;> (try ((with_reducible first | refine kB (fun q3 => ?_) (fun q3 => ?_) | refine kD (fun q3 => ?_) (fun q3 => ?_)) <;> simp (disch := omega) only [aR,N0,N1,N2,N3,N4,N5,Z0,Z1,Z2,Z3,Z4,Z5,Z6,Z7,Z8,Z9,Z10,Zc,↓reduceIte,reduceCtorEq, kA, q3, kF, e1, e2] <;> (with_reducible first | (refine And.intro ?_ ?_; focus (first | omega | exact kG | kernel_rfl)); (repeat (with_reducible refine And.intro ?_ ?_; focus (first | omega | exact kG | kernel_rfl))); (try simp (disch := omega) only [aR,N0,N1,N2,N3,N4,N5,Z0,Z1,Z2,Z3,Z4,Z5,Z6,Z7,Z8,Z9,Z10,Zc,↓reduceIte,reduceCtorEq, kA, q3, kF, e1, e2]) | skip) <;> skip))))))
      all_goals first
        | (rw [no (by intro a; first | exact q1 a.1 | exact q2 a.2.1 | exact q3 a.2.2)]; done)
        | (refine again _ ?_ ⟨Decidable.not_not.1 q1, Decidable.not_not.1 q2, Decidable.not_not.1 q3⟩ _ rfl
           refine kH [] [] ?_
           simp only [aR,N0,N1,N2,N3,N4,N5,Z0,Z1,Z2,Z3,Z4,Z5,Z6,Z7,Z8,Z9,Z10,Zc,↓reduceIte,reduceCtorEq] <;> ((repeat' apply And.intro) <;> first | rfl | omega | trivial))
        | trace_state
    · simp only [aR,N0,N1,N2,N3,N4,N5,Z0,Z1,Z2,Z3,Z4,Z5,Z6,Z7,Z8,Z9,Z10,Zc,↓reduceIte,reduceCtorEq, h2]
      rw [List.drop_of_length_le (by omega), List.drop_of_length_le (by omega)] at hb
      rw [decide_eq_true (hb.2 rfl)]
theorem sequal_good : Rw.Good Tryz.prog 113 kC3 := by
  have hΓ : kL Tryz.prog [] := kJ
  refine kS (nn := 26) hΓ Tryz.func113 (by kernel_rfl) rfl (show Tryz.f113.results.toList = [.tmp 4] from rfl) (fun _ => rfl) (fun _ => rfl) ?_
  rintro ⟨⟨x, y⟩, hx, hy⟩
  simp only at hx hy
  simp only [aR,N0,N1,N2,N3,N4,N5,Z0,Z1,Z2,Z3,Z4,Z5,Z6,Z7,Z8,Z9,Z10,Zc,↓reduceIte,reduceCtorEq, kF]
  (with_reducible first | refine kB (fun h => ?_) (fun h => ?_) | refine kD (fun h => ?_) (fun h => ?_))
  · simp only [aR,N0,N1,N2,N3,N4,N5,Z0,Z1,Z2,Z3,Z4,Z5,Z6,Z7,Z8,Z9,Z10,Zc,↓reduceIte,reduceCtorEq, h]
    have : ¬ x = y := fun e => h (by rw [e])
    simp [this]
  · simp only [aR,N0,N1,N2,N3,N4,N5,Z0,Z1,Z2,Z3,Z4,Z5,Z6,Z7,Z8,Z9,Z10,Zc,↓reduceIte,reduceCtorEq, h]
    have hxy : x.length = y.length := by omega
    obtain ⟨St, hSt⟩ : ∃ St : { i : Nat // i ≤ x.length ∧ (x = y ↔ x.drop i = y.drop i) } → AS, ∀ i, St i = AS.of 26 [(0, .sl 0 3 (kR x)), (1, .sl 0 3 (kR y)), (12, .v (.int .i64 x.length)), (13, .v (.int .i64 i.1))] [] [] := ⟨_, fun _ => rfl⟩
    refine kY hΓ St (fun i => x.length - i.1) ⟨0, by omega, Iff.rfl⟩ (by rw [hSt]; refine kH [] [] ?_; simp only [aR,N0,N1,N2,N3,N4,N5,Z0,Z1,Z2,Z3,Z4,Z5,Z6,Z7,Z8,Z9,Z10,Zc,↓reduceIte,reduceCtorEq, kF] <;> ((repeat' apply And.intro) <;> first | rfl | omega | trivial)) ?_
    rintro ⟨i, hi, hb⟩
    rw [hSt]
    simp only
    simp only [aR,N0,N1,N2,N3,N4,N5,Z0,Z1,Z2,Z3,Z4,Z5,Z6,Z7,Z8,Z9,Z10,Zc,↓reduceIte,reduceCtorEq, kF]
    (with_reducible first | refine kB (fun h2 => ?_) (fun h2 => ?_) | refine kD (fun h2 => ?_) (fun h2 => ?_))
    · have h3 : i < x.length := by omega
      have h4 : i < y.length := by omega
      have e1 := qA x h3
      have e2 := qA y h4
      rw [drop_eq2 h3 h4] at hb
      have again : ∀ σ : AS, Weak σ (AS.of 26 [(0, .sl 0 3 (kR x)), (1, .sl 0 3 (kR y)), (12, .v (.int .i64 x.length)), (13, .v (.int .i64 (i + 1 : Nat)))] [] []) → (x[i].k = y[i].k ∧ x[i].n = y[i].n ∧ x[i].t = y[i].t) → ∀ (z : { i : Nat // i ≤ x.length ∧ (x = y ↔ x.drop i = y.drop i) }), z.1 = i → kDU St (fun i => x.length - i.1) z σ := fun σ hw h z hz =>
        kI ⟨i + 1, by omega, by rw [hb]; exact ⟨fun a => a.2, fun a => ⟨h, a⟩⟩⟩ (by simp only; omega) (by rw [hSt]; exact hw)
      have no : ¬ (x[i].k = y[i].k ∧ x[i].n = y[i].n ∧ x[i].t = y[i].t) → decide (x = y) = false := fun h => by rw [decide_eq_false_iff_not, hb]; exact fun a => h a.1
      generalize x[i] = u at *
      generalize y[i] = v at *
      obtain ⟨k, n, t⟩ := u
      obtain ⟨k', n', t'⟩ := v
      simp only at no again e1 e2
      simp (disch := omega) only [aR,N0,N1,N2,N3,N4,N5,Z0,Z1,Z2,Z3,Z4,Z5,Z6,Z7,Z8,Z9,Z10,Zc,↓reduceIte,reduceCtorEq, kA, h2, kF, e1, e2, comp_neq]
      (repeat (with_reducible refine And.intro ?_ ?_; focus (first | omega | exact kG | kernel_rfl)))
      (with_reducible first | refine kB (fun q1 => ?_) (fun q1 => ?_) | refine kD (fun q1 => ?_) (fun q1 => ?_))
      · simp (disch := omega) only [aR,N0,N1,N2,N3,N4,N5,Z0,Z1,Z2,Z3,Z4,Z5,Z6,Z7,Z8,Z9,Z10,Zc,↓reduceIte,reduceCtorEq, kA, q1]
        rw [no q1]
      · simp (disch := omega) only [aR,N0,N1,N2,N3,N4,N5,Z0,Z1,Z2,Z3,Z4,Z5,Z6,Z7,Z8,Z9,Z10,Zc,↓reduceIte,reduceCtorEq, kA, q1]
        refine again _ ?_ (Decidable.not_not.1 q1) _ rfl
        refine kH [] [] ?_
        simp only [aR,N0,N1,N2,N3,N4,N5,Z0,Z1,Z2,Z3,Z4,Z5,Z6,Z7,Z8,Z9,Z10,Zc,↓reduceIte,reduceCtorEq] <;> ((repeat' apply And.intro) <;> first | rfl | omega | trivial)
    · simp only [aR,N0,N1,N2,N3,N4,N5,Z0,Z1,Z2,Z3,Z4,Z5,Z6,Z7,Z8,Z9,Z10,Zc,↓reduceIte,reduceCtorEq, h2]
      rw [List.drop_of_length_le (by omega), List.drop_of_length_le (by omega)] at hb
      rw [decide_eq_true (hb.2 rfl)]
end Go.Proofs
end
