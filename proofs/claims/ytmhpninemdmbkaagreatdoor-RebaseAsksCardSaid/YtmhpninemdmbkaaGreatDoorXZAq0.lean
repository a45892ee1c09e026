/-
  How much is given; texts and their code points.
-/
import Derived.Test.YtmhpninemdmbkaaGreatDoorXZAp0
set_option linter.unusedSimpArgs false
set_option linter.unusedVariables false
set_option linter.defProp false

-- ZAq0
section
namespace Go.Proofs
open Go Go.Rw
open _root_.Nat renaming reduceAdd → N0, reduceSub → N1, reduceMul → N2, reduceLT → N3, reduceLeDiff → N4, reduceEqDiff → N5
open _root_.Int renaming reduceNeg → Z0, reduceAdd → Z1, reduceSub → Z2, reduceMul → Z3, reduceGT → Z4, reduceGE → Z5, reduceLT → Z6, reduceLE → Z7, reduceEq → Z8, reduceNe → Z9, reduceToNat → Z10, cast_ofNat_Int → Zc
set_option maxRecDepth 100000
abbrev kC1 : Con where
  ι := Wide × { m : Int // 0 ≤ m ∧ m ≤ 1000000 }
  args := fun p => [.sl 0 3 (kU p.1.1), .v (.int .i64 p.2.1)]
  post := fun p r => r = .v (.int .i64 (zD p.2.1 0 p.1.1))
  plain := true
theorem kFC : Rw.Good Tryz.prog 18 kC1 := by
  have hΓ : kL Tryz.prog [(31, kDP)] := (kE kCf kJ)
  refine kS (nn := 28) hΓ Tryz.func18 (by kernel_rfl) rfl (show Tryz.f18.results.toList = [.tmp 4] from rfl) (fun _ => rfl) (fun _ => rfl) ?_
  rintro ⟨⟨l, hl, hc⟩, ⟨m, hm⟩⟩
  simp only [aR,N0,N1,N2,N3,N4,N5,Z0,Z1,Z2,Z3,Z4,Z5,Z6,Z7,Z8,Z9,Z10,Zc,↓reduceIte,reduceCtorEq, kD]
  obtain ⟨St, hSt⟩ : ∃ St : { p : Int × Nat // p.2 ≤ l.length ∧ (0 ≤ p.1 ∧ p.1 ≤ 1099511627776) ∧ zD m 0 l = zD m p.1 (l.drop p.2) } → AS, ∀ p, St p = AS.of 28 [(0, .sl 0 3 (kU l)), (1, .v (.int .i64 m)), (5, .v (.int .i64 p.1.1)), (6, .v (.int .i64 p.1.2))] [] [] := ⟨_, fun _ => rfl⟩
  refine kX hΓ St (fun p => l.length - p.1.2) ⟨(0, 0), by omega, by simp only; omega, rfl⟩ (by rw [hSt]; refine kH [] [] ?_; simp only [aR,N0,N1,N2,N3,N4,N5,Z0,Z1,Z2,Z3,Z4,Z5,Z6,Z7,Z8,Z9,Z10,Zc,↓reduceIte,reduceCtorEq] <;> ((repeat' apply And.intro) <;> first | rfl | omega | trivial)) ?_
  rintro ⟨⟨s, i⟩, hi, hs, hb⟩
  simp only at hi hs hb
  rw [hSt]
  simp only
  simp only [aR,N0,N1,N2,N3,N4,N5,Z0,Z1,Z2,Z3,Z4,Z5,Z6,Z7,Z8,Z9,Z10,Zc,↓reduceIte,reduceCtorEq, kD]
  (with_reducible first | refine kC (fun h => ?_) (fun h => ?_) | refine kF (fun h => ?_) (fun h => ?_))
  · have hlt : i < l.length := by omega
    have hci := hc l[i] (List.getElem_mem hlt)
    have e1 := k9 l hlt
    rw [List.drop_eq_getElem_cons hlt, zD] at hb
    generalize l[i] = c at *
    obtain ⟨k, n, t⟩ := c
    simp only at hci hb e1
    simp (disch := omega) only [aR,N0,N1,N2,N3,N4,N5,Z0,Z1,Z2,Z3,Z4,Z5,Z6,Z7,Z8,Z9,Z10,Zc,↓reduceIte,reduceCtorEq, kA, h]
    (with_reducible first | refine kC (fun h2 => ?_) (fun h2 => ?_) | refine kF (fun h2 => ?_) (fun h2 => ?_))
    · simp (disch := omega) only [aR,N0,N1,N2,N3,N4,N5,Z0,Z1,Z2,Z3,Z4,Z5,Z6,Z7,Z8,Z9,Z10,Zc,↓reduceIte,reduceCtorEq, kA, h2, e1, kD]
      (repeat (with_reducible refine And.intro ?_ ?_; focus (first | omega | exact kG | kernel_rfl)))
      refine kBf (by simp [kB]) (y := [(t.length : Int), 2]) rfl hs (by simp; omega) (by simp) ?_
      simp (disch := omega) only [aR,N0,N1,N2,N3,N4,N5,Z0,Z1,Z2,Z3,Z4,Z5,Z6,Z7,Z8,Z9,Z10,Zc,↓reduceIte,reduceCtorEq, kA]
      rw [if_pos h2] at hb
      have hr := jD [(t.length : Int), 2] hs (by simp)
      refine kI ⟨(sumF s [(t.length : Int), 2], i + 1), by simp only; omega, by simp only; omega, hb⟩ (by simp only; omega) ?_
      rw [hSt]; refine kH [] [] ?_
      simp only [aR,N0,N1,N2,N3,N4,N5,Z0,Z1,Z2,Z3,Z4,Z5,Z6,Z7,Z8,Z9,Z10,Zc,↓reduceIte,reduceCtorEq] <;> ((repeat' apply And.intro) <;> first | rfl | omega | trivial)
    · simp (disch := omega) only [aR,N0,N1,N2,N3,N4,N5,Z0,Z1,Z2,Z3,Z4,Z5,Z6,Z7,Z8,Z9,Z10,Zc,↓reduceIte,reduceCtorEq, kA, h2]
      rw [hb, if_neg h2]
  · simp only [aR,N0,N1,N2,N3,N4,N5,Z0,Z1,Z2,Z3,Z4,Z5,Z6,Z7,Z8,Z9,Z10,Zc,↓reduceIte,reduceCtorEq, h]
    rw [List.drop_of_length_le (by omega)] at hb
    rw [hb]; rfl
theorem kEw {Γ : Env} (hf : Γ.get 18 = some kC1) {σ : AS} {dr : Bool} {l : List Cp} {m : Int} {t : Nat} {ys : List AV} {d : Option Nat} {K : AS → Prop} (hy : ys = kU l) (h1 : l.length ≤ 9223372036854775807) (h2 : ∀ c ∈ l, c.t.length ≤ 9223372036854775807) (hm : 0 ≤ m ∧ m ≤ 1000000)
    (hk : cont σ d (.v (.int .i64 (zD m 0 l))) K) : kR Tryz.prog Γ dr σ 18 [.sl t 3 ys, .v (.int .i64 m)] d K := by
  subst hy
  exact kK (C := kC1) (i := (⟨l, h1, h2⟩, ⟨m, hm⟩)) hf rfl rfl rfl rfl (fun _ h => h) rfl hk
theorem weigh_ok {l : List Cp} {m : Int} (hm : m ≤ 1000000) (hc : ∀ c ∈ l, (-9223372036854775808 ≤ c.n ∧ c.n ≤ 9223372036854775807) ∧ c.t.length ≤ 9223372036854775807) (h : zD m 0 l ≤ m) : okL l ∧ (tot l : Int) + 2 * l.length ≤ m := by
  have hle := compsF_le (m := m) (by omega) l (s := 0) (by omega) h
  exact ⟨⟨by omega, by omega, fun c hc' => (hc c hc').1⟩, by omega⟩
theorem cpts_len (t : List UInt8) : (cpts t).length ≤ t.length := by
  unfold cpts
  cases h : pts t with
  | none => simp
  | some cs =>
    obtain ⟨_, e⟩ := jY h
    have := kCm cs
    rw [← e] at this
    exact this
theorem cnt_cpts (t : List UInt8) : cnt t = (cpts t).length := by
  unfold cnt cpts
  cases h : pts t <;> rfl
theorem cpts_ne {t : List UInt8} (h : (pts t).isSome = true) (h2 : t ≠ []) : (cpts t).length ≠ 0 := by
  intro e
  have := (j3 h).1
  rw [List.eq_nil_of_length_eq_zero e, kBW] at this
  exact h2 this.symm
end Go.Proofs
end
