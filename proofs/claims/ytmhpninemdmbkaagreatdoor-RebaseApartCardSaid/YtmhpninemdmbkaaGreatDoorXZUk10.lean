/-
  RebaseApart answers true.
-/
import Derived.Test.YtmhpninemdmbkaaGreatDoorXZUk8
import Derived.Test.YtmhpninemdmbkaaGreatDoorXZUk9s
import Derived.Test.YtmhpninemdmbkaaGreatDoorXZUk9t
import Derived.Test.YtmhpninemdmbkaaGreatDoorXZUn7
set_option linter.unusedSimpArgs false
set_option linter.unusedVariables false
set_option linter.defProp false

-- ZUk10
section
namespace Go.Proofs
open Go Go.Rw
open _root_.Nat renaming reduceAdd → N0, reduceSub → N1, reduceMul → N2, reduceLT → N3, reduceLeDiff → N4, reduceEqDiff → N5
open _root_.Int renaming reduceNeg → Z0, reduceAdd → Z1, reduceSub → Z2, reduceMul → Z3, reduceGT → Z4, reduceGE → Z5, reduceLT → Z6, reduceLE → Z7, reduceEq → Z8, reduceNe → Z9, reduceToNat → Z10, cast_ofNat_Int → Zc
set_option maxRecDepth 100000
set_option linter.unusedSimpArgs false
set_option linter.unusedVariables false

theorem kDI {Γ : Env} (hf : Γ.get 13 = some kDf) {σ : AS} {l : List Ac} {ys : List AV} {d : Option Nat} {K : AS → Prop} (hy : ys = acts l) (hl : l.length ≤ 1000000)
    (hk : cont σ d (.sl 0 1 (ints .i64 (zU [] l))) K) : kN Tryz.prog Γ false σ 13 [.sl 0 6 ys] d K := by
  subst hy
  exact qP (C := kDf) (i := ⟨l, hl⟩) (r := .sl 0 1 (ints .i64 (zU [] l))) hf rfl rfl (by simp [AV.erL, AV.er, jA]) rfl (fun _ h => h) (by simp only [AV.er]; exact hk)
theorem call_tsound {Γ : Env} (hf : Γ.get 10 = some kCV) {n : Nat} {t : Nat → AV} {hd : Nat → Nat → AV} {nh nl : Nat} {h : Nat → Option AO} {fm : Nat → Nat} {lv : Nat → Option (Nat × Nat)} {mu : Bool} {l : List Nd} {ys : List AV} {d : Option Nat} {K : AS → Prop} (hy : ys = k9 l) (hl : l.length ≤ 1000000) (ht : ∀ x ∈ l, x.nm.length ≤ 1099511627776 ∧ x.text.length ≤ 1099511627776)
    (hk : ∀ b, (b = true → srtN l) → cont ⟨n, t, hd, ⟨nh, h, nl, fm, kill fm [] lv, mu⟩⟩ d (.v (.bool b)) K) : kN Tryz.prog Γ false ⟨n, t, hd, ⟨nh, h, nl, fm, lv, mu⟩⟩ 10 [.sl 0 5 ys] d K := by
  subst hy
  refine kAL (C := kCV) (i := ⟨l, hl, ht⟩) hf rfl rfl rfl (by simp [AV.erL, AV.er, kB1]) (ts := []) ?_ ?_
  · simp [AV.tagsL, AV.tags]
  · rintro r ⟨b, rfl, hb⟩
    simp only [AV.er, AV.erL]
    exact hk b hb
theorem kEE : ∀ (l : List Ac) (out : List Int), (zU out l).length ≤ out.length + 2 * l.length
  | [], out => by simp [zU]
  | a :: l, out => by
    have h1 := kEE l ((j9 a).foldl insI out)
    have h2 := foldI_len (j9 a) out
    have h3 := names_len a
    rw [zU, List.length_cons]; omega
theorem acts_okA {l : List Ac} {m : Int} (hm : m ≤ 1000000) (h2 : ∀ a ∈ l, a.nm.length ≤ 9223372036854775807 ∧ wideC a.ops) (h : wF m 0 (wA l) ≤ m) : l.length ≤ 1000000 ∧ ∀ a ∈ l, okA a := by
  obtain ⟨h3, h4⟩ := acts_ok hm h2 h
  obtain ⟨_, h5⟩ := wF_le (by omega) (wA l) (Int.le_refl 0) h
  exact ⟨h3, fun a ha => ⟨h4 a ha, by have := (h5 (a.nm.length, a.ops) (List.mem_map.2 ⟨a, ha, rfl⟩)).1; omega⟩⟩
abbrev apart16Con : Con where
  ι := GivenN × GivenA × GivenA
  args := fun p => [.sl 0 5 (k9 p.1.1), .sl 0 6 (acts p.2.1.1), .sl 0 6 (acts p.2.2.1)]
  post := fun _ r => r = .v (.bool true)
  plain := true
theorem apart_of {p q : List Int} (h : ∀ i (hi : i < p.length) k (hk : k < q.length), p[i] ≠ q[k]) : ∀ x ∈ p, x ∉ q := fun x hx hq => by
  obtain ⟨i, hi, rfl⟩ := List.getElem_of_mem hx
  obtain ⟨k, hk, e⟩ := List.getElem_of_mem hq
  exact h i hi k hk e.symm
set_option maxHeartbeats 4000000 in
theorem apart16_good : Rw.Good Tryz.prog 3 apart16Con := by
  have hΓ : kM Tryz.prog [(11, trueCon), (8, kCT), (9, actsCon), (10, kCV), (12, kDe), (13, kDf), (15, kEG), (14, jW), (16, kDi), (17, kCe)] := (kD awake16_good (kD wnodes_good (kD acts_good (kD tsound_good (kD rdoall_good (kD touch_good (kD eff_good (kD kDR (kD sacts_good (kD snodes_good kJ))))))))))
  refine kR (nn := 136) hΓ Tryz.func3 (by kernel_rfl) rfl (show Tryz.f3.results.toList = [.tmp 6] from rfl) (fun _ => rfl) (fun x => by simp [AV.erL, AV.er, kB1, jA]) ?_
  rintro ⟨⟨t, ht, htc⟩, ⟨a, ha, hac⟩, ⟨b, hb, hbc⟩⟩
  simp only [aR,N0,N1,N2,N3,N4,N5,Z0,Z1,Z2,Z3,Z4,Z5,Z6,Z7,Z8,Z9,Z10,Zc,↓reduceIte,reduceCtorEq]
  refine call_wnodes (by simp [kB]) rfl ht htc (by omega) ?_
  by_cases h1 : nF 3000 0 t > 3000
  · simp only [aR,N0,N1,N2,N3,N4,N5,Z0,Z1,Z2,Z3,Z4,Z5,Z6,Z7,Z8,Z9,Z10,Zc,↓reduceIte,reduceCtorEq, h1]
    refine qR (by simp [kB]) ?_
    simp only [aR,N0,N1,N2,N3,N4,N5,Z0,Z1,Z2,Z3,Z4,Z5,Z6,Z7,Z8,Z9,Z10,Zc,↓reduceIte,reduceCtorEq]
  simp only [aR,N0,N1,N2,N3,N4,N5,Z0,Z1,Z2,Z3,Z4,Z5,Z6,Z7,Z8,Z9,Z10,Zc,↓reduceIte,reduceCtorEq, h1]
  refine call_acts (by simp [kB]) rfl ha hac (by omega) ?_
  by_cases h2 : wF 2000 0 (wA a) > 2000
  · simp only [aR,N0,N1,N2,N3,N4,N5,Z0,Z1,Z2,Z3,Z4,Z5,Z6,Z7,Z8,Z9,Z10,Zc,↓reduceIte,reduceCtorEq, h2]
    refine qR (by simp [kB]) ?_
    simp only [aR,N0,N1,N2,N3,N4,N5,Z0,Z1,Z2,Z3,Z4,Z5,Z6,Z7,Z8,Z9,Z10,Zc,↓reduceIte,reduceCtorEq]
  simp only [aR,N0,N1,N2,N3,N4,N5,Z0,Z1,Z2,Z3,Z4,Z5,Z6,Z7,Z8,Z9,Z10,Zc,↓reduceIte,reduceCtorEq, h2]
  refine call_acts (by simp [kB]) rfl hb hbc (by omega) ?_
  by_cases h3 : wF 2000 0 (wA b) > 2000
  · simp only [aR,N0,N1,N2,N3,N4,N5,Z0,Z1,Z2,Z3,Z4,Z5,Z6,Z7,Z8,Z9,Z10,Zc,↓reduceIte,reduceCtorEq, h3]
    refine qR (by simp [kB]) ?_
    simp only [aR,N0,N1,N2,N3,N4,N5,Z0,Z1,Z2,Z3,Z4,Z5,Z6,Z7,Z8,Z9,Z10,Zc,↓reduceIte,reduceCtorEq]
  obtain ⟨al, aok⟩ := acts_okA (by omega) hac (show wF 2000 0 (wA a) ≤ 2000 by omega)
  obtain ⟨bl, bok⟩ := acts_okA (by omega) hbc (show wF 2000 0 (wA b) ≤ 2000 by omega)
  obtain ⟨tl, tc⟩ := nF_le (by omega) t (Int.le_refl 0) (show nF 3000 0 t ≤ 3000 by omega)
  have tok : okT t := ⟨by omega, fun x hx => by have := (tc x hx).2; omega⟩
  simp only [aR,N0,N1,N2,N3,N4,N5,Z0,Z1,Z2,Z3,Z4,Z5,Z6,Z7,Z8,Z9,Z10,Zc,↓reduceIte,reduceCtorEq, h3]
  refine call_tsound (by simp [kB]) rfl (by omega) (fun x hx => by have := tc x hx; omega) fun sb hsb => ?_
  cases sb
  · simp only [aR,N0,N1,N2,N3,N4,N5,Z0,Z1,Z2,Z3,Z4,Z5,Z6,Z7,Z8,Z9,Z10,Zc,↓reduceIte,reduceCtorEq]
    refine qR (by simp [kB]) ?_
    simp only [aR,N0,N1,N2,N3,N4,N5,Z0,Z1,Z2,Z3,Z4,Z5,Z6,Z7,Z8,Z9,Z10,Zc,↓reduceIte,reduceCtorEq]
  have hs := hsb rfl
  simp only [aR,N0,N1,N2,N3,N4,N5,Z0,Z1,Z2,Z3,Z4,Z5,Z6,Z7,Z8,Z9,Z10,Zc,↓reduceIte,reduceCtorEq]
  refine kBd (by simp [kB]) rfl rfl tok al aok (by omega) (by omega) ?_
  simp only [aR,N0,N1,N2,N3,N4,N5,Z0,Z1,Z2,Z3,Z4,Z5,Z6,Z7,Z8,Z9,Z10,Zc,↓reduceIte,reduceCtorEq]
  refine kBd (by simp [kB]) rfl rfl tok bl bok (by omega) (by omega) ?_
  by_cases e1 : (allN t a).e = 0
  case neg =>
    simp only [aR,N0,N1,N2,N3,N4,N5,Z0,Z1,Z2,Z3,Z4,Z5,Z6,Z7,Z8,Z9,Z10,Zc,↓reduceIte,reduceCtorEq, e1]
    refine qR (by simp [kB]) ?_
    simp only [aR,N0,N1,N2,N3,N4,N5,Z0,Z1,Z2,Z3,Z4,Z5,Z6,Z7,Z8,Z9,Z10,Zc,↓reduceIte,reduceCtorEq]
  by_cases e2 : (allN t b).e = 0
  case neg =>
    simp only [aR,N0,N1,N2,N3,N4,N5,Z0,Z1,Z2,Z3,Z4,Z5,Z6,Z7,Z8,Z9,Z10,Zc,↓reduceIte,reduceCtorEq, e1, e2]
    refine qR (by simp [kB]) ?_
    simp only [aR,N0,N1,N2,N3,N4,N5,Z0,Z1,Z2,Z3,Z4,Z5,Z6,Z7,Z8,Z9,Z10,Zc,↓reduceIte,reduceCtorEq]
  have t1 := (kDC e1 hs).1
  have t2 := (kDC e2 hs).1
  have hxok : okT (allN t a).now := allN_ok tok
  have hyok : okT (allN t b).now := allN_ok tok
  have hmeet : kFZ a b → (allN (allN t b).now a).e = 0 → (allN (allN t a).now b).e = 0 → (allN (allN t b).now a).now = (allN (allN t a).now b).now := fun h h3 h4 => apart_meet h hs e1 e2 h3 h4
  have hreb : kFZ a b → (rebR a (effL b)).out = a ∧ (rebR a (effL b)).e = 0 := fun h => apart_reb h t1 t2
  simp only [aR,N0,N1,N2,N3,N4,N5,Z0,Z1,Z2,Z3,Z4,Z5,Z6,Z7,Z8,Z9,Z10,Zc,↓reduceIte,reduceCtorEq, e1, e2]
  generalize (allN t a).now = x at *
  generalize (allN t b).now = y at *
  refine kDI (by simp [kB]) rfl al ?_
  simp only [aR,N0,N1,N2,N3,N4,N5,Z0,Z1,Z2,Z3,Z4,Z5,Z6,Z7,Z8,Z9,Z10,Zc,↓reduceIte,reduceCtorEq]
  refine kDI (by simp [kB]) rfl bl ?_
  have pl := kEE a []
  have ql := kEE b []
  simp only [List.length_nil] at pl ql
  have hap : (∀ i (hi : i < (zU [] a).length) k (hk : k < (zU [] b).length), (zU [] a)[i] ≠ (zU [] b)[k]) → kFZ a b := fun h => apart_of h
  generalize zU [] a = p at *
  generalize zU [] b = q at *
  simp only [aR,N0,N1,N2,N3,N4,N5,Z0,Z1,Z2,Z3,Z4,Z5,Z6,Z7,Z8,Z9,Z10,Zc,↓reduceIte,reduceCtorEq]
  obtain ⟨St, hSt⟩ : ∃ St : { i : Nat // i ≤ p.length ∧ ∀ j (hj : j < p.length), j < i → ∀ k (hk : k < q.length), p[j] ≠ q[k] } → AS, ∀ i, St i = AS.of 136 [(0, .sl 0 5 (k9 t)), (1, .sl 0 6 (acts a)), (2, .sl 0 6 (acts b)), (7, .sl 0 5 (k9 x)), (10, .sl 0 5 (k9 y)), (13, .sl 0 1 (ints .i64 p)), (14, .sl 0 1 (ints .i64 q)), (15, .v (.int .i64 i.1))] [] [] := ⟨_, fun _ => rfl⟩
  refine kY hΓ St (fun i => p.length - i.1) ⟨0, by omega, fun j hj h => by omega⟩ (by rw [hSt]; refine kH [] [] ?_; simp only [aR,N0,N1,N2,N3,N4,N5,Z0,Z1,Z2,Z3,Z4,Z5,Z6,Z7,Z8,Z9,Z10,Zc,↓reduceIte,reduceCtorEq] <;> ((repeat' apply And.intro) <;> first | rfl | omega | trivial)) ?_
  rintro ⟨i, hi, hne⟩
  rw [hSt]
  simp only
  simp only [aR,N0,N1,N2,N3,N4,N5,Z0,Z1,Z2,Z3,Z4,Z5,Z6,Z7,Z8,Z9,Z10,Zc,↓reduceIte,reduceCtorEq, qZ]
  (with_reducible first | refine kC (fun h5 => ?_) (fun h5 => ?_) | refine kE (fun h5 => ?_) (fun h5 => ?_))
  · have hip : i < p.length := by omega
    have f1 : (ints .i64 p).getD i .any = .v (.int .i64 p[i]) := by rw [kCR hip, List.getD_eq_getElem?_getD, List.getElem?_eq_getElem hip]; rfl
    simp only [aR,N0,N1,N2,N3,N4,N5,Z0,Z1,Z2,Z3,Z4,Z5,Z6,Z7,Z8,Z9,Z10,Zc,↓reduceIte,reduceCtorEq, h5, qZ]
    obtain ⟨Su, hSu⟩ : ∃ Su : { k : Nat // k ≤ q.length ∧ ∀ j (hj : j < q.length), j < k → p[i] ≠ q[j] } → AS, ∀ k, Su k = AS.of 136 [(0, .sl 0 5 (k9 t)), (1, .sl 0 6 (acts a)), (2, .sl 0 6 (acts b)), (7, .sl 0 5 (k9 x)), (10, .sl 0 5 (k9 y)), (13, .sl 0 1 (ints .i64 p)), (14, .sl 0 1 (ints .i64 q)), (15, .v (.int .i64 i)), (16, .v (.int .i64 k.1))] [] [] := ⟨_, fun _ => rfl⟩
    refine kY hΓ Su (fun k => q.length - k.1) ⟨0, by omega, fun j hj h => by omega⟩ (by rw [hSu]; refine kH [] [] ?_; simp only [aR,N0,N1,N2,N3,N4,N5,Z0,Z1,Z2,Z3,Z4,Z5,Z6,Z7,Z8,Z9,Z10,Zc,↓reduceIte,reduceCtorEq] <;> ((repeat' apply And.intro) <;> first | rfl | omega | trivial)) ?_
    rintro ⟨k, hk, hnk⟩
    rw [hSu]
    simp only
    simp only [aR,N0,N1,N2,N3,N4,N5,Z0,Z1,Z2,Z3,Z4,Z5,Z6,Z7,Z8,Z9,Z10,Zc,↓reduceIte,reduceCtorEq, qZ]
    (with_reducible first | refine kC (fun h6 => ?_) (fun h6 => ?_) | refine kE (fun h6 => ?_) (fun h6 => ?_))
    · have hkq : k < q.length := by omega
      have f2 : (ints .i64 q).getD k .any = .v (.int .i64 q[k]) := by rw [kCR hkq, List.getD_eq_getElem?_getD, List.getElem?_eq_getElem hkq]; rfl
      by_cases c : p[i] = q[k]
      · simp only [aR,N0,N1,N2,N3,N4,N5,Z0,Z1,Z2,Z3,Z4,Z5,Z6,Z7,Z8,Z9,Z10,Zc,↓reduceIte,reduceCtorEq, h6, f1, f2, c, qZ]
        (repeat (with_reducible refine And.intro ?_ ?_; focus (first | omega | exact kF | kernel_rfl)))
        refine qR (by simp [kB]) ?_
        simp only [aR,N0,N1,N2,N3,N4,N5,Z0,Z1,Z2,Z3,Z4,Z5,Z6,Z7,Z8,Z9,Z10,Zc,↓reduceIte,reduceCtorEq]
      · simp only [aR,N0,N1,N2,N3,N4,N5,Z0,Z1,Z2,Z3,Z4,Z5,Z6,Z7,Z8,Z9,Z10,Zc,↓reduceIte,reduceCtorEq, h6, f1, f2, c, qZ, kA (n := (k : Int) + 1) (by omega) (by omega)]
        (repeat (with_reducible refine And.intro ?_ ?_; focus (first | omega | exact kF | kernel_rfl)))
        refine kI ⟨k + 1, by omega, fun j hj h => by
          by_cases hjk : j = k
          · subst hjk; exact c
          · exact hnk j hj (by omega)⟩ (by simp only; omega) ?_
        rw [hSu]; refine kH [] [] ?_
        simp only [aR,N0,N1,N2,N3,N4,N5,Z0,Z1,Z2,Z3,Z4,Z5,Z6,Z7,Z8,Z9,Z10,Zc,↓reduceIte,reduceCtorEq] <;> ((repeat' apply And.intro) <;> first | rfl | omega | trivial)
    · simp only [aR,N0,N1,N2,N3,N4,N5,Z0,Z1,Z2,Z3,Z4,Z5,Z6,Z7,Z8,Z9,Z10,Zc,↓reduceIte,reduceCtorEq, h6, kA (n := (i : Int) + 1) (by omega) (by omega)]
      refine kI ⟨i + 1, by omega, fun j hj h k2 hk2 => by
        by_cases hji : j = i
        · subst hji; exact hnk k2 hk2 (by omega)
        · exact hne j hj (by omega) k2 hk2⟩ (by simp only; omega) ?_
      rw [hSt]; refine kH [] [] ?_
      simp only [aR,N0,N1,N2,N3,N4,N5,Z0,Z1,Z2,Z3,Z4,Z5,Z6,Z7,Z8,Z9,Z10,Zc,↓reduceIte,reduceCtorEq] <;> ((repeat' apply And.intro) <;> first | rfl | omega | trivial)
  · have hap2 := hap fun j hj k hk => hne j hj (by omega) k hk
    obtain ⟨r1, r2⟩ := hreb hap2
    have hm := hmeet hap2
    simp only [aR,N0,N1,N2,N3,N4,N5,Z0,Z1,Z2,Z3,Z4,Z5,Z6,Z7,Z8,Z9,Z10,Zc,↓reduceIte,reduceCtorEq, h5]
    refine call_eff (by simp [kB]) rfl (by omega) (fun z hz => (bok z hz).1) ?_
    have hel := eff_len b
    have heo : ∀ z ∈ effL b, okL z.ops := fun z hz => eff_ok (fun w hw => (bok w hw).1) hz
    simp only [aR,N0,N1,N2,N3,N4,N5,Z0,Z1,Z2,Z3,Z4,Z5,Z6,Z7,Z8,Z9,Z10,Zc,↓reduceIte,reduceCtorEq]
    refine call_rover16 (by simp [kB]) rfl rfl al aok (by omega) heo ?_
    simp only [aR,N0,N1,N2,N3,N4,N5,Z0,Z1,Z2,Z3,Z4,Z5,Z6,Z7,Z8,Z9,Z10,Zc,↓reduceIte,reduceCtorEq, r1, r2]
    refine call_sacts (by simp [kB]) rfl rfl (by omega) (fun z hz => (aok z hz).1) (by omega) (fun z hz => (aok z hz).1) ?_
    simp only [aR,N0,N1,N2,N3,N4,N5,Z0,Z1,Z2,Z3,Z4,Z5,Z6,Z7,Z8,Z9,Z10,Zc,↓reduceIte,reduceCtorEq, r2]
    refine kBd (by simp [kB]) rfl rfl hyok al aok (by omega) (by omega) ?_
    simp only [aR,N0,N1,N2,N3,N4,N5,Z0,Z1,Z2,Z3,Z4,Z5,Z6,Z7,Z8,Z9,Z10,Zc,↓reduceIte,reduceCtorEq]
    refine kBd (by simp [kB]) rfl rfl hxok bl bok (by omega) (by omega) ?_
    have k1 : okT (allN y a).now := allN_ok hyok
    have k2 : okT (allN x b).now := allN_ok hxok
    by_cases g1 : (allN y a).e = 0
    case neg =>
      simp only [aR,N0,N1,N2,N3,N4,N5,Z0,Z1,Z2,Z3,Z4,Z5,Z6,Z7,Z8,Z9,Z10,Zc,↓reduceIte,reduceCtorEq, g1]
      refine qR (by simp [kB]) ?_
      simp only [aR,N0,N1,N2,N3,N4,N5,Z0,Z1,Z2,Z3,Z4,Z5,Z6,Z7,Z8,Z9,Z10,Zc,↓reduceIte,reduceCtorEq]
    by_cases g2 : (allN x b).e = 0
    case neg =>
      simp only [aR,N0,N1,N2,N3,N4,N5,Z0,Z1,Z2,Z3,Z4,Z5,Z6,Z7,Z8,Z9,Z10,Zc,↓reduceIte,reduceCtorEq, g1, g2]
      refine qR (by simp [kB]) ?_
      simp only [aR,N0,N1,N2,N3,N4,N5,Z0,Z1,Z2,Z3,Z4,Z5,Z6,Z7,Z8,Z9,Z10,Zc,↓reduceIte,reduceCtorEq]
    have hm2 := hm g1 g2
    simp only [aR,N0,N1,N2,N3,N4,N5,Z0,Z1,Z2,Z3,Z4,Z5,Z6,Z7,Z8,Z9,Z10,Zc,↓reduceIte,reduceCtorEq, g1, g2]
    refine call_snodes (by simp [kB]) rfl rfl (by have := k1.1; omega) (by have := k2.1; omega) ?_
    rw [hm2]
    simp only [aR,N0,N1,N2,N3,N4,N5,Z0,Z1,Z2,Z3,Z4,Z5,Z6,Z7,Z8,Z9,Z10,Zc,↓reduceIte,reduceCtorEq]
    refine qR (by simp [kB]) ?_
    simp only [aR,N0,N1,N2,N3,N4,N5,Z0,Z1,Z2,Z3,Z4,Z5,Z6,Z7,Z8,Z9,Z10,Zc,↓reduceIte,reduceCtorEq]
end Go.Proofs
end
