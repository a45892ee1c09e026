/-
  RebaseApart answers true. RebaseAsks answers true.
-/
import Derived.Test.YtmhpninemdmbkaaGreatDoorXZUk6
import Derived.Test.YtmhpninemdmbkaaGreatDoorXZUk9s
import Derived.Test.YtmhpninemdmbkaaGreatDoorXZUk9t
import Derived.Test.YtmhpninemdmbkaaGreatDoorXZUn7
import Derived.Test.YtmhpninemdmbkaaGreatDoorXZUe14
set_option linter.unusedSimpArgs false
set_option linter.unusedVariables false
set_option linter.defProp false

-- ZUk10
section
namespace Go.Proofs
open Go Go.Rw
open _root_.Nat renaming reduceAdd → N0, reduceSub → N1, reduceMul → N2, reduceLT → N3, reduceLeDiff → N4, reduceEqDiff → N5
open _root_.Int renaming reduceNeg → Z0, reduceAdd → Z1, reduceSub → Z2, reduceMul → Z3, reduceGT → Z4, reduceGE → Z5, reduceLT → Z6, reduceLE → Z7, reduceEq → Z8, reduceNe → Z9, reduceToNat → Z10, cast_ofNat_Int → Zc
set_option maxRecDepth 100000
theorem acts_okA {l : List Ac} {m : Int} (hm : m ≤ 1000000) (h2 : ∀ a ∈ l, a.nm.length ≤ 9223372036854775807 ∧ kBn a.ops) (h : wF m 0 (wA l) ≤ m) : l.length ≤ 1000000 ∧ ∀ a ∈ l, okA a := by
  obtain ⟨h3, h4⟩ := acts_ok hm h2 h
  obtain ⟨_, h5⟩ := wF_le (by omega) (wA l) (Int.le_refl 0) h
  exact ⟨h3, fun a ha => ⟨h4 a ha, by have := (h5 (a.nm.length, a.ops) (List.mem_map.2 ⟨a, ha, rfl⟩)).1; omega⟩⟩
end Go.Proofs
end
-- ZUk22
section
namespace Go.Proofs
open Go Go.Rw
open _root_.Nat renaming reduceAdd → N0, reduceSub → N1, reduceMul → N2, reduceLT → N3, reduceLeDiff → N4, reduceEqDiff → N5
open _root_.Int renaming reduceNeg → Z0, reduceAdd → Z1, reduceSub → Z2, reduceMul → Z3, reduceGT → Z4, reduceGE → Z5, reduceLT → Z6, reduceLE → Z7, reduceEq → Z8, reduceNe → Z9, reduceToNat → Z10, cast_ofNat_Int → Zc
set_option maxRecDepth 100000
theorem kD1 {Γ : Env} (hf : Γ.get 16 = some kDk) {σ : AS} {dr : Bool} {a b : List Ac} {t1 t2 : Nat} {xs ys : List AV} {d : Option Nat} {K : AS → Prop} (hx : xs = acts a) (hy : ys = acts b) (ha : a.length ≤ 1099511627776) (hao : ∀ x ∈ a, okL x.ops) (hb : b.length ≤ 1099511627776) (hbo : ∀ x ∈ b, okL x.ops)
    (hk : cont σ d (.v (.bool (decide (a = b)))) K) : kR Tryz.prog Γ dr σ 16 [.sl t1 6 xs, .sl t2 6 ys] d K := by
  subst hx hy
  exact kK (C := kDk) (i := (⟨a, ha, hao⟩, ⟨b, hb, hbo⟩)) hf rfl rfl rfl (by simp [AV.erL, AV.er]) (fun _ h => h) rfl hk
theorem call_whyg {Γ : Env} {f : Nat} (hf : Γ.get f = some kAN) {σ : AS} {dr : Bool} {a : Ac} {l : List On} {y : AV} {ys : List AV} {d : Option Nat} {K : AS → Prop} (hy : y = aA a) (hz : ys = ones l) (oa : okL a.ops) (hn : a.nm.length ≤ 1099511627776) (hl : l.length ≤ 1099511627776) (ho : ∀ x ∈ l, okL x.ops)
    (hk : cont σ d (.v (.int .i64 (whyI a l))) K) : kR Tryz.prog Γ dr σ f [y, .sl 0 8 ys] d K := by
  subst hy hz
  exact kK (C := kAN) (i := (⟨a, oa, hn⟩, ⟨l, hl, ho⟩)) hf rfl rfl rfl (by simp [AV.erL, AV.er, kAd, qD]) (fun _ h => h) rfl hk
theorem rebR_left {l : List Ac} {bys : List On} (hl : bys.length ≤ 1000000) (ho : ∀ x ∈ bys, okL x.ops) (hlo : ∀ a ∈ l, okL a.ops) : (rebR l bys).left.length ≤ 1000000 ∧ ∀ x ∈ (rebR l bys).left, okL x.ops := by
  unfold rebR
  split
  · exact ⟨hl, ho⟩
  · split
    · exact ⟨hl, ho⟩
    · split
      · exact ⟨hl, ho⟩
      · refine ⟨by simpa using hl, fun x hx => ?_⟩
        obtain ⟨z, hz, rfl⟩ := List.mem_map.1 hx
        exact overO_ok l z (ho z hz) hlo
abbrev asks16Con : Con where
  ι := GivenA × GivenO × { a : Ac // a.nm.length ≤ 9223372036854775807 ∧ kBn a.ops } × GivenM
  args := fun p => [.sl 0 6 (acts p.1.1), .sl 0 8 (ones p.2.1.1), aA p.2.2.1.1, .sl 0 4 (cms p.2.2.2.1)]
  post := fun _ r => r = .v (.bool true)
  plain := true
set_option maxHeartbeats 4000000 in
theorem asks16_good : Rw.Good Tryz.prog 5 asks16Con := by
  have hΓ : kL Tryz.prog [(11, trueCon), (9, kCn), (21, msgCon), (20, kB3), (22, kB1), (27, kB1), (14, qY), (23, qY), (24, kBS), (25, kBS), (16, kDk), (26, kCW), (28, kAN), (29, kAN)] := (kE awake16_good (kE acts_good (kE msg_good (kE small16_good (kE made16_good (kE flat16_good (kE kBF (kE kDS (kE rbeh_good (kE rbeh13_good (kE sacts_good (kE rsones_good (kE why_good (kE rwhy_good kJ))))))))))))))
  refine kS (nn := 104) hΓ Tryz.func5 (by kernel_rfl) rfl (show Tryz.f5.results.toList = [.tmp 8] from rfl) (fun _ => rfl) (fun x => by simp [AV.erL, AV.er, qF, qD, kAd, kD7]) ?_
  rintro ⟨⟨l, hl, hlc⟩, ⟨bys, hb, hbc⟩, ⟨a, han, hac⟩, ⟨cs, hc, hcc⟩⟩
  obtain ⟨k, id, par, nm, dir, ops⟩ := a
  simp only at han hac
  simp only [aR,N0,N1,N2,N3,N4,N5,Z0,Z1,Z2,Z3,Z4,Z5,Z6,Z7,Z8,Z9,Z10,Zc,↓reduceIte,reduceCtorEq, aA]
  refine kEm (by simp [kB]) rfl hl hlc (by omega) ?_
  by_cases h1 : wF 3000 0 (wA l) > 3000
  · simp only [aR,N0,N1,N2,N3,N4,N5,Z0,Z1,Z2,Z3,Z4,Z5,Z6,Z7,Z8,Z9,Z10,Zc,↓reduceIte,reduceCtorEq, h1]
    refine j4 (by simp [kB]) ?_
    simp only [aR,N0,N1,N2,N3,N4,N5,Z0,Z1,Z2,Z3,Z4,Z5,Z6,Z7,Z8,Z9,Z10,Zc,↓reduceIte,reduceCtorEq]
  simp only [aR,N0,N1,N2,N3,N4,N5,Z0,Z1,Z2,Z3,Z4,Z5,Z6,Z7,Z8,Z9,Z10,Zc,↓reduceIte,reduceCtorEq, h1]
  refine call_small16 (by simp [kB]) rfl hb hbc ?_
  by_cases h2 : wF 3000 0 (wO bys) ≤ 3000
  case neg =>
    simp only [aR,N0,N1,N2,N3,N4,N5,Z0,Z1,Z2,Z3,Z4,Z5,Z6,Z7,Z8,Z9,Z10,Zc,↓reduceIte,reduceCtorEq, h2]
    refine j4 (by simp [kB]) ?_
    simp only [aR,N0,N1,N2,N3,N4,N5,Z0,Z1,Z2,Z3,Z4,Z5,Z6,Z7,Z8,Z9,Z10,Zc,↓reduceIte,reduceCtorEq]
  simp only [aR,N0,N1,N2,N3,N4,N5,Z0,Z1,Z2,Z3,Z4,Z5,Z6,Z7,Z8,Z9,Z10,Zc,↓reduceIte,reduceCtorEq, h2, List.map_cons, List.map_nil]
  refine kK (C := kCn) (i := (⟨[⟨k, id, par, nm, dir, ops⟩], by simp, by simpa using ⟨han, hac⟩⟩, ⟨1000, by omega⟩)) (by simp [kB]) rfl rfl rfl (by simp [AV.erL, AV.er, acts, aA, kCe]) (fun _ h => h) rfl ?_
  simp only
  by_cases h3 : wF 1000 0 (wA [⟨k, id, par, nm, dir, ops⟩]) > 1000
  · simp only [aR,N0,N1,N2,N3,N4,N5,Z0,Z1,Z2,Z3,Z4,Z5,Z6,Z7,Z8,Z9,Z10,Zc,↓reduceIte,reduceCtorEq, h3]
    refine j4 (by simp [kB]) ?_
    simp only [aR,N0,N1,N2,N3,N4,N5,Z0,Z1,Z2,Z3,Z4,Z5,Z6,Z7,Z8,Z9,Z10,Zc,↓reduceIte,reduceCtorEq]
  simp only [aR,N0,N1,N2,N3,N4,N5,Z0,Z1,Z2,Z3,Z4,Z5,Z6,Z7,Z8,Z9,Z10,Zc,↓reduceIte,reduceCtorEq, h3]
  refine call_msg (by simp [kB]) (by simp [msgA, AV.er, AV.erL, kD7]) hc hcc (by omega) ?_
  by_cases h4 : cF 3000 0 cs > 3000
  · simp only [aR,N0,N1,N2,N3,N4,N5,Z0,Z1,Z2,Z3,Z4,Z5,Z6,Z7,Z8,Z9,Z10,Zc,↓reduceIte,reduceCtorEq, h4]
    refine j4 (by simp [kB]) ?_
    simp only [aR,N0,N1,N2,N3,N4,N5,Z0,Z1,Z2,Z3,Z4,Z5,Z6,Z7,Z8,Z9,Z10,Zc,↓reduceIte,reduceCtorEq]
  obtain ⟨ll, lok⟩ := acts_okA (by omega) hlc (show wF 3000 0 (wA l) ≤ 3000 by omega)
  obtain ⟨bl, bok⟩ := ones_ok (by omega) hbc h2
  obtain ⟨_, aok⟩ := acts_okA (l := [⟨k, id, par, nm, dir, ops⟩]) (by omega) (by simpa using ⟨han, hac⟩) (show wF 1000 0 (wA [⟨k, id, par, nm, dir, ops⟩]) ≤ 1000 by omega)
  have ak := aok _ (List.mem_singleton.2 rfl)
  obtain ⟨cl, cok⟩ := cF_le (by omega) cs (Int.le_refl 0) hcc (show cF 3000 0 cs ≤ 3000 by omega)
  obtain ⟨r1, r2⟩ := rebR_ok ll lok bok
  obtain ⟨r3, r4⟩ := rebR_left (by omega) bok fun a ha => (lok a ha).1
  obtain ⟨b1, b2⟩ := beh_ok cs l ll lok cok
  simp only [aR,N0,N1,N2,N3,N4,N5,Z0,Z1,Z2,Z3,Z4,Z5,Z6,Z7,Z8,Z9,Z10,Zc,↓reduceIte,reduceCtorEq, h4]
  refine kAq (by simp [kB]) rfl (by omega) ?_
  simp only [aR,N0,N1,N2,N3,N4,N5,Z0,Z1,Z2,Z3,Z4,Z5,Z6,Z7,Z8,Z9,Z10,Zc,↓reduceIte,reduceCtorEq]
  refine kDV (by simp [kB]) rfl rfl ll lok (by omega) bok ?_
  simp only [aR,N0,N1,N2,N3,N4,N5,Z0,Z1,Z2,Z3,Z4,Z5,Z6,Z7,Z8,Z9,Z10,Zc,↓reduceIte,reduceCtorEq]
  refine kD0 (by simp [kB]) rfl rfl ll lok (by omega) bok ?_
  simp only [aR,N0,N1,N2,N3,N4,N5,Z0,Z1,Z2,Z3,Z4,Z5,Z6,Z7,Z8,Z9,Z10,Zc,↓reduceIte,reduceCtorEq]
  refine call_rbeh (by simp [kB]) rfl rfl ll lok (by omega) cok (by omega) (by omega) ?_
  simp only [aR,N0,N1,N2,N3,N4,N5,Z0,Z1,Z2,Z3,Z4,Z5,Z6,Z7,Z8,Z9,Z10,Zc,↓reduceIte,reduceCtorEq]
  refine call_rbeh13 (by simp [kB]) rfl rfl ll lok (by omega) cok ?_
  simp only [aR,N0,N1,N2,N3,N4,N5,Z0,Z1,Z2,Z3,Z4,Z5,Z6,Z7,Z8,Z9,Z10,Zc,↓reduceIte,reduceCtorEq]
  (repeat (with_reducible refine And.intro ?_ ?_; focus (first | omega | exact kG | kernel_rfl)))
  refine kD1 (by simp [kB]) rfl rfl (by omega) (fun z hz => (r2 z hz).1) (by omega) (fun z hz => (r2 z hz).1) ?_
  simp only [aR,N0,N1,N2,N3,N4,N5,Z0,Z1,Z2,Z3,Z4,Z5,Z6,Z7,Z8,Z9,Z10,Zc,↓reduceIte,reduceCtorEq]
  refine kAq (by simp [kB]) rfl (by omega) ?_
  simp only [aR,N0,N1,N2,N3,N4,N5,Z0,Z1,Z2,Z3,Z4,Z5,Z6,Z7,Z8,Z9,Z10,Zc,↓reduceIte,reduceCtorEq]
  refine call_rsones (by simp [kB]) rfl rfl (by omega) r4 (by omega) r4 ?_
  simp only [aR,N0,N1,N2,N3,N4,N5,Z0,Z1,Z2,Z3,Z4,Z5,Z6,Z7,Z8,Z9,Z10,Zc,↓reduceIte,reduceCtorEq]
  refine kD1 (by simp [kB]) rfl rfl (by omega) (fun z hz => (b2 z hz).1) (by omega) (fun z hz => (b2 z hz).1) ?_
  simp only [aR,N0,N1,N2,N3,N4,N5,Z0,Z1,Z2,Z3,Z4,Z5,Z6,Z7,Z8,Z9,Z10,Zc,↓reduceIte,reduceCtorEq]
  refine kAq (by simp [kB]) rfl (by omega) ?_
  simp only [aR,N0,N1,N2,N3,N4,N5,Z0,Z1,Z2,Z3,Z4,Z5,Z6,Z7,Z8,Z9,Z10,Zc,↓reduceIte,reduceCtorEq]
  refine call_whyg (by simp [kB]) (a := ⟨k, id, par, nm, dir, ops⟩) rfl rfl ak.1 ak.2 (by omega) bok ?_
  simp only [aR,N0,N1,N2,N3,N4,N5,Z0,Z1,Z2,Z3,Z4,Z5,Z6,Z7,Z8,Z9,Z10,Zc,↓reduceIte,reduceCtorEq]
  refine call_whyg (by simp [kB]) (a := ⟨k, id, par, nm, dir, ops⟩) rfl rfl ak.1 ak.2 (by omega) bok ?_
  simp only [aR,N0,N1,N2,N3,N4,N5,Z0,Z1,Z2,Z3,Z4,Z5,Z6,Z7,Z8,Z9,Z10,Zc,↓reduceIte,reduceCtorEq]
  refine j4 (by simp [kB]) ?_
  simp only [aR,N0,N1,N2,N3,N4,N5,Z0,Z1,Z2,Z3,Z4,Z5,Z6,Z7,Z8,Z9,Z10,Zc,↓reduceIte,reduceCtorEq]
end Go.Proofs
end
