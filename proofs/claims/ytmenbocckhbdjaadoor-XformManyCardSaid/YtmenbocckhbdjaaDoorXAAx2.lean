/-
  xform.Over, walked.
-/
import Derived.Test.YtmenbocckhbdjaaDoorXAAx1
set_option linter.unusedSimpArgs false
set_option linter.unusedVariables false
set_option linter.defProp false

-- AAx2
section
namespace Go.Proofs
open Go Go.Rw
open _root_.Nat renaming reduceAdd → N0, reduceSub → N1, reduceMul → N2, reduceLT → N3, reduceLeDiff → N4, reduceEqDiff → N5
open _root_.Int renaming reduceNeg → Z0, reduceAdd → Z1, reduceSub → Z2, reduceMul → Z3, reduceGT → Z4, reduceGE → Z5, reduceLT → Z6, reduceLE → Z7, reduceEq → Z8, reduceNe → Z9, reduceToNat → Z10, cast_ofNat_Int → Zc
set_option maxRecDepth 100000
set_option linter.unusedSimpArgs false
set_option linter.unusedVariables false

def ovE (a b : List Cp) : Int := if checkI a = 0 then (if checkI b = 0 then (if baseL a = baseL b then 0 else 11) else checkI b) else checkI a
def ovN (f : Bool) (a b : List Cp) : List Cp := nf (overF f ((unL a).length + (unL b).length) (a, 0) (b, 0))
def ovR (f : Bool) (a b : List Cp) : AV := if ovE a b = 0 then res2 (.sl 0 3 (comps (ovN f a b))) 0 else res2 (.sl 0 3 []) (ovE a b)
theorem ovE_zero {a b : List Cp} (h : ovE a b = 0) : checkI a = 0 ∧ checkI b = 0 ∧ baseL a = baseL b := by
  unfold ovE at h
  split at h
  · split at h
    · split at h
      · exact ⟨by assumption, by assumption, by assumption⟩
      · cases h
    · exact absurd h (by assumption)
  · exact absurd h (by assumption)
abbrev sideCon : Con where
  ι := Ed × Ed
  args := fun p => [.sl 0 3 (comps p.1.1), .sl 0 3 (comps p.2.1)]
  post := fun p r => r = .v (.int .i64 (ovE p.1.1 p.2.1))
  plain := true
theorem side_good : Rw.Good Tryd.prog 76 sideCon := by
  have hΓ : GoodEnv Tryd.prog [(17, checkCon), (18, baseCon)] := (goodEnv_cons check_good (goodEnv_cons base_good goodEnv_nil))
  refine good_fn (nn := 22) hΓ Tryd.func76 (by kernel_rfl) rfl (show Tryd.f76.results.toList = [.tmp 4] from rfl) (fun _ => rfl) (fun _ => rfl) ?_
  rintro ⟨⟨a, oa⟩, ⟨b, ob⟩⟩
  simp only [goRules, coreRules, tiRules, unRules, AS_of_eq, ← decide_not, N0, N1, N2, N3, N4, N5, Z0, Z1, Z2, Z3, Z4, Z5, Z6, Z7, Z8, Z9, Z10, Zc, ↓reduceIte, reduceCtorEq]
  refine call_check (by simp [get_cons]) rfl oa ?_
  by_cases d1 : checkI a = 0
  case neg =>
    simp only [goRules, coreRules, tiRules, unRules, AS_of_eq, ← decide_not, N0, N1, N2, N3, N4, N5, Z0, Z1, Z2, Z3, Z4, Z5, Z6, Z7, Z8, Z9, Z10, Zc, ↓reduceIte, reduceCtorEq, d1]
    unfold ovE; rw [if_neg d1]
  simp only [goRules, coreRules, tiRules, unRules, AS_of_eq, ← decide_not, N0, N1, N2, N3, N4, N5, Z0, Z1, Z2, Z3, Z4, Z5, Z6, Z7, Z8, Z9, Z10, Zc, ↓reduceIte, reduceCtorEq, d1]
  refine call_check (by simp [get_cons]) rfl ob ?_
  by_cases d2 : checkI b = 0
  case neg =>
    simp only [goRules, coreRules, tiRules, unRules, AS_of_eq, ← decide_not, N0, N1, N2, N3, N4, N5, Z0, Z1, Z2, Z3, Z4, Z5, Z6, Z7, Z8, Z9, Z10, Zc, ↓reduceIte, reduceCtorEq, d2]
    unfold ovE; rw [if_pos d1, if_neg d2]
  simp only [goRules, coreRules, tiRules, unRules, AS_of_eq, ← decide_not, N0, N1, N2, N3, N4, N5, Z0, Z1, Z2, Z3, Z4, Z5, Z6, Z7, Z8, Z9, Z10, Zc, ↓reduceIte, reduceCtorEq, d2]
  refine call_base (by simp [get_cons]) rfl oa ?_
  simp only [goRules, coreRules, tiRules, unRules, AS_of_eq, ← decide_not, N0, N1, N2, N3, N4, N5, Z0, Z1, Z2, Z3, Z4, Z5, Z6, Z7, Z8, Z9, Z10, Zc, ↓reduceIte, reduceCtorEq]
  refine call_base (by simp [get_cons]) rfl ob ?_
  by_cases d3 : baseL a = baseL b
  · simp only [goRules, coreRules, tiRules, unRules, AS_of_eq, ← decide_not, N0, N1, N2, N3, N4, N5, Z0, Z1, Z2, Z3, Z4, Z5, Z6, Z7, Z8, Z9, Z10, Zc, ↓reduceIte, reduceCtorEq, d3]
    unfold ovE; rw [if_pos d1, if_pos d2, if_pos d3]
  · simp only [goRules, coreRules, tiRules, unRules, AS_of_eq, ← decide_not, N0, N1, N2, N3, N4, N5, Z0, Z1, Z2, Z3, Z4, Z5, Z6, Z7, Z8, Z9, Z10, Zc, ↓reduceIte, reduceCtorEq, d3]
    unfold ovE; rw [if_pos d1, if_pos d2, if_neg d3]
theorem call_side {Γ : Env} (hf : Γ.get 76 = some sideCon) {σ : AS} {dr : Bool} {a b : List Cp} {t1 t2 : Nat} {ys zs : List AV} {d : Option Nat} {K : AS → Prop} (hy : ys = comps a) (hz : zs = comps b) (oa : okL a) (ob : okL b)
    (hk : cont σ d (.v (.int .i64 (ovE a b))) K) : vcCall Tryd.prog Γ dr σ 76 [.sl t1 3 ys, .sl t2 3 zs] d K := by
  subst hy hz
  exact vcCall_plain (C := sideCon) (i := (⟨a, oa⟩, ⟨b, ob⟩)) hf rfl rfl rfl rfl (fun _ h => h) rfl hk
abbrev overCon : Con where
  ι := Ed × Ed × Bool
  args := fun p => [.sl 0 3 (comps p.1.1), .sl 0 3 (comps p.2.1.1), .v (.bool p.2.2)]
  post := fun p r => r = ovR p.2.2 p.1.1 p.2.1.1
theorem over_raw (f : Bool) {a b : List Cp} (h1 : checkI a = 0) (h2 : checkI b = 0) (o1 : okL a) (o2 : okL b) :
    unL (overF f ((unL a).length + (unL b).length) (a, 0) (b, 0)) = overU f (unL a) (unL b) ∧ (∀ c ∈ overF f ((unL a).length + (unL b).length) (a, 0) (b, 0), sound c = true) ∧ okL (overF f ((unL a).length + (unL b).length) (a, 0) (b, 0)) ∧ (overF f ((unL a).length + (unL b).length) (a, 0) (b, 0)).length ≤ 100000 := by
  have w1 := WOK_init h1 o1
  have w2 := WOK_init h2 o2
  obtain ⟨i1, i2⟩ := over_units f ((unL a).length + (unL b).length) (a, 0) (b, 0) w1.1 w2.1 (by simp [wU])
  have e1 : wU (a, 0) = unL a := by simp [wU]
  have e2 : wU (b, 0) = unL b := by simp [wU]
  rw [e1, e2] at i1
  have h3 := overU_len f (unL a) (unL b)
  have h4 := (out_units h1).2.2
  have h5 := (out_units h2).2.2
  have h6 := (okL_units i2).1
  rw [i1] at h6
  exact ⟨i1, i2, okL_raw i2 (by rw [i1]; omega), by omega⟩
theorem keepL_pos {n : Nat} (h : 0 < n) : keepL n = [⟨1, n, []⟩] := by unfold keepL; rw [if_neg (by omega)]
theorem comps_app (a b : List Cp) : comps a ++ comps b = comps (a ++ b) := by simp [comps]
theorem field_k (a b c : AV) : fieldA Tryd.prog 32 (.agg [a, b, c]) 0 = some a := by
  unfold fieldA
  rw [Tryd.underlying32]
  simp [loadA, tiRules, TK.isAgg]
abbrev OvSt (fi : Bool) (e : Prop) (raw : List Cp) := { p : List Cp × (List Cp × Nat) × (List Cp × Nat) × Nat // e ∧ WOK p.2.1 ∧ WOK p.2.2.1 ∧ (wU p.2.1).length + (wU p.2.2.1).length ≤ p.2.2.2 ∧ p.1.length + p.2.2.2 ≤ 10000 ∧ p.1 ++ overF fi p.2.2.2 p.2.1 p.2.2.1 = raw }
theorem over_good : Rw.Good Tryd.prog 43 overCon := by
  have hΓ : GoodEnv Tryd.prog [(76, sideCon), (62, normCon), (40, keepCon), (66, rcCon), (88, sliceCon)] := (goodEnv_cons side_good (goodEnv_cons norm_good (goodEnv_cons keep_good (goodEnv_cons rc_good (goodEnv_cons slice_good goodEnv_nil)))))
  refine good_fn (nn := 79) hΓ Tryd.func43 (by kernel_rfl) rfl (show Tryd.f43.results.toList = [.tmp 6, .tmp 7] from rfl) (fun _ => rfl) (fun _ => rfl) ?_
  rintro ⟨⟨a, oa⟩, ⟨b, ob⟩, fi⟩
  simp only [goRules, coreRules, tiRules, unRules, AS_of_eq, ← decide_not, N0, N1, N2, N3, N4, N5, Z0, Z1, Z2, Z3, Z4, Z5, Z6, Z7, Z8, Z9, Z10, Zc, ↓reduceIte, reduceCtorEq, comps_len]
  generalize hF : (unL a).length + (unL b).length = F
  generalize hraw : overF fi F (a, 0) (b, 0) = raw
  obtain ⟨St, hSt⟩ : ∃ St : OvSt fi (ovE a b = 0) raw → AS, ∀ p, St p = AS.of 79 [(2, .v (.bool fi)), (6, .sl 2 3 (comps p.1.1)), (8, .ptr 0 0), (9, .ptr 1 0), (11, .ptr 2 0)] [.cells [.sl 0 3 (comps p.1.2.1.1), .v (.int .i64 p.1.2.1.2)], .cells [.sl 0 3 (comps p.1.2.2.1.1), .v (.int .i64 p.1.2.2.1.2)], .cells [.any, .any, .any]] [(p.1.1.length, 32)] := ⟨_, fun _ => rfl⟩
  refine vc_lab hΓ 0 St (fun p => p.1.2.2.2) 1 rfl rfl ?_ ?_
  · rintro ⟨⟨out, x, y, f⟩, he, hx, hy, hf, hlen, hr⟩
    simp only at hx hy hf hlen hr
    have fin : raw = out → okL out ∧ AV.tup [.sl 0 3 (comps (nf out)), .v (.int .i64 0)] = ovR fi a b := fun h => by
      obtain ⟨f1, f2, f3⟩ := ovE_zero he
      have f4 := (over_raw fi f1 f2 oa ob).2.2.1
      rw [hF, hraw, h] at f4
      refine ⟨f4, ?_⟩
      unfold ovR ovN
      rw [if_pos he, hF, hraw, h]
      rfl
    rw [hSt]
    simp only
    simp only [goRules, coreRules, tiRules, unRules, AS_of_eq, ← decide_not, N0, N1, N2, N3, N4, N5, Z0, Z1, Z2, Z3, Z4, Z5, Z6, Z7, Z8, Z9, Z10, Zc, ↓reduceIte, reduceCtorEq, comps_len]
    refine call_wkd hΓ (by simp [get_cons, get_nil]) hx rfl ?_
    by_cases k2 : kindL x.1 = 2
    · cases fi with
      | true =>
        simp only [goRules, coreRules, tiRules, unRules, AS_of_eq, ← decide_not, N0, N1, N2, N3, N4, N5, Z0, Z1, Z2, Z3, Z4, Z5, Z6, Z7, Z8, Z9, Z10, Zc, ↓reduceIte, reduceCtorEq, k2]
        have hp := lenW_pos hx.1 (by omega)
        obtain ⟨e1, e2, e3, e4, e5, e6⟩ := wU_split hx.1 (by omega) hp (Nat.le_refl _)
        obtain ⟨f, rfl⟩ : ∃ g, f = g + 1 := ⟨f - 1, by omega⟩
        rw [overF, if_pos ⟨k2, .inl rfl⟩] at hr
        refine call_wln hΓ (by simp [get_cons, get_nil]) (by simp [get_cons, get_nil]) (by simp [get_cons]) hx rfl ?_
        simp only [goRules, coreRules, tiRules, unRules, AS_of_eq, ← decide_not, N0, N1, N2, N3, N4, N5, Z0, Z1, Z2, Z3, Z4, Z5, Z6, Z7, Z8, Z9, Z10, Zc, ↓reduceIte, reduceCtorEq]
        refine call_wtk hΓ (by simp [get_cons, get_nil]) (by simp [get_cons, get_nil]) (by simp [get_cons, get_nil]) (by simp [get_cons]) (by simp [get_cons]) (by omega) hx (by omega) (Nat.le_refl _) rfl ?_
        intro h' g0 g
        have g1 := g 1 (by omega) (by omega)
        have g2 := g 2 (by omega) (by omega)
        have hx2 := WOK_adv hx (by omega) hp (Nat.le_refl _)
        generalize piece x (lenW x.1 x.2) = pc at *
        generalize adv x (lenW x.1 x.2) = x2 at *
        obtain ⟨pk, pn, pt⟩ := pc
        simp only [goRules, coreRules, tiRules, unRules, AS_of_eq, ← decide_not, N0, N1, N2, N3, N4, N5, Z0, Z1, Z2, Z3, Z4, Z5, Z6, Z7, Z8, Z9, Z10, Zc, ↓reduceIte, reduceCtorEq, comps_len, g0, g1, g2, cA, comps_snoc]
        (repeat (with_reducible refine And.intro ?_ ?_; focus (first | omega | exact mixed1 | kernel_rfl)))
        refine weak_again ⟨(out ++ [⟨pk, pn, pt⟩], x2, y, f), he, hx2, hy, by simp only; omega, by simp only [List.length_append, List.length_singleton]; omega, by simp only; rw [← hr]; simp⟩ (by simp only; omega) ?_
        rw [hSt]
        refine weak_go [0, 1, 2] [.live 2] ?_
        simp only [goRules, coreRules, tiRules, unRules, AS_of_eq, ← decide_not, N0, N1, N2, N3, N4, N5, Z0, Z1, Z2, Z3, Z4, Z5, Z6, Z7, Z8, Z9, Z10, Zc, ↓reduceIte, reduceCtorEq, comps_len, List.length_append, g0, g1, g2] <;> ((repeat' apply And.intro) <;> first | rfl | omega | trivial)
      | false =>
        simp only [goRules, coreRules, tiRules, unRules, AS_of_eq, ← decide_not, N0, N1, N2, N3, N4, N5, Z0, Z1, Z2, Z3, Z4, Z5, Z6, Z7, Z8, Z9, Z10, Zc, ↓reduceIte, reduceCtorEq, k2]
        refine call_wkd hΓ (by simp [get_cons, get_nil]) hy rfl ?_
        by_cases ky : kindL y.1 = 2
        · simp only [goRules, coreRules, tiRules, unRules, AS_of_eq, ← decide_not, N0, N1, N2, N3, N4, N5, Z0, Z1, Z2, Z3, Z4, Z5, Z6, Z7, Z8, Z9, Z10, Zc, ↓reduceIte, reduceCtorEq, ky]
          refine call_wkd hΓ (by simp [get_cons, get_nil]) hy rfl ?_
          simp only [goRules, coreRules, tiRules, unRules, AS_of_eq, ← decide_not, N0, N1, N2, N3, N4, N5, Z0, Z1, Z2, Z3, Z4, Z5, Z6, Z7, Z8, Z9, Z10, Zc, ↓reduceIte, reduceCtorEq, ky]
          have hp := lenW_pos hy.1 (by omega)
          obtain ⟨e1, e2, e3, e4, e5, e6⟩ := wU_split hy.1 (by omega) hp (Nat.le_refl _)
          obtain ⟨f, rfl⟩ : ∃ g, f = g + 1 := ⟨f - 1, by omega⟩
          rw [overF, if_neg (by rintro ⟨_, h | h⟩; exact absurd h (by decide); exact h ky), if_pos ky] at hr
          have hlw := (lenW_le hy).1
          refine call_wln hΓ (by simp [get_cons, get_nil]) (by simp [get_cons, get_nil]) (by simp [get_cons]) hy rfl ?_
          simp only [goRules, coreRules, tiRules, unRules, AS_of_eq, ← decide_not, N0, N1, N2, N3, N4, N5, Z0, Z1, Z2, Z3, Z4, Z5, Z6, Z7, Z8, Z9, Z10, Zc, ↓reduceIte, reduceCtorEq]
          refine call_wtk hΓ (by simp [get_cons, get_nil]) (by simp [get_cons, get_nil]) (by simp [get_cons, get_nil]) (by simp [get_cons]) (by simp [get_cons]) (by omega) hy (by omega) (Nat.le_refl _) rfl ?_
          intro h' g1 g
          have g0 := g 0 (by omega) (by omega)
          have g2 := g 2 (by omega) (by omega)
          have hy2 := WOK_adv hy (by omega) hp (Nat.le_refl _)
          simp only [goRules, coreRules, tiRules, unRules, AS_of_eq, ← decide_not, N0, N1, N2, N3, N4, N5, Z0, Z1, Z2, Z3, Z4, Z5, Z6, Z7, Z8, Z9, Z10, Zc, ↓reduceIte, reduceCtorEq]
          refine call_keep (by simp [get_cons]) (by omega) ?_
          rw [keepL_pos hp]
          generalize lenW y.1 y.2 = ly at *
          generalize piece y ly = pc at *
          generalize adv y ly = y2 at *
          simp only [goRules, coreRules, tiRules, unRules, AS_of_eq, ← decide_not, N0, N1, N2, N3, N4, N5, Z0, Z1, Z2, Z3, Z4, Z5, Z6, Z7, Z8, Z9, Z10, Zc, ↓reduceIte, reduceCtorEq, comps_len, comps_app, List.length_append, List.length_singleton, g0, g1, g2, cA]
          (repeat (with_reducible refine And.intro ?_ ?_; focus (first | omega | exact mixed1 | kernel_rfl)))
          refine weak_again ⟨(out ++ [⟨1, (ly : Int), []⟩], x, y2, f), he, hx, hy2, by simp only; omega, by simp only [List.length_append, List.length_singleton]; omega, by simp only; rw [← hr]; simp⟩ (by simp only; omega) ?_
          rw [hSt]
          refine weak_go [0, 1, 2] [.live 2] ?_
          simp only [goRules, coreRules, tiRules, unRules, AS_of_eq, ← decide_not, N0, N1, N2, N3, N4, N5, Z0, Z1, Z2, Z3, Z4, Z5, Z6, Z7, Z8, Z9, Z10, Zc, ↓reduceIte, reduceCtorEq, comps_len, List.length_append, List.length_singleton, g0, g1, g2] <;> ((repeat' apply And.intro) <;> first | rfl | omega | trivial)
        · simp only [goRules, coreRules, tiRules, unRules, AS_of_eq, ← decide_not, N0, N1, N2, N3, N4, N5, Z0, Z1, Z2, Z3, Z4, Z5, Z6, Z7, Z8, Z9, Z10, Zc, ↓reduceIte, reduceCtorEq, ky]
          have hp := lenW_pos hx.1 (by omega)
          obtain ⟨e1, e2, e3, e4, e5, e6⟩ := wU_split hx.1 (by omega) hp (Nat.le_refl _)
          obtain ⟨f, rfl⟩ : ∃ g, f = g + 1 := ⟨f - 1, by omega⟩
          rw [overF, if_pos ⟨k2, .inr ky⟩] at hr
          refine call_wln hΓ (by simp [get_cons, get_nil]) (by simp [get_cons, get_nil]) (by simp [get_cons]) hx rfl ?_
          simp only [goRules, coreRules, tiRules, unRules, AS_of_eq, ← decide_not, N0, N1, N2, N3, N4, N5, Z0, Z1, Z2, Z3, Z4, Z5, Z6, Z7, Z8, Z9, Z10, Zc, ↓reduceIte, reduceCtorEq]
          refine call_wtk hΓ (by simp [get_cons, get_nil]) (by simp [get_cons, get_nil]) (by simp [get_cons, get_nil]) (by simp [get_cons]) (by simp [get_cons]) (by omega) hx (by omega) (Nat.le_refl _) rfl ?_
          intro h' g0 g
          have g1 := g 1 (by omega) (by omega)
          have g2 := g 2 (by omega) (by omega)
          have hx2 := WOK_adv hx (by omega) hp (Nat.le_refl _)
          generalize piece x (lenW x.1 x.2) = pc at *
          generalize adv x (lenW x.1 x.2) = x2 at *
          obtain ⟨pk, pn, pt⟩ := pc
          simp only [goRules, coreRules, tiRules, unRules, AS_of_eq, ← decide_not, N0, N1, N2, N3, N4, N5, Z0, Z1, Z2, Z3, Z4, Z5, Z6, Z7, Z8, Z9, Z10, Zc, ↓reduceIte, reduceCtorEq, comps_len, g0, g1, g2, cA, comps_snoc]
          (repeat (with_reducible refine And.intro ?_ ?_; focus (first | omega | exact mixed1 | kernel_rfl)))
          refine weak_again ⟨(out ++ [⟨pk, pn, pt⟩], x2, y, f), he, hx2, hy, by simp only; omega, by simp only [List.length_append, List.length_singleton]; omega, by simp only; rw [← hr]; simp⟩ (by simp only; omega) ?_
          rw [hSt]
          refine weak_go [0, 1, 2] [.live 2] ?_
          simp only [goRules, coreRules, tiRules, unRules, AS_of_eq, ← decide_not, N0, N1, N2, N3, N4, N5, Z0, Z1, Z2, Z3, Z4, Z5, Z6, Z7, Z8, Z9, Z10, Zc, ↓reduceIte, reduceCtorEq, comps_len, List.length_append, g0, g1, g2] <;> ((repeat' apply And.intro) <;> first | rfl | omega | trivial)
    simp only [goRules, coreRules, tiRules, unRules, AS_of_eq, ← decide_not, N0, N1, N2, N3, N4, N5, Z0, Z1, Z2, Z3, Z4, Z5, Z6, Z7, Z8, Z9, Z10, Zc, ↓reduceIte, reduceCtorEq, k2]
    refine call_wkd hΓ (by simp [get_cons, get_nil]) hy rfl ?_
    by_cases ky : kindL y.1 = 2
    · simp only [goRules, coreRules, tiRules, unRules, AS_of_eq, ← decide_not, N0, N1, N2, N3, N4, N5, Z0, Z1, Z2, Z3, Z4, Z5, Z6, Z7, Z8, Z9, Z10, Zc, ↓reduceIte, reduceCtorEq, ky]
      have hp := lenW_pos hy.1 (by omega)
      obtain ⟨e1, e2, e3, e4, e5, e6⟩ := wU_split hy.1 (by omega) hp (Nat.le_refl _)
      obtain ⟨f, rfl⟩ : ∃ g, f = g + 1 := ⟨f - 1, by omega⟩
      rw [overF, if_neg (by rintro ⟨h, _⟩; exact k2 h), if_pos ky] at hr
      have hlw := (lenW_le hy).1
      refine call_wln hΓ (by simp [get_cons, get_nil]) (by simp [get_cons, get_nil]) (by simp [get_cons]) hy rfl ?_
      simp only [goRules, coreRules, tiRules, unRules, AS_of_eq, ← decide_not, N0, N1, N2, N3, N4, N5, Z0, Z1, Z2, Z3, Z4, Z5, Z6, Z7, Z8, Z9, Z10, Zc, ↓reduceIte, reduceCtorEq]
      refine call_wtk hΓ (by simp [get_cons, get_nil]) (by simp [get_cons, get_nil]) (by simp [get_cons, get_nil]) (by simp [get_cons]) (by simp [get_cons]) (by omega) hy (by omega) (Nat.le_refl _) rfl ?_
      intro h' g1 g
      have g0 := g 0 (by omega) (by omega)
      have g2 := g 2 (by omega) (by omega)
      have hy2 := WOK_adv hy (by omega) hp (Nat.le_refl _)
      simp only [goRules, coreRules, tiRules, unRules, AS_of_eq, ← decide_not, N0, N1, N2, N3, N4, N5, Z0, Z1, Z2, Z3, Z4, Z5, Z6, Z7, Z8, Z9, Z10, Zc, ↓reduceIte, reduceCtorEq]
      refine call_keep (by simp [get_cons]) (by omega) ?_
      rw [keepL_pos hp]
      generalize lenW y.1 y.2 = ly at *
      generalize piece y ly = pc at *
      generalize adv y ly = y2 at *
      simp only [goRules, coreRules, tiRules, unRules, AS_of_eq, ← decide_not, N0, N1, N2, N3, N4, N5, Z0, Z1, Z2, Z3, Z4, Z5, Z6, Z7, Z8, Z9, Z10, Zc, ↓reduceIte, reduceCtorEq, comps_len, comps_app, List.length_append, List.length_singleton, g0, g1, g2, cA]
      (repeat (with_reducible refine And.intro ?_ ?_; focus (first | omega | exact mixed1 | kernel_rfl)))
      refine weak_again ⟨(out ++ [⟨1, (ly : Int), []⟩], x, y2, f), he, hx, hy2, by simp only; omega, by simp only [List.length_append, List.length_singleton]; omega, by simp only; rw [← hr]; simp⟩ (by simp only; omega) ?_
      rw [hSt]
      refine weak_go [0, 1, 2] [.live 2] ?_
      simp only [goRules, coreRules, tiRules, unRules, AS_of_eq, ← decide_not, N0, N1, N2, N3, N4, N5, Z0, Z1, Z2, Z3, Z4, Z5, Z6, Z7, Z8, Z9, Z10, Zc, ↓reduceIte, reduceCtorEq, comps_len, List.length_append, List.length_singleton, g0, g1, g2] <;> ((repeat' apply And.intro) <;> first | rfl | omega | trivial)
    simp only [goRules, coreRules, tiRules, unRules, AS_of_eq, ← decide_not, N0, N1, N2, N3, N4, N5, Z0, Z1, Z2, Z3, Z4, Z5, Z6, Z7, Z8, Z9, Z10, Zc, ↓reduceIte, reduceCtorEq, ky]
    refine call_wkd hΓ (by simp [get_cons, get_nil]) hx rfl ?_
    by_cases c3 : kindL x.1 = 0
    · have hend : raw = out := by
        rw [← hr]
        cases f with
        | zero => simp [overF]
        | succ f => rw [overF, if_neg (by rintro ⟨h, _⟩; exact k2 h), if_neg ky, if_pos (.inl c3)]; simp
      obtain ⟨f1, f2⟩ := fin hend
      simp only [goRules, coreRules, tiRules, unRules, AS_of_eq, ← decide_not, N0, N1, N2, N3, N4, N5, Z0, Z1, Z2, Z3, Z4, Z5, Z6, Z7, Z8, Z9, Z10, Zc, ↓reduceIte, reduceCtorEq, c3]
      refine ⟨_, rfl, ?_⟩
      simp only [goRules, coreRules, tiRules, unRules, AS_of_eq, ← decide_not, N0, N1, N2, N3, N4, N5, Z0, Z1, Z2, Z3, Z4, Z5, Z6, Z7, Z8, Z9, Z10, Zc, ↓reduceIte, reduceCtorEq]
      refine call_norm (by simp [get_cons]) (by omega) rfl f1 ?_
      simp only [goRules, coreRules, tiRules, unRules, AS_of_eq, ← decide_not, N0, N1, N2, N3, N4, N5, Z0, Z1, Z2, Z3, Z4, Z5, Z6, Z7, Z8, Z9, Z10, Zc, ↓reduceIte, reduceCtorEq]
      exact f2
    simp only [goRules, coreRules, tiRules, unRules, AS_of_eq, ← decide_not, N0, N1, N2, N3, N4, N5, Z0, Z1, Z2, Z3, Z4, Z5, Z6, Z7, Z8, Z9, Z10, Zc, ↓reduceIte, reduceCtorEq, c3]
    refine call_wkd hΓ (by simp [get_cons, get_nil]) hy rfl ?_
    by_cases c4 : kindL y.1 = 0
    · have hend : raw = out := by
        rw [← hr]
        cases f with
        | zero => simp [overF]
        | succ f => rw [overF, if_neg (by rintro ⟨h, _⟩; exact k2 h), if_neg ky, if_pos (.inr c4)]; simp
      obtain ⟨f1, f2⟩ := fin hend
      simp only [goRules, coreRules, tiRules, unRules, AS_of_eq, ← decide_not, N0, N1, N2, N3, N4, N5, Z0, Z1, Z2, Z3, Z4, Z5, Z6, Z7, Z8, Z9, Z10, Zc, ↓reduceIte, reduceCtorEq, c4]
      refine ⟨_, rfl, ?_⟩
      simp only [goRules, coreRules, tiRules, unRules, AS_of_eq, ← decide_not, N0, N1, N2, N3, N4, N5, Z0, Z1, Z2, Z3, Z4, Z5, Z6, Z7, Z8, Z9, Z10, Zc, ↓reduceIte, reduceCtorEq]
      refine call_norm (by simp [get_cons]) (by omega) rfl f1 ?_
      simp only [goRules, coreRules, tiRules, unRules, AS_of_eq, ← decide_not, N0, N1, N2, N3, N4, N5, Z0, Z1, Z2, Z3, Z4, Z5, Z6, Z7, Z8, Z9, Z10, Zc, ↓reduceIte, reduceCtorEq]
      exact f2
    simp only [goRules, coreRules, tiRules, unRules, AS_of_eq, ← decide_not, N0, N1, N2, N3, N4, N5, Z0, Z1, Z2, Z3, Z4, Z5, Z6, Z7, Z8, Z9, Z10, Zc, ↓reduceIte, reduceCtorEq, c4]
    refine call_wln hΓ (by simp [get_cons, get_nil]) (by simp [get_cons, get_nil]) (by simp [get_cons]) hx rfl ?_
    simp only [goRules, coreRules, tiRules, unRules, AS_of_eq, ← decide_not, N0, N1, N2, N3, N4, N5, Z0, Z1, Z2, Z3, Z4, Z5, Z6, Z7, Z8, Z9, Z10, Zc, ↓reduceIte, reduceCtorEq]
    refine call_wln hΓ (by simp [get_cons, get_nil]) (by simp [get_cons, get_nil]) (by simp [get_cons]) hy rfl ?_
    have hpx := lenW_pos hx.1 c3
    have hpy := lenW_pos hy.1 c4
    have hmin : min ((lenW x.1 x.2 : Nat) : Int) ((lenW y.1 y.2 : Nat) : Int) = ((min (lenW x.1 x.2) (lenW y.1 y.2) : Nat) : Int) := by omega
    obtain ⟨f, rfl⟩ : ∃ g, f = g + 1 := ⟨f - 1, by
      have := (wU_split hx.1 c3 hpx (Nat.le_refl _)).2.2.2.2.2
      omega⟩
    rw [overF, if_neg (by rintro ⟨h, _⟩; exact k2 h), if_neg ky, if_neg (by simp [c3, c4])] at hr
    simp only at hr
    generalize hm : min (lenW x.1 x.2) (lenW y.1 y.2) = m at *
    simp only [goRules, coreRules, tiRules, unRules, AS_of_eq, ← decide_not, N0, N1, N2, N3, N4, N5, Z0, Z1, Z2, Z3, Z4, Z5, Z6, Z7, Z8, Z9, Z10, Zc, ↓reduceIte, reduceCtorEq, min2_int, hmin]
    obtain ⟨e1, e2, e3, e4, e5, e6⟩ := wU_split (n := m) hx.1 c3 (by omega) (by omega)
    obtain ⟨u1, u2, u3, u4, u5, u6⟩ := wU_split (n := m) hy.1 c4 (by omega) (by omega)
    refine call_wtk hΓ (by simp [get_cons, get_nil]) (by simp [get_cons, get_nil]) (by simp [get_cons, get_nil]) (by simp [get_cons]) (by simp [get_cons]) (by omega) hx c3 (by omega) rfl ?_
    intro h' g0 g
    have g1 := g 1 (by omega) (by omega)
    have g2 := g 2 (by omega) (by omega)
    have hx2 := WOK_adv hx c3 (n := m) (by omega) (by omega)
    generalize piece x m = pc at *
    generalize adv x m = x2 at *
    obtain ⟨pk, pn, pt⟩ := pc
    simp only [goRules, coreRules, tiRules, unRules, AS_of_eq, ← decide_not, N0, N1, N2, N3, N4, N5, Z0, Z1, Z2, Z3, Z4, Z5, Z6, Z7, Z8, Z9, Z10, Zc, ↓reduceIte, reduceCtorEq, g0, g1, g2, cA]
    refine call_wtk hΓ (by simp [get_cons, get_nil]) (by simp [get_cons, get_nil]) (by simp [get_cons, get_nil]) (by simp [get_cons]) (by simp [get_cons]) (by omega) hy c4 (by omega) (by simp only [upd]; exact g1) ?_
    intro h2 v1 v
    have v0 := v 0 (by omega) (by omega)
    have v2 := v 2 (by omega) (by omega)
    have v0 := v0.trans ((show upd h' 2 _ 0 = h' 0 from rfl).trans g0)
    have v2 := v2.trans (show upd h' 2 _ 2 = _ from rfl)
    have hy2 := WOK_adv hy c4 (n := m) (by omega) (by omega)
    generalize piece y m = qc at *
    generalize adv y m = y2 at *
    obtain ⟨qk, qn, qt⟩ := qc
    simp only at e5 u5
    rw [← u5] at hr
    clear hmin
    by_cases c5 : qk = 1
    · rw [if_pos c5] at hr
      simp only [goRules, coreRules, tiRules, unRules, AS_of_eq, ← decide_not, N0, N1, N2, N3, N4, N5, Z0, Z1, Z2, Z3, Z4, Z5, Z6, Z7, Z8, Z9, Z10, Zc, ↓reduceIte, reduceCtorEq, comps_len, v0, v1, v2, cA, comps_snoc, c5, field_k]
      (repeat (with_reducible refine And.intro ?_ ?_; focus (first | omega | exact mixed1 | kernel_rfl)))
      refine weak_again ⟨(out ++ [⟨pk, pn, pt⟩], x2, y2, f), he, hx2, hy2, by simp only; omega, by simp only [List.length_append, List.length_singleton]; omega, by simp only; rw [← hr]; simp⟩ (by simp only; omega) ?_
      rw [hSt]
      refine weak_go [0, 1, 2] [.live 2] ?_
      simp only [goRules, coreRules, tiRules, unRules, AS_of_eq, ← decide_not, N0, N1, N2, N3, N4, N5, Z0, Z1, Z2, Z3, Z4, Z5, Z6, Z7, Z8, Z9, Z10, Zc, ↓reduceIte, reduceCtorEq, comps_len, List.length_append, v0, v1, v2] <;> ((repeat' apply And.intro) <;> first | rfl | omega | trivial)
    rw [if_neg c5, List.nil_append] at hr
    simp only [goRules, coreRules, tiRules, unRules, AS_of_eq, ← decide_not, N0, N1, N2, N3, N4, N5, Z0, Z1, Z2, Z3, Z4, Z5, Z6, Z7, Z8, Z9, Z10, Zc, ↓reduceIte, reduceCtorEq, comps_len, v0, v1, v2, cA, comps_snoc, c5, field_k]
    refine weak_again ⟨(out, x2, y2, f), he, hx2, hy2, by simp only; omega, by simp only; omega, hr⟩ (by simp only; omega) ?_
    rw [hSt]
    refine weak_go [0, 1, 2] [.live 2] ?_
    simp only [goRules, coreRules, tiRules, unRules, AS_of_eq, ← decide_not, N0, N1, N2, N3, N4, N5, Z0, Z1, Z2, Z3, Z4, Z5, Z6, Z7, Z8, Z9, Z10, Zc, ↓reduceIte, reduceCtorEq, comps_len, List.length_append, v0, v1, v2] <;> ((repeat' apply And.intro) <;> first | rfl | omega | trivial)
  · simp only [goRules, coreRules, tiRules, unRules, AS_of_eq, ← decide_not, N0, N1, N2, N3, N4, N5, Z0, Z1, Z2, Z3, Z4, Z5, Z6, Z7, Z8, Z9, Z10, Zc, ↓reduceIte, reduceCtorEq, comps_len]
    refine vcCall_inl (nn := 6) hΓ (by first | assumption | simp [get_cons, get_nil]) Tryd.func67 (by kernel_rfl) rfl (show Tryd.f67.results.toList = [.tmp 2] from rfl) rfl ?_
    simp only [goRules, coreRules, tiRules, unRules, AS_of_eq, ← decide_not, N0, N1, N2, N3, N4, N5, Z0, Z1, Z2, Z3, Z4, Z5, Z6, Z7, Z8, Z9, Z10, Zc, ↓reduceIte, reduceCtorEq, comps_len, List.map_cons, List.map_nil]
    refine vcCall_inl (nn := 6) hΓ (by first | assumption | simp [get_cons, get_nil]) Tryd.func67 (by kernel_rfl) rfl (show Tryd.f67.results.toList = [.tmp 2] from rfl) rfl ?_
    simp only [goRules, coreRules, tiRules, unRules, AS_of_eq, ← decide_not, N0, N1, N2, N3, N4, N5, Z0, Z1, Z2, Z3, Z4, Z5, Z6, Z7, Z8, Z9, Z10, Zc, ↓reduceIte, reduceCtorEq, comps_len, List.map_cons, List.map_nil]
    refine call_side (by simp [get_cons]) rfl rfl oa ob ?_
    by_cases he : ovE a b = 0
    case neg =>
      simp only [goRules, coreRules, tiRules, unRules, AS_of_eq, ← decide_not, N0, N1, N2, N3, N4, N5, Z0, Z1, Z2, Z3, Z4, Z5, Z6, Z7, Z8, Z9, Z10, Zc, ↓reduceIte, reduceCtorEq, he]
      unfold ovR
      rw [if_neg he]; rfl
    simp only [goRules, coreRules, tiRules, unRules, AS_of_eq, ← decide_not, N0, N1, N2, N3, N4, N5, Z0, Z1, Z2, Z3, Z4, Z5, Z6, Z7, Z8, Z9, Z10, Zc, ↓reduceIte, reduceCtorEq, he]
    obtain ⟨d1, d2, d3⟩ := ovE_zero he
    have f1 := (out_units d1).2.2
    have f2 := (out_units d2).2.2
    refine ⟨⟨([], (a, 0), (b, 0), F), he, WOK_init d1 oa, WOK_init d2 ob, by simp only [wU, List.drop_zero]; omega, by simp only [List.length_nil]; omega, hraw⟩, ?_⟩
    rw [hSt]
    refine weak_go [0, 1, 2] [.nil 3] ?_
    simp only [goRules, coreRules, tiRules, unRules, AS_of_eq, ← decide_not, N0, N1, N2, N3, N4, N5, Z0, Z1, Z2, Z3, Z4, Z5, Z6, Z7, Z8, Z9, Z10, Zc, ↓reduceIte, reduceCtorEq, comps_nil] <;> ((repeat' apply And.intro) <;> first | rfl | omega | trivial)
end Go.Proofs
end
