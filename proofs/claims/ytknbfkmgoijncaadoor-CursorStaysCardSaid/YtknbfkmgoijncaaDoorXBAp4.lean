/-
  Edits done, undone, by the program.
-/
import Derived.Test.YtknbfkmgoijncaaDoorXBAp3
set_option linter.unusedSimpArgs false
set_option linter.unusedVariables false
set_option linter.defProp false

-- BAp4
section
namespace Go.Proofs
open Go Go.Rw
open _root_.Nat renaming reduceAdd → N0, reduceSub → N1, reduceMul → N2, reduceLT → N3, reduceLeDiff → N4, reduceEqDiff → N5
open _root_.Int renaming reduceNeg → Z0, reduceAdd → Z1, reduceSub → Z2, reduceMul → Z3, reduceGT → Z4, reduceGE → Z5, reduceLT → Z6, reduceLE → Z7, reduceEq → Z8, reduceNe → Z9, reduceToNat → Z10, cast_ofNat_Int → Zc
set_option maxRecDepth 100000
set_option linter.unusedSimpArgs false
set_option linter.unusedVariables false

theorem call_rnormal {Γ : Env} (hf : Γ.get 45 = some normalCon) {σ : AS} {dr : Bool} {l : List Cp} {t : Nat} {ys : List AV} {d : Option Nat} {K : AS → Prop} (hy : ys = comps l) (h : okL l)
    (hk : cont σ d (.v (.bool (normalL l))) K) : vcCall Tryd.prog Γ dr σ 45 [.sl t 3 ys] d K := by
  subst hy
  exact vcCall_plain (C := normalCon) (i := ⟨l, h⟩) hf rfl rfl rfl rfl (fun _ h => h) rfl hk
theorem rcheck_good : Rw.Good Tryd.prog 27 checkCon := by
  have hΓ : GoodEnv Tryd.prog [(45, normalCon), (28, baseCon), (46, outCon)] := (goodEnv_cons rnormal_good (goodEnv_cons rbase_good (goodEnv_cons rout_good goodEnv_nil)))
  refine good_fn (nn := 20) hΓ Tryd.func27 (by kernel_rfl) rfl (show Tryd.f27.results.toList = [.tmp 2] from rfl) (fun _ => rfl) (fun _ => rfl) ?_
  rintro ⟨l, hl⟩
  simp only [goRules, coreRules, tiRules, unRules, AS_of_eq, ← decide_not, N0, N1, N2, N3, N4, N5, Z0, Z1, Z2, Z3, Z4, Z5, Z6, Z7, Z8, Z9, Z10, Zc, ↓reduceIte, reduceCtorEq, comps_len]
  have c1 : 100 < (l.length : Int) → checkI l = 3 := fun h => by rw [checkI, if_pos (by omega)]
  have c2 : ¬ 100 < (l.length : Int) → normalL l = false → checkI l = 1 := fun h h2 => by rw [checkI, if_neg (by omega), if_pos h2]
  have c3 : ¬ 100 < (l.length : Int) → normalL l = true → (baseL l > 2000 ∨ outL l > 2000) → checkI l = 3 := fun h h2 h3 => by rw [checkI, if_neg (by omega), if_neg (by rw [h2]; decide), if_pos h3]
  have c4 : ¬ 100 < (l.length : Int) → normalL l = true → ¬ (baseL l > 2000 ∨ outL l > 2000) → checkI l = 0 := fun h h2 h3 => by rw [checkI, if_neg (by omega), if_neg (by rw [h2]; decide), if_neg h3]
  (with_reducible first | refine branchP_dec (fun h => ?_) (fun h => ?_) | refine guardB_dec (fun h => ?_) (fun h => ?_))
  · simp only [goRules, coreRules, tiRules, unRules, AS_of_eq, ← decide_not, N0, N1, N2, N3, N4, N5, Z0, Z1, Z2, Z3, Z4, Z5, Z6, Z7, Z8, Z9, Z10, Zc, ↓reduceIte, reduceCtorEq, h, c1 (by omega)]
  · simp only [goRules, coreRules, tiRules, unRules, AS_of_eq, ← decide_not, N0, N1, N2, N3, N4, N5, Z0, Z1, Z2, Z3, Z4, Z5, Z6, Z7, Z8, Z9, Z10, Zc, ↓reduceIte, reduceCtorEq, h]
    refine call_rnormal (by simp [get_cons]) rfl hl ?_
    cases hn : normalL l with
    | false => simp only [goRules, coreRules, tiRules, unRules, AS_of_eq, ← decide_not, N0, N1, N2, N3, N4, N5, Z0, Z1, Z2, Z3, Z4, Z5, Z6, Z7, Z8, Z9, Z10, Zc, ↓reduceIte, reduceCtorEq, hn, c2 (by omega) hn]
    | true =>
      simp only [goRules, coreRules, tiRules, unRules, AS_of_eq, ← decide_not, N0, N1, N2, N3, N4, N5, Z0, Z1, Z2, Z3, Z4, Z5, Z6, Z7, Z8, Z9, Z10, Zc, ↓reduceIte, reduceCtorEq, hn]
      refine call_rbase (by simp [get_cons]) rfl hl ?_
      simp only [goRules, coreRules, tiRules, unRules, AS_of_eq, ← decide_not, N0, N1, N2, N3, N4, N5, Z0, Z1, Z2, Z3, Z4, Z5, Z6, Z7, Z8, Z9, Z10, Zc, ↓reduceIte, reduceCtorEq]
      by_cases h1 : baseL l > 2000
      · simp only [goRules, coreRules, tiRules, unRules, AS_of_eq, ← decide_not, N0, N1, N2, N3, N4, N5, Z0, Z1, Z2, Z3, Z4, Z5, Z6, Z7, Z8, Z9, Z10, Zc, ↓reduceIte, reduceCtorEq, h1, c3 (by omega) hn (.inl (by omega))]
      · simp only [goRules, coreRules, tiRules, unRules, AS_of_eq, ← decide_not, N0, N1, N2, N3, N4, N5, Z0, Z1, Z2, Z3, Z4, Z5, Z6, Z7, Z8, Z9, Z10, Zc, ↓reduceIte, reduceCtorEq, h1]
        refine call_rout (by simp [get_cons]) rfl hl ?_
        simp only [goRules, coreRules, tiRules, unRules, AS_of_eq, ← decide_not, N0, N1, N2, N3, N4, N5, Z0, Z1, Z2, Z3, Z4, Z5, Z6, Z7, Z8, Z9, Z10, Zc, ↓reduceIte, reduceCtorEq]
        by_cases h2 : outL l > 2000
        · simp only [goRules, coreRules, tiRules, unRules, AS_of_eq, ← decide_not, N0, N1, N2, N3, N4, N5, Z0, Z1, Z2, Z3, Z4, Z5, Z6, Z7, Z8, Z9, Z10, Zc, ↓reduceIte, reduceCtorEq, h2, c3 (by omega) hn (.inr (by omega))]
        · simp only [goRules, coreRules, tiRules, unRules, AS_of_eq, ← decide_not, N0, N1, N2, N3, N4, N5, Z0, Z1, Z2, Z3, Z4, Z5, Z6, Z7, Z8, Z9, Z10, Zc, ↓reduceIte, reduceCtorEq, h2, c4 (by omega) hn (by omega)]
theorem call_rcheck {Γ : Env} (hf : Γ.get 27 = some checkCon) {σ : AS} {dr : Bool} {l : List Cp} {t : Nat} {ys : List AV} {d : Option Nat} {K : AS → Prop} (hy : ys = comps l) (h : okL l)
    (hk : cont σ d (.v (.int .i64 (checkI l))) K) : vcCall Tryd.prog Γ dr σ 27 [.sl t 3 ys] d K := by
  subst hy
  exact vcCall_plain (C := checkCon) (i := ⟨l, h⟩) hf rfl rfl rfl rfl (fun _ h => h) rfl hk

def doR (s : List UInt8) (l : List Cp) : AV := res2 (.v (sv (doneB s l))) (errI s l)
def undoR (s : List UInt8) (l : List Cp) : AV := res2 (.sl 0 3 (comps (undone s l))) (errI s l)
theorem undoR_er (s : List UInt8) (l : List Cp) : (undoR s l).er = undoR s l := by
  show AV.tup [AV.sl 0 3 _, _] = _
  rfl
abbrev doCon : Con where
  ι := Str × Ed
  args := fun p => [.v (sv p.1.1), .sl 0 3 (comps p.2.1)]
  post := fun p r => r = doR p.1.1 p.2.1
  plain := true
abbrev undoCon : Con where
  ι := Str × Ed
  args := fun p => [.v (sv p.1.1), .sl 0 3 (comps p.2.1)]
  post := fun p r => r = undoR p.1.1 p.2.1
theorem steps_mem : ∀ (l : List Cp) (cs : List Nat), fit cs l → cs.length ≤ 2000 → ∀ x ∈ stepsL cs l, x.c ∈ l ∧ x.was.length ≤ 8000 ∧ (x.c.k = 2 → x.puts = x.c.t ∧ (pts x.puts).isSome = true) ∧ (x.c.k = 3 → (pts x.was).isSome = true ∨ ∃ c ∈ cs, ¬ okc c)
  | [], _, _, _, x, hx => by cases hx
  | c :: r, cs, hf, hl, x, hx => by
    obtain ⟨hs, hn, hle, hf2⟩ := fit_cons hf
    rw [stepsL] at hx
    rcases List.mem_cons.1 hx with rfl | hx
    · have h4 := encs_len_le (cs := cs.take c.n.toNat)
      rw [List.length_take] at h4
      refine ⟨by simp, ?_, fun h2 => ?_, fun h3 => ?_⟩
      · simp only
        split
        · simp
        · omega
      · simp only at h2 ⊢
        rw [if_pos h2]
        rcases sound_cases hs with ⟨_, _, _, hv⟩ | ⟨h13, _⟩
        · exact ⟨rfl, hv⟩
        · omega
      · simp only at h3 ⊢
        rw [if_neg (by omega)]
        by_cases ho : ∀ x ∈ cs, okc x
        · left
          rw [pts_enc (okc_take ho _)]; rfl
        · right
          simpa using ho
    · have := steps_mem r _ hf2 (by rw [List.length_drop]; omega) x hx
      refine ⟨by simp [this.1], this.2.1, this.2.2.1, fun h3 => ?_⟩
      rcases this.2.2.2 h3 with h | ⟨y, hy, h⟩
      · exact .inl h
      · exact .inr ⟨y, List.mem_of_mem_drop hy, h⟩
theorem stp_mem {s : List UInt8} {l : List Cp} : ∀ x ∈ stp s l, x.c ∈ l ∧ x.was.length ≤ 8000 ∧ (x.c.k = 2 → x.puts = x.c.t ∧ (pts x.puts).isSome = true) := by
  intro x hx
  unfold stp at hx
  split at hx
  · rename_i he
    obtain ⟨hc, _, hb, hf⟩ := err_zero he
    have hcc := check_cases hc
    have := steps_mem l _ hf (by omega) x hx
    exact ⟨this.1, this.2.1, this.2.2.1⟩
  · cases hx
theorem stp_puts (s : List UInt8) (l : List Cp) : (stp s l).flatMap Sp.puts = doneB s l ∧ (doneB s l).length ≤ 8000 := by
  unfold stp doneB
  by_cases he : errI s l = 0
  · rw [if_pos he, if_pos he]
    obtain ⟨hc, _, hb, hf⟩ := err_zero he
    have hcc := check_cases hc
    have ho := out_do l (cpts s) 0 (by omega) hf hcc.2.2.2.2.2
    have h4 := encs_len_le (cs := doL (cpts s) l)
    have : outL l = outF 0 l := rfl
    exact ⟨steps_puts l _ hf, by omega⟩
  · rw [if_neg he, if_neg he]; exact ⟨rfl, by simp⟩
theorem take_puts (S : List Sp) (i : Nat) (h : i < S.length) : (S.take (i + 1)).flatMap Sp.puts = (S.take i).flatMap Sp.puts ++ S[i].puts := by
  rw [List.take_succ_eq_append_getElem h, List.flatMap_append]; simp
theorem take_puts_le (S : List Sp) (i : Nat) : ((S.take i).flatMap Sp.puts).length ≤ (S.flatMap Sp.puts).length := by
  conv => rhs; rw [← List.take_append_drop i S]
  rw [List.flatMap_append, List.length_append]; omega
theorem stp_len (s : List UInt8) (l : List Cp) : (stp s l).length ≤ 100 := by
  unfold stp
  split
  · rename_i he
    have := (check_cases (err_zero he).1).1
    rw [steps_len]; exact this
  · simp
theorem call_do {Γ : Env} {f : Nat} (hf : Γ.get f = some doCon) {σ : AS} {dr : Bool} {s : List UInt8} {l : List Cp} {t : Nat} {ys : List AV} {d : Option Nat} {K : AS → Prop} (hy : ys = comps l) (hs : s.length ≤ 1099511627776) (hl : okL l)
    (hk : cont σ d (doR s l) K) : vcCall Tryd.prog Γ dr σ f [.v (sv s), .sl t 3 ys] d K := by
  subst hy
  exact vcCall_plain (C := doCon) (i := (⟨s, hs⟩, ⟨l, hl⟩)) hf rfl rfl rfl rfl (fun _ h => h) rfl hk
end Go.Proofs
end
