/-
  utf.Count counts a text's code points.
-/
import Derived.Test.YtmenbocckhbdjaaDoorXAUt1
set_option linter.unusedSimpArgs false
set_option linter.unusedVariables false
set_option linter.defProp false

-- AUt2
section
namespace Go.Proofs
open Go Go.Rw
open _root_.Nat renaming reduceAdd → N0, reduceSub → N1, reduceMul → N2, reduceLT → N3, reduceLeDiff → N4, reduceEqDiff → N5
open _root_.Int renaming reduceNeg → Z0, reduceAdd → Z1, reduceSub → Z2, reduceMul → Z3, reduceGT → Z4, reduceGE → Z5, reduceLT → Z6, reduceLE → Z7, reduceEq → Z8, reduceNe → Z9, reduceToNat → Z10, cast_ofNat_Int → Zc
set_option maxRecDepth 100000
set_option linter.unusedSimpArgs false
set_option linter.unusedVariables false

theorem and192 {b : UInt8} : IntKind.wrap .u8 ((BitVec.ofInt IntKind.u8.bits (b.toNat : Int) &&& BitVec.ofInt IntKind.u8.bits 192).toNat : Nat) = ((b.toNat / 64 * 64 : Nat) : Int) := by
  have key : ∀ m : Nat, m < 256 → (BitVec.ofInt IntKind.u8.bits (m : Int) &&& BitVec.ofInt IntKind.u8.bits 192).toNat = m / 64 * 64 := by decide +kernel
  have hb := b.toNat_lt
  rw [key _ (by omega), wrap_u8 (by omega) (by omega)]

abbrev startCon : Con where
  ι := UInt8
  args := fun b => [.v (.int .u8 b.toNat)]
  post := fun b r => r = .v (.bool (decide (¬ (128 ≤ b.toNat ∧ b.toNat < 192))))
  plain := true
theorem start_good : Rw.Good Tryd.prog 85 startCon := by
  have hΓ : GoodEnv Tryd.prog [] := goodEnv_nil
  refine good_fn (nn := 6) hΓ Tryd.func85 (by kernel_rfl) rfl (show Tryd.f85.results.toList = [.tmp 2] from rfl) (fun _ => rfl) (fun _ => rfl) ?_
  intro b
  simp only [goRules, coreRules, tiRules, unRules, AS_of_eq, ← decide_not, N0, N1, N2, N3, N4, N5, Z0, Z1, Z2, Z3, Z4, Z5, Z6, Z7, Z8, Z9, Z10, Zc, ↓reduceIte, reduceCtorEq, and192]
  rw [Bool.eq_iff_iff]; simp; omega
theorem call_start {Γ : Env} (hf : Γ.get 85 = some startCon) {σ : AS} {dr : Bool} {b : UInt8} {n : Int} {d : Option Nat} {K : AS → Prop} (hn : n = b.toNat)
    (hk : cont σ d (.v (.bool (decide (¬ (128 ≤ b.toNat ∧ b.toNat < 192))))) K) : vcCall Tryd.prog Γ dr σ 85 [.v (.int .u8 n)] d K := by
  subst hn
  exact vcCall_plain (C := startCon) (i := b) hf rfl rfl rfl rfl (fun _ h => h) rfl hk

theorem opt_cases {α : Type} (x : Option α) : x = none ∨ ∃ a, x = some a := by cases x <;> simp

/-- An answer and an error's number. -/
def res2 (a : AV) (e : Int) : AV := .tup [a, .v (.int .i64 e)]
def countR (l : List UInt8) : AV := match pts l with
  | some cs => res2 (.v (.int .i64 cs.length)) 0
  | none => res2 (.v (.int .i64 0)) 2
theorem countR_plain (l : List UInt8) : (countR l).plain = true := by unfold countR; split <;> rfl

abbrev countCon : Con where
  ι := Str
  args := fun s => [.v (sv s.1)]
  post := fun s r => r = countR s.1
  plain := true
theorem count_good : Rw.Good Tryd.prog 61 countCon := by
  have hΓ : GoodEnv Tryd.prog [(55, validCon), (85, startCon)] := (goodEnv_cons valid_good (goodEnv_cons start_good goodEnv_nil))
  refine good_fn (nn := 30) hΓ Tryd.func61 (by kernel_rfl) rfl (show Tryd.f61.results.toList = [.tmp 2, .tmp 3] from rfl) (fun _ => rfl) (fun _ => rfl) ?_
  rintro ⟨s, hs⟩
  simp only [goRules, coreRules, tiRules, unRules, AS_of_eq, ← decide_not, N0, N1, N2, N3, N4, N5, Z0, Z1, Z2, Z3, Z4, Z5, Z6, Z7, Z8, Z9, Z10, Zc, ↓reduceIte, reduceCtorEq]
  obtain ⟨St, hSt⟩ : ∃ St : { p : List Nat × List Nat // pts s = some (p.1 ++ p.2) } → AS, ∀ p, St p = AS.of 30 [(0, .v (sv s)), (2, .v (.int .i64 p.1.1.length)), (4, .v (.int .i64 (encs p.1.1).length))] [] [] := ⟨_, fun _ => rfl⟩
  refine vc_lab hΓ 1 St (fun p => p.1.2.length) 1 rfl rfl ?_ ?_
  · rintro ⟨⟨pre, post⟩, hp⟩
    simp only at hp
    obtain ⟨hok, hse⟩ := pts_some hp
    rw [hSt]
    have hl := congrArg List.length hse
    rw [encs_app, List.length_append] at hl
    have hpl := encs_le pre
    simp only [goRules, coreRules, tiRules, unRules, AS_of_eq, ← decide_not, N0, N1, N2, N3, N4, N5, Z0, Z1, Z2, Z3, Z4, Z5, Z6, Z7, Z8, Z9, Z10, Zc, ↓reduceIte, reduceCtorEq]
    refine branchP_dec (fun h => ?_) (fun h => ?_)
    · simp only [goRules, coreRules, tiRules, unRules, AS_of_eq, ← decide_not, N0, N1, N2, N3, N4, N5, Z0, Z1, Z2, Z3, Z4, Z5, Z6, Z7, Z8, Z9, Z10, Zc, ↓reduceIte, reduceCtorEq]
      refine ⟨_, rfl, ?_⟩
      simp only [goRules, coreRules, tiRules, unRules, AS_of_eq, ← decide_not, N0, N1, N2, N3, N4, N5, Z0, Z1, Z2, Z3, Z4, Z5, Z6, Z7, Z8, Z9, Z10, Zc, ↓reduceIte, reduceCtorEq]
      have : post = [] := by
        cases post with
        | nil => rfl
        | cons c cs => have := encs_pos (c := c) (cs := cs); omega
      subst this
      unfold countR
      rw [hp, List.append_nil]; rfl
    · cases post with
      | nil => rw [encs_nil, List.length_nil] at hl; omega
      | cons c cs =>
        have hc := hok c (by simp)
        have hw := wid_pos c
        have hcl := enc_len c
        rw [encs_cons, List.length_append, hcl] at hl
        rw [encs_app, encs_cons] at hse
        simp (disch := omega) only [goRules, coreRules, tiRules, unRules, AS_of_eq, ← decide_not, N0, N1, N2, N3, N4, N5, Z0, Z1, Z2, Z3, Z4, Z5, Z6, Z7, Z8, Z9, Z10, Zc, ↓reduceIte, reduceCtorEq, wrap_i64, wrap_i64]
        obtain ⟨St2, hSt2⟩ : ∃ St2 : { j : Nat // 1 ≤ j ∧ j ≤ wid c } → AS, ∀ j, St2 j = AS.of 30 [(0, .v (sv s)), (2, .v (.int .i64 pre.length)), (4, .v (.int .i64 ((encs pre).length + j.1 : Nat)))] [] [] := ⟨_, fun _ => rfl⟩
        refine vc_loop hΓ St2 (fun j => wid c - j.1) ⟨1, by omega⟩ (by rw [hSt2]; refine weak_go [] [] ?_; simp only [goRules, coreRules, tiRules, unRules, AS_of_eq, ← decide_not, N0, N1, N2, N3, N4, N5, Z0, Z1, Z2, Z3, Z4, Z5, Z6, Z7, Z8, Z9, Z10, Zc, ↓reduceIte, reduceCtorEq]; rfl) ?_
        rintro ⟨j, hj1, hj2⟩
        rw [hSt2]
        simp only
        simp only [goRules, coreRules, tiRules, unRules, AS_of_eq, ← decide_not, N0, N1, N2, N3, N4, N5, Z0, Z1, Z2, Z3, Z4, Z5, Z6, Z7, Z8, Z9, Z10, Zc, ↓reduceIte, reduceCtorEq]
        have hlast : ∀ σ : AS, j = wid c → Weak σ (AS.of 30 [(0, .v (sv s)), (2, .v (.int .i64 (pre.length + 1 : Nat))), (4, .v (.int .i64 ((encs pre).length + wid c : Nat)))] [] []) → ∃ y : { p : List Nat × List Nat // pts s = some (p.1 ++ p.2) }, y.1.2.length < (c :: cs).length ∧ Weak σ (St y) := by
          intro σ hj hw
          refine ⟨⟨(pre ++ [c], cs), by simpa using hp⟩, by simp, ?_⟩
          rw [hSt]
          simp only [encs_app, List.length_append, encs_cons, encs_nil, List.append_nil, hcl, List.length_cons, List.length_nil, Nat.zero_add]
          exact hw
        refine guardB_dec (fun h2 => ?_) (fun h2 => ?_)
        · simp (disch := omega) only [goRules, coreRules, tiRules, unRules, AS_of_eq, ← decide_not, N0, N1, N2, N3, N4, N5, Z0, Z1, Z2, Z3, Z4, Z5, Z6, Z7, Z8, Z9, Z10, Zc, ↓reduceIte, reduceCtorEq, wrap_i64, wrap_i64, h2]
          refine ⟨by omega, ?_⟩
          refine call_start (by simp [get_cons]) rfl ?_
          simp only [goRules, coreRules, tiRules, unRules, AS_of_eq, ← decide_not, N0, N1, N2, N3, N4, N5, Z0, Z1, Z2, Z3, Z4, Z5, Z6, Z7, Z8, Z9, Z10, Zc, ↓reduceIte, reduceCtorEq, h2]
          refine branchP_dec (fun h3 => ?_) (fun h3 => ?_)
          · simp (disch := omega) only [goRules, coreRules, tiRules, unRules, AS_of_eq, ← decide_not, N0, N1, N2, N3, N4, N5, Z0, Z1, Z2, Z3, Z4, Z5, Z6, Z7, Z8, Z9, Z10, Zc, ↓reduceIte, reduceCtorEq, wrap_i64, wrap_i64]
            have hj3 : j < wid c := by
              rcases Nat.lt_or_ge j (wid c) with h4 | h4
              · exact h4
              · exfalso
                have hjw : j = wid c := by omega
                cases cs with
                | nil => rw [encs_nil, List.length_nil] at hl; omega
                | cons c2 cs =>
                  have h5 := enc_head (hok c2 (by simp))
                  have h6 : s.getD ((encs pre).length + j) 0 = (enc c2).getD 0 0 := by
                    rw [hse, encs_cons, ← List.append_assoc, hjw, ← hcl, ← List.length_append]
                    exact getD_mid (j := 0) (by rw [enc_len]; exact wid_pos c2)
                  rw [h6] at h3
                  omega
            refine weak_again ⟨j + 1, by omega⟩ (by simp only; omega) ?_
            rw [hSt2]; refine weak_go [] [] ?_
            simp only [goRules, coreRules, tiRules, unRules, AS_of_eq, ← decide_not, N0, N1, N2, N3, N4, N5, Z0, Z1, Z2, Z3, Z4, Z5, Z6, Z7, Z8, Z9, Z10, Zc, ↓reduceIte, reduceCtorEq] <;> ((repeat' apply And.intro) <;> first | rfl | omega | trivial)
          · have hjw : j = wid c := by
              rcases Nat.lt_or_ge j (wid c) with h4 | h4
              · exfalso
                have h5 := enc_cont hc hj1 h4
                have h6 : s.getD ((encs pre).length + j) 0 = (enc c).getD j 0 := by
                  rw [hse]; exact getD_mid (by rw [hcl]; exact h4)
                rw [h6] at h3
                omega
              · omega
            subst hjw
            simp (disch := omega) only [goRules, coreRules, tiRules, unRules, AS_of_eq, ← decide_not, N0, N1, N2, N3, N4, N5, Z0, Z1, Z2, Z3, Z4, Z5, Z6, Z7, Z8, Z9, Z10, Zc, ↓reduceIte, reduceCtorEq, wrap_i64, wrap_i64]
            refine hlast _ rfl ?_
            refine weak_go [] [] ?_
            simp only [goRules, coreRules, tiRules, unRules, AS_of_eq, ← decide_not, N0, N1, N2, N3, N4, N5, Z0, Z1, Z2, Z3, Z4, Z5, Z6, Z7, Z8, Z9, Z10, Zc, ↓reduceIte, reduceCtorEq] <;> ((repeat' apply And.intro) <;> first | rfl | omega | trivial)
        · have hjw : j = wid c := by omega
          subst hjw
          simp (disch := omega) only [goRules, coreRules, tiRules, unRules, AS_of_eq, ← decide_not, N0, N1, N2, N3, N4, N5, Z0, Z1, Z2, Z3, Z4, Z5, Z6, Z7, Z8, Z9, Z10, Zc, ↓reduceIte, reduceCtorEq, wrap_i64, wrap_i64, h2]
          refine hlast _ rfl ?_
          refine weak_go [] [] ?_
          simp only [goRules, coreRules, tiRules, unRules, AS_of_eq, ← decide_not, N0, N1, N2, N3, N4, N5, Z0, Z1, Z2, Z3, Z4, Z5, Z6, Z7, Z8, Z9, Z10, Zc, ↓reduceIte, reduceCtorEq] <;> ((repeat' apply And.intro) <;> first | rfl | omega | trivial)
  · simp only [goRules, coreRules, tiRules, unRules, AS_of_eq, ← decide_not, N0, N1, N2, N3, N4, N5, Z0, Z1, Z2, Z3, Z4, Z5, Z6, Z7, Z8, Z9, Z10, Zc, ↓reduceIte, reduceCtorEq]
    refine call_valid (by simp [get_cons]) hs ?_
    simp only [goRules, coreRules, tiRules, unRules, AS_of_eq, ← decide_not, N0, N1, N2, N3, N4, N5, Z0, Z1, Z2, Z3, Z4, Z5, Z6, Z7, Z8, Z9, Z10, Zc, ↓reduceIte, reduceCtorEq]
    rcases opt_cases (pts s) with hp | ⟨cs, hp⟩
    · simp only [goRules, coreRules, tiRules, unRules, AS_of_eq, ← decide_not, N0, N1, N2, N3, N4, N5, Z0, Z1, Z2, Z3, Z4, Z5, Z6, Z7, Z8, Z9, Z10, Zc, ↓reduceIte, reduceCtorEq, hp, Option.isSome_none]
      unfold countR
      rw [hp]; rfl
    · simp only [goRules, coreRules, tiRules, unRules, AS_of_eq, ← decide_not, N0, N1, N2, N3, N4, N5, Z0, Z1, Z2, Z3, Z4, Z5, Z6, Z7, Z8, Z9, Z10, Zc, ↓reduceIte, reduceCtorEq, hp, Option.isSome_some]
      refine ⟨⟨([], cs), hp⟩, ?_⟩
      rw [hSt]; refine weak_go [] [] ?_
      simp only [goRules, coreRules, tiRules, unRules, AS_of_eq, ← decide_not, N0, N1, N2, N3, N4, N5, Z0, Z1, Z2, Z3, Z4, Z5, Z6, Z7, Z8, Z9, Z10, Zc, ↓reduceIte, reduceCtorEq]
      rfl
end Go.Proofs
end
