/-
  The document's normal form.
-/
import Derived.Test.YtmenbocckhbdjaaDoorXAUo3
set_option linter.unusedSimpArgs false
set_option linter.unusedVariables false
set_option linter.defProp false

-- AUo4
section
namespace Go.Proofs
open Go Go.Rw
open _root_.Nat renaming reduceAdd → N0, reduceSub → N1, reduceMul → N2, reduceLT → N3, reduceLeDiff → N4, reduceEqDiff → N5
open _root_.Int renaming reduceNeg → Z0, reduceAdd → Z1, reduceSub → Z2, reduceMul → Z3, reduceGT → Z4, reduceGE → Z5, reduceLT → Z6, reduceLE → Z7, reduceEq → Z8, reduceNe → Z9, reduceToNat → Z10, cast_ofNat_Int → Zc
set_option maxRecDepth 100000
set_option linter.unusedSimpArgs false
set_option linter.unusedVariables false

def heldI (a b : Int) : Int := min (min (max a 0) 1099511627776 + min (max b 0) 1099511627776) 1099511627776
theorem heldI_eq {a b : Int} (ha : 0 ≤ a ∧ a ≤ 1099511627776) : heldI a b = addI a (max b 0) := by unfold heldI addI; omega
theorem addI_zero {a : Int} (ha : 0 ≤ a ∧ a ≤ 1099511627776) {b : Int} (hb : b ≤ 0) : addI a (max b 0) = a := by unfold addI; omega
abbrev heldCon : Con where
  ι := I64 × I64
  args := fun p => [.v (.int .i64 p.1.1), .v (.int .i64 p.2.1)]
  post := fun p r => r = .v (.int .i64 (heldI p.1.1 p.2.1))
  plain := true
theorem held_good : Rw.Good Tryd.prog 83 heldCon := by
  have hΓ : GoodEnv Tryd.prog [] := goodEnv_nil
  refine good_fn (nn := 15) hΓ Tryd.func83 (by kernel_rfl) rfl (show Tryd.f83.results.toList = [.tmp 4] from rfl) (fun _ => rfl) (fun _ => rfl) ?_
  rintro ⟨⟨a, ha1, ha2⟩, ⟨b, hb1, hb2⟩⟩
  simp (disch := omega) only [goRules, coreRules, tiRules, unRules, AS_of_eq, ← decide_not, N0, N1, N2, N3, N4, N5, Z0, Z1, Z2, Z3, Z4, Z5, Z6, Z7, Z8, Z9, Z10, Zc, ↓reduceIte, reduceCtorEq, wrap_i64, max2_int, min2_int]
  unfold heldI
  rfl
theorem call_held {Γ : Env} (hf : Γ.get 83 = some heldCon) {σ : AS} {dr : Bool} {a b : Int} {d : Option Nat} {K : AS → Prop} (ha : 0 ≤ a ∧ a ≤ 1099511627776) (hb : -9223372036854775808 ≤ b ∧ b ≤ 9223372036854775807)
    (hk : cont σ d (.v (.int .i64 (addI a (max b 0)))) K) : vcCall Tryd.prog Γ dr σ 83 [.v (.int .i64 a), .v (.int .i64 b)] d K :=
  vcCall_plain (C := heldCon) (i := (⟨a, by omega, by omega⟩, ⟨b, hb⟩)) hf rfl rfl rfl rfl (fun _ h => h) rfl (by rw [heldI_eq ha]; exact hk)

abbrev RSt (l : List Cp) := { p : (List Cp × Nat) × ((Int × List UInt8) × Int) // (p.1.2 ≤ l.length ∧ (0 ≤ p.2.1.1 ∧ p.2.1.1 ≤ 1099511627776) ∧ (0 ≤ p.2.2 ∧ p.2.2 ≤ 1099511627776) ∧ p.2.1.2.length + tot (l.drop p.1.2) ≤ 1099511627776 ∧ p.1.1 ++ nfF p.2.1.1 p.2.1.2 p.2.2 (l.drop p.1.2) = nf l) ∨ (p.1.2 = l.length + 1 ∧ p.1.1 = nf l) }
theorem rnorm_good : Rw.Good Tryd.prog 63 normCon := by
  have hΓ : GoodEnv Tryd.prog [(83, heldCon)] := (goodEnv_cons held_good goodEnv_nil)
  refine good_fn (nn := 117) hΓ Tryd.func63 (by kernel_rfl) rfl (show Tryd.f63.results.toList = [.tmp 2] from rfl) (fun _ => rfl) (fun _ => rfl) ?_
  rintro ⟨l, hl, htot, hc⟩
  have hlen := (nfF_ok l 0 [] 0 (by omega) (by omega)).1
  simp only [goRules, coreRules, tiRules, unRules, AS_of_eq, ← decide_not, N0, N1, N2, N3, N4, N5, Z0, Z1, Z2, Z3, Z4, Z5, Z6, Z7, Z8, Z9, Z10, Zc, ↓reduceIte, reduceCtorEq, comps_len]
  obtain ⟨St, hSt⟩ : ∃ St : RSt l → AS, ∀ p, St p = AS.of 117 [(0, .sl 0 3 (comps l)), (3, .sl 2 3 (comps p.1.1.1)), (4, .v (.int .i64 p.1.2.1.1)), (5, .v (.int .i64 p.1.2.2)), (6, .v (sv p.1.2.1.2)), (7, .v (.int .i64 p.1.1.2))] [] [(p.1.1.1.length, 32)] := ⟨_, fun _ => rfl⟩
  refine vc_loop hΓ St (fun p => l.length + 1 - p.1.1.2) ⟨(([], 0), ((0, []), 0)), .inl ⟨by simp, by simp, by simp, by simpa using htot, rfl⟩⟩ (by rw [hSt]; refine weak_go [] [.nil 3] ?_; simp only [goRules, coreRules, tiRules, unRules, AS_of_eq, ← decide_not, N0, N1, N2, N3, N4, N5, Z0, Z1, Z2, Z3, Z4, Z5, Z6, Z7, Z8, Z9, Z10, Zc, ↓reduceIte, reduceCtorEq, comps_nil] <;> ((repeat' apply And.intro) <;> first | rfl | omega | trivial)) ?_
  rintro ⟨⟨⟨out, i⟩, ⟨⟨k, t⟩, g⟩⟩, ⟨hi, hk, hg, ht, hn⟩ | ⟨hi, hn⟩⟩
  · simp only at hi hk hg ht hn
    have hout : out.length ≤ 4000000000000 := by
      have := congrArg List.length hn
      rw [List.length_append] at this
      unfold nf at this
      omega
    rw [hSt]
    simp only
    by_cases hlt : i < l.length
    · have e1 := comps_getD l hlt
      have hci := okL.text ⟨hl, htot, hc⟩ (List.getElem_mem hlt)
      have hcn := hc l[i] (List.getElem_mem hlt)
      have hpos : someC l[i] = true → ¬ l[i].k = 2 → 0 < l[i].n := some_pos
      have hd2 := ht
      rw [List.drop_eq_getElem_cons hlt] at hn hd2
      simp only [tot] at hd2
      have again : ∀ (σ : AS) (out2 : List Cp) (k2 : Int) (t2 : List UInt8) (g2 : Int), Weak σ (AS.of 117 [(0, .sl 0 3 (comps l)), (3, .sl 2 3 (comps out2)), (4, .v (.int .i64 k2)), (5, .v (.int .i64 g2)), (6, .v (sv t2)), (7, .v (.int .i64 (i + 1 : Nat)))] [] [(out2.length, 32)]) →
          (0 ≤ k2 ∧ k2 ≤ 1099511627776) → (0 ≤ g2 ∧ g2 ≤ 1099511627776) → t2.length + tot (l.drop (i + 1)) ≤ 1099511627776 → out2 ++ nfF k2 t2 g2 (l.drop (i + 1)) = nf l →
          ∃ y : RSt l, l.length + 1 - y.1.1.2 < l.length + 1 - i ∧ Weak σ (St y) := fun σ out2 k2 t2 g2 hw h1 h2 h3 h4 =>
        ⟨⟨((out2, i + 1), ((k2, t2), g2)), .inl ⟨by simp only; omega, h1, h2, h3, h4⟩⟩, by simp only; omega, by rw [hSt]; exact hw⟩
      have hI : (i : Int) < l.length := by omega
      generalize l[i] = c at *
      obtain ⟨ck, cn, ct⟩ := c
      simp only at hci hcn hpos hd2 e1
      simp (disch := omega) only [goRules, coreRules, tiRules, unRules, AS_of_eq, ← decide_not, N0, N1, N2, N3, N4, N5, Z0, Z1, Z2, Z3, Z4, Z5, Z6, Z7, Z8, Z9, Z10, Zc, ↓reduceIte, reduceCtorEq, wrap_i64, e1, comps_len, show ((i : Int) ≤ l.length) by omega, show ((i : Int) < l.length) by omega]
      (repeat (with_reducible refine And.intro ?_ ?_; focus (first | omega | exact mixed1 | kernel_rfl)))
      (with_reducible first | refine branchP_dec (fun q1 => ?_) (fun q1 => ?_) | refine guardB_dec (fun q1 => ?_) (fun q1 => ?_))
      · simp (disch := omega) only [goRules, coreRules, tiRules, unRules, AS_of_eq, ← decide_not, N0, N1, N2, N3, N4, N5, Z0, Z1, Z2, Z3, Z4, Z5, Z6, Z7, Z8, Z9, Z10, Zc, ↓reduceIte, reduceCtorEq, wrap_i64, q1, comps_len, e1, hI]
        (repeat (with_reducible refine And.intro ?_ ?_; focus (first | omega | exact mixed1 | kernel_rfl)))
        cases hs : someC ⟨ck, cn, ct⟩ with
        | false =>
          have he : ct = [] := by
            simp only [someC, if_pos q1] at hs
            simpa using hs
          refine again _ out k (t ++ ct) g ?_ hk hg (by rw [List.length_append]; omega) (by rw [← hn, nf_no hs, he, List.append_nil])
          refine weak_go [] [.live 2] ?_
          simp only [goRules, coreRules, tiRules, unRules, AS_of_eq, ← decide_not, N0, N1, N2, N3, N4, N5, Z0, Z1, Z2, Z3, Z4, Z5, Z6, Z7, Z8, Z9, Z10, Zc, ↓reduceIte, reduceCtorEq, comps_len] <;> ((repeat' apply And.intro) <;> first | rfl | omega | trivial)
        | true =>
          refine again _ out k (t ++ ct) g ?_ hk hg (by rw [List.length_append]; omega) (by rw [← hn, nf_text hs q1])
          refine weak_go [] [.live 2] ?_
          simp only [goRules, coreRules, tiRules, unRules, AS_of_eq, ← decide_not, N0, N1, N2, N3, N4, N5, Z0, Z1, Z2, Z3, Z4, Z5, Z6, Z7, Z8, Z9, Z10, Zc, ↓reduceIte, reduceCtorEq, comps_len] <;> ((repeat' apply And.intro) <;> first | rfl | omega | trivial)
      · simp (disch := omega) only [goRules, coreRules, tiRules, unRules, AS_of_eq, ← decide_not, N0, N1, N2, N3, N4, N5, Z0, Z1, Z2, Z3, Z4, Z5, Z6, Z7, Z8, Z9, Z10, Zc, ↓reduceIte, reduceCtorEq, wrap_i64, q1, comps_len, e1, hI]
        (repeat (with_reducible refine And.intro ?_ ?_; focus (first | omega | exact mixed1 | kernel_rfl)))
        (with_reducible first | refine branchP_dec (fun q2 => ?_) (fun q2 => ?_) | refine guardB_dec (fun q2 => ?_) (fun q2 => ?_))
        · simp (disch := omega) only [goRules, coreRules, tiRules, unRules, AS_of_eq, ← decide_not, N0, N1, N2, N3, N4, N5, Z0, Z1, Z2, Z3, Z4, Z5, Z6, Z7, Z8, Z9, Z10, Zc, ↓reduceIte, reduceCtorEq, wrap_i64, q2, comps_len, e1, hI]
          (repeat (with_reducible refine And.intro ?_ ?_; focus (first | omega | exact mixed1 | kernel_rfl)))
          refine call_held (by simp [get_cons]) hg hcn ?_
          simp (disch := omega) only [goRules, coreRules, tiRules, unRules, AS_of_eq, ← decide_not, N0, N1, N2, N3, N4, N5, Z0, Z1, Z2, Z3, Z4, Z5, Z6, Z7, Z8, Z9, Z10, Zc, ↓reduceIte, reduceCtorEq, wrap_i64]
          have hm := addI_range hg.1 (show 0 ≤ max cn 0 by omega)
          cases hs : someC ⟨ck, cn, ct⟩ with
          | false =>
            have he : cn ≤ 0 := by
              simp only [someC, if_neg q1] at hs
              simpa [q2] using hs
            refine again _ out k t (addI g (max cn 0)) ?_ hk hm (by omega) (by rw [← hn, nf_no hs, addI_zero hg he])
            refine weak_go [] [.live 2] ?_
            simp only [goRules, coreRules, tiRules, unRules, AS_of_eq, ← decide_not, N0, N1, N2, N3, N4, N5, Z0, Z1, Z2, Z3, Z4, Z5, Z6, Z7, Z8, Z9, Z10, Zc, ↓reduceIte, reduceCtorEq, comps_len] <;> ((repeat' apply And.intro) <;> first | rfl | omega | trivial)
          | true =>
            have hp := hpos hs q1
            refine again _ out k t (addI g (max cn 0)) ?_ hk hm (by omega) (by rw [← hn, nf_gone hs q2, show max cn 0 = cn by omega])
            refine weak_go [] [.live 2] ?_
            simp only [goRules, coreRules, tiRules, unRules, AS_of_eq, ← decide_not, N0, N1, N2, N3, N4, N5, Z0, Z1, Z2, Z3, Z4, Z5, Z6, Z7, Z8, Z9, Z10, Zc, ↓reduceIte, reduceCtorEq, comps_len] <;> ((repeat' apply And.intro) <;> first | rfl | omega | trivial)
        · simp (disch := omega) only [goRules, coreRules, tiRules, unRules, AS_of_eq, ← decide_not, N0, N1, N2, N3, N4, N5, Z0, Z1, Z2, Z3, Z4, Z5, Z6, Z7, Z8, Z9, Z10, Zc, ↓reduceIte, reduceCtorEq, wrap_i64, q2, comps_len, e1, hI]
          (repeat (with_reducible refine And.intro ?_ ?_; focus (first | omega | exact mixed1 | kernel_rfl)))
          cases hs : someC ⟨ck, cn, ct⟩ with
          | false =>
            have he : ¬ ck = 1 ∨ cn < 1 := by
              simp only [someC, if_neg q1] at hs
              simp [q2] at hs
              omega
            have fin : ∀ σ : AS, Weak σ (AS.of 117 [(0, .sl 0 3 (comps l)), (3, .sl 2 3 (comps out)), (4, .v (.int .i64 k)), (5, .v (.int .i64 g)), (6, .v (sv t)), (7, .v (.int .i64 (i + 1 : Nat)))] [] [(out.length, 32)]) → ∃ y : RSt l, l.length + 1 - y.1.1.2 < l.length + 1 - i ∧ Weak σ (St y) := fun σ hw => again σ out k t g hw hk hg (by omega) (by rw [← hn, nf_no hs])
            by_cases q3 : ck = 1
            · simp (disch := omega) only [goRules, coreRules, tiRules, unRules, AS_of_eq, ← decide_not, N0, N1, N2, N3, N4, N5, Z0, Z1, Z2, Z3, Z4, Z5, Z6, Z7, Z8, Z9, Z10, Zc, ↓reduceIte, reduceCtorEq, wrap_i64, e1, comps_len, hI, q3, show cn < 1 by omega]
              (repeat (with_reducible refine And.intro ?_ ?_; focus (first | omega | exact mixed1 | kernel_rfl)))
              refine fin _ ?_
              refine weak_go [] [.live 2] ?_
              simp only [goRules, coreRules, tiRules, unRules, AS_of_eq, ← decide_not, N0, N1, N2, N3, N4, N5, Z0, Z1, Z2, Z3, Z4, Z5, Z6, Z7, Z8, Z9, Z10, Zc, ↓reduceIte, reduceCtorEq, comps_len] <;> ((repeat' apply And.intro) <;> first | rfl | omega | trivial)
            · simp (disch := omega) only [goRules, coreRules, tiRules, unRules, AS_of_eq, ← decide_not, N0, N1, N2, N3, N4, N5, Z0, Z1, Z2, Z3, Z4, Z5, Z6, Z7, Z8, Z9, Z10, Zc, ↓reduceIte, reduceCtorEq, wrap_i64, q3, comps_len, e1, hI]
              refine fin _ ?_
              refine weak_go [] [.live 2] ?_
              simp only [goRules, coreRules, tiRules, unRules, AS_of_eq, ← decide_not, N0, N1, N2, N3, N4, N5, Z0, Z1, Z2, Z3, Z4, Z5, Z6, Z7, Z8, Z9, Z10, Zc, ↓reduceIte, reduceCtorEq, comps_len] <;> ((repeat' apply And.intro) <;> first | rfl | omega | trivial)
          | true =>
            have hp := hpos hs q1
            have q3 : ck = 1 := by
              simp only [someC, if_neg q1] at hs
              simp [q2] at hs
              omega
            have q4 : ¬ cn < 1 := by omega
            have q5 : ¬ (i : Int) = l.length := by omega
            have hmx : max cn 0 = cn := by omega
            by_cases h4 : t ≠ [] ∨ g > 0
            · by_cases a1 : k > 0 <;> by_cases a2 : t = [] <;> by_cases a3 : g > 0
              all_goals try (exfalso; rcases h4 with h4 | h4 <;> contradiction)
              all_goals
                have hP : putL k t g = (if k > 0 then [⟨1, k, []⟩] else []) ++ ((if t ≠ [] then [⟨2, 0, t⟩] else []) ++ (if g > 0 then [⟨3, g, []⟩] else [])) := rfl
                simp (disch := omega) only [goRules, coreRules, tiRules, unRules, AS_of_eq, ← decide_not, N0, N1, N2, N3, N4, N5, Z0, Z1, Z2, Z3, Z4, Z5, Z6, Z7, Z8, Z9, Z10, Zc, ↓reduceIte, reduceCtorEq, wrap_i64, e1, comps_len, hI, q3, q4, q5, a1, a2, a3, comps_snoc, List.append_assoc, List.length_append, List.map_cons, List.map_nil]
                (repeat (with_reducible refine And.intro ?_ ?_; focus (first | omega | exact mixed1 | kernel_rfl)))
                try (refine call_held (by simp [get_cons]) ⟨by omega, by omega⟩ hcn ?_)
                simp (disch := omega) only [goRules, coreRules, tiRules, unRules, AS_of_eq, ← decide_not, N0, N1, N2, N3, N4, N5, Z0, Z1, Z2, Z3, Z4, Z5, Z6, Z7, Z8, Z9, Z10, Zc, ↓reduceIte, reduceCtorEq, wrap_i64]
                refine again _ (out ++ putL k t g) (addI 0 (max cn 0)) [] 0 ?_ (addI_range (by omega) (by omega)) (by omega) (by rw [List.length_nil]; omega) (by rw [← hn, nf_put hs q1 q2 h4, List.append_assoc, hmx])
                rw [hP]
                refine weak_go [] [.live 2] ?_
                simp only [goRules, coreRules, tiRules, unRules, AS_of_eq, ← decide_not, N0, N1, N2, N3, N4, N5, Z0, Z1, Z2, Z3, Z4, Z5, Z6, Z7, Z8, Z9, Z10, Zc, ↓reduceIte, reduceCtorEq, comps_len, a1, a2, a3, List.length_append, List.append_assoc, not_true, not_false_iff] <;> ((repeat' apply And.intro) <;> first | rfl | omega | trivial)
            · have h5 : t = [] := Classical.byContradiction fun h => h4 (.inl h)
              have h6 : ¬ g > 0 := fun h => h4 (.inr h)
              simp (disch := omega) only [goRules, coreRules, tiRules, unRules, AS_of_eq, ← decide_not, N0, N1, N2, N3, N4, N5, Z0, Z1, Z2, Z3, Z4, Z5, Z6, Z7, Z8, Z9, Z10, Zc, ↓reduceIte, reduceCtorEq, wrap_i64, e1, comps_len, hI, q3, q4, q5, h5, h6]
              (repeat (with_reducible refine And.intro ?_ ?_; focus (first | omega | exact mixed1 | kernel_rfl)))
              refine call_held (by simp [get_cons]) hk hcn ?_
              simp (disch := omega) only [goRules, coreRules, tiRules, unRules, AS_of_eq, ← decide_not, N0, N1, N2, N3, N4, N5, Z0, Z1, Z2, Z3, Z4, Z5, Z6, Z7, Z8, Z9, Z10, Zc, ↓reduceIte, reduceCtorEq, wrap_i64]
              refine again _ out (addI k (max cn 0)) t g ?_ (addI_range hk.1 (by omega)) hg (by omega) (by rw [← hn, nf_keep hs q1 q2 h4, hmx])
              refine weak_go [] [.live 2] ?_
              simp only [goRules, coreRules, tiRules, unRules, AS_of_eq, ← decide_not, N0, N1, N2, N3, N4, N5, Z0, Z1, Z2, Z3, Z4, Z5, Z6, Z7, Z8, Z9, Z10, Zc, ↓reduceIte, reduceCtorEq, comps_len, h5] <;> ((repeat' apply And.intro) <;> first | rfl | omega | trivial)
    · have hiE : i = l.length := by omega
      have hI : ¬ (i : Int) < l.length := by omega
      have hI2 : (i : Int) ≤ l.length := by omega
      have hI3 : (i : Int) = l.length := by omega
      rw [List.drop_of_length_le (by omega), nfF] at hn
      rw [List.drop_of_length_le (by omega)] at ht
      simp only [tot] at ht
      have again : ∀ (σ : AS) (k2 : Int) (t2 : List UInt8) (g2 : Int), Weak σ (AS.of 117 [(0, .sl 0 3 (comps l)), (3, .sl 2 3 (comps (out ++ putL k t g))), (4, .v (.int .i64 k2)), (5, .v (.int .i64 g2)), (6, .v (sv t2)), (7, .v (.int .i64 (i + 1 : Nat)))] [] [((out ++ putL k t g).length, 32)]) →
          ∃ y : RSt l, l.length + 1 - y.1.1.2 < l.length + 1 - i ∧ Weak σ (St y) := fun σ k2 t2 g2 hw =>
        ⟨⟨((out ++ putL k t g, i + 1), ((k2, t2), g2)), .inr ⟨by simp only; omega, hn⟩⟩, by simp only; omega, by rw [hSt]; exact hw⟩
      by_cases a1 : k > 0 <;> by_cases a2 : t = [] <;> by_cases a3 : g > 0
      all_goals
        have hP : putL k t g = (if k > 0 then [⟨1, k, []⟩] else []) ++ ((if t ≠ [] then [⟨2, 0, t⟩] else []) ++ (if g > 0 then [⟨3, g, []⟩] else [])) := rfl
        simp (disch := omega) only [goRules, coreRules, tiRules, unRules, AS_of_eq, ← decide_not, N0, N1, N2, N3, N4, N5, Z0, Z1, Z2, Z3, Z4, Z5, Z6, Z7, Z8, Z9, Z10, Zc, ↓reduceIte, reduceCtorEq, wrap_i64, comps_len, hI, hI2, hI3, Int.le_refl, Int.lt_irrefl, a1, a2, a3, comps_snoc, List.append_assoc, List.length_append, List.map_cons, List.map_nil]
        (repeat (with_reducible refine And.intro ?_ ?_; focus (first | omega | exact mixed1 | kernel_rfl)))
        refine again _ 0 [] 0 ?_
        rw [hP]
        refine weak_go [] [.live 2] ?_
        simp only [goRules, coreRules, tiRules, unRules, AS_of_eq, ← decide_not, N0, N1, N2, N3, N4, N5, Z0, Z1, Z2, Z3, Z4, Z5, Z6, Z7, Z8, Z9, Z10, Zc, ↓reduceIte, reduceCtorEq, comps_len, a1, a2, a3, hiE, List.length_append, List.append_assoc, not_true, not_false_iff] <;> ((repeat' apply And.intro) <;> first | rfl | omega | trivial)
  · simp only at hi hn
    subst hn
    rw [hSt]
    simp only
    have hI2 : ¬ (i : Int) ≤ l.length := by omega
    simp (disch := omega) only [goRules, coreRules, tiRules, unRules, AS_of_eq, ← decide_not, N0, N1, N2, N3, N4, N5, Z0, Z1, Z2, Z3, Z4, Z5, Z6, Z7, Z8, Z9, Z10, Zc, ↓reduceIte, reduceCtorEq, wrap_i64, comps_len, hI2]
end Go.Proofs
end
