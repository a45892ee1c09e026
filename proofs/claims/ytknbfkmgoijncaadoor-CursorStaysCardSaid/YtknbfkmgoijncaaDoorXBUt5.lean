/-
  The reference's texts; numbers turned into bounds; rows of numbers held against each other.
-/
import Derived.Test.YtknbfkmgoijncaaDoorXBUt4
set_option linter.unusedSimpArgs false
set_option linter.unusedVariables false
set_option linter.defProp false

-- BUt5
section
namespace Go.Proofs
open Go Go.Rw
open _root_.Nat renaming reduceAdd → N0, reduceSub → N1, reduceMul → N2, reduceLT → N3, reduceLeDiff → N4, reduceEqDiff → N5
open _root_.Int renaming reduceNeg → Z0, reduceAdd → Z1, reduceSub → Z2, reduceMul → Z3, reduceGT → Z4, reduceGE → Z5, reduceLT → Z6, reduceLE → Z7, reduceEq → Z8, reduceNe → Z9, reduceToNat → Z10, cast_ofNat_Int → Zc
set_option maxRecDepth 100000
set_option linter.unusedSimpArgs false
set_option linter.unusedVariables false

theorem pntR_plain (l : List UInt8) (i : Nat) : (pntR l i).plain = true := rfl
theorem call_point {Γ : Env} (hf : Γ.get 53 = some pntCon) {σ : AS} {dr : Bool} {l : List UInt8} {i : Nat} {d : Option Nat} {K : AS → Prop} (h : l.length ≤ 1099511627776) (hi : i < l.length)
    (hk : cont σ d (pntR l i) K) : vcCall Tryd.prog Γ dr σ 53 [.v (sv l), .v (.int .i64 i)] d K :=
  vcCall_plain (C := pntCon) (i := ⟨(⟨l, h⟩, i), hi⟩) hf rfl rfl rfl rfl (fun _ h => h) (pntR_plain l i) hk

theorem pnt_len {l : List UInt8} (hne : l ≠ []) : (pnt l).2 ≤ l.length := by
  by_cases h : (pnt l).2 = 0
  · omega
  · obtain ⟨_, h2, h3⟩ := pnt_some hne h
    have h4 := congrArg List.length h3
    rw [List.length_append, List.length_drop, enc_len] at h4
    omega
theorem drop_ne {l : List UInt8} {i : Nat} (h : i < l.length) : l.drop i ≠ [] := by
  intro e
  have this := congrArg List.length e
  rw [List.length_drop, List.length_nil] at this; omega
theorem pnt_small (l : List UInt8) : (pnt l).1 ≤ 1114111 ∧ (pnt l).2 ≤ 4 := by
  by_cases hl : l = []
  · subst hl; exact ⟨by decide +kernel, by decide +kernel⟩
  · by_cases h : (pnt l).2 = 0
    · unfold pnt at h ⊢
      split
      · simp
      · rename_i hn
        rw [if_neg hn] at h
        have := Lib.decodeL_width l
        omega
    · obtain ⟨h1, h2, _⟩ := pnt_some hl h
      have := wid_le (pnt l).1
      exact ⟨h1.2.1, by omega⟩

def rpointsR (l : List UInt8) : AV := match pts l with
  | some cs => .tup [.sl 0 1 (nats cs), .v (.bool true)]
  | none => .tup [.sl 0 1 [], .v (.bool false)]
abbrev rpointsCon : Con where
  ι := Str
  args := fun s => [.v (sv s.1)]
  post := fun s r => r = rpointsR s.1
theorem rpoints_good : Rw.Good Tryd.prog 38 rpointsCon := by
  have hΓ : GoodEnv Tryd.prog [(53, pntCon)] := (goodEnv_cons point_good goodEnv_nil)
  refine good_fn (nn := 28) hΓ Tryd.func38 (by kernel_rfl) rfl (show Tryd.f38.results.toList = [.tmp 2, .tmp 3] from rfl) (fun _ => rfl) (fun _ => rfl) ?_
  rintro ⟨s, hs⟩
  simp only [goRules, coreRules, tiRules, unRules, AS_of_eq, ← decide_not, N0, N1, N2, N3, N4, N5, Z0, Z1, Z2, Z3, Z4, Z5, Z6, Z7, Z8, Z9, Z10, Zc, ↓reduceIte, reduceCtorEq]
  obtain ⟨St, hSt⟩ : ∃ St : { p : List Nat × Nat // p.2 ≤ s.length ∧ p.1.length ≤ p.2 ∧ pts s = (pts (s.drop p.2)).map (p.1 ++ ·) } → AS, ∀ p, St p = AS.of 28 [(0, .v (sv s)), (4, .sl 2 1 (nats p.1.1)), (5, .v (.int .i64 p.1.2))] [] [(p.1.1.length, 3)] := ⟨_, fun _ => rfl⟩
  refine vc_loop hΓ St (fun p => s.length - p.1.2) ⟨([], 0), by omega, by simp, by simp⟩ (by rw [hSt]; refine weak_go [] [.nil 1] ?_; simp only [goRules, coreRules, tiRules, unRules, AS_of_eq, ← decide_not, N0, N1, N2, N3, N4, N5, Z0, Z1, Z2, Z3, Z4, Z5, Z6, Z7, Z8, Z9, Z10, Zc, ↓reduceIte, reduceCtorEq, nats_nil] <;> ((repeat' apply And.intro) <;> first | rfl | omega | trivial)) ?_
  rintro ⟨⟨cs, i⟩, hi, hci, hp⟩
  simp only at hi hci hp
  rw [hSt]
  simp only
  simp only [goRules, coreRules, tiRules, unRules, AS_of_eq, ← decide_not, N0, N1, N2, N3, N4, N5, Z0, Z1, Z2, Z3, Z4, Z5, Z6, Z7, Z8, Z9, Z10, Zc, ↓reduceIte, reduceCtorEq]
  (with_reducible first | refine branchP_dec (fun h => ?_) (fun h => ?_) | refine guardB_dec (fun h => ?_) (fun h => ?_))
  · simp only [goRules, coreRules, tiRules, unRules, AS_of_eq, ← decide_not, N0, N1, N2, N3, N4, N5, Z0, Z1, Z2, Z3, Z4, Z5, Z6, Z7, Z8, Z9, Z10, Zc, ↓reduceIte, reduceCtorEq, h]
    have hlt : i < s.length := by omega
    refine call_point (by simp [get_cons]) hs hlt ?_
    have hne := drop_ne hlt
    have hsm := pnt_small (s.drop i)
    have hpl := pnt_len hne
    rw [List.length_drop] at hpl
    rw [pts_step hne] at hp
    unfold pntR
    generalize hq : pnt (s.drop i) = q at *
    obtain ⟨c, n⟩ := q
    simp only at hsm hp hpl
    simp only [goRules, coreRules, tiRules, unRules, AS_of_eq, ← decide_not, N0, N1, N2, N3, N4, N5, Z0, Z1, Z2, Z3, Z4, Z5, Z6, Z7, Z8, Z9, Z10, Zc, ↓reduceIte, reduceCtorEq]
    (with_reducible first | refine branchP_dec (fun h2 => ?_) (fun h2 => ?_) | refine guardB_dec (fun h2 => ?_) (fun h2 => ?_))
    · simp only [goRules, coreRules, tiRules, unRules, AS_of_eq, ← decide_not, N0, N1, N2, N3, N4, N5, Z0, Z1, Z2, Z3, Z4, Z5, Z6, Z7, Z8, Z9, Z10, Zc, ↓reduceIte, reduceCtorEq, h2]
      unfold rpointsR
      rw [hp, if_pos (by omega)]; rfl
    · rw [if_neg (by omega), List.drop_drop] at hp
      simp (disch := omega) only [goRules, coreRules, tiRules, unRules, AS_of_eq, ← decide_not, N0, N1, N2, N3, N4, N5, Z0, Z1, Z2, Z3, Z4, Z5, Z6, Z7, Z8, Z9, Z10, Zc, ↓reduceIte, reduceCtorEq, wrap_i64, h2, nats_len]
      refine ⟨by omega, by omega, weak_again ⟨(cs ++ [c], i + n), by omega, by simp; omega, ?_⟩ (by simp only; omega) ?_⟩
      · rw [hp, Option.map_map]
        congr 1
        funext x; simp
      · rw [hSt]; refine weak_go [] [.live 2] ?_
        simp only [goRules, coreRules, tiRules, unRules, AS_of_eq, ← decide_not, N0, N1, N2, N3, N4, N5, Z0, Z1, Z2, Z3, Z4, Z5, Z6, Z7, Z8, Z9, Z10, Zc, ↓reduceIte, reduceCtorEq, nats_snoc, List.length_append] <;> ((repeat' apply And.intro) <;> first | rfl | omega | trivial)
  · simp only [goRules, coreRules, tiRules, unRules, AS_of_eq, ← decide_not, N0, N1, N2, N3, N4, N5, Z0, Z1, Z2, Z3, Z4, Z5, Z6, Z7, Z8, Z9, Z10, Zc, ↓reduceIte, reduceCtorEq, h]
    rw [List.drop_of_length_le (by omega), pts_nil] at hp
    unfold rpointsR
    rw [hp]; simp

def rvalidR (l : List UInt8) : AV := .v (.bool (pts l).isSome)
theorem call_rpoints {Γ : Env} (hf : Γ.get 38 = some rpointsCon) {σ : AS} {dr : Bool} {l : List UInt8} {d : Option Nat} {K : AS → Prop} (h : l.length ≤ 1099511627776)
    (hk : cont σ d (rpointsR l) K) : vcCall Tryd.prog Γ dr σ 38 [.v (sv l)] d K :=
  vcCall_fn (C := rpointsCon) (i := ⟨l, h⟩) (r := rpointsR l) hf rfl rfl rfl rfl (fun _ h => h) (by
    have : (rpointsR l).er = rpointsR l := by unfold rpointsR; split <;> rfl
    rw [this]; exact hk)
theorem rvalid_good : Rw.Good Tryd.prog 11 validCon := by
  have hΓ : GoodEnv Tryd.prog [(38, rpointsCon)] := (goodEnv_cons rpoints_good goodEnv_nil)
  refine good_fn (nn := 11) hΓ Tryd.func11 (by kernel_rfl) rfl (show Tryd.f11.results.toList = [.tmp 2] from rfl) (fun _ => rfl) (fun _ => rfl) ?_
  rintro ⟨s, hs⟩
  simp only [goRules, coreRules, tiRules, unRules, AS_of_eq, ← decide_not, N0, N1, N2, N3, N4, N5, Z0, Z1, Z2, Z3, Z4, Z5, Z6, Z7, Z8, Z9, Z10, Zc, ↓reduceIte, reduceCtorEq]
  refine call_rpoints (by simp [get_cons]) hs ?_
  rcases opt_cases (pts s) with hp | ⟨cs, hp⟩
  all_goals simp only [goRules, coreRules, tiRules, unRules, AS_of_eq, ← decide_not, N0, N1, N2, N3, N4, N5, Z0, Z1, Z2, Z3, Z4, Z5, Z6, Z7, Z8, Z9, Z10, Zc, ↓reduceIte, reduceCtorEq, rpointsR, hp]
  all_goals rfl
theorem call_rvalid {Γ : Env} (hf : Γ.get 11 = some validCon) {σ : AS} {dr : Bool} {l : List UInt8} {d : Option Nat} {K : AS → Prop} (h : l.length ≤ 1099511627776)
    (hk : cont σ d (.v (.bool (pts l).isSome)) K) : vcCall Tryd.prog Γ dr σ 11 [.v (sv l)] d K :=
  vcCall_plain (C := validCon) (i := ⟨l, h⟩) hf rfl rfl rfl rfl (fun _ h => h) rfl hk
def cnt (l : List UInt8) : Nat := match pts l with | some cs => cs.length | none => 0
abbrev rcountCon : Con where
  ι := Str
  args := fun s => [.v (sv s.1)]
  post := fun s r => r = .v (.int .i64 (cnt s.1))
  plain := true
theorem rcount_good : Rw.Good Tryd.prog 13 rcountCon := by
  have hΓ : GoodEnv Tryd.prog [(38, rpointsCon)] := (goodEnv_cons rpoints_good goodEnv_nil)
  refine good_fn (nn := 12) hΓ Tryd.func13 (by kernel_rfl) rfl (show Tryd.f13.results.toList = [.tmp 2] from rfl) (fun _ => rfl) (fun _ => rfl) ?_
  rintro ⟨s, hs⟩
  simp only [goRules, coreRules, tiRules, unRules, AS_of_eq, ← decide_not, N0, N1, N2, N3, N4, N5, Z0, Z1, Z2, Z3, Z4, Z5, Z6, Z7, Z8, Z9, Z10, Zc, ↓reduceIte, reduceCtorEq]
  refine call_rpoints (by simp [get_cons]) hs ?_
  rcases opt_cases (pts s) with hp | ⟨cs, hp⟩
  all_goals simp only [goRules, coreRules, tiRules, unRules, AS_of_eq, ← decide_not, N0, N1, N2, N3, N4, N5, Z0, Z1, Z2, Z3, Z4, Z5, Z6, Z7, Z8, Z9, Z10, Zc, ↓reduceIte, reduceCtorEq, rpointsR, hp, nats_len, cnt] <;> ((repeat' apply And.intro) <;> first | rfl | omega | trivial)
theorem call_rcount {Γ : Env} (hf : Γ.get 13 = some rcountCon) {σ : AS} {dr : Bool} {l : List UInt8} {d : Option Nat} {K : AS → Prop} (h : l.length ≤ 1099511627776)
    (hk : cont σ d (.v (.int .i64 (cnt l))) K) : vcCall Tryd.prog Γ dr σ 13 [.v (sv l)] d K :=
  vcCall_plain (C := rcountCon) (i := ⟨l, h⟩) hf rfl rfl rfl rfl (fun _ h => h) rfl hk

abbrev roundCon : Con where
  ι := I64 × { n : Int // 1 ≤ n ∧ n ≤ 4611686018427387904 }
  args := fun p => [.v (.int .i64 p.1.1), .v (.int .i64 p.2.1)]
  post := fun p r => r = .v (.int .i64 (p.1.1 % p.2.1))
  plain := true
theorem emod_tmod {k n : Int} (h : 1 ≤ n) : k % n = if k.tmod n < 0 then k.tmod n + n else k.tmod n := by
  have h3 := Int.emod_nonneg k (show n ≠ 0 by omega)
  have h4 := Int.emod_lt_of_pos k (show 0 < n by omega)
  have h5 : k.tmod n = k % n - if 0 ≤ k ∨ n ∣ k then 0 else n.natAbs := Int.tmod_eq_emod
  have h6 : (n.natAbs : Int) = n := by omega
  rw [h5]
  by_cases hc : 0 ≤ k ∨ n ∣ k
  · rw [if_pos hc, if_neg (by omega)]; omega
  · rw [if_neg hc, h6, if_pos (by omega)]; omega
theorem round_good : Rw.Good Tryd.prog 17 roundCon := by
  have hΓ : GoodEnv Tryd.prog [] := goodEnv_nil
  refine good_fn (nn := 14) hΓ Tryd.func17 (by kernel_rfl) rfl (show Tryd.f17.results.toList = [.tmp 4] from rfl) (fun _ => rfl) (fun _ => rfl) ?_
  rintro ⟨⟨k, hk1, hk2⟩, ⟨n, hn1, hn2⟩⟩
  simp only
  have h3 := emod_tmod (k := k) hn1
  have h4 := Int.emod_nonneg k (show n ≠ 0 by omega)
  have h5 := Int.emod_lt_of_pos k (show 0 < n by omega)
  simp (disch := omega) only [goRules, coreRules, tiRules, unRules, AS_of_eq, ← decide_not, N0, N1, N2, N3, N4, N5, Z0, Z1, Z2, Z3, Z4, Z5, Z6, Z7, Z8, Z9, Z10, Zc, ↓reduceIte, reduceCtorEq, wrap_i64, show ¬ n = 0 by omega]
  (try ((with_reducible first | refine branchP_dec (fun q1 => ?_) (fun q1 => ?_) | refine guardB_dec (fun q1 => ?_) (fun q1 => ?_)) <;> simp (disch := omega) only [goRules, coreRules, tiRules, unRules, AS_of_eq, ← decide_not, N0, N1, N2, N3, N4, N5, Z0, Z1, Z2, Z3, Z4, Z5, Z6, Z7, Z8, Z9, Z10, Zc, ↓reduceIte, reduceCtorEq, wrap_i64, q1] <;> (with_reducible first | (refine And.intro ?_ ?_; focus (first | omega | exact mixed1 | kernel_rfl)); (repeat (with_reducible refine And.intro ?_ ?_; focus (first | omega | exact mixed1 | kernel_rfl))); (try simp (disch := omega) only [goRules, coreRules, tiRules, unRules, AS_of_eq, ← decide_not, N0, N1, N2, N3, N4, N5, Z0, Z1, Z2, Z3, Z4, Z5, Z6, Z7, Z8, Z9, Z10, Zc, ↓reduceIte, reduceCtorEq, wrap_i64, q1]) | skip) <;> skip))
  all_goals (rw [h3]; first | rw [if_pos (by assumption)] | rw [if_neg (by assumption)])
theorem call_round {Γ : Env} (hf : Γ.get 17 = some roundCon) {σ : AS} {dr : Bool} {k n : Int} {d : Option Nat} {K : AS → Prop} (h1 : -9223372036854775808 ≤ k ∧ k ≤ 9223372036854775807) (h2 : 1 ≤ n ∧ n ≤ 4611686018427387904)
    (hk : cont σ d (.v (.int .i64 (k % n))) K) : vcCall Tryd.prog Γ dr σ 17 [.v (.int .i64 k), .v (.int .i64 n)] d K :=
  vcCall_plain (C := roundCon) (i := (⟨k, h1⟩, ⟨n, h2⟩)) hf rfl rfl rfl rfl (fun _ h => h) rfl hk

abbrev intsCon : Con where
  ι := { p : List Int × List Int // p.1.length ≤ 1099511627776 ∧ p.2.length ≤ 1099511627776 }
  args := fun p => [.sl 0 1 (ints .i64 p.1.1), .sl 0 1 (ints .i64 p.1.2)]
  post := fun p r => r = .v (.bool (decide (p.1.1 = p.1.2)))
  plain := true
theorem mixed1 : Tryd.prog.follows .mixedOrders = true := by kernel_rfl
end Go.Proofs
end
