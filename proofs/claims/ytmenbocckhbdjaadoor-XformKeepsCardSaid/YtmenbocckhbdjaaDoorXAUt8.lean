/-
  The document's Text.
-/
import Derived.Test.YtmenbocckhbdjaaDoorXAUt1
import Derived.Test.YtmenbocckhbdjaaDoorRwF
set_option linter.unusedSimpArgs false
set_option linter.unusedVariables false
set_option linter.defProp false

-- AUt8
section
namespace Go.Proofs
open Go Go.Rw Go.RowKit
open _root_.Nat renaming reduceAdd → N0, reduceSub → N1, reduceMul → N2, reduceLT → N3, reduceLeDiff → N4, reduceEqDiff → N5
open _root_.Int renaming reduceNeg → Z0, reduceAdd → Z1, reduceSub → Z2, reduceMul → Z3, reduceGT → Z4, reduceGE → Z5, reduceLT → Z6, reduceLE → Z7, reduceEq → Z8, reduceNe → Z9, reduceToNat → Z10, cast_ofNat_Int → Zc
set_option maxRecDepth 100000
set_option linter.unusedSimpArgs false
set_option linter.unusedVariables false

abbrev Ints := { l : List Int // l.length ≤ 1099511627776 ∧ ∀ x ∈ l, -9223372036854775808 ≤ x ∧ x ≤ 9223372036854775807 }
def rtextR (l : List Int) : AV := match textN l with
  | some t => .tup [.v (sv t), .v (.bool true)]
  | none => .tup [.v (sv []), .v (.bool false)]
theorem rtextR_plain (l : List Int) : (rtextR l).plain = true := by unfold rtextR; split <;> rfl
abbrev rtextCon : Con where
  ι := Ints
  args := fun l => [.sl 0 1 (ints .i64 l.1)]
  post := fun l r => r = rtextR l.1
  plain := true
theorem andn {n : Int} (h0 : 0 ≤ n) (h1 : n < 9223372036854775808) : IntKind.wrap .i64 ((BitVec.ofInt IntKind.i64.bits n &&& BitVec.ofInt IntKind.i64.bits 63).toNat : Nat) = n % 64 := by
  obtain ⟨m, rfl⟩ := Int.eq_ofNat_of_zero_le h0
  have e : (BitVec.ofInt IntKind.i64.bits (m : Int) &&& BitVec.ofInt IntKind.i64.bits 63).toNat = m % 64 := by
    rw [BitVec.toNat_and]
    have e1 : (BitVec.ofInt IntKind.i64.bits (m : Int)).toNat = m := by
      rw [BitVec.toNat_ofInt]; simp only [IntKind.bits]; omega
    have e2 : (BitVec.ofInt IntKind.i64.bits 63).toNat = 2 ^ 6 - 1 := by decide
    rw [e1, e2, Nat.and_two_pow_sub_one_eq_mod]
  rw [e, wrap_i64 (by omega) (by omega)]; rfl
theorem orn {n : Int} {a b : Nat} (h0 : 0 ≤ n) (h1 : n < b) (hk : ∀ m : Nat, m < b → (BitVec.ofInt IntKind.i64.bits (a : Int) ||| BitVec.ofInt IntKind.i64.bits (m : Int)).toNat = a + m) (hb : a + b ≤ 256) :
    IntKind.wrap .i64 ((BitVec.ofInt IntKind.i64.bits (a : Int) ||| BitVec.ofInt IntKind.i64.bits n).toNat : Nat) = a + n := by
  obtain ⟨m, rfl⟩ := Int.eq_ofNat_of_zero_le h0
  rw [hk m (by omega), wrap_i64 (by omega) (by omega)]; rfl
theorem or192 {n : Int} (h0 : 0 ≤ n) (h1 : n < 32) : IntKind.wrap .i64 ((BitVec.ofInt IntKind.i64.bits 192 ||| BitVec.ofInt IntKind.i64.bits n).toNat : Nat) = 192 + n := orn (a := 192) (b := 32) h0 h1 (by decide +kernel) (by decide)
theorem or224 {n : Int} (h0 : 0 ≤ n) (h1 : n < 16) : IntKind.wrap .i64 ((BitVec.ofInt IntKind.i64.bits 224 ||| BitVec.ofInt IntKind.i64.bits n).toNat : Nat) = 224 + n := orn (a := 224) (b := 16) h0 h1 (by decide +kernel) (by decide)
theorem or240 {n : Int} (h0 : 0 ≤ n) (h1 : n < 8) : IntKind.wrap .i64 ((BitVec.ofInt IntKind.i64.bits 240 ||| BitVec.ofInt IntKind.i64.bits n).toNat : Nat) = 240 + n := orn (a := 240) (b := 8) h0 h1 (by decide +kernel) (by decide)
theorem or128n {n : Int} (h0 : 0 ≤ n) (h1 : n < 64) : IntKind.wrap .i64 ((BitVec.ofInt IntKind.i64.bits 128 ||| BitVec.ofInt IntKind.i64.bits n).toNat : Nat) = 128 + n := orn (a := 128) (b := 64) h0 h1 (by decide +kernel) (by decide)
theorem shr6 {n : Int} : n.fdiv (2 ^ min 6 IntKind.i64.bits) = n / 64 := by
  rw [Int.fdiv_eq_ediv_of_nonneg _ (by decide)]; rfl
theorem shr12 {n : Int} : n.fdiv (2 ^ min 12 IntKind.i64.bits) = n / 4096 := by
  rw [Int.fdiv_eq_ediv_of_nonneg _ (by decide)]; rfl
theorem shr18 {n : Int} : n.fdiv (2 ^ min 18 IntKind.i64.bits) = n / 262144 := by
  rw [Int.fdiv_eq_ediv_of_nonneg _ (by decide)]; rfl
/-- Bytes as numbers. -/
def u8s (l : List UInt8) : List AV := ints .u8 (l.map fun b => (b.toNat : Int))
theorem u8s_nil : u8s [] = [] := rfl
theorem u8s_len (l : List UInt8) : (u8s l).length = l.length := by simp [u8s, ints]
theorem u8s_app (a b : List UInt8) : u8s a ++ u8s b = u8s (a ++ b) := by simp [u8s, ints]
theorem bytesOf_u8s (l : List UInt8) : bytesOf (u8s l) = some l := by
  unfold u8s
  rw [bytesOf_ints, List.map_map]
  congr 1
  have : ((fun n : Int => UInt8.ofNat n.toNat) ∘ fun b : UInt8 => (b.toNat : Int)) = id := by funext b; simp
  rw [this, List.map_id]
theorem enc_u8s1 {v : Int} (h : 0 ≤ v ∧ v < 128) : [AV.v (.int .u8 v)] = u8s (enc v.toNat) := by
  unfold enc
  rw [if_pos (by omega)]
  simp only [u8s, ints, List.map_cons, List.map_nil]
  rw [bt_nat (by omega), show ((v.toNat : Nat) : Int) = v by omega]
theorem enc_u8s2 {v : Int} (h : 128 ≤ v ∧ v < 2048) : [AV.v (.int .u8 (192 + v / 64)), AV.v (.int .u8 (128 + v % 64))] = u8s (enc v.toNat) := by
  unfold enc
  rw [if_neg (by omega), if_pos (by omega)]
  simp only [u8s, ints, List.map_cons, List.map_nil]
  rw [bt_nat (by omega), bt_nat (by omega), show ((192 + v.toNat / 64 : Nat) : Int) = 192 + v / 64 by omega, show ((128 + v.toNat % 64 : Nat) : Int) = 128 + v % 64 by omega]
theorem enc_u8s3 {v : Int} (h : 2048 ≤ v ∧ v < 65536) : [AV.v (.int .u8 (224 + v / 4096)), AV.v (.int .u8 (128 + v / 64 % 64)), AV.v (.int .u8 (128 + v % 64))] = u8s (enc v.toNat) := by
  unfold enc
  rw [if_neg (by omega), if_neg (by omega), if_pos (by omega)]
  simp only [u8s, ints, List.map_cons, List.map_nil]
  rw [bt_nat (by omega), bt_nat (by omega), bt_nat (by omega), show ((224 + v.toNat / 4096 : Nat) : Int) = 224 + v / 4096 by omega, show ((128 + v.toNat / 64 % 64 : Nat) : Int) = 128 + v / 64 % 64 by omega, show ((128 + v.toNat % 64 : Nat) : Int) = 128 + v % 64 by omega]
theorem enc_u8s4 {v : Int} (h : 65536 ≤ v ∧ v ≤ 1114111) : [AV.v (.int .u8 (240 + v / 262144)), AV.v (.int .u8 (128 + v / 4096 % 64)), AV.v (.int .u8 (128 + v / 64 % 64)), AV.v (.int .u8 (128 + v % 64))] = u8s (enc v.toNat) := by
  unfold enc
  rw [if_neg (by omega), if_neg (by omega), if_neg (by omega)]
  simp only [u8s, ints, List.map_cons, List.map_nil]
  rw [bt_nat (by omega), bt_nat (by omega), bt_nat (by omega), bt_nat (by omega), show ((240 + v.toNat / 262144 : Nat) : Int) = 240 + v / 262144 by omega, show ((128 + v.toNat / 4096 % 64 : Nat) : Int) = 128 + v / 4096 % 64 by omega, show ((128 + v.toNat / 64 % 64 : Nat) : Int) = 128 + v / 64 % 64 by omega, show ((128 + v.toNat % 64 : Nat) : Int) = 128 + v % 64 by omega]
theorem wrap8 {n : Int} (h0 : 0 ≤ n) (h1 : n < 256) : IntKind.wrap .u8 n = n := wrap_u8 h0 (by omega)
abbrev TSt (l : List Int) := { p : List UInt8 × Nat // p.2 ≤ l.length ∧ p.1.length ≤ 4 * p.2 ∧ textN l = (textN (l.drop p.2)).map (p.1 ++ ·) }
theorem rtext_good : Rw.Good Tryd.prog 20 rtextCon := by
  have hΓ : GoodEnv Tryd.prog [] := goodEnv_nil
  refine good_fn (nn := 96) hΓ Tryd.func20 (by kernel_rfl) rfl (show Tryd.f20.results.toList = [.tmp 2, .tmp 3] from rfl) (fun _ => rfl) (fun _ => rfl) ?_
  rintro ⟨l, hl, hr⟩
  simp only [goRules, coreRules, tiRules, unRules, AS_of_eq, ← decide_not, N0, N1, N2, N3, N4, N5, Z0, Z1, Z2, Z3, Z4, Z5, Z6, Z7, Z8, Z9, Z10, Zc, ↓reduceIte, reduceCtorEq, ints_len]
  obtain ⟨St, hSt⟩ : ∃ St : TSt l → AS, ∀ p, St p = AS.of 96 [(0, .sl 0 1 (ints .i64 l)), (4, .sl 2 1 (u8s p.1.1)), (5, .v (.int .i64 p.1.2))] [] [(p.1.1.length, 5)] := ⟨_, fun _ => rfl⟩
  refine vc_loop hΓ St (fun p => l.length - p.1.2) ⟨([], 0), by simp, by simp, by simp⟩ (by rw [hSt]; refine weak_go [] [.nil 1] ?_; simp only [goRules, coreRules, tiRules, unRules, AS_of_eq, ← decide_not, N0, N1, N2, N3, N4, N5, Z0, Z1, Z2, Z3, Z4, Z5, Z6, Z7, Z8, Z9, Z10, Zc, ↓reduceIte, reduceCtorEq, u8s_nil] <;> ((repeat' apply And.intro) <;> first | rfl | omega | trivial)) ?_
  rintro ⟨⟨t, i⟩, hi, ht, hx⟩
  simp only at hi ht hx
  rw [hSt]
  simp only
  simp only [goRules, coreRules, tiRules, unRules, AS_of_eq, ← decide_not, N0, N1, N2, N3, N4, N5, Z0, Z1, Z2, Z3, Z4, Z5, Z6, Z7, Z8, Z9, Z10, Zc, ↓reduceIte, reduceCtorEq, ints_len]
  (with_reducible first | refine branchP_dec (fun h => ?_) (fun h => ?_) | refine guardB_dec (fun h => ?_) (fun h => ?_))
  · have hlt : i < l.length := by omega
    have hv := hr l[i] (List.getElem_mem hlt)
    have e1 : (ints .i64 l).getD i .any = .v (.int .i64 l[i]) := by rw [ints_get _ _ hlt]; simp [List.getD_eq_getElem?_getD, hlt]
    rw [List.drop_eq_getElem_cons hlt, textN_cons] at hx
    have hok : okn l[i] ↔ 1 ≤ l[i] ∧ l[i] ≤ 1114111 ∧ ¬ (55296 ≤ l[i] ∧ l[i] ≤ 57343) := Iff.rfl
    generalize l[i] = v at *
    have bad : ¬ okn v → rtextR l = .tup [.v (sv []), .v (.bool false)] := fun h => by
      unfold rtextR; rw [hx, if_neg h]; rfl
    have again : ∀ (σ : AS) , okn v → Weak σ (AS.of 96 [(0, .sl 0 1 (ints .i64 l)), (4, .sl 2 1 (u8s (t ++ enc v.toNat))), (5, .v (.int .i64 (i + 1 : Nat)))] [] [((t ++ enc v.toNat).length, 5)]) → ∃ y : TSt l, l.length - y.1.2 < l.length - i ∧ Weak σ (St y) := fun σ h hw =>
      ⟨⟨(t ++ enc v.toNat, i + 1), by simp only; omega, by simp only [List.length_append, enc_len]; have := wid_le v.toNat; omega, by
        simp only
        rw [hx, if_pos h, Option.map_map]
        congr 1
        funext x; simp⟩, by simp only; omega, by rw [hSt]; exact hw⟩
    simp (disch := omega) only [goRules, coreRules, tiRules, unRules, AS_of_eq, ← decide_not, N0, N1, N2, N3, N4, N5, Z0, Z1, Z2, Z3, Z4, Z5, Z6, Z7, Z8, Z9, Z10, Zc, ↓reduceIte, reduceCtorEq, wrap_i64, h, e1, ints_len]
    by_cases h1 : v < 1
    · simp (disch := omega) only [goRules, coreRules, tiRules, unRules, AS_of_eq, ← decide_not, N0, N1, N2, N3, N4, N5, Z0, Z1, Z2, Z3, Z4, Z5, Z6, Z7, Z8, Z9, Z10, Zc, ↓reduceIte, reduceCtorEq, wrap_i64, h1, ints_len, bad (fun h => by have := hok.1 h; omega)]
      try omega
    by_cases h2 : v > 1114111
    · simp (disch := omega) only [goRules, coreRules, tiRules, unRules, AS_of_eq, ← decide_not, N0, N1, N2, N3, N4, N5, Z0, Z1, Z2, Z3, Z4, Z5, Z6, Z7, Z8, Z9, Z10, Zc, ↓reduceIte, reduceCtorEq, wrap_i64, h1, h2, ints_len, bad (fun h => by have := hok.1 h; omega)]
      try omega
    by_cases h3 : 55296 ≤ v ∧ v < 57344
    · simp (disch := omega) only [goRules, coreRules, tiRules, unRules, AS_of_eq, ← decide_not, N0, N1, N2, N3, N4, N5, Z0, Z1, Z2, Z3, Z4, Z5, Z6, Z7, Z8, Z9, Z10, Zc, ↓reduceIte, reduceCtorEq, wrap_i64, h1, h2, show v ≥ 55296 from h3.1, h3.2, ints_len, bad (fun h => by have := hok.1 h; omega)]
      try omega
    have hko : okn v := hok.2 (by omega)
    by_cases c1 : v < 128
    · have h5 : ¬ v ≥ 55296 := by omega
      simp (disch := omega) only [goRules, coreRules, tiRules, unRules, AS_of_eq, ← decide_not, N0, N1, N2, N3, N4, N5, Z0, Z1, Z2, Z3, Z4, Z5, Z6, Z7, Z8, Z9, Z10, Zc, ↓reduceIte, reduceCtorEq, wrap_i64, h1, h2, h5, c1, wrap8, u8s_len, ints_len, List.map_cons, List.map_nil]
      (repeat (with_reducible refine And.intro ?_ ?_; focus (first | omega | exact mixed1 | kernel_rfl)))
      refine again _ hko ?_
      rw [enc_u8s1 (by omega), u8s_app]
      refine weak_go [] [.live 2] ?_
      simp only [goRules, coreRules, tiRules, unRules, AS_of_eq, ← decide_not, N0, N1, N2, N3, N4, N5, Z0, Z1, Z2, Z3, Z4, Z5, Z6, Z7, Z8, Z9, Z10, Zc, ↓reduceIte, reduceCtorEq, u8s_len, List.length_append, enc_len, show wid v.toNat = 1 by unfold wid; rw [if_pos (by omega)]] <;> ((repeat' apply And.intro) <;> first | rfl | omega | trivial)
    by_cases c2 : v < 2048
    · have h5 : ¬ v ≥ 55296 := by omega
      simp (disch := omega) only [goRules, coreRules, tiRules, unRules, AS_of_eq, ← decide_not, N0, N1, N2, N3, N4, N5, Z0, Z1, Z2, Z3, Z4, Z5, Z6, Z7, Z8, Z9, Z10, Zc, ↓reduceIte, reduceCtorEq, wrap_i64, h1, h2, h5, c1, c2, wrap8, u8s_len, ints_len, or192, or128n, shr6, andn, List.map_cons, List.map_nil]
      (repeat (with_reducible refine And.intro ?_ ?_; focus (first | omega | exact mixed1 | kernel_rfl)))
      refine again _ hko ?_
      rw [enc_u8s2 (by omega), u8s_app]
      refine weak_go [] [.live 2] ?_
      simp only [goRules, coreRules, tiRules, unRules, AS_of_eq, ← decide_not, N0, N1, N2, N3, N4, N5, Z0, Z1, Z2, Z3, Z4, Z5, Z6, Z7, Z8, Z9, Z10, Zc, ↓reduceIte, reduceCtorEq, u8s_len, List.length_append, enc_len, show wid v.toNat = 2 by unfold wid; rw [if_neg (by omega), if_pos (by omega)]] <;> ((repeat' apply And.intro) <;> first | rfl | omega | trivial)
    by_cases c3 : v < 65536
    · have hx : wid v.toNat = 3 := by unfold wid; rw [if_neg (by omega), if_neg (by omega), if_pos (by omega)]
      have h7 : v ≥ 55296 ∧ ¬ v < 57344 ∨ ¬ v ≥ 55296 := by omega
      rcases h7 with ⟨h5, h6⟩ | h5
      all_goals
        simp (disch := omega) only [goRules, coreRules, tiRules, unRules, AS_of_eq, ← decide_not, N0, N1, N2, N3, N4, N5, Z0, Z1, Z2, Z3, Z4, Z5, Z6, Z7, Z8, Z9, Z10, Zc, ↓reduceIte, reduceCtorEq, wrap_i64, h1, h2, h5, (show v < 57344 ↔ ¬ v ≥ 57344 by omega), (show v ≥ 57344 ↔ v ≥ 55296 by omega), c1, c2, c3, wrap8, u8s_len, ints_len, or224, or128n, shr6, shr12, andn, List.map_cons, List.map_nil]
        (repeat (with_reducible refine And.intro ?_ ?_; focus (first | omega | exact mixed1 | kernel_rfl)))
        refine again _ hko ?_
        rw [enc_u8s3 (by omega), u8s_app]
        refine weak_go [] [.live 2] ?_
        simp only [goRules, coreRules, tiRules, unRules, AS_of_eq, ← decide_not, N0, N1, N2, N3, N4, N5, Z0, Z1, Z2, Z3, Z4, Z5, Z6, Z7, Z8, Z9, Z10, Zc, ↓reduceIte, reduceCtorEq, u8s_len, List.length_append, enc_len, hx] <;> ((repeat' apply And.intro) <;> first | rfl | omega | trivial)
    · have hx : wid v.toNat = 4 := by unfold wid; rw [if_neg (by omega), if_neg (by omega), if_neg (by omega)]
      have h5 : v ≥ 55296 := by omega
      have h6 : ¬ v < 57344 := by omega
      simp (disch := omega) only [goRules, coreRules, tiRules, unRules, AS_of_eq, ← decide_not, N0, N1, N2, N3, N4, N5, Z0, Z1, Z2, Z3, Z4, Z5, Z6, Z7, Z8, Z9, Z10, Zc, ↓reduceIte, reduceCtorEq, wrap_i64, h1, h2, h5, h6, c1, c2, c3, wrap8, u8s_len, ints_len, or240, or128n, shr6, shr12, shr18, andn, List.map_cons, List.map_nil]
      (repeat (with_reducible refine And.intro ?_ ?_; focus (first | omega | exact mixed1 | kernel_rfl)))
      refine again _ hko ?_
      rw [enc_u8s4 (by omega), u8s_app]
      refine weak_go [] [.live 2] ?_
      simp only [goRules, coreRules, tiRules, unRules, AS_of_eq, ← decide_not, N0, N1, N2, N3, N4, N5, Z0, Z1, Z2, Z3, Z4, Z5, Z6, Z7, Z8, Z9, Z10, Zc, ↓reduceIte, reduceCtorEq, u8s_len, List.length_append, enc_len, hx] <;> ((repeat' apply And.intro) <;> first | rfl | omega | trivial)
  · simp only [goRules, coreRules, tiRules, unRules, AS_of_eq, ← decide_not, N0, N1, N2, N3, N4, N5, Z0, Z1, Z2, Z3, Z4, Z5, Z6, Z7, Z8, Z9, Z10, Zc, ↓reduceIte, reduceCtorEq, h]
    rw [List.drop_of_length_le (by omega), textN_nil] at hx
    unfold rtextR
    simp only [goRules, coreRules, tiRules, unRules, AS_of_eq, ← decide_not, N0, N1, N2, N3, N4, N5, Z0, Z1, Z2, Z3, Z4, Z5, Z6, Z7, Z8, Z9, Z10, Zc, ↓reduceIte, reduceCtorEq, bytesOf_u8s]
    rw [hx]; simp
end Go.Proofs
end
