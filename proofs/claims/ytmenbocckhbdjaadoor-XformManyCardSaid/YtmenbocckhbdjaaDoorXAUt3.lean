/-
  utf.Points, utf.Offset, utf.Slice.
-/
import Derived.Test.YtmenbocckhbdjaaDoorXAUt2
set_option linter.unusedSimpArgs false
set_option linter.unusedVariables false
set_option linter.defProp false

-- AUt3
section
namespace Go.Proofs
open Go Go.Rw
open _root_.Nat renaming reduceAdd → N0, reduceSub → N1, reduceMul → N2, reduceLT → N3, reduceLeDiff → N4, reduceEqDiff → N5
open _root_.Int renaming reduceNeg → Z0, reduceAdd → Z1, reduceSub → Z2, reduceMul → Z3, reduceGT → Z4, reduceGE → Z5, reduceLT → Z6, reduceLE → Z7, reduceEq → Z8, reduceNe → Z9, reduceToNat → Z10, cast_ofNat_Int → Zc
set_option maxRecDepth 100000
set_option linter.unusedSimpArgs false
set_option linter.unusedVariables false

def nats (l : List Nat) : List AV := ints .i64 (l.map fun (c : Nat) => (c : Int))
theorem nats_nil : nats [] = [] := rfl
theorem nats_len (l : List Nat) : (nats l).length = l.length := by simp [nats, ints]
theorem nats_snoc (l : List Nat) (c : Nat) : nats l ++ [.v (.int .i64 c)] = nats (l ++ [c]) := by simp [nats, ints]
def pointsR (l : List UInt8) : AV := match pts l with
  | some cs => res2 (.sl 0 1 (nats cs)) 0
  | none => res2 (.sl 0 1 []) 2
theorem dec1_mid {pre post : List Nat} {c : Nat} (h : okc c) : dec1 (encs (pre ++ c :: post)) (encs pre).length = c := by unfold dec1; rw [decode_mid h]
theorem dec2_mid {pre post : List Nat} {c : Nat} (h : okc c) : dec2 (encs (pre ++ c :: post)) (encs pre).length = wid c := by unfold dec2; rw [decode_mid h]
theorem maxLen_nat : (maxLen : Nat) = 9223372036854775807 := rfl

abbrev pointsCon : Con where
  ι := Str
  args := fun s => [.v (sv s.1)]
  post := fun s r => r = pointsR s.1
def offR (l : List UInt8) (n : Int) : AV := match pts l with
  | none => res2 (.v (.int .i64 0)) 2
  | some cs => if n < 0 ∨ n > cs.length then res2 (.v (.int .i64 0)) 1 else res2 (.v (.int .i64 (encs (cs.take n.toNat)).length)) 0
theorem offR_plain (l : List UInt8) (n : Int) : (offR l n).plain = true := by
  unfold offR
  repeat' split
  all_goals rfl
theorem call_count {Γ : Env} (hf : Γ.get 61 = some countCon) {σ : AS} {dr : Bool} {l : List UInt8} {d : Option Nat} {K : AS → Prop} (h : l.length ≤ 1099511627776)
    (hk : cont σ d (countR l) K) : vcCall Tryd.prog Γ dr σ 61 [.v (sv l)] d K :=
  vcCall_plain (C := countCon) (i := ⟨l, h⟩) hf rfl rfl rfl rfl (fun _ h => h) (countR_plain l) hk
abbrev offCon : Con where
  ι := Str × { n : Int // -9223372036854775808 ≤ n ∧ n ≤ 9223372036854775807 }
  args := fun s => [.v (sv s.1.1), .v (.int .i64 s.2.1)]
  post := fun s r => r = offR s.1.1 s.2.1
  plain := true
theorem off_good : Rw.Good Tryd.prog 92 offCon := by
  have hΓ : GoodEnv Tryd.prog [(61, countCon)] := (goodEnv_cons count_good goodEnv_nil)
  refine good_fn (nn := 38) hΓ Tryd.func92 (by kernel_rfl) rfl (show Tryd.f92.results.toList = [.tmp 4, .tmp 5] from rfl) (fun _ => rfl) (fun _ => rfl) ?_
  rintro ⟨⟨s, hs⟩, ⟨n, hn1, hn2⟩⟩
  simp only [goRules, coreRules, tiRules, unRules, AS_of_eq, ← decide_not, N0, N1, N2, N3, N4, N5, Z0, Z1, Z2, Z3, Z4, Z5, Z6, Z7, Z8, Z9, Z10, Zc, ↓reduceIte, reduceCtorEq]
  refine call_count (by simp [get_cons]) hs ?_
  rcases opt_cases (pts s) with hp | ⟨cs, hp⟩
  · simp only [goRules, coreRules, tiRules, unRules, AS_of_eq, ← decide_not, N0, N1, N2, N3, N4, N5, Z0, Z1, Z2, Z3, Z4, Z5, Z6, Z7, Z8, Z9, Z10, Zc, ↓reduceIte, reduceCtorEq, countR, hp, res2]
    unfold offR
    rw [hp]; rfl
  · simp only [goRules, coreRules, tiRules, unRules, AS_of_eq, ← decide_not, N0, N1, N2, N3, N4, N5, Z0, Z1, Z2, Z3, Z4, Z5, Z6, Z7, Z8, Z9, Z10, Zc, ↓reduceIte, reduceCtorEq, countR, hp, res2]
    obtain ⟨hok, hse⟩ := pts_some hp
    have hle := encs_le cs
    have fin : ∀ m : Int, 0 ≤ m → m ≤ cs.length → offR s m = res2 (.v (.int .i64 (encs (cs.take m.toNat)).length)) 0 := fun m h1 h2 => by
      unfold offR
      rw [hp]
      simp only
      rw [if_neg (by omega)]
    have bad : n < 0 ∨ n > cs.length → offR s n = res2 (.v (.int .i64 0)) 1 := fun h => by
      unfold offR
      rw [hp]
      simp only
      rw [if_pos h]
    (with_reducible first | refine branchP_dec (fun h => ?_) (fun h => ?_) | refine guardB_dec (fun h => ?_) (fun h => ?_))
    · simp only [goRules, coreRules, tiRules, unRules, AS_of_eq, ← decide_not, N0, N1, N2, N3, N4, N5, Z0, Z1, Z2, Z3, Z4, Z5, Z6, Z7, Z8, Z9, Z10, Zc, ↓reduceIte, reduceCtorEq, h]
      rw [bad (.inl h)]; rfl
    · simp only [goRules, coreRules, tiRules, unRules, AS_of_eq, ← decide_not, N0, N1, N2, N3, N4, N5, Z0, Z1, Z2, Z3, Z4, Z5, Z6, Z7, Z8, Z9, Z10, Zc, ↓reduceIte, reduceCtorEq, h]
      (with_reducible first | refine branchP_dec (fun h2 => ?_) (fun h2 => ?_) | refine guardB_dec (fun h2 => ?_) (fun h2 => ?_))
      · simp only [goRules, coreRules, tiRules, unRules, AS_of_eq, ← decide_not, N0, N1, N2, N3, N4, N5, Z0, Z1, Z2, Z3, Z4, Z5, Z6, Z7, Z8, Z9, Z10, Zc, ↓reduceIte, reduceCtorEq, h2]
        rw [bad (.inr h2)]; rfl
      · simp only [goRules, coreRules, tiRules, unRules, AS_of_eq, ← decide_not, N0, N1, N2, N3, N4, N5, Z0, Z1, Z2, Z3, Z4, Z5, Z6, Z7, Z8, Z9, Z10, Zc, ↓reduceIte, reduceCtorEq, h2]
        obtain ⟨St, hSt⟩ : ∃ St : { p : List Nat × List Nat // p.1 ++ p.2 = cs ∧ (p.1.length : Int) ≤ n } → AS, ∀ p, St p = AS.of 38 [(0, .v (sv s)), (1, .v (.int .i64 (n - p.1.1.length))), (27, .ptr 0 0)] [.iter ⟨s.toArray⟩ (encs p.1.1).length] [] := ⟨_, fun _ => rfl⟩
        refine vc_loop hΓ St (fun p => p.1.2.length) ⟨([], cs), rfl, by simp; omega⟩ (by rw [hSt]; refine weak_go [0] [] ?_; simp only [goRules, coreRules, tiRules, unRules, AS_of_eq, ← decide_not, N0, N1, N2, N3, N4, N5, Z0, Z1, Z2, Z3, Z4, Z5, Z6, Z7, Z8, Z9, Z10, Zc, ↓reduceIte, reduceCtorEq, encs_nil] <;> ((repeat' apply And.intro) <;> first | rfl | omega | trivial)) ?_
        rintro ⟨⟨pre, post⟩, hpp, hpn⟩
        simp only at hpp hpn
        subst hpp
        rw [hSt]
        simp only
        subst hse
        rw [encs_app_len, List.length_append] at hle
        have hs2 := hs
        rw [encs_app_len] at hs2
        simp only [goRules, coreRules, tiRules, unRules, AS_of_eq, ← decide_not, N0, N1, N2, N3, N4, N5, Z0, Z1, Z2, Z3, Z4, Z5, Z6, Z7, Z8, Z9, Z10, Zc, ↓reduceIte, reduceCtorEq]
        cases post with
        | nil =>
          rw [nextO_end (by simp)]
          simp only [goRules, coreRules, tiRules, unRules, AS_of_eq, ← decide_not, N0, N1, N2, N3, N4, N5, Z0, Z1, Z2, Z3, Z4, Z5, Z6, Z7, Z8, Z9, Z10, Zc, ↓reduceIte, reduceCtorEq]
          rw [List.append_nil] at h2 fin
          rw [fin n (by omega) (by omega), show n.toNat = pre.length by omega, List.take_length]
          rfl
        | cons c post =>
          have hc := hok c (by simp)
          rw [nextO_in (by rw [encs_app_len, encs_cons_len]; have := wid_pos c; omega), dec1_mid hc, dec2_mid hc]
          simp only [goRules, coreRules, tiRules, unRules, AS_of_eq, ← decide_not, N0, N1, N2, N3, N4, N5, Z0, Z1, Z2, Z3, Z4, Z5, Z6, Z7, Z8, Z9, Z10, Zc, ↓reduceIte, reduceCtorEq]
          (with_reducible first | refine branchP_dec (fun h5 => ?_) (fun h5 => ?_) | refine guardB_dec (fun h5 => ?_) (fun h5 => ?_))
          · simp only [goRules, coreRules, tiRules, unRules, AS_of_eq, ← decide_not, N0, N1, N2, N3, N4, N5, Z0, Z1, Z2, Z3, Z4, Z5, Z6, Z7, Z8, Z9, Z10, Zc, ↓reduceIte, reduceCtorEq]
            rw [fin n (by omega) (by omega), show n.toNat = pre.length by omega, List.take_left]
            rfl
          · simp (disch := omega) only [goRules, coreRules, tiRules, unRules, AS_of_eq, ← decide_not, N0, N1, N2, N3, N4, N5, Z0, Z1, Z2, Z3, Z4, Z5, Z6, Z7, Z8, Z9, Z10, Zc, ↓reduceIte, reduceCtorEq, wrap_i64, wrap_i64]
            refine weak_again ⟨(pre ++ [c], post), by simp, by simp; omega⟩ (by simp) ?_
            rw [hSt]; refine weak_go [0] [] ?_
            simp only [goRules, coreRules, tiRules, unRules, AS_of_eq, ← decide_not, N0, N1, N2, N3, N4, N5, Z0, Z1, Z2, Z3, Z4, Z5, Z6, Z7, Z8, Z9, Z10, Zc, ↓reduceIte, reduceCtorEq, encs_snoc_len, List.length_append] <;> ((repeat' apply And.intro) <;> first | rfl | omega | trivial)

def sliceR (l : List UInt8) (a b : Int) : AV := match pts l with
  | none => res2 (.v (sv [])) 2
  | some cs => if 0 ≤ a ∧ a ≤ b ∧ b ≤ cs.length then res2 (.v (sv (encs ((cs.drop a.toNat).take (b.toNat - a.toNat))))) 0 else res2 (.v (sv [])) 1
theorem sliceR_plain (l : List UInt8) (a b : Int) : (sliceR l a b).plain = true := by
  unfold sliceR
  repeat' split
  all_goals rfl
abbrev I64 := { n : Int // -9223372036854775808 ≤ n ∧ n ≤ 9223372036854775807 }
theorem call_off {Γ : Env} (hf : Γ.get 92 = some offCon) {σ : AS} {dr : Bool} {l : List UInt8} {n : Int} {d : Option Nat} {K : AS → Prop} (h : l.length ≤ 1099511627776) (h1 : -9223372036854775808 ≤ n) (h2 : n ≤ 9223372036854775807)
    (hk : cont σ d (offR l n) K) : vcCall Tryd.prog Γ dr σ 92 [.v (sv l), .v (.int .i64 n)] d K :=
  vcCall_plain (C := offCon) (i := (⟨l, h⟩, ⟨n, h1, h2⟩)) hf rfl rfl rfl rfl (fun _ h => h) (offR_plain l n) hk
abbrev sliceCon : Con where
  ι := Str × I64 × I64
  args := fun s => [.v (sv s.1.1), .v (.int .i64 s.2.1.1), .v (.int .i64 s.2.2.1)]
  post := fun s r => r = sliceR s.1.1 s.2.1.1 s.2.2.1
  plain := true
theorem slice_good : Rw.Good Tryd.prog 88 sliceCon := by
  have hΓ : GoodEnv Tryd.prog [(92, offCon)] := (goodEnv_cons off_good goodEnv_nil)
  refine good_fn (nn := 36) hΓ Tryd.func88 (by kernel_rfl) rfl (show Tryd.f88.results.toList = [.tmp 6, .tmp 7] from rfl) (fun _ => rfl) (fun _ => rfl) ?_
  rintro ⟨⟨s, hs⟩, ⟨a, ha1, ha2⟩, ⟨b, hb1, hb2⟩⟩
  simp only [goRules, coreRules, tiRules, unRules, AS_of_eq, ← decide_not, N0, N1, N2, N3, N4, N5, Z0, Z1, Z2, Z3, Z4, Z5, Z6, Z7, Z8, Z9, Z10, Zc, ↓reduceIte, reduceCtorEq]
  refine call_off (by simp [get_cons]) hs ha1 ha2 ?_
  rcases opt_cases (pts s) with hp | ⟨cs, hp⟩
  · simp only [goRules, coreRules, tiRules, unRules, AS_of_eq, ← decide_not, N0, N1, N2, N3, N4, N5, Z0, Z1, Z2, Z3, Z4, Z5, Z6, Z7, Z8, Z9, Z10, Zc, ↓reduceIte, reduceCtorEq, offR, hp, res2]
    unfold sliceR
    rw [hp]; rfl
  · obtain ⟨hok, hse⟩ := pts_some hp
    by_cases ha : a < 0 ∨ a > cs.length
    · simp only [goRules, coreRules, tiRules, unRules, AS_of_eq, ← decide_not, N0, N1, N2, N3, N4, N5, Z0, Z1, Z2, Z3, Z4, Z5, Z6, Z7, Z8, Z9, Z10, Zc, ↓reduceIte, reduceCtorEq, offR, hp, res2, ha]
      unfold sliceR
      rw [hp]
      simp only
      rw [if_neg (by omega)]; rfl
    · simp only [goRules, coreRules, tiRules, unRules, AS_of_eq, ← decide_not, N0, N1, N2, N3, N4, N5, Z0, Z1, Z2, Z3, Z4, Z5, Z6, Z7, Z8, Z9, Z10, Zc, ↓reduceIte, reduceCtorEq, offR, hp, res2, ha]
      refine call_off (by simp [get_cons]) hs hb1 hb2 ?_
      by_cases hb : b < 0 ∨ b > cs.length
      · simp only [goRules, coreRules, tiRules, unRules, AS_of_eq, ← decide_not, N0, N1, N2, N3, N4, N5, Z0, Z1, Z2, Z3, Z4, Z5, Z6, Z7, Z8, Z9, Z10, Zc, ↓reduceIte, reduceCtorEq, offR, hp, res2, hb]
        unfold sliceR
        rw [hp]
        simp only
        rw [if_neg (by omega)]; rfl
      · simp only [goRules, coreRules, tiRules, unRules, AS_of_eq, ← decide_not, N0, N1, N2, N3, N4, N5, Z0, Z1, Z2, Z3, Z4, Z5, Z6, Z7, Z8, Z9, Z10, Zc, ↓reduceIte, reduceCtorEq, offR, hp, res2, hb]
        have hl1 := encs_take_le cs a.toNat
        have hl2 := encs_take_le cs b.toNat
        rw [← hse] at hl1 hl2
        (with_reducible first | refine branchP_dec (fun h => ?_) (fun h => ?_) | refine guardB_dec (fun h => ?_) (fun h => ?_))
        · simp only [goRules, coreRules, tiRules, unRules, AS_of_eq, ← decide_not, N0, N1, N2, N3, N4, N5, Z0, Z1, Z2, Z3, Z4, Z5, Z6, Z7, Z8, Z9, Z10, Zc, ↓reduceIte, reduceCtorEq]
          unfold sliceR
          rw [hp]
          simp only
          rw [if_neg]
          · rfl
          · intro hc
            have := encs_take_mono cs (a := a.toNat) (b := b.toNat) (by omega)
            omega
        · have hab : a ≤ b := by
            by_cases h1 : b < a
            · have := encs_take_lt cs (a := b.toNat) (b := a.toNat) (by omega) (by omega)
              omega
            · omega
          simp only [goRules, coreRules, tiRules, unRules, AS_of_eq, ← decide_not, N0, N1, N2, N3, N4, N5, Z0, Z1, Z2, Z3, Z4, Z5, Z6, Z7, Z8, Z9, Z10, Zc, ↓reduceIte, reduceCtorEq]
          refine ⟨by omega, ?_⟩
          unfold sliceR
          rw [hp]
          simp only
          rw [if_pos (by omega)]
          subst hse
          rw [encs_slice cs (by omega)]; rfl
end Go.Proofs
end
