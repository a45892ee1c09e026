/-
  utf.Points, utf.Offset, utf.Slice.
-/
import Derived.Test.YtknbfkmgoijncaaDoorXBUt2
set_option linter.unusedSimpArgs false
set_option linter.unusedVariables false
set_option linter.defProp false

-- BUt3
section
namespace Go.Proofs
open Go Go.Rw
open _root_.Nat renaming reduceAdd → N0, reduceSub → N1, reduceMul → N2, reduceLT → N3, reduceLeDiff → N4, reduceEqDiff → N5
open _root_.Int renaming reduceNeg → Z0, reduceAdd → Z1, reduceSub → Z2, reduceMul → Z3, reduceGT → Z4, reduceGE → Z5, reduceLT → Z6, reduceLE → Z7, reduceEq → Z8, reduceNe → Z9, reduceToNat → Z10, cast_ofNat_Int → Zc
set_option maxRecDepth 100000
set_option linter.unusedSimpArgs false
set_option linter.unusedVariables false

def nats (l : List Nat) : List AV := ints .i64 (l.map fun (c : Nat) => (c : Int))
theorem nats_nil : nats [] = [] := rfl
theorem nats_len (l : List Nat) : (nats l).length = l.length := by simp [nats, ints]
theorem nats_snoc (l : List Nat) (c : Nat) : nats l ++ [.v (.int .i64 c)] = nats (l ++ [c]) := by simp [nats, ints]
def pointsR (l : List UInt8) : AV := match pts l with
  | some cs => res2 (.sl 0 1 (nats cs)) 0
  | none => res2 (.sl 0 1 []) 2
theorem dec1_mid {pre post : List Nat} {c : Nat} (h : okc c) : dec1 (encs (pre ++ c :: post)) (encs pre).length = c := by unfold dec1; rw [decode_mid h]
theorem dec2_mid {pre post : List Nat} {c : Nat} (h : okc c) : dec2 (encs (pre ++ c :: post)) (encs pre).length = wid c := by unfold dec2; rw [decode_mid h]
theorem maxLen_nat : (maxLen : Nat) = 9223372036854775807 := rfl

abbrev pointsCon : Con where
  ι := Str
  args := fun s => [.v (sv s.1)]
  post := fun s r => r = pointsR s.1
theorem points_good : Rw.Good Tryd.prog 54 pointsCon := by
  have hΓ : GoodEnv Tryd.prog [(51, validCon)] := (goodEnv_cons valid_good goodEnv_nil)
  refine good_fn (nn := 20) hΓ Tryd.func54 (by kernel_rfl) rfl (show Tryd.f54.results.toList = [.tmp 2, .tmp 3] from rfl) (fun _ => rfl) (fun _ => rfl) ?_
  rintro ⟨s, hs⟩
  simp only [goRules, coreRules, tiRules, unRules, AS_of_eq, ← decide_not, N0, N1, N2, N3, N4, N5, Z0, Z1, Z2, Z3, Z4, Z5, Z6, Z7, Z8, Z9, Z10, Zc, ↓reduceIte, reduceCtorEq]
  refine call_valid (by simp [get_cons]) hs ?_
  rcases opt_cases (pts s) with hp | ⟨cs, hp⟩
  · simp only [goRules, coreRules, tiRules, unRules, AS_of_eq, ← decide_not, N0, N1, N2, N3, N4, N5, Z0, Z1, Z2, Z3, Z4, Z5, Z6, Z7, Z8, Z9, Z10, Zc, ↓reduceIte, reduceCtorEq, hp, Option.isSome_none]
    unfold pointsR
    rw [hp]; rfl
  · simp only [goRules, coreRules, tiRules, unRules, AS_of_eq, ← decide_not, N0, N1, N2, N3, N4, N5, Z0, Z1, Z2, Z3, Z4, Z5, Z6, Z7, Z8, Z9, Z10, Zc, ↓reduceIte, reduceCtorEq, hp, Option.isSome_some]
    obtain ⟨hok, hse⟩ := pts_some hp
    obtain ⟨St, hSt⟩ : ∃ St : { p : List Nat × List Nat // p.1 ++ p.2 = cs } → AS, ∀ p, St p = AS.of 20 [(0, .v (sv s)), (2, .sl 2 1 (nats p.1.1)), (10, .ptr 0 0)] [.iter ⟨s.toArray⟩ (encs p.1.1).length] [(p.1.1.length, 3)] := ⟨_, fun _ => rfl⟩
    refine vc_loop hΓ St (fun p => p.1.2.length) ⟨([], cs), rfl⟩ (by rw [hSt]; refine weak_go [0] [.nil 1] ?_; simp only [goRules, coreRules, tiRules, unRules, AS_of_eq, ← decide_not, N0, N1, N2, N3, N4, N5, Z0, Z1, Z2, Z3, Z4, Z5, Z6, Z7, Z8, Z9, Z10, Zc, ↓reduceIte, reduceCtorEq, nats_nil, encs_nil] <;> ((repeat' apply And.intro) <;> first | rfl | omega | trivial)) ?_
    rintro ⟨⟨pre, post⟩, hpp⟩
    simp only at hpp
    subst hpp
    rw [hSt]
    simp only
    subst hse
    have hle := encs_le (pre ++ post)
    rw [encs_app_len, List.length_append] at hle
    rw [encs_app_len] at hs
    simp only [goRules, coreRules, tiRules, unRules, AS_of_eq, ← decide_not, N0, N1, N2, N3, N4, N5, Z0, Z1, Z2, Z3, Z4, Z5, Z6, Z7, Z8, Z9, Z10, Zc, ↓reduceIte, reduceCtorEq]
    cases post with
    | nil =>
      rw [nextO_end (by simp)]
      simp only [goRules, coreRules, tiRules, unRules, AS_of_eq, ← decide_not, N0, N1, N2, N3, N4, N5, Z0, Z1, Z2, Z3, Z4, Z5, Z6, Z7, Z8, Z9, Z10, Zc, ↓reduceIte, reduceCtorEq]
      rw [List.append_nil] at hp
      unfold pointsR
      rw [hp]; rfl
    | cons c post =>
      have hc := hok c (by simp)
      have h3 := hc.2.1
      rw [nextO_in (by rw [encs_app_len, encs_cons_len]; have := wid_pos c; omega), dec1_mid hc, dec2_mid hc]
      simp (disch := omega) only [goRules, coreRules, tiRules, unRules, AS_of_eq, ← decide_not, N0, N1, N2, N3, N4, N5, Z0, Z1, Z2, Z3, Z4, Z5, Z6, Z7, Z8, Z9, Z10, Zc, ↓reduceIte, reduceCtorEq, wrap_i64, wrap_i64, nats_len]
      refine ⟨by omega, by omega, weak_again ⟨(pre ++ [c], post), by simp⟩ (by simp) ?_⟩
      rw [hSt]; refine weak_go [0] [.live 2] ?_
      simp only [goRules, coreRules, tiRules, unRules, AS_of_eq, ← decide_not, N0, N1, N2, N3, N4, N5, Z0, Z1, Z2, Z3, Z4, Z5, Z6, Z7, Z8, Z9, Z10, Zc, ↓reduceIte, reduceCtorEq, nats_snoc, encs_snoc_len, List.length_append] <;> ((repeat' apply And.intro) <;> first | rfl | omega | trivial)

def offR (l : List UInt8) (n : Int) : AV := match pts l with
  | none => res2 (.v (.int .i64 0)) 2
  | some cs => if n < 0 ∨ n > cs.length then res2 (.v (.int .i64 0)) 1 else res2 (.v (.int .i64 (encs (cs.take n.toNat)).length)) 0
theorem offR_plain (l : List UInt8) (n : Int) : (offR l n).plain = true := by
  unfold offR
  repeat' split
  all_goals rfl
abbrev offCon : Con where
  ι := Str × { n : Int // -9223372036854775808 ≤ n ∧ n ≤ 9223372036854775807 }
  args := fun s => [.v (sv s.1.1), .v (.int .i64 s.2.1)]
  post := fun s r => r = offR s.1.1 s.2.1
  plain := true
def sliceR (l : List UInt8) (a b : Int) : AV := match pts l with
  | none => res2 (.v (sv [])) 2
  | some cs => if 0 ≤ a ∧ a ≤ b ∧ b ≤ cs.length then res2 (.v (sv (encs ((cs.drop a.toNat).take (b.toNat - a.toNat))))) 0 else res2 (.v (sv [])) 1
theorem sliceR_plain (l : List UInt8) (a b : Int) : (sliceR l a b).plain = true := by
  unfold sliceR
  repeat' split
  all_goals rfl
abbrev I64 := { n : Int // -9223372036854775808 ≤ n ∧ n ≤ 9223372036854775807 }
abbrev sliceCon : Con where
  ι := Str × I64 × I64
  args := fun s => [.v (sv s.1.1), .v (.int .i64 s.2.1.1), .v (.int .i64 s.2.2.1)]
  post := fun s r => r = sliceR s.1.1 s.2.1.1 s.2.2.1
  plain := true
end Go.Proofs
end
