/-
  Script: a line as an op. Script: a node as words; law26: what the document fixes. ScriptKinds answers true. From law26's functions to their rows: the variables as they are laid; a world for the witness.
-/
import Derived.Test.YtnpofobcbfbfnaaDoorXSSc1
import Derived.Test.YtnpofobcbfbfnaaDoorRwG
import Derived.Test.YtnpofobcbfbfnaaDoorCards
import Derived.Test.YtnpofobcbfbfnaaDoorTie
import Derived.Lib.LaidIn
import Derived.Lib.LaidU8T
import Derived.Lib.LaidTab
import Derived.Stop.LaidErr
import Derived.Deep.DeepHandedRow
import Derived.Deep.DeepWitnessRowRef
import Derived.ProofKit
import Derived.OpenShut
import Derived.SizedLaws
import Derived.SevenTiedAt
set_option linter.unusedSimpArgs false
set_option linter.unusedVariables false
set_option linter.defProp false
set_option linter.unusedSectionVars false

-- SSc6
section
namespace Go.Proofs
open Go Go.Rw
set_option maxRecDepth 100000
set_option linter.unusedSimpArgs false
set_option linter.unusedVariables false

def so0 : So := ⟨0, 0, 0, 0, 0, [], false, 0, 0, 0, [], 0, 0⟩
def so3 : So := ⟨0, 0, 0, 0, 0, [], false, 0, 0, 0, [], 3, 1⟩
/-- The kind whose word it is, of the first n. -/
def kindF (w : List UInt8) : Nat → Nat
  | 0 => 0
  | n + 1 => if 0 < n ∧ wordK n = w then n else kindF w n
theorem kind_le (w : List UInt8) : ∀ n, kindF w n ≤ n - 1
  | 0 => Nat.le_refl _
  | n + 1 => by
    have := kind_le w n
    unfold kindF
    split <;> omega
def soK (k : Nat) : So := { so0 with kind := k, ak := if 1 ≤ k ∧ k ≤ 4 then k else 0 }
/-- All fields that are there, read one behind the other. -/
def takesF (more : Bool) : So → List UInt8 → List UInt8 → So
  | x, _, [] => x
  | x, s, f :: r => if more ∨ f ≠ 108 then takesF more (takeF x f s).1 (takeF x f s).2 r else takesF more x s r
/-- Each field can be read so. -/
def canT (more : Bool) : So → List UInt8 → List UInt8 → Prop
  | x, _, [] => okSo x
  | x, s, f :: r => if more ∨ f ≠ 108 then f ≠ 108 ∧ s.length ≤ 1000000 ∧ (isNum f = true → Lib.atoiAll (cutB 32 s).1 = .ok (numV (cutB 32 s).1)) ∧ canT more (takeF x f s).1 (takeF x f s).2 r else canT more x s r
/-- A line as an op. -/
def parseX (s : List UInt8) : So := takesF (cutB 32 s).2.2 (soK (kindF (cutB 32 s).1 17)) (cutB 32 s).2.1 (letsK (kindF (cutB 32 s).1 17 : Nat))
def parseR (s : List UInt8) : So × Int := if (parseX s).kind = 0 ∨ textF (parseX s) ≠ s then (so3, 2) else (parseX s, 0)
def canP (s : List UInt8) : Prop := canT (cutB 32 s).2.2 (soK (kindF (cutB 32 s).1 17)) (cutB 32 s).2.1 (letsK (kindF (cutB 32 s).1 17 : Nat))
abbrev parseCon : Con where
  ι := { s : List UInt8 // s.length ≤ 1000000 ∧ canP s }
  args := fun s => [.v (sv s.1)]
  post := fun s r => r = .tup [.agg (opC (parseR s.1).1), .v (.int .i64 (parseR s.1).2)]
def tabA : List AV := tabW.map fun s => .v (sv s)
theorem tab_at2 {k : Nat} (h : k ≤ 16) : List.take 2 (List.drop (k * 2) tabA) = [.v (sv (wordK k)), .v (sv (letsK k))] := by
  have := tab_at (k := k) (by omega)
  rwa [Int.toNat_natCast] at this
set_option maxHeartbeats 8000000 in
theorem sparse_good : Rw.Good Tryd.prog 7 parseCon := by
  have hΓ : GoodEnv Tryd.prog [(16, cutCon), (13, wordsCon), (6, textCon26)] := (goodEnv_cons scut_good (goodEnv_cons swords_good (goodEnv_cons stext26_good goodEnv_nil)))
  refine good_fna (nn := 75) Tryd.func7 (by kernel_rfl) rfl (show Tryd.f7.results.toList = [.cell 2 27, .tmp 3] from rfl) (fun _ => rfl) (fun x => by simp [AV.erL, AV.er]) ?_
  rintro ⟨s, hs, hcan⟩
  refine vcM_ok hΓ (Ws := []) _ ?_
  have hcl := cut_len 32 s
  obtain ⟨w, rest, more, hq⟩ : ∃ w rest more, cutB 32 s = (w, rest, more) := ⟨_, _, _, rfl⟩
  have hct : canT more (soK (kindF w 17)) rest (letsK (kindF w 17 : Nat)) := by have h := hcan; unfold canP at h; rw [hq] at h; exact h
  have hpx : parseX s = takesF more (soK (kindF w 17)) rest (letsK (kindF w 17 : Nat)) := by unfold parseX; rw [hq]
  rw [hq] at hcl
  simp only [goRules, coreRules, tiRules, unRules, AS_of_eq, ← decide_not, seval, mapRules, objRules,]
  refine vcCall_plain (C := cutCon) (i := ⟨(s, 32), by simp only; omega⟩) (by simp [get_cons]) rfl rfl rfl (by simp [AV.erL, AV.er]) (fun _ h => h) rfl ?_
  simp only at hcl
  simp only [goRules, coreRules, tiRules, unRules, AS_of_eq, ← decide_not, seval, mapRules, objRules, hq]
  refine vcCall_plain (C := wordsCon) (i := ()) (by simp [get_cons]) rfl rfl rfl (by simp [AV.erL]) (fun _ h => h) rfl ?_
  rw [show (tabW.map fun s => AV.v (sv s)) = tabA from rfl]
  have hta : tabA.length = 34 := rfl
  have hte : AV.erL tabA = tabA := rfl
  simp only [goRules, coreRules, tiRules, unRules, AS_of_eq, ← decide_not, seval, mapRules, objRules, tabA, tabW, List.map_cons, List.map_nil]
  (repeat (with_reducible refine And.intro ?_ ?_; focus (first | omega | exact mixed1 | kernel_rfl)))
  obtain ⟨St, hSt⟩ : ∃ St : { i : Nat // i ≤ 17 } → AS, ∀ i, St i = AS.ofH 75 [(0, .v (sv s)), (2, .ptr 0 0), (3, .v (.int .i64 0)), (4, .v (sv w)), (5, .v (sv rest)), (6, .v (.bool more)), (7, .ptr 1 0), (19, .agg tabA), (20, .v (.int .i64 i.1))] [] [.cells (opC { so0 with kind := kindF w i.1 }), .cells tabA] [] := ⟨_, fun _ => rfl⟩
  refine vcM_lp ?_
  refine vc_loopM [] hΓ St (fun i => 17 - i.1) ⟨0, by omega⟩ (by rw [hSt]; refine weakH_go [0, 1] [] ?_; simp only [goRules, coreRules, tiRules, unRules, AS_of_eq, ← decide_not, seval, mapRules, objRules, opC, so0, kindF, tabA, tabW, List.map_cons, List.map_nil] <;> ((repeat' apply And.intro) <;> first | rfl | omega | trivial)) ?_
  rintro ⟨i, hi⟩
  rw [hSt]
  simp only
  simp only [goRules, coreRules, tiRules, unRules, AS_of_eq, ← decide_not, seval, mapRules, objRules, opC, so0]
  (with_reducible first | refine branchP_dec (fun h => ?_) (fun h => ?_) | refine guardB_dec (fun h => ?_) (fun h => ?_))
  · have hi16 : i ≤ 16 := by omega
    have hld := tab_at2 hi16
    have h17 : (0 ≤ (i : Int) ∧ (i : Int) < 17) = True := eq_true (by omega)
    have h34 : (i * 2 + 2 ≤ 34) = True := eq_true (by omega)
    have hkf : kindF w (i + 1) = if 0 < i ∧ wordK i = w then i else kindF w i := rfl
    simp only [goRules, coreRules, tiRules, unRules, AS_of_eq, ← decide_not, seval, mapRules, objRules, opC, so0, h, hld, hta, h17, h34, List.length_cons, List.length_nil]
    (repeat (with_reducible refine And.intro ?_ ?_; focus (first | omega | exact mixed1 | kernel_rfl)))
    by_cases g1 : 0 < i
    · have g1' : ((i : Int) > 0) = True := eq_true (by omega)
      by_cases g2 : wordK i = w
      · simp only [goRules, coreRules, tiRules, unRules, AS_of_eq, ← decide_not, seval, mapRules, objRules, opC, so0, g1', g2, wrap_i64 (n := (i : Int) + 1) (by omega) (by omega)]
        (repeat (with_reducible refine And.intro ?_ ?_; focus (first | omega | exact mixed1 | kernel_rfl)))
        refine weak_again ⟨i + 1, by omega⟩ (by simp only; omega) ?_
        rw [hSt]; refine weakH_go [0, 1] [] ?_
        simp only [goRules, coreRules, tiRules, unRules, AS_of_eq, ← decide_not, seval, mapRules, objRules, opC, so0, hkf, g1, g2, and_self, if_true] <;> ((repeat' apply And.intro) <;> first | rfl | omega | trivial)
      · simp only [goRules, coreRules, tiRules, unRules, AS_of_eq, ← decide_not, seval, mapRules, objRules, opC, so0, g1', g2, wrap_i64 (n := (i : Int) + 1) (by omega) (by omega)]
        (repeat (with_reducible refine And.intro ?_ ?_; focus (first | omega | exact mixed1 | kernel_rfl)))
        refine weak_again ⟨i + 1, by omega⟩ (by simp only; omega) ?_
        rw [hSt]; refine weakH_go [0, 1] [] ?_
        simp only [goRules, coreRules, tiRules, unRules, AS_of_eq, ← decide_not, seval, mapRules, objRules, opC, so0, hkf, g1, g2, and_false, if_false] <;> ((repeat' apply And.intro) <;> first | rfl | omega | trivial)
    · have g1' : ((i : Int) > 0) = False := eq_false (by omega)
      simp only [goRules, coreRules, tiRules, unRules, AS_of_eq, ← decide_not, seval, mapRules, objRules, opC, so0, g1', wrap_i64 (n := (i : Int) + 1) (by omega) (by omega)]
      (repeat (with_reducible refine And.intro ?_ ?_; focus (first | omega | exact mixed1 | kernel_rfl)))
      refine weak_again ⟨i + 1, by omega⟩ (by simp only; omega) ?_
      rw [hSt]; refine weakH_go [0, 1] [] ?_
      simp only [goRules, coreRules, tiRules, unRules, AS_of_eq, ← decide_not, seval, mapRules, objRules, opC, so0, hkf, g1, false_and, if_false] <;> ((repeat' apply And.intro) <;> first | rfl | omega | trivial)
  · have hi17 : i = 17 := by omega
    subst hi17
    have hkl := kind_le w 17
    generalize kindF w 17 = k at *
    have hk16 : k ≤ 16 := by omega
    have h17 : (0 ≤ (k : Int) ∧ (k : Int) < 17) = True := eq_true (by omega)
    have hta2 : tabA[k * 2 + 1]? = some (.v (sv (letsK k))) := by
      have h1 := tab_at2 hk16
      have h2 : (List.take 2 (List.drop (k * 2) tabA))[1]? = some (.v (sv (letsK k))) := by rw [h1]; rfl
      rw [List.getElem?_take, if_pos (by omega), List.getElem?_drop] at h2
      exact h2
    obtain ⟨-, -, hlm⟩ := lets_of (k := k) (by omega)
    have hc : ((¬ 1 ≤ k) ∧ soK k = ⟨k, 0, 0, 0, 0, [], false, 0, 0, 0, [], 0, 0⟩) ∨ (1 ≤ k ∧ (¬ k ≤ 4) ∧ soK k = ⟨k, 0, 0, 0, 0, [], false, 0, 0, 0, [], 0, 0⟩) ∨ (1 ≤ k ∧ k ≤ 4 ∧ soK k = ⟨k, 0, k, 0, 0, [], false, 0, 0, 0, [], 0, 0⟩) := by
      unfold soK so0
      by_cases c1 : 1 ≤ k
      · by_cases c2 : k ≤ 4
        · exact .inr (.inr ⟨c1, c2, by rw [if_pos ⟨c1, c2⟩]⟩)
        · exact .inr (.inl ⟨c1, c2, by rw [if_neg (fun h => c2 h.2)]⟩)
      · exact .inl ⟨c1, by rw [if_neg (fun h => c1 h.1)]⟩
    rcases hc with ⟨c1, hak⟩ | ⟨c1, c2, hak⟩ | ⟨c1, c2, hak⟩
    simp only [goRules, coreRules, tiRules, unRules, AS_of_eq, ← decide_not, seval, mapRules, objRules, opC, so0, h, show ((k : Int) ≥ 1) = False from eq_false (by omega), h17, hta2]
    (repeat (with_reducible refine And.intro ?_ ?_; focus (first | omega | exact mixed1 | kernel_rfl)))
    rotate_left
    simp only [goRules, coreRules, tiRules, unRules, AS_of_eq, ← decide_not, seval, mapRules, objRules, opC, so0, h, show ((k : Int) ≥ 1) = True from eq_true (by omega), show ((k : Int) ≤ 4) = False from eq_false (by omega), h17, hta2]
    (repeat (with_reducible refine And.intro ?_ ?_; focus (first | omega | exact mixed1 | kernel_rfl)))
    rotate_left
    simp only [goRules, coreRules, tiRules, unRules, AS_of_eq, ← decide_not, seval, mapRules, objRules, opC, so0, h, show ((k : Int) ≥ 1) = True from eq_true (by omega), show ((k : Int) ≤ 4) = True from eq_true (by omega), h17, hta2]
    (repeat (with_reducible refine And.intro ?_ ?_; focus (first | omega | exact mixed1 | kernel_rfl)))
    rotate_left
    all_goals
      generalize letsK (k : Int) = ls at *
      obtain ⟨S2, hS2⟩ : ∃ St : { p : Nat × So × List UInt8 // p.1 ≤ ls.length ∧ canT more p.2.1 p.2.2 (ls.drop p.1) ∧ takesF more p.2.1 p.2.2 (ls.drop p.1) = parseX s } → AS, ∀ p, St p = AS.ofH 75 [(0, .v (sv s)), (2, .ptr 0 0), (3, .v (.int .i64 0)), (5, .v (sv p.1.2.2)), (6, .v (.bool more)), (52, .ptr 1 0)] [] [.cells (opC p.1.2.1), .iter ⟨ls.toArray⟩ p.1.1] [] := ⟨_, fun _ => rfl⟩
      refine vcM_lp ?_
      refine vc_loopM [] hΓ S2 (fun p => ls.length - p.1.1) ⟨(0, soK k, rest), by simp, hct, hpx.symm⟩ (by rw [hS2]; refine weakH_go [0, 2] [] ?_; simp only [goRules, coreRules, tiRules, unRules, AS_of_eq, ← decide_not, seval, mapRules, objRules, hak, opC] <;> ((repeat' apply And.intro) <;> first | rfl | omega | trivial)) ?_
      rintro ⟨⟨j, x, r⟩, hj, hcx, htx⟩
      simp only at hj hcx htx
      rw [hS2]
      simp only
      simp only [goRules, coreRules, tiRules, unRules, AS_of_eq, ← decide_not, seval, mapRules, objRules, opC]
      by_cases hj2 : j < ls.length
      · have hfm := hlm _ (List.getElem_mem hj2)
        obtain ⟨d1, d2⟩ := dec_ascii hj2 (lets_ascii hfm)
        rw [List.drop_eq_getElem_cons hj2] at hcx htx
        generalize ls[j] = f at *
        unfold canT at hcx
        unfold takesF at htx
        by_cases hmf : more ∨ f ≠ 108
        · rw [if_pos hmf] at hcx htx
          obtain ⟨hf8, hrl, hat, hcx⟩ := hcx
          have hf8' : ((f.toNat : Int) = 108) = False := eq_false (fun h => hf8 (UInt8.toNat_inj.1 (Int.ofNat.inj h)))
          rcases Bool.eq_false_or_eq_true more with hm | hm
          · simp only [goRules, coreRules, tiRules, unRules, AS_of_eq, ← decide_not, seval, mapRules, objRules, opC, nextO_in hj2, d1, d2, hm]
            (repeat (with_reducible refine And.intro ?_ ?_; focus (first | omega | exact mixed1 | kernel_rfl)))
            refine call_takes (by simp [get_cons, get_nil]) hfm hf8 hrl hat (x := x) (o := 0) (by simp [opC, upd]) ?_
            simp only [goRules, coreRules, tiRules, unRules, AS_of_eq, ← decide_not, seval, mapRules, objRules, opC]
            (repeat (with_reducible refine And.intro ?_ ?_; focus (first | omega | exact mixed1 | kernel_rfl)))
            refine weak_again ⟨(j + 1, (takeF x f r).1, (takeF x f r).2), by simp only; omega, hcx, htx⟩ (by simp only; omega) ?_
            rw [hS2]; refine weakH_go [0, 1] [] ?_
            simp only [goRules, coreRules, tiRules, unRules, AS_of_eq, ← decide_not, seval, mapRules, objRules, opC, hm] <;> ((repeat' apply And.intro) <;> first | rfl | omega | trivial)
          · simp only [goRules, coreRules, tiRules, unRules, AS_of_eq, ← decide_not, seval, mapRules, objRules, opC, nextO_in hj2, d1, d2, hm, hf8']
            (repeat (with_reducible refine And.intro ?_ ?_; focus (first | omega | exact mixed1 | kernel_rfl)))
            refine call_takes (by simp [get_cons, get_nil]) hfm hf8 hrl hat (x := x) (o := 0) (by simp [opC, upd]) ?_
            simp only [goRules, coreRules, tiRules, unRules, AS_of_eq, ← decide_not, seval, mapRules, objRules, opC]
            (repeat (with_reducible refine And.intro ?_ ?_; focus (first | omega | exact mixed1 | kernel_rfl)))
            refine weak_again ⟨(j + 1, (takeF x f r).1, (takeF x f r).2), by simp only; omega, hcx, htx⟩ (by simp only; omega) ?_
            rw [hS2]; refine weakH_go [0, 1] [] ?_
            simp only [goRules, coreRules, tiRules, unRules, AS_of_eq, ← decide_not, seval, mapRules, objRules, opC, hm] <;> ((repeat' apply And.intro) <;> first | rfl | omega | trivial)
        · rw [if_neg hmf] at hcx htx
          have hm : more = false := by cases more with | false => rfl | true => exact absurd (.inl rfl) hmf
          have hf8 : f = 108 := Classical.byContradiction fun h => hmf (.inr h)
          subst hf8
          have e108 : ((UInt8.toNat 108 : Nat) : Int) = 108 := rfl
          simp only [goRules, coreRules, tiRules, unRules, AS_of_eq, ← decide_not, seval, mapRules, objRules, opC, nextO_in hj2, d1, d2, hm, e108]
          (repeat (with_reducible refine And.intro ?_ ?_; focus (first | omega | exact mixed1 | kernel_rfl)))
          refine weak_again ⟨(j + 1, x, r), by simp only; omega, hcx, htx⟩ (by simp only; omega) ?_
          rw [hS2]; refine weakH_go [0, 1] [] ?_
          simp only [goRules, coreRules, tiRules, unRules, AS_of_eq, ← decide_not, seval, mapRules, objRules, opC, hm] <;> ((repeat' apply And.intro) <;> first | rfl | omega | trivial)
      · rw [List.drop_of_length_le (by omega)] at hcx htx
        unfold canT at hcx
        unfold takesF at htx
        by_cases g0 : x.kind = 0
        · have hpr : parseR s = (so3, 2) := by unfold parseR; rw [← htx, if_pos (.inl g0)]
          simp only [goRules, coreRules, tiRules, unRules, AS_of_eq, ← decide_not, seval, mapRules, objRules, opC, nextO_end hj2, g0]
          (repeat (with_reducible refine And.intro ?_ ?_; focus (first | omega | exact mixed1 | kernel_rfl)))
          rw [hpr]; rfl
        · simp only [goRules, coreRules, tiRules, unRules, AS_of_eq, ← decide_not, seval, mapRules, objRules, opC, nextO_end hj2, g0]
          refine vcCall_plain (C := textCon26) (i := ⟨x, hcx⟩) (by simp [get_cons]) rfl rfl rfl (by simp [opC, AV.erL, AV.er]) (fun _ h => h) rfl ?_
          by_cases g1 : textF x = s
          · have hpr : parseR s = (x, 0) := by unfold parseR; rw [← htx, if_neg (fun h => h.elim g0 (fun h => h g1))]
            simp only [goRules, coreRules, tiRules, unRules, AS_of_eq, ← decide_not, seval, mapRules, objRules, opC, g1]
            (repeat (with_reducible refine And.intro ?_ ?_; focus (first | omega | exact mixed1 | kernel_rfl)))
            rw [hpr]
          · have hpr : parseR s = (so3, 2) := by unfold parseR; rw [← htx, if_pos (.inr g1)]
            simp only [goRules, coreRules, tiRules, unRules, AS_of_eq, ← decide_not, seval, mapRules, objRules, opC, g1]
            (repeat (with_reducible refine And.intro ?_ ?_; focus (first | omega | exact mixed1 | kernel_rfl)))
            rw [hpr]; rfl
end Go.Proofs
end

-- SSc7
section
namespace Go.Proofs
open Go Go.Rw
set_option maxRecDepth 100000
set_option linter.unusedSimpArgs false
set_option linter.unusedVariables false

structure Sn where
  id : Int
  par : Int
  nm : List UInt8
  dir : Bool
  text : List UInt8
def nodF (x : Sn) : List UInt8 := Lib.join ([Lib.itoa x.id, Lib.itoa x.par, x.nm, kindW x.dir] ++ if x.dir then [] else [txtW x.text]) [32]
abbrev snodeCon : Con where
  ι := { x : Sn // ((-9223372036854775808 ≤ x.id ∧ x.id ≤ 9223372036854775807) ∧ -9223372036854775808 ≤ x.par ∧ x.par ≤ 9223372036854775807) ∧ x.nm.length ≤ 100000 ∧ x.text.length ≤ 100000 ∧ 10 ∉ x.text }
  args := fun x => [.agg [.v (.int .i64 x.1.id), .v (.int .i64 x.1.par), .v (sv x.1.nm), .v (.bool x.1.dir), .v (sv x.1.text)]]
  post := fun x r => r = .v (sv (nodF x.1))
  plain := true
theorem txt_no {s : List UInt8} (h : 10 ∉ s) : 10 ∉ txtW s := by
  unfold txtW
  split
  · decide
  · simp only [List.mem_cons, not_or]
    exact ⟨by decide, h⟩
theorem txt_len (s : List UInt8) : (txtW s).length ≤ s.length + 1 := by
  unfold txtW
  split <;> simp
set_option maxHeartbeats 4000000 in
theorem snode_good : Rw.Good Tryd.prog 18 snodeCon := by
  have hΓ : GoodEnv Tryd.prog [(23, itoaCon), (26, kindCon), (27, txtCon), (35, replACon), (15, joinCon)] := (goodEnv_cons sitoa_good (goodEnv_cons skind_good (goodEnv_cons stext_good (goodEnv_cons sreplA_good (goodEnv_cons sjoin_good goodEnv_nil)))))
  refine good_fna (nn := 28) Tryd.func18 (by kernel_rfl) rfl (show Tryd.f18.results.toList = [.tmp 2] from rfl) (fun _ => rfl) (fun x => by simp [AV.erL, AV.er]) ?_
  rintro ⟨⟨id, par, nm, dir, text⟩, ⟨h1, h2⟩, h3, h4, h5⟩
  simp only at h1 h2 h3 h4 h5
  have l1 := Lib.itoa_length_le id h1.1 h1.2
  have l2 := Lib.itoa_length_le par h2.1 h2.2
  have l3 := txt_len text
  refine vcM_ok hΓ (Ws := [(1, [], [])]) _ ?_
  simp only [goRules, coreRules, tiRules, unRules, AS_of_eq, ← decide_not, seval, mapRules, objRules, wideRules]
  (repeat (with_reducible refine And.intro ?_ ?_; focus (first | omega | exact mixed1 | kernel_rfl)))
  refine vcCall_plain (C := itoaCon) (i := ⟨id, h1⟩) (by simp [get_cons]) rfl rfl rfl (by simp [AV.erL, AV.er]) (fun _ h => h) rfl ?_
  simp only [goRules, coreRules, tiRules, unRules, AS_of_eq, ← decide_not, seval, mapRules, objRules, wideRules]
  (repeat (with_reducible refine And.intro ?_ ?_; focus (first | omega | exact mixed1 | kernel_rfl)))
  refine vcCall_plain (C := itoaCon) (i := ⟨par, h2⟩) (by simp [get_cons]) rfl rfl rfl (by simp [AV.erL, AV.er]) (fun _ h => h) rfl ?_
  simp only [goRules, coreRules, tiRules, unRules, AS_of_eq, ← decide_not, seval, mapRules, objRules, wideRules]
  (repeat (with_reducible refine And.intro ?_ ?_; focus (first | omega | exact mixed1 | kernel_rfl)))
  refine vcCall_plain (C := kindCon) (i := dir) (by simp [get_cons]) rfl rfl rfl (by simp [AV.erL, AV.er]) (fun _ h => h) rfl ?_
  cases dir with
  | true =>
    simp only [goRules, coreRules, tiRules, unRules, AS_of_eq, ← decide_not, seval, mapRules, objRules, wideRules]
    (repeat (with_reducible refine And.intro ?_ ?_; focus (first | omega | exact mixed1 | kernel_rfl)))
    refine vcCall_plain (C := joinCon) (i := ⟨([Lib.itoa id, Lib.itoa par, nm, kindW true], [32]), by simp, by simp [Lib.join_cons, Lib.joinTail, kindW]; omega⟩) (by simp [get_cons]) rfl rfl rfl (by simp [AV.erL, AV.er, strsA]) (fun _ h => h) rfl ?_
    simp only [goRules, coreRules, tiRules, unRules, AS_of_eq, ← decide_not, seval, mapRules, objRules,]
    rfl
  | false =>
    simp only [goRules, coreRules, tiRules, unRules, AS_of_eq, ← decide_not, seval, mapRules, objRules, wideRules]
    (repeat (with_reducible refine And.intro ?_ ?_; focus (first | omega | exact mixed1 | kernel_rfl)))
    refine vcCall_plain (C := txtCon) (i := ⟨text, by omega⟩) (by simp [get_cons]) rfl rfl rfl (by simp [AV.erL, AV.er]) (fun _ h => h) rfl ?_
    simp only [goRules, coreRules, tiRules, unRules, AS_of_eq, ← decide_not, seval, mapRules, objRules,]
    refine vcCall_plain (C := replACon) (i := ⟨(txtW text, 10, 47), by simp only; omega, txt_no h5, by simp⟩) (by simp [get_cons]) rfl rfl rfl (by simp [AV.erL, AV.er]) (fun _ h => h) rfl ?_
    simp only [goRules, coreRules, tiRules, unRules, AS_of_eq, ← decide_not, seval, mapRules, objRules,]
    (repeat (with_reducible refine And.intro ?_ ?_; focus (first | omega | exact mixed1 | kernel_rfl)))
    refine vcCall_plain (C := joinCon) (i := ⟨([Lib.itoa id, Lib.itoa par, nm, kindW false, txtW text], [32]), by simp, by simp [Lib.join_cons, Lib.joinTail, kindW]; omega⟩) (by simp [get_cons]) rfl rfl rfl (by simp [AV.erL, AV.er, strsA]) (fun _ h => h) rfl ?_
    simp only [goRules, coreRules, tiRules, unRules, AS_of_eq, ← decide_not, seval, mapRules, objRules,]
    rfl
instance canTDec (more : Bool) : ∀ (x : So) (s l : List UInt8), Decidable (canT more x s l)
  | x, _, [] => inferInstanceAs (Decidable (okSo x))
  | x, s, f :: r => by
    have h1 := canTDec more (takeF x f s).1 (takeF x f s).2 r
    have h2 := canTDec more x s r
    unfold canT
    infer_instance
instance canPDec (s : List UInt8) : Decidable (canP s) := inferInstanceAs (Decidable (canT _ _ _ _))
def aw1 : List UInt8 := [101, 100, 105, 116, 32, 49, 32, 53, 32, 48, 32, 48, 32, 61, 104, 105, 32, 116, 104, 101, 114, 101]
def aw2 : List UInt8 := [101, 100, 105, 116, 32, 49, 32, 53, 32, 48, 32, 48, 32, 61]
def awO : So := ⟨4, 1, 4, 5, 0, [], false, 0, 0, 0, [104, 105, 32, 116, 104, 101, 114, 101], 0, 0⟩
theorem aw1_ok : canP aw1 ∧ parseR aw1 = (awO, 0) := by decide +kernel
theorem aw2_ok : canP aw2 ∧ parseR aw2 = (so3, 2) := by decide +kernel
theorem aw3_ok : textF { so3 with kind := 11 } = [116, 114, 101, 101] := by decide +kernel
theorem aw4_ok : nodF ⟨5, 0, [97], false, []⟩ = [53, 32, 48, 32, 97, 32, 102, 105, 108, 101, 32, 45] := by decide +kernel
abbrev trueCon26 : Con where
  ι := Unit
  args := fun _ => []
  post := fun _ r => r = .v (.bool true)
  plain := true
theorem kill_nilS {fm : Nat → Nat} {lv : Nat → Option (Nat × Nat)} : kill fm [] lv = lv := by funext l; simp [kill]
theorem call_parse {Γ : Env} (hf : Γ.get 7 = some parseCon) {n : Nat} {t : Nat → AV} {hd : Nat → Nat → AV} {d : Option Nat} {K : AS → Prop} {nh nl : Nat} {h : Nat → Option AO} {fm : Nat → Nat} {lv : Nat → Option (Nat × Nat)} {mu : Bool} {s : List UInt8} (hs : s.length ≤ 1000000) (hc : canP s) {x : So} {e : Int} (hr : parseR s = (x, e))
    (hk : cont ⟨n, t, hd, ⟨nh, h, nl, fm, lv, mu⟩⟩ d (.tup [.agg (opC x), .v (.int .i64 e)]) K) : vcCall Tryd.prog Γ false ⟨n, t, hd, ⟨nh, h, nl, fm, lv, mu⟩⟩ 7 [.v (sv s)] d K := by
  refine vcCall_none (C := parseCon) (i := ⟨s, hs, hc⟩) hf rfl rfl rfl (by simp [AV.erL, AV.er]) (ts := []) (by simp [AV.tagsL, AV.tags]) ?_
  rintro r rfl
  rw [kill_nilS, hr]
  exact hk
theorem call_text26 {Γ : Env} (hf : Γ.get 6 = some textCon26) {σ : AS} {dr : Bool} {d : Option Nat} {K : AS → Prop} {x : So} {cs : List AV} (hcs : AV.erL cs = opC x) (hx : okSo x)
    (hk : cont σ d (.v (sv (textF x))) K) : vcCall Tryd.prog Γ dr σ 6 [.agg cs] d K :=
  vcCall_plain (C := textCon26) (i := ⟨x, hx⟩) hf rfl rfl rfl (by simp only [AV.erL, AV.er, hcs]) (fun _ h => h) rfl hk
set_option maxHeartbeats 4000000 in
theorem awake26_good : Rw.Good Tryd.prog 8 trueCon26 := by
  have hΓ : GoodEnv Tryd.prog [(7, parseCon), (6, textCon26), (18, snodeCon)] := (goodEnv_cons sparse_good (goodEnv_cons stext26_good (goodEnv_cons snode_good goodEnv_nil)))
  refine good_fna (nn := 50) Tryd.func8 (by kernel_rfl) rfl (show Tryd.f8.results.toList = [.tmp 0] from rfl) (fun _ => rfl) (fun x => by simp [AV.erL, AV.er]) ?_
  rintro ⟨⟩
  refine vcM_ok hΓ (Ws := []) _ ?_
  simp only [goRules, coreRules, tiRules, unRules, AS_of_eq, ← decide_not, seval, mapRules, objRules,]
  refine call_parse (s := aw1) (by simp [get_cons]) (by decide) aw1_ok.1 aw1_ok.2 ?_
  simp only [goRules, coreRules, tiRules, unRules, AS_of_eq, ← decide_not, seval, mapRules, objRules, opC, awO]
  refine call_parse (s := aw2) (by simp [get_cons]) (by decide) aw2_ok.1 aw2_ok.2 ?_
  simp only [goRules, coreRules, tiRules, unRules, AS_of_eq, ← decide_not, seval, mapRules, objRules, opC, so3]
  (repeat (with_reducible refine And.intro ?_ ?_; focus (first | omega | exact mixed1 | kernel_rfl)))
  refine call_text26 (x := { so3 with kind := 11 }) (by simp [get_cons]) (by simp [opC, so3, AV.erL, AV.er]) (by decide) ?_
  rw [aw3_ok]
  simp only [goRules, coreRules, tiRules, unRules, AS_of_eq, ← decide_not, seval, mapRules, objRules,]
  (repeat (with_reducible refine And.intro ?_ ?_; focus (first | omega | exact mixed1 | kernel_rfl)))
  refine vcCall_plain (C := snodeCon) (i := ⟨⟨5, 0, [97], false, []⟩, by decide⟩) (by simp [get_cons]) rfl rfl rfl (by simp [AV.erL, AV.er]) (fun _ h => h) rfl ?_
  rw [aw4_ok]
  simp only [goRules, coreRules, tiRules, unRules, AS_of_eq, ← decide_not, seval, mapRules, objRules,]
end Go.Proofs
end

-- SSc8
section
namespace Go.Proofs
open Go Go.Rw
set_option maxRecDepth 100000
set_option linter.unusedSimpArgs false
set_option linter.unusedVariables false

def oK (a : Int) : So := ⟨a, 0, 0, 0, 0, [110], false, 0, 0, 0, [], 3, 1⟩
theorem oK_ok (a : Int) : okSo (oK a) := by
  unfold oK okSo
  simp
theorem kin_all : ∀ k ∈ List.range 16, textF (oK ((k : Nat) + 1 : Int)) ≠ [] ∧ canP (textF (oK ((k : Nat) + 1 : Int))) ∧ (parseR (textF (oK ((k : Nat) + 1 : Int)))).2 = 0 ∧ (parseR (textF (oK ((k : Nat) + 1 : Int)))).1.kind = ((k : Nat) + 1 : Int) ∧ (textF (oK ((k : Nat) + 1 : Int))).length ≤ 100 := by decide +kernel
theorem kinj_all : ∀ k ∈ List.range 16, ∀ j ∈ List.range 16, textF (oK ((k : Nat) + 1 : Int)) = textF (oK ((j : Nat) + 1 : Int)) → k = j := by decide +kernel
theorem kin {a : Int} (h : 1 ≤ a ∧ a ≤ 16) : textF (oK a) ≠ [] ∧ canP (textF (oK a)) ∧ (textF (oK a)).length ≤ 100 ∧ ∃ q, parseR (textF (oK a)) = (q, 0) ∧ q.kind = a := by
  obtain ⟨k, hk⟩ : ∃ k : Nat, a = ((k : Nat) + 1 : Int) := ⟨(a - 1).toNat, by omega⟩
  subst hk
  obtain ⟨h1, h2, h3, h4, h5⟩ := kin_all k (List.mem_range.2 (by omega))
  exact ⟨h1, h2, h5, (parseR (textF (oK ((k : Nat) + 1 : Int)))).1, Prod.ext rfl h3, h4⟩
theorem kinj {a b : Int} (ha : 1 ≤ a ∧ a ≤ 16) (hb : 1 ≤ b ∧ b ≤ 16) (h : textF (oK a) = textF (oK b)) : a = b := by
  obtain ⟨k, hk⟩ : ∃ k : Nat, a = ((k : Nat) + 1 : Int) := ⟨(a - 1).toNat, by omega⟩
  obtain ⟨j, hj⟩ : ∃ j : Nat, b = ((j : Nat) + 1 : Int) := ⟨(b - 1).toNat, by omega⟩
  subst hk hj
  have := kinj_all k (List.mem_range.2 (by omega)) j (List.mem_range.2 (by omega)) h
  omega
theorem kout {a : Int} (h : ¬ (1 ≤ a ∧ a ≤ 16)) : textF (oK a) = [] := by
  unfold textF
  rw [if_pos (by simp only [oK]; omega)]
theorem nil_parse : canP [] ∧ parseR [] = (so3, 2) := by decide +kernel
abbrev I64 := { n : Int // -9223372036854775808 ≤ n ∧ n ≤ 9223372036854775807 }
abbrev kinds26Con : Con where
  ι := I64 × I64
  args := fun p => [.v (.int .i64 p.1.1), .v (.int .i64 p.2.1)]
  post := fun _ r => r = .v (.bool true)
  plain := true
theorem call_awake26 {Γ : Env} (hf : Γ.get 8 = some trueCon26) {σ : AS} {dr : Bool} {d : Option Nat} {K : AS → Prop}
    (hk : cont σ d (.v (.bool true)) K) : vcCall Tryd.prog Γ dr σ 8 [] d K :=
  vcCall_plain (C := trueCon26) (i := ()) hf rfl rfl rfl rfl (fun _ h => h) rfl hk
set_option maxHeartbeats 4000000 in
theorem kinds26_good : Rw.Good Tryd.prog 3 kinds26Con := by
  have hΓ : GoodEnv Tryd.prog [(8, trueCon26), (7, parseCon), (6, textCon26)] := (goodEnv_cons awake26_good (goodEnv_cons sparse_good (goodEnv_cons stext26_good goodEnv_nil)))
  refine good_fna (nn := 77) Tryd.func3 (by kernel_rfl) rfl (show Tryd.f3.results.toList = [.tmp 4] from rfl) (fun _ => rfl) (fun x => by simp [AV.erL, AV.er]) ?_
  rintro ⟨⟨a, ha⟩, ⟨b, hb⟩⟩
  refine vcM_ok hΓ (Ws := []) _ ?_
  simp only [goRules, coreRules, tiRules, unRules, AS_of_eq, ← decide_not, seval, mapRules, objRules,]
  (repeat (with_reducible refine And.intro ?_ ?_; focus (first | omega | exact mixed1 | kernel_rfl)))
  refine call_text26 (x := oK a) (by simp [get_cons]) (by simp [opC, oK, AV.erL, AV.er]) (oK_ok a) ?_
  simp only [goRules, coreRules, tiRules, unRules, AS_of_eq, ← decide_not, seval, mapRules, objRules,]
  (repeat (with_reducible refine And.intro ?_ ?_; focus (first | omega | exact mixed1 | kernel_rfl)))
  refine call_text26 (x := oK b) (by simp [get_cons]) (by simp [opC, oK, AV.erL, AV.er]) (oK_ok b) ?_
  by_cases ia : 1 ≤ a ∧ a ≤ 16
  · obtain ⟨hx, hc, hl, q, hq, hqk⟩ := kin ia
    have a1 : (a ≥ 1) = True := eq_true (by omega)
    have a2 : (a ≤ 16) = True := eq_true (by omega)
    simp only [goRules, coreRules, tiRules, unRules, AS_of_eq, ← decide_not, seval, mapRules, objRules, a1, a2]
    (repeat (with_reducible refine And.intro ?_ ?_; focus (first | omega | exact mixed1 | kernel_rfl)))
    refine call_parse (by simp [get_cons]) (by omega) hc hq ?_
    have hxy : (textF (oK a) = textF (oK b)) = (a = b) := propext ⟨fun h => by
      by_cases ib : 1 ≤ b ∧ b ≤ 16
      · exact kinj ia ib h
      · exact absurd (h.trans (kout ib)) hx, fun h => by rw [h]⟩
    by_cases hab : a = b
    · subst hab
      simp only [goRules, coreRules, tiRules, unRules, AS_of_eq, ← decide_not, seval, mapRules, objRules, opC, hx, hqk, beq_self_eq_true, decide_true]
      (repeat (with_reducible refine And.intro ?_ ?_; focus (first | omega | exact mixed1 | kernel_rfl)))
      refine call_awake26 (by simp [get_cons]) ?_
      simp only [goRules, coreRules, tiRules, unRules, AS_of_eq, ← decide_not, seval, mapRules, objRules,]
    · simp only [goRules, coreRules, tiRules, unRules, AS_of_eq, ← decide_not, seval, mapRules, objRules, opC, hx, hxy, hab, hqk, beq_self_eq_true]
      (repeat (with_reducible refine And.intro ?_ ?_; focus (first | omega | exact mixed1 | kernel_rfl)))
      refine call_awake26 (by simp [get_cons]) ?_
      simp only [goRules, coreRules, tiRules, unRules, AS_of_eq, ← decide_not, seval, mapRules, objRules,]
  · have hx := kout ia
    rw [hx]
    have e1 : parseR [] = (so3, 2) := nil_parse.2
    have fin : ∀ (ya : List UInt8), textF (oK b) = ya → True := fun _ _ => trivial
    by_cases ib : 1 ≤ b ∧ b ≤ 16
    · have hy := (kin ib).1
      have hy2 : ([] = textF (oK b)) = False := eq_false (fun h => hy h.symm)
      have hab : (a = b) = False := eq_false (fun h => ia (by rw [h]; exact ib))
      have b1 : (b < 1) = False := eq_false (by omega)
      have b2 : (b > 16) = False := eq_false (by omega)
      by_cases c1 : a ≥ 1
      · have c2 : (a ≤ 16) = False := eq_false (by omega)
        simp only [goRules, coreRules, tiRules, unRules, AS_of_eq, ← decide_not, seval, mapRules, objRules, c1, c2]
        (repeat (with_reducible refine And.intro ?_ ?_; focus (first | omega | exact mixed1 | kernel_rfl)))
        refine call_parse (s := []) (by simp [get_cons]) (by simp) nil_parse.1 e1 ?_
        simp only [goRules, coreRules, tiRules, unRules, AS_of_eq, ← decide_not, seval, mapRules, objRules, opC, so3, hy2, hab, b1, b2, beq_self_eq_true]
        (repeat (with_reducible refine And.intro ?_ ?_; focus (first | omega | exact mixed1 | kernel_rfl)))
        refine call_awake26 (by simp [get_cons]) ?_
        simp only [goRules, coreRules, tiRules, unRules, AS_of_eq, ← decide_not, seval, mapRules, objRules,]
      · simp only [goRules, coreRules, tiRules, unRules, AS_of_eq, ← decide_not, seval, mapRules, objRules, c1]
        (repeat (with_reducible refine And.intro ?_ ?_; focus (first | omega | exact mixed1 | kernel_rfl)))
        refine call_parse (s := []) (by simp [get_cons]) (by simp) nil_parse.1 e1 ?_
        simp only [goRules, coreRules, tiRules, unRules, AS_of_eq, ← decide_not, seval, mapRules, objRules, opC, so3, hy2, hab, b1, b2, beq_self_eq_true]
        (repeat (with_reducible refine And.intro ?_ ?_; focus (first | omega | exact mixed1 | kernel_rfl)))
        refine call_awake26 (by simp [get_cons]) ?_
        simp only [goRules, coreRules, tiRules, unRules, AS_of_eq, ← decide_not, seval, mapRules, objRules,]
    · have hy := kout ib
      rw [hy]
      have hbb : b < 1 ∨ (¬ b < 1 ∧ b > 16) := by omega
      by_cases c1 : a ≥ 1
      · have c2 : (a ≤ 16) = False := eq_false (by omega)
        simp only [goRules, coreRules, tiRules, unRules, AS_of_eq, ← decide_not, seval, mapRules, objRules, c1, c2]
        (repeat (with_reducible refine And.intro ?_ ?_; focus (first | omega | exact mixed1 | kernel_rfl)))
        refine call_parse (s := []) (by simp [get_cons]) (by simp) nil_parse.1 e1 ?_
        rcases hbb with b1 | ⟨b1, b2⟩ <;> by_cases hab : a = b
        · simp only [goRules, coreRules, tiRules, unRules, AS_of_eq, ← decide_not, seval, mapRules, objRules, opC, so3, hab, b1, beq_self_eq_true]
          (repeat (with_reducible refine And.intro ?_ ?_; focus (first | omega | exact mixed1 | kernel_rfl)))
          refine call_awake26 (by simp [get_cons]) ?_
          simp only [goRules, coreRules, tiRules, unRules, AS_of_eq, ← decide_not, seval, mapRules, objRules,]
        · simp only [goRules, coreRules, tiRules, unRules, AS_of_eq, ← decide_not, seval, mapRules, objRules, opC, so3, hab, b1, beq_self_eq_true]
          (repeat (with_reducible refine And.intro ?_ ?_; focus (first | omega | exact mixed1 | kernel_rfl)))
          refine call_awake26 (by simp [get_cons]) ?_
          simp only [goRules, coreRules, tiRules, unRules, AS_of_eq, ← decide_not, seval, mapRules, objRules,]
        · simp only [goRules, coreRules, tiRules, unRules, AS_of_eq, ← decide_not, seval, mapRules, objRules, opC, so3, hab, b1, b2, beq_self_eq_true]
          (repeat (with_reducible refine And.intro ?_ ?_; focus (first | omega | exact mixed1 | kernel_rfl)))
          refine call_awake26 (by simp [get_cons]) ?_
          simp only [goRules, coreRules, tiRules, unRules, AS_of_eq, ← decide_not, seval, mapRules, objRules,]
        · simp only [goRules, coreRules, tiRules, unRules, AS_of_eq, ← decide_not, seval, mapRules, objRules, opC, so3, hab, b1, b2, beq_self_eq_true]
          (repeat (with_reducible refine And.intro ?_ ?_; focus (first | omega | exact mixed1 | kernel_rfl)))
          refine call_awake26 (by simp [get_cons]) ?_
          simp only [goRules, coreRules, tiRules, unRules, AS_of_eq, ← decide_not, seval, mapRules, objRules,]
      · simp only [goRules, coreRules, tiRules, unRules, AS_of_eq, ← decide_not, seval, mapRules, objRules, c1]
        (repeat (with_reducible refine And.intro ?_ ?_; focus (first | omega | exact mixed1 | kernel_rfl)))
        refine call_parse (s := []) (by simp [get_cons]) (by simp) nil_parse.1 e1 ?_
        rcases hbb with b1 | ⟨b1, b2⟩ <;> by_cases hab : a = b
        · simp only [goRules, coreRules, tiRules, unRules, AS_of_eq, ← decide_not, seval, mapRules, objRules, opC, so3, hab, b1, beq_self_eq_true]
          (repeat (with_reducible refine And.intro ?_ ?_; focus (first | omega | exact mixed1 | kernel_rfl)))
          refine call_awake26 (by simp [get_cons]) ?_
          simp only [goRules, coreRules, tiRules, unRules, AS_of_eq, ← decide_not, seval, mapRules, objRules,]
        · simp only [goRules, coreRules, tiRules, unRules, AS_of_eq, ← decide_not, seval, mapRules, objRules, opC, so3, hab, b1, beq_self_eq_true]
          (repeat (with_reducible refine And.intro ?_ ?_; focus (first | omega | exact mixed1 | kernel_rfl)))
          refine call_awake26 (by simp [get_cons]) ?_
          simp only [goRules, coreRules, tiRules, unRules, AS_of_eq, ← decide_not, seval, mapRules, objRules,]
        · simp only [goRules, coreRules, tiRules, unRules, AS_of_eq, ← decide_not, seval, mapRules, objRules, opC, so3, hab, b1, b2, beq_self_eq_true]
          (repeat (with_reducible refine And.intro ?_ ?_; focus (first | omega | exact mixed1 | kernel_rfl)))
          refine call_awake26 (by simp [get_cons]) ?_
          simp only [goRules, coreRules, tiRules, unRules, AS_of_eq, ← decide_not, seval, mapRules, objRules,]
        · simp only [goRules, coreRules, tiRules, unRules, AS_of_eq, ← decide_not, seval, mapRules, objRules, opC, so3, hab, b1, b2, beq_self_eq_true]
          (repeat (with_reducible refine And.intro ?_ ?_; focus (first | omega | exact mixed1 | kernel_rfl)))
          refine call_awake26 (by simp [get_cons]) ?_
          simp only [goRules, coreRules, tiRules, unRules, AS_of_eq, ← decide_not, seval, mapRules, objRules,]
end Go.Proofs
end

-- SScR
section
namespace Go.Proofs.YtnpofobcbfbfnaaDoor
open Go Go.ChangeShapes Go.WideShapes Go.ChangeAt Go.RowKit Go.Rw Go.Lib
open Go.ChangeMaps (open_string shut_string)
set_option linter.unusedVariables false
set_option maxRecDepth 100000

theorem own : ownKnob Tryd.prog.godebug = none := by kernel_rfl
theorem laidOut : laidOutB Tryd.prog = true := by kernel_rfl
def lit1 : DataW Unit → Value
  | .lit (.int k z) => .int k z
  | _ => .bool false
def tab1 : DataW Unit → List Value
  | .agg l => l.map lit1
  | _ => []
def tab2 : DataW Unit → List Value
  | .agg l => l.flatMap tab1
  | _ => []
/-- The settled world, the variables holding what their initialisers lay. -/
noncomputable def laidWorld (os : Os) : World :=
  let w0 := World.holding Tryd.prog os ⟨#[], #[], []⟩
  let put (h : Array Obj) (g : Nat) (cs : List Value) : Array Obj := h.modify g fun
    | .cells _ t frozen => .cells cs.toArray t frozen
    | o => o
  let h1 := put w0.heap 4 (tab1 Rows.laid_unicode_utf8_first)
  let h2 := put h1 5 (tab2 Rows.laid_unicode_utf8_acceptRanges)
  let h3 := put h2 6 (tab1 Rows.laid_math_bits_deBruijn32tab)
  let h4 := put h3 7 (tab1 Rows.laid_math_bits_deBruijn64tab)
  let h5 := put h4 3 (tab1 Rows.laid_internal_strconv_uint64pow10)
  let h6 := put h5 2 [.iface 127 (.pointer (some ⟨h5.size, 0, none⟩))]
  let h7 := put h6 1 [.iface 127 (.pointer (some ⟨h5.size + 1, 0, none⟩))]
  { w0 with heap := (h7.push (.cells #[.string ⟨#[118, 97, 108, 117, 101, 32, 111, 117, 116, 32, 111, 102, 32, 114, 97, 110, 103, 101]⟩] 129)).push (.cells #[.string ⟨#[105, 110, 118, 97, 108, 105, 100, 32, 115, 121, 110, 116, 97, 120]⟩] 129) }
abbrev laidL : List (String × DataW Unit) := [("math/bits.deBruijn32tab", Rows.laid_math_bits_deBruijn32tab), ("math/bits.deBruijn64tab", Rows.laid_math_bits_deBruijn64tab), ("internal/strconv.uint64pow10", Rows.laid_internal_strconv_uint64pow10), ("unicode/utf8.acceptRanges", Rows.laid_unicode_utf8_acceptRanges), ("strconv.ErrRange", Rows.laid_strconv_ErrRange), ("strconv.ErrSyntax", Rows.laid_strconv_ErrSyntax), ("unicode/utf8.first", Rows.laid_unicode_utf8_first)]
theorem laid_met (os : Os) (args : Array Value) : laidMet Tryd.prog laidL ((laidWorld os).forCall (fun _ _ => 0) ⟨#[], args, []⟩).memory :=
  (LaidIn.of_run (l := laidL) ((List.range 100)) 8 (by kernel_rfl) (by kernel_rfl) (by kernel_rfl) (by kernel_rfl)).met
theorem tabs_of {W : World} (hL : laidMet Tryd.prog laidL W) : TabOk W (tkBlock none) := by
  have h3 : laidMet Tryd.prog (("internal/strconv.uint64pow10", tabData .u64 Lib.pow10Tab) :: [("unicode/utf8.acceptRanges", Rows.laid_unicode_utf8_acceptRanges), ("strconv.ErrRange", Rows.laid_strconv_ErrRange), ("strconv.ErrSyntax", Rows.laid_strconv_ErrSyntax), ("unicode/utf8.first", Rows.laid_unicode_utf8_first)]) W := by
    have := hL.tail.tail
    exact this
  have htab : Lib.TabIs Tryd.prog W "internal/strconv.uint64pow10" .u64 Lib.pow10Tab :=
    Lib.tabIs_of_head (g := 3) (t := 121) (e := 101) (n := 20) (by kernel_rfl) (by kernel_rfl) (by kernel_rfl) (by kernel_rfl) (by kernel_rfl) (by kernel_rfl) h3
  refine ⟨htab, fun g hg => ⟨?_, by rintro ⟨k, hk, _⟩; cases hk⟩⟩
  have hg' : Tryd.prog.globalNamed "internal/strconv.uint64pow10" = some g := hg
  unfold Lib.TabIs World.var? at htab
  rw [hg', Option.bind_some] at htab
  rcases Nat.lt_or_ge g W.heap.size with h | h
  · exact h
  · rw [Array.getElem?_eq_none h] at htab; cases htab
theorem i64_wf {n : Int} (h : (Lit.int .i64 n).wf = true) : -9223372036854775808 ≤ n ∧ n ≤ 9223372036854775807 := by
  simp [Lit.wf, IntKind.min, IntKind.max, IntKind.signed, IntKind.bits] at h; omega
end Go.Proofs.YtnpofobcbfbfnaaDoor
end
