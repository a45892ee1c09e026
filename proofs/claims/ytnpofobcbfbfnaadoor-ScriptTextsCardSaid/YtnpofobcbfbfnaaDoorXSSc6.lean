/-
  Script: a line as an op. Script: a node as words; law26: what the document fixes. ScriptKinds answers true. ScriptTexts answers true. ScriptTexts answers true. From law26's functions to their rows: the variables as they are laid; a world for the witness.
-/
import Derived.Test.YtnpofobcbfbfnaaDoorXSSc1
import Derived.Test.YtnpofobcbfbfnaaDoorRwG
import Derived.Test.YtnpofobcbfbfnaaDoorCards
import Derived.Test.YtnpofobcbfbfnaaDoorTie
import Derived.Lib.LaidIn
import Derived.Lib.LaidU8T
import Derived.Lib.LaidTab
import Derived.Stop.LaidErr
import Derived.Deep.DeepHandedRow
import Derived.Deep.DeepWitnessRowRef
import Derived.ProofKit
import Derived.OpenShut
import Derived.SizedLaws
import Derived.SevenTiedAt
set_option linter.unusedSimpArgs false
set_option linter.unusedVariables false
set_option linter.defProp false
set_option linter.unusedSectionVars false

-- SSc6
section
namespace Go.Proofs
open Go Go.Rw
set_option maxRecDepth 100000
set_option linter.unusedSimpArgs false
set_option linter.unusedVariables false

def so0 : So := ⟨0, 0, 0, 0, 0, [], false, 0, 0, 0, [], 0, 0⟩
def so3 : So := ⟨0, 0, 0, 0, 0, [], false, 0, 0, 0, [], 3, 1⟩
/-- The kind whose word it is, of the first n. -/
def kindF (w : List UInt8) : Nat → Nat
  | 0 => 0
  | n + 1 => if 0 < n ∧ wordK n = w then n else kindF w n
theorem kind_le (w : List UInt8) : ∀ n, kindF w n ≤ n - 1
  | 0 => Nat.le_refl _
  | n + 1 => by
    have := kind_le w n
    unfold kindF
    split <;> omega
def soK (k : Nat) : So := { so0 with kind := k, ak := if 1 ≤ k ∧ k ≤ 4 then k else 0 }
/-- All fields that are there, read one behind the other. -/
def takesF (more : Bool) : So → List UInt8 → List UInt8 → So
  | x, _, [] => x
  | x, s, f :: r => if more ∨ f ≠ 108 then takesF more (takeF x f s).1 (takeF x f s).2 r else takesF more x s r
/-- Each field can be read so. -/
def canT (more : Bool) : So → List UInt8 → List UInt8 → Prop
  | x, _, [] => okSo x
  | x, s, f :: r => if more ∨ f ≠ 108 then f ≠ 108 ∧ s.length ≤ 1000000 ∧ (isNum f = true → Lib.atoiAll (cutB 32 s).1 = .ok (numV (cutB 32 s).1)) ∧ canT more (takeF x f s).1 (takeF x f s).2 r else canT more x s r
/-- A line as an op. -/
def parseX (s : List UInt8) : So := takesF (cutB 32 s).2.2 (soK (kindF (cutB 32 s).1 17)) (cutB 32 s).2.1 (letsK (kindF (cutB 32 s).1 17 : Nat))
def parseR (s : List UInt8) : So × Int := if (parseX s).kind = 0 ∨ textF (parseX s) ≠ s then (so3, 2) else (parseX s, 0)
def canP (s : List UInt8) : Prop := canT (cutB 32 s).2.2 (soK (kindF (cutB 32 s).1 17)) (cutB 32 s).2.1 (letsK (kindF (cutB 32 s).1 17 : Nat))
abbrev parseCon : Con where
  ι := { s : List UInt8 // s.length ≤ 1000000 ∧ canP s }
  args := fun s => [.v (sv s.1)]
  post := fun s r => r = .tup [.agg (opC (parseR s.1).1), .v (.int .i64 (parseR s.1).2)]
def tabA : List AV := tabW.map fun s => .v (sv s)
theorem tab_at2 {k : Nat} (h : k ≤ 16) : List.take 2 (List.drop (k * 2) tabA) = [.v (sv (wordK k)), .v (sv (letsK k))] := by
  have := tab_at (k := k) (by omega)
  rwa [Int.toNat_natCast] at this
set_option maxHeartbeats 8000000 in
theorem sparse_good : Rw.Good Tryd.prog 7 parseCon := by
  have hΓ : GoodEnv Tryd.prog [(16, cutCon), (13, wordsCon), (6, textCon26)] := (goodEnv_cons scut_good (goodEnv_cons swords_good (goodEnv_cons stext26_good goodEnv_nil)))
  refine good_fna (nn := 75) Tryd.func7 (by kernel_rfl) rfl (show Tryd.f7.results.toList = [.cell 2 27, .tmp 3] from rfl) (fun _ => rfl) (fun x => by simp [AV.erL, AV.er]) ?_
  rintro ⟨s, hs, hcan⟩
  refine vcM_ok hΓ (Ws := []) _ ?_
  have hcl := cut_len 32 s
  obtain ⟨w, rest, more, hq⟩ : ∃ w rest more, cutB 32 s = (w, rest, more) := ⟨_, _, _, rfl⟩
  have hct : canT more (soK (kindF w 17)) rest (letsK (kindF w 17 : Nat)) := by have h := hcan; unfold canP at h; rw [hq] at h; exact h
  have hpx : parseX s = takesF more (soK (kindF w 17)) rest (letsK (kindF w 17 : Nat)) := by unfold parseX; rw [hq]
  rw [hq] at hcl
  simp only [goRules, coreRules, tiRules, unRules, AS_of_eq, ← decide_not, seval, mapRules, objRules,]
  refine vcCall_plain (C := cutCon) (i := ⟨(s, 32), by simp only; omega⟩) (by simp [get_cons]) rfl rfl rfl (by simp [AV.erL, AV.er]) (fun _ h => h) rfl ?_
  simp only at hcl
  simp only [goRules, coreRules, tiRules, unRules, AS_of_eq, ← decide_not, seval, mapRules, objRules, hq]
  refine vcCall_plain (C := wordsCon) (i := ()) (by simp [get_cons]) rfl rfl rfl (by simp [AV.erL]) (fun _ h => h) rfl ?_
  rw [show (tabW.map fun s => AV.v (sv s)) = tabA from rfl]
  have hta : tabA.length = 34 := rfl
  have hte : AV.erL tabA = tabA := rfl
  simp only [goRules, coreRules, tiRules, unRules, AS_of_eq, ← decide_not, seval, mapRules, objRules, tabA, tabW, List.map_cons, List.map_nil]
  (repeat (with_reducible refine And.intro ?_ ?_; focus (first | omega | exact mixed1 | kernel_rfl)))
  obtain ⟨St, hSt⟩ : ∃ St : { i : Nat // i ≤ 17 } → AS, ∀ i, St i = AS.ofH 75 [(0, .v (sv s)), (2, .ptr 0 0), (3, .v (.int .i64 0)), (4, .v (sv w)), (5, .v (sv rest)), (6, .v (.bool more)), (7, .ptr 1 0), (19, .agg tabA), (20, .v (.int .i64 i.1))] [] [.cells (opC { so0 with kind := kindF w i.1 }), .cells tabA] [] := ⟨_, fun _ => rfl⟩
  refine vcM_lp ?_
  refine vc_loopM [] hΓ St (fun i => 17 - i.1) ⟨0, by omega⟩ (by rw [hSt]; refine weakH_go [0, 1] [] ?_; simp only [goRules, coreRules, tiRules, unRules, AS_of_eq, ← decide_not, seval, mapRules, objRules, opC, so0, kindF, tabA, tabW, List.map_cons, List.map_nil] <;> ((repeat' apply And.intro) <;> first | rfl | omega | trivial)) ?_
  rintro ⟨i, hi⟩
  rw [hSt]
  simp only
  simp only [goRules, coreRules, tiRules, unRules, AS_of_eq, ← decide_not, seval, mapRules, objRules, opC, so0]
  (with_reducible first | refine branchP_dec (fun h => ?_) (fun h => ?_) | refine guardB_dec (fun h => ?_) (fun h => ?_))
  · have hi16 : i ≤ 16 := by omega
    have hld := tab_at2 hi16
    have h17 : (0 ≤ (i : Int) ∧ (i : Int) < 17) = True := eq_true (by omega)
    have h34 : (i * 2 + 2 ≤ 34) = True := eq_true (by omega)
    have hkf : kindF w (i + 1) = if 0 < i ∧ wordK i = w then i else kindF w i := rfl
    simp only [goRules, coreRules, tiRules, unRules, AS_of_eq, ← decide_not, seval, mapRules, objRules, opC, so0, h, hld, hta, h17, h34, List.length_cons, List.length_nil]
    (repeat (with_reducible refine And.intro ?_ ?_; focus (first | omega | exact mixed1 | kernel_rfl)))
    by_cases g1 : 0 < i
    · have g1' : ((i : Int) > 0) = True := eq_true (by omega)
      by_cases g2 : wordK i = w
      · simp only [goRules, coreRules, tiRules, unRules, AS_of_eq, ← decide_not, seval, mapRules, objRules, opC, so0, g1', g2, wrap_i64 (n := (i : Int) + 1) (by omega) (by omega)]
        (repeat (with_reducible refine And.intro ?_ ?_; focus (first | omega | exact mixed1 | kernel_rfl)))
        refine weak_again ⟨i + 1, by omega⟩ (by simp only; omega) ?_
        rw [hSt]; refine weakH_go [0, 1] [] ?_
        simp only [goRules, coreRules, tiRules, unRules, AS_of_eq, ← decide_not, seval, mapRules, objRules, opC, so0, hkf, g1, g2, and_self, if_true] <;> ((repeat' apply And.intro) <;> first | rfl | omega | trivial)
      · simp only [goRules, coreRules, tiRules, unRules, AS_of_eq, ← decide_not, seval, mapRules, objRules, opC, so0, g1', g2, wrap_i64 (n := (i : Int) + 1) (by omega) (by omega)]
        (repeat (with_reducible refine And.intro ?_ ?_; focus (first | omega | exact mixed1 | kernel_rfl)))
        refine weak_again ⟨i + 1, by omega⟩ (by simp only; omega) ?_
        rw [hSt]; refine weakH_go [0, 1] [] ?_
        simp only [goRules, coreRules, tiRules, unRules, AS_of_eq, ← decide_not, seval, mapRules, objRules, opC, so0, hkf, g1, g2, and_false, if_false] <;> ((repeat' apply And.intro) <;> first | rfl | omega | trivial)
    · have g1' : ((i : Int) > 0) = False := eq_false (by omega)
      simp only [goRules, coreRules, tiRules, unRules, AS_of_eq, ← decide_not, seval, mapRules, objRules, opC, so0, g1', wrap_i64 (n := (i : Int) + 1) (by omega) (by omega)]
      (repeat (with_reducible refine And.intro ?_ ?_; focus (first | omega | exact mixed1 | kernel_rfl)))
      refine weak_again ⟨i + 1, by omega⟩ (by simp only; omega) ?_
      rw [hSt]; refine weakH_go [0, 1] [] ?_
      simp only [goRules, coreRules, tiRules, unRules, AS_of_eq, ← decide_not, seval, mapRules, objRules, opC, so0, hkf, g1, false_and, if_false] <;> ((repeat' apply And.intro) <;> first | rfl | omega | trivial)
  · have hi17 : i = 17 := by omega
    subst hi17
    have hkl := kind_le w 17
    generalize kindF w 17 = k at *
    have hk16 : k ≤ 16 := by omega
    have h17 : (0 ≤ (k : Int) ∧ (k : Int) < 17) = True := eq_true (by omega)
    have hta2 : tabA[k * 2 + 1]? = some (.v (sv (letsK k))) := by
      have h1 := tab_at2 hk16
      have h2 : (List.take 2 (List.drop (k * 2) tabA))[1]? = some (.v (sv (letsK k))) := by rw [h1]; rfl
      rw [List.getElem?_take, if_pos (by omega), List.getElem?_drop] at h2
      exact h2
    obtain ⟨-, -, hlm⟩ := lets_of (k := k) (by omega)
    have hc : ((¬ 1 ≤ k) ∧ soK k = ⟨k, 0, 0, 0, 0, [], false, 0, 0, 0, [], 0, 0⟩) ∨ (1 ≤ k ∧ (¬ k ≤ 4) ∧ soK k = ⟨k, 0, 0, 0, 0, [], false, 0, 0, 0, [], 0, 0⟩) ∨ (1 ≤ k ∧ k ≤ 4 ∧ soK k = ⟨k, 0, k, 0, 0, [], false, 0, 0, 0, [], 0, 0⟩) := by
      unfold soK so0
      by_cases c1 : 1 ≤ k
      · by_cases c2 : k ≤ 4
        · exact .inr (.inr ⟨c1, c2, by rw [if_pos ⟨c1, c2⟩]⟩)
        · exact .inr (.inl ⟨c1, c2, by rw [if_neg (fun h => c2 h.2)]⟩)
      · exact .inl ⟨c1, by rw [if_neg (fun h => c1 h.1)]⟩
    rcases hc with ⟨c1, hak⟩ | ⟨c1, c2, hak⟩ | ⟨c1, c2, hak⟩
    simp only [goRules, coreRules, tiRules, unRules, AS_of_eq, ← decide_not, seval, mapRules, objRules, opC, so0, h, show ((k : Int) ≥ 1) = False from eq_false (by omega), h17, hta2]
    (repeat (with_reducible refine And.intro ?_ ?_; focus (first | omega | exact mixed1 | kernel_rfl)))
    rotate_left
    simp only [goRules, coreRules, tiRules, unRules, AS_of_eq, ← decide_not, seval, mapRules, objRules, opC, so0, h, show ((k : Int) ≥ 1) = True from eq_true (by omega), show ((k : Int) ≤ 4) = False from eq_false (by omega), h17, hta2]
    (repeat (with_reducible refine And.intro ?_ ?_; focus (first | omega | exact mixed1 | kernel_rfl)))
    rotate_left
    simp only [goRules, coreRules, tiRules, unRules, AS_of_eq, ← decide_not, seval, mapRules, objRules, opC, so0, h, show ((k : Int) ≥ 1) = True from eq_true (by omega), show ((k : Int) ≤ 4) = True from eq_true (by omega), h17, hta2]
    (repeat (with_reducible refine And.intro ?_ ?_; focus (first | omega | exact mixed1 | kernel_rfl)))
    rotate_left
    all_goals
      generalize letsK (k : Int) = ls at *
      obtain ⟨S2, hS2⟩ : ∃ St : { p : Nat × So × List UInt8 // p.1 ≤ ls.length ∧ canT more p.2.1 p.2.2 (ls.drop p.1) ∧ takesF more p.2.1 p.2.2 (ls.drop p.1) = parseX s } → AS, ∀ p, St p = AS.ofH 75 [(0, .v (sv s)), (2, .ptr 0 0), (3, .v (.int .i64 0)), (5, .v (sv p.1.2.2)), (6, .v (.bool more)), (52, .ptr 1 0)] [] [.cells (opC p.1.2.1), .iter ⟨ls.toArray⟩ p.1.1] [] := ⟨_, fun _ => rfl⟩
      refine vcM_lp ?_
      refine vc_loopM [] hΓ S2 (fun p => ls.length - p.1.1) ⟨(0, soK k, rest), by simp, hct, hpx.symm⟩ (by rw [hS2]; refine weakH_go [0, 2] [] ?_; simp only [goRules, coreRules, tiRules, unRules, AS_of_eq, ← decide_not, seval, mapRules, objRules, hak, opC] <;> ((repeat' apply And.intro) <;> first | rfl | omega | trivial)) ?_
      rintro ⟨⟨j, x, r⟩, hj, hcx, htx⟩
      simp only at hj hcx htx
      rw [hS2]
      simp only
      simp only [goRules, coreRules, tiRules, unRules, AS_of_eq, ← decide_not, seval, mapRules, objRules, opC]
      by_cases hj2 : j < ls.length
      · have hfm := hlm _ (List.getElem_mem hj2)
        obtain ⟨d1, d2⟩ := dec_ascii hj2 (lets_ascii hfm)
        rw [List.drop_eq_getElem_cons hj2] at hcx htx
        generalize ls[j] = f at *
        unfold canT at hcx
        unfold takesF at htx
        by_cases hmf : more ∨ f ≠ 108
        · rw [if_pos hmf] at hcx htx
          obtain ⟨hf8, hrl, hat, hcx⟩ := hcx
          have hf8' : ((f.toNat : Int) = 108) = False := eq_false (fun h => hf8 (UInt8.toNat_inj.1 (Int.ofNat.inj h)))
          rcases Bool.eq_false_or_eq_true more with hm | hm
          · simp only [goRules, coreRules, tiRules, unRules, AS_of_eq, ← decide_not, seval, mapRules, objRules, opC, nextO_in hj2, d1, d2, hm]
            (repeat (with_reducible refine And.intro ?_ ?_; focus (first | omega | exact mixed1 | kernel_rfl)))
            refine call_takes (by simp [get_cons, get_nil]) hfm hf8 hrl hat (x := x) (o := 0) (by simp [opC, upd]) ?_
            simp only [goRules, coreRules, tiRules, unRules, AS_of_eq, ← decide_not, seval, mapRules, objRules, opC]
            (repeat (with_reducible refine And.intro ?_ ?_; focus (first | omega | exact mixed1 | kernel_rfl)))
            refine weak_again ⟨(j + 1, (takeF x f r).1, (takeF x f r).2), by simp only; omega, hcx, htx⟩ (by simp only; omega) ?_
            rw [hS2]; refine weakH_go [0, 1] [] ?_
            simp only [goRules, coreRules, tiRules, unRules, AS_of_eq, ← decide_not, seval, mapRules, objRules, opC, hm] <;> ((repeat' apply And.intro) <;> first | rfl | omega | trivial)
          · simp only [goRules, coreRules, tiRules, unRules, AS_of_eq, ← decide_not, seval, mapRules, objRules, opC, nextO_in hj2, d1, d2, hm, hf8']
            (repeat (with_reducible refine And.intro ?_ ?_; focus (first | omega | exact mixed1 | kernel_rfl)))
            refine call_takes (by simp [get_cons, get_nil]) hfm hf8 hrl hat (x := x) (o := 0) (by simp [opC, upd]) ?_
            simp only [goRules, coreRules, tiRules, unRules, AS_of_eq, ← decide_not, seval, mapRules, objRules, opC]
            (repeat (with_reducible refine And.intro ?_ ?_; focus (first | omega | exact mixed1 | kernel_rfl)))
            refine weak_again ⟨(j + 1, (takeF x f r).1, (takeF x f r).2), by simp only; omega, hcx, htx⟩ (by simp only; omega) ?_
            rw [hS2]; refine weakH_go [0, 1] [] ?_
            simp only [goRules, coreRules, tiRules, unRules, AS_of_eq, ← decide_not, seval, mapRules, objRules, opC, hm] <;> ((repeat' apply And.intro) <;> first | rfl | omega | trivial)
        · rw [if_neg hmf] at hcx htx
          have hm : more = false := by cases more with | false => rfl | true => exact absurd (.inl rfl) hmf
          have hf8 : f = 108 := Classical.byContradiction fun h => hmf (.inr h)
          subst hf8
          have e108 : ((UInt8.toNat 108 : Nat) : Int) = 108 := rfl
          simp only [goRules, coreRules, tiRules, unRules, AS_of_eq, ← decide_not, seval, mapRules, objRules, opC, nextO_in hj2, d1, d2, hm, e108]
          (repeat (with_reducible refine And.intro ?_ ?_; focus (first | omega | exact mixed1 | kernel_rfl)))
          refine weak_again ⟨(j + 1, x, r), by simp only; omega, hcx, htx⟩ (by simp only; omega) ?_
          rw [hS2]; refine weakH_go [0, 1] [] ?_
          simp only [goRules, coreRules, tiRules, unRules, AS_of_eq, ← decide_not, seval, mapRules, objRules, opC, hm] <;> ((repeat' apply And.intro) <;> first | rfl | omega | trivial)
      · rw [List.drop_of_length_le (by omega)] at hcx htx
        unfold canT at hcx
        unfold takesF at htx
        by_cases g0 : x.kind = 0
        · have hpr : parseR s = (so3, 2) := by unfold parseR; rw [← htx, if_pos (.inl g0)]
          simp only [goRules, coreRules, tiRules, unRules, AS_of_eq, ← decide_not, seval, mapRules, objRules, opC, nextO_end hj2, g0]
          (repeat (with_reducible refine And.intro ?_ ?_; focus (first | omega | exact mixed1 | kernel_rfl)))
          rw [hpr]; rfl
        · simp only [goRules, coreRules, tiRules, unRules, AS_of_eq, ← decide_not, seval, mapRules, objRules, opC, nextO_end hj2, g0]
          refine vcCall_plain (C := textCon26) (i := ⟨x, hcx⟩) (by simp [get_cons]) rfl rfl rfl (by simp [opC, AV.erL, AV.er]) (fun _ h => h) rfl ?_
          by_cases g1 : textF x = s
          · have hpr : parseR s = (x, 0) := by unfold parseR; rw [← htx, if_neg (fun h => h.elim g0 (fun h => h g1))]
            simp only [goRules, coreRules, tiRules, unRules, AS_of_eq, ← decide_not, seval, mapRules, objRules, opC, g1]
            (repeat (with_reducible refine And.intro ?_ ?_; focus (first | omega | exact mixed1 | kernel_rfl)))
            rw [hpr]
          · have hpr : parseR s = (so3, 2) := by unfold parseR; rw [← htx, if_pos (.inr g1)]
            simp only [goRules, coreRules, tiRules, unRules, AS_of_eq, ← decide_not, seval, mapRules, objRules, opC, g1]
            (repeat (with_reducible refine And.intro ?_ ?_; focus (first | omega | exact mixed1 | kernel_rfl)))
            rw [hpr]; rfl
end Go.Proofs
end

-- SSc7
section
namespace Go.Proofs
open Go Go.Rw
set_option maxRecDepth 100000
set_option linter.unusedSimpArgs false
set_option linter.unusedVariables false

structure Sn where
  id : Int
  par : Int
  nm : List UInt8
  dir : Bool
  text : List UInt8
def nodF (x : Sn) : List UInt8 := Lib.join ([Lib.itoa x.id, Lib.itoa x.par, x.nm, kindW x.dir] ++ if x.dir then [] else [txtW x.text]) [32]
abbrev snodeCon : Con where
  ι := { x : Sn // ((-9223372036854775808 ≤ x.id ∧ x.id ≤ 9223372036854775807) ∧ -9223372036854775808 ≤ x.par ∧ x.par ≤ 9223372036854775807) ∧ x.nm.length ≤ 100000 ∧ x.text.length ≤ 100000 ∧ 10 ∉ x.text }
  args := fun x => [.agg [.v (.int .i64 x.1.id), .v (.int .i64 x.1.par), .v (sv x.1.nm), .v (.bool x.1.dir), .v (sv x.1.text)]]
  post := fun x r => r = .v (sv (nodF x.1))
  plain := true
theorem txt_no {s : List UInt8} (h : 10 ∉ s) : 10 ∉ txtW s := by
  unfold txtW
  split
  · decide
  · simp only [List.mem_cons, not_or]
    exact ⟨by decide, h⟩
theorem txt_len (s : List UInt8) : (txtW s).length ≤ s.length + 1 := by
  unfold txtW
  split <;> simp
set_option maxHeartbeats 4000000 in
theorem snode_good : Rw.Good Tryd.prog 18 snodeCon := by
  have hΓ : GoodEnv Tryd.prog [(23, itoaCon), (26, kindCon), (27, txtCon), (35, replACon), (15, joinCon)] := (goodEnv_cons sitoa_good (goodEnv_cons skind_good (goodEnv_cons stext_good (goodEnv_cons sreplA_good (goodEnv_cons sjoin_good goodEnv_nil)))))
  refine good_fna (nn := 28) Tryd.func18 (by kernel_rfl) rfl (show Tryd.f18.results.toList = [.tmp 2] from rfl) (fun _ => rfl) (fun x => by simp [AV.erL, AV.er]) ?_
  rintro ⟨⟨id, par, nm, dir, text⟩, ⟨h1, h2⟩, h3, h4, h5⟩
  simp only at h1 h2 h3 h4 h5
  have l1 := Lib.itoa_length_le id h1.1 h1.2
  have l2 := Lib.itoa_length_le par h2.1 h2.2
  have l3 := txt_len text
  refine vcM_ok hΓ (Ws := [(1, [], [])]) _ ?_
  simp only [goRules, coreRules, tiRules, unRules, AS_of_eq, ← decide_not, seval, mapRules, objRules, wideRules]
  (repeat (with_reducible refine And.intro ?_ ?_; focus (first | omega | exact mixed1 | kernel_rfl)))
  refine vcCall_plain (C := itoaCon) (i := ⟨id, h1⟩) (by simp [get_cons]) rfl rfl rfl (by simp [AV.erL, AV.er]) (fun _ h => h) rfl ?_
  simp only [goRules, coreRules, tiRules, unRules, AS_of_eq, ← decide_not, seval, mapRules, objRules, wideRules]
  (repeat (with_reducible refine And.intro ?_ ?_; focus (first | omega | exact mixed1 | kernel_rfl)))
  refine vcCall_plain (C := itoaCon) (i := ⟨par, h2⟩) (by simp [get_cons]) rfl rfl rfl (by simp [AV.erL, AV.er]) (fun _ h => h) rfl ?_
  simp only [goRules, coreRules, tiRules, unRules, AS_of_eq, ← decide_not, seval, mapRules, objRules, wideRules]
  (repeat (with_reducible refine And.intro ?_ ?_; focus (first | omega | exact mixed1 | kernel_rfl)))
  refine vcCall_plain (C := kindCon) (i := dir) (by simp [get_cons]) rfl rfl rfl (by simp [AV.erL, AV.er]) (fun _ h => h) rfl ?_
  cases dir with
  | true =>
    simp only [goRules, coreRules, tiRules, unRules, AS_of_eq, ← decide_not, seval, mapRules, objRules, wideRules]
    (repeat (with_reducible refine And.intro ?_ ?_; focus (first | omega | exact mixed1 | kernel_rfl)))
    refine vcCall_plain (C := joinCon) (i := ⟨([Lib.itoa id, Lib.itoa par, nm, kindW true], [32]), by simp, by simp [Lib.join_cons, Lib.joinTail, kindW]; omega⟩) (by simp [get_cons]) rfl rfl rfl (by simp [AV.erL, AV.er, strsA]) (fun _ h => h) rfl ?_
    simp only [goRules, coreRules, tiRules, unRules, AS_of_eq, ← decide_not, seval, mapRules, objRules,]
    rfl
  | false =>
    simp only [goRules, coreRules, tiRules, unRules, AS_of_eq, ← decide_not, seval, mapRules, objRules, wideRules]
    (repeat (with_reducible refine And.intro ?_ ?_; focus (first | omega | exact mixed1 | kernel_rfl)))
    refine vcCall_plain (C := txtCon) (i := ⟨text, by omega⟩) (by simp [get_cons]) rfl rfl rfl (by simp [AV.erL, AV.er]) (fun _ h => h) rfl ?_
    simp only [goRules, coreRules, tiRules, unRules, AS_of_eq, ← decide_not, seval, mapRules, objRules,]
    refine vcCall_plain (C := replACon) (i := ⟨(txtW text, 10, 47), by simp only; omega, txt_no h5, by simp⟩) (by simp [get_cons]) rfl rfl rfl (by simp [AV.erL, AV.er]) (fun _ h => h) rfl ?_
    simp only [goRules, coreRules, tiRules, unRules, AS_of_eq, ← decide_not, seval, mapRules, objRules,]
    (repeat (with_reducible refine And.intro ?_ ?_; focus (first | omega | exact mixed1 | kernel_rfl)))
    refine vcCall_plain (C := joinCon) (i := ⟨([Lib.itoa id, Lib.itoa par, nm, kindW false, txtW text], [32]), by simp, by simp [Lib.join_cons, Lib.joinTail, kindW]; omega⟩) (by simp [get_cons]) rfl rfl rfl (by simp [AV.erL, AV.er, strsA]) (fun _ h => h) rfl ?_
    simp only [goRules, coreRules, tiRules, unRules, AS_of_eq, ← decide_not, seval, mapRules, objRules,]
    rfl
instance canTDec (more : Bool) : ∀ (x : So) (s l : List UInt8), Decidable (canT more x s l)
  | x, _, [] => inferInstanceAs (Decidable (okSo x))
  | x, s, f :: r => by
    have h1 := canTDec more (takeF x f s).1 (takeF x f s).2 r
    have h2 := canTDec more x s r
    unfold canT
    infer_instance
instance canPDec (s : List UInt8) : Decidable (canP s) := inferInstanceAs (Decidable (canT _ _ _ _))
def aw1 : List UInt8 := [101, 100, 105, 116, 32, 49, 32, 53, 32, 48, 32, 48, 32, 61, 104, 105, 32, 116, 104, 101, 114, 101]
def aw2 : List UInt8 := [101, 100, 105, 116, 32, 49, 32, 53, 32, 48, 32, 48, 32, 61]
def awO : So := ⟨4, 1, 4, 5, 0, [], false, 0, 0, 0, [104, 105, 32, 116, 104, 101, 114, 101], 0, 0⟩
theorem aw1_ok : canP aw1 ∧ parseR aw1 = (awO, 0) := by decide +kernel
theorem aw2_ok : canP aw2 ∧ parseR aw2 = (so3, 2) := by decide +kernel
theorem aw3_ok : textF { so3 with kind := 11 } = [116, 114, 101, 101] := by decide +kernel
theorem aw4_ok : nodF ⟨5, 0, [97], false, []⟩ = [53, 32, 48, 32, 97, 32, 102, 105, 108, 101, 32, 45] := by decide +kernel
abbrev trueCon26 : Con where
  ι := Unit
  args := fun _ => []
  post := fun _ r => r = .v (.bool true)
  plain := true
theorem kill_nilS {fm : Nat → Nat} {lv : Nat → Option (Nat × Nat)} : kill fm [] lv = lv := by funext l; simp [kill]
theorem call_parse {Γ : Env} (hf : Γ.get 7 = some parseCon) {n : Nat} {t : Nat → AV} {hd : Nat → Nat → AV} {d : Option Nat} {K : AS → Prop} {nh nl : Nat} {h : Nat → Option AO} {fm : Nat → Nat} {lv : Nat → Option (Nat × Nat)} {mu : Bool} {s : List UInt8} (hs : s.length ≤ 1000000) (hc : canP s) {x : So} {e : Int} (hr : parseR s = (x, e))
    (hk : cont ⟨n, t, hd, ⟨nh, h, nl, fm, lv, mu⟩⟩ d (.tup [.agg (opC x), .v (.int .i64 e)]) K) : vcCall Tryd.prog Γ false ⟨n, t, hd, ⟨nh, h, nl, fm, lv, mu⟩⟩ 7 [.v (sv s)] d K := by
  refine vcCall_none (C := parseCon) (i := ⟨s, hs, hc⟩) hf rfl rfl rfl (by simp [AV.erL, AV.er]) (ts := []) (by simp [AV.tagsL, AV.tags]) ?_
  rintro r rfl
  rw [kill_nilS, hr]
  exact hk
theorem call_text26 {Γ : Env} (hf : Γ.get 6 = some textCon26) {σ : AS} {dr : Bool} {d : Option Nat} {K : AS → Prop} {x : So} {cs : List AV} (hcs : AV.erL cs = opC x) (hx : okSo x)
    (hk : cont σ d (.v (sv (textF x))) K) : vcCall Tryd.prog Γ dr σ 6 [.agg cs] d K :=
  vcCall_plain (C := textCon26) (i := ⟨x, hx⟩) hf rfl rfl rfl (by simp only [AV.erL, AV.er, hcs]) (fun _ h => h) rfl hk
set_option maxHeartbeats 4000000 in
theorem awake26_good : Rw.Good Tryd.prog 8 trueCon26 := by
  have hΓ : GoodEnv Tryd.prog [(7, parseCon), (6, textCon26), (18, snodeCon)] := (goodEnv_cons sparse_good (goodEnv_cons stext26_good (goodEnv_cons snode_good goodEnv_nil)))
  refine good_fna (nn := 50) Tryd.func8 (by kernel_rfl) rfl (show Tryd.f8.results.toList = [.tmp 0] from rfl) (fun _ => rfl) (fun x => by simp [AV.erL, AV.er]) ?_
  rintro ⟨⟩
  refine vcM_ok hΓ (Ws := []) _ ?_
  simp only [goRules, coreRules, tiRules, unRules, AS_of_eq, ← decide_not, seval, mapRules, objRules,]
  refine call_parse (s := aw1) (by simp [get_cons]) (by decide) aw1_ok.1 aw1_ok.2 ?_
  simp only [goRules, coreRules, tiRules, unRules, AS_of_eq, ← decide_not, seval, mapRules, objRules, opC, awO]
  refine call_parse (s := aw2) (by simp [get_cons]) (by decide) aw2_ok.1 aw2_ok.2 ?_
  simp only [goRules, coreRules, tiRules, unRules, AS_of_eq, ← decide_not, seval, mapRules, objRules, opC, so3]
  (repeat (with_reducible refine And.intro ?_ ?_; focus (first | omega | exact mixed1 | kernel_rfl)))
  refine call_text26 (x := { so3 with kind := 11 }) (by simp [get_cons]) (by simp [opC, so3, AV.erL, AV.er]) (by decide) ?_
  rw [aw3_ok]
  simp only [goRules, coreRules, tiRules, unRules, AS_of_eq, ← decide_not, seval, mapRules, objRules,]
  (repeat (with_reducible refine And.intro ?_ ?_; focus (first | omega | exact mixed1 | kernel_rfl)))
  refine vcCall_plain (C := snodeCon) (i := ⟨⟨5, 0, [97], false, []⟩, by decide⟩) (by simp [get_cons]) rfl rfl rfl (by simp [AV.erL, AV.er]) (fun _ h => h) rfl ?_
  rw [aw4_ok]
  simp only [goRules, coreRules, tiRules, unRules, AS_of_eq, ← decide_not, seval, mapRules, objRules,]
end Go.Proofs
end

-- SSc8
section
namespace Go.Proofs
open Go Go.Rw
set_option maxRecDepth 100000
set_option linter.unusedSimpArgs false
set_option linter.unusedVariables false

abbrev I64 := { n : Int // -9223372036854775808 ≤ n ∧ n ≤ 9223372036854775807 }
theorem call_awake26 {Γ : Env} (hf : Γ.get 8 = some trueCon26) {σ : AS} {dr : Bool} {d : Option Nat} {K : AS → Prop}
    (hk : cont σ d (.v (.bool true)) K) : vcCall Tryd.prog Γ dr σ 8 [] d K :=
  vcCall_plain (C := trueCon26) (i := ()) hf rfl rfl rfl rfl (fun _ h => h) rfl hk
end Go.Proofs
end

-- SSc9
section
namespace Go.Proofs
open Go Go.Rw
set_option maxRecDepth 100000
set_option linter.unusedSimpArgs false
set_option linter.unusedVariables false

/-- The edit of ScriptTexts. -/
def oT (text : List UInt8) (fr to id : Int) : So := ⟨4, 2, 0, id, 0, [], false, 0, fr, to, text, 3, 1⟩
theorem oT_ok {text : List UInt8} {fr to id : Int} (h : text.length ≤ 300) (h1 : 0 ≤ fr ∧ fr ≤ 2147483647) (h2 : 0 ≤ to ∧ to ≤ 2147483647) (h3 : 0 ≤ id ∧ id ≤ 2147483647) : okSo (oT text fr to id) := by
  refine ⟨⟨by simp [oT], fun b hb => by simp [oT] at hb⟩, by simp only [oT]; omega, fun n hn => ?_⟩
  simp only [oT, List.mem_cons, List.not_mem_nil, or_false] at hn
  rcases hn with rfl | rfl | rfl | rfl | rfl | rfl <;> omega
theorem idx_mem (c : UInt8) : ∀ s : List UInt8, 0 ≤ Lib.indexByte s c ↔ c ∈ s
  | [] => by simp [Lib.indexByte]
  | b :: r => by
    have ih := idx_mem c r
    have hge := Lib.indexByte_ge r c
    by_cases h : b = c
    · subst h; simp [Lib.indexByte]
    · have hb : (b == c) = false := by simpa using h
      have hc : ¬ c = b := fun e => h e.symm
      simp only [Lib.indexByte, hb, Bool.false_eq_true, if_false, List.mem_cons, hc, false_or]
      rw [← ih]
      split
      · rename_i h1
        have : Lib.indexByte r c = -1 := by simpa using h1
        omega
      · rename_i h1
        have : Lib.indexByte r c ≠ -1 := by simpa using h1
        omega
/-- A word ahead of a blank is cut off it. -/
theorem cut_app {w r : List UInt8} (h : 32 ∉ w) : cutB 32 (w ++ 32 :: r) = (w, r, true) := by
  induction w with
  | nil => simp [cutB]
  | cons b w ih =>
    simp only [List.mem_cons, not_or] at h
    have hb : ¬ b = 32 := fun e => h.1 e.symm
    simp [cutB, hb, ih h.2]
theorem parse_app : ∀ (l r : List UInt8) (acc a : Nat), Lib.parseUint10 acc l = .ok a → Lib.parseUint10 acc (l ++ r) = Lib.parseUint10 a r
  | [], r, acc, a, h => by simp only [Lib.parseUint10, Lib.NumEnd.ok.injEq] at h; subst h; rfl
  | c :: l, r, acc, a, h => by
    simp only [List.cons_append, Lib.parseUint10] at h ⊢
    split at h
    · split at h
      · cases h
      · split at h
        · cases h
        · rename_i h1 h2 h3
          rw [if_pos h1, if_neg h2, if_neg h3]
          exact parse_app l r _ a h
    · cases h
theorem digit_nat {d : Nat} (h : d < 10) : (UInt8.ofNat (48 + d)).toNat = 48 + d := by
  rw [UInt8.toNat_ofNat']; omega
theorem parse_dig : ∀ u : Nat, u < 9000000000000000000 → Lib.parseUint10 0 (Lib.decDigits u) = .ok u := by
  intro u
  induction u using Nat.strongRecOn with
  | ind u ih =>
    intro hu
    rw [Lib.decDigits]
    by_cases h : u < 10
    · rw [dif_pos h]
      have e := digit_nat h
      simp only [Lib.parseUint10, e]
      rw [if_pos (by omega), if_neg (by omega), if_neg (by omega)]
      congr 1; omega
    · rw [dif_neg h, parse_app _ _ _ _ (ih (u / 10) (by omega) (by omega))]
      have e := digit_nat (d := u % 10) (by omega)
      simp only [Lib.parseUint10, e]
      rw [if_pos (by omega), if_neg (by omega), if_neg (by omega)]
      congr 1; omega
theorem dig_all : ∀ u : Nat, Lib.decDigits u ≠ [] ∧ ∀ b ∈ Lib.decDigits u, 48 ≤ b.toNat ∧ b.toNat ≤ 57 := by
  intro u
  induction u using Nat.strongRecOn with
  | ind u ih =>
    rw [Lib.decDigits]
    by_cases h : u < 10
    · rw [dif_pos h]
      have e := digit_nat h
      exact ⟨by simp, fun b hb => by rw [List.mem_singleton.1 hb, e]; omega⟩
    · rw [dif_neg h]
      have e := digit_nat (d := u % 10) (by omega)
      refine ⟨by simp, fun b hb => ?_⟩
      rcases List.mem_append.1 hb with hb | hb
      · exact (ih (u / 10) (by omega)).2 b hb
      · rw [List.mem_singleton.1 hb, e]; omega
theorem itoa_back {n : Int} (h : 0 ≤ n ∧ n ≤ 2147483647) : Lib.atoiAll (Lib.itoa n) = .ok n ∧ 32 ∉ Lib.itoa n := by
  obtain ⟨u, rfl⟩ : ∃ u : Nat, n = u := ⟨n.toNat, by omega⟩
  have e : Lib.itoa (u : Int) = Lib.decDigits u := by unfold Lib.itoa; rw [if_neg (by omega)]; simp
  obtain ⟨h1, h2⟩ := dig_all u
  have h3 := parse_dig u (by omega)
  rw [e]
  refine ⟨?_, fun hm => by have := h2 32 hm; simp at this⟩
  generalize Lib.decDigits u = l at *
  cases l with
  | nil => exact absurd rfl h1
  | cons c r =>
    have hc := h2 c (List.mem_cons_self ..)
    have c1 : ¬ (c.toNat = 43 ∨ c.toNat = 45) := by omega
    have c2 : ¬ c.toNat = 45 := by omega
    simp only [Lib.atoiAll]
    rw [if_neg c1]
    simp only [Lib.parseMag, if_neg h1, h3]
    rw [if_neg (by omega), if_neg (fun hh => c2 hh.1), if_neg c2]
theorem num_back {n : Int} (h : 0 ≤ n ∧ n ≤ 2147483647) : numV (Lib.itoa n) = n := by unfold numV; rw [(itoa_back h).1]
theorem trim_back {t : List UInt8} (h : t ≠ []) : txtW t ≠ [45] ∧ Lib.trimPrefix (txtW t) [61] = t := by
  have e : txtW t = 61 :: t := by unfold txtW; rw [if_neg h]
  rw [e]
  exact ⟨by simp, by simp [Lib.trimPrefix, Lib.hasPrefix]⟩
/-- The edit's line. -/
def lnT (text : List UInt8) (fr to id : Int) : List UInt8 := [101, 100, 105, 116] ++ 32 :: (Lib.itoa 2 ++ 32 :: (Lib.itoa id ++ 32 :: (Lib.itoa fr ++ 32 :: (Lib.itoa to ++ 32 :: txtW text))))
def oP (text : List UInt8) (fr to id : Int) : So := ⟨4, 2, 4, id, 0, [], false, 0, fr, to, text, 0, 0⟩
theorem lets4 : letsK 4 = [99, 105, 102, 116, 120] ∧ wordK 4 = [101, 100, 105, 116] := ⟨rfl, rfl⟩
theorem fold_edit {x : So} (h1 : fitsS x.cl) (h2 : fitsS x.id) (h3 : fitsS x.fr) (h4 : fitsS x.to) (h5 : x.text.length ≤ 4000) (h6 : 10 ∉ x.text) :
    foldF x [99, 105, 102, 116, 120] = some [Lib.itoa x.cl, Lib.itoa x.id, Lib.itoa x.fr, Lib.itoa x.to, txtW x.text] := by
  have e6 : decide (0 ≤ Lib.indexByte x.text 10) = false := decide_eq_false (fun h => h6 ((idx_mem 10 x.text).1 h))
  have a1 : fieldF x 99 = ([Lib.itoa x.cl], true) := by show ([Lib.itoa x.cl], decide (fitsS x.cl)) = _; rw [decide_eq_true h1]
  have a2 : fieldF x 105 = ([Lib.itoa x.id], true) := by show ([Lib.itoa x.id], decide (fitsS x.id)) = _; rw [decide_eq_true h2]
  have a3 : fieldF x 102 = ([Lib.itoa x.fr], true) := by show ([Lib.itoa x.fr], decide (fitsS x.fr)) = _; rw [decide_eq_true h3]
  have a4 : fieldF x 116 = ([Lib.itoa x.to], true) := by show ([Lib.itoa x.to], decide (fitsS x.to)) = _; rw [decide_eq_true h4]
  have a5 : fieldF x 120 = ([txtW x.text], true) := by show ([txtW x.text], decide (x.text.length ≤ 4000) && !decide (0 ≤ Lib.indexByte x.text 10)) = _; rw [decide_eq_true h5, e6]; rfl
  simp [foldF, a1, a2, a3, a4, a5]
theorem text_edit {x : So} (hk : x.kind = 4) (h1 : fitsS x.cl) (h2 : fitsS x.id) (h3 : fitsS x.fr) (h4 : fitsS x.to) (h5 : x.text.length ≤ 4000) (h6 : 10 ∉ x.text) :
    textF x = [101, 100, 105, 116] ++ 32 :: (Lib.itoa x.cl ++ 32 :: (Lib.itoa x.id ++ 32 :: (Lib.itoa x.fr ++ 32 :: (Lib.itoa x.to ++ 32 :: txtW x.text)))) := by
  unfold textF
  rw [if_neg (by omega), hk, lets4.1, lets4.2, fold_edit h1 h2 h3 h4 h5 h6]
  simp [Lib.join_cons, Lib.joinTail]
theorem text_bad {text : List UInt8} {fr to id : Int} (h6 : 10 ∈ text) : textF (oT text fr to id) = [] := by
  have e6 : decide (0 ≤ Lib.indexByte text 10) = true := decide_eq_true ((idx_mem 10 text).2 h6)
  have a5 : (fieldF (oT text fr to id) 120).2 = false := by show (decide (text.length ≤ 4000) && !decide (0 ≤ Lib.indexByte text 10)) = false; rw [e6]; simp
  have hn : foldF (oT text fr to id) [99, 105, 102, 116, 120] = none := by
    simp only [foldF, a5, Bool.false_eq_true, if_false]
    repeat' split
    all_goals rfl
  unfold textF
  rw [if_neg (by simp only [oT]; omega)]
  show (match foldF (oT text fr to id) (letsK 4) with | some ws => _ | none => _) = _
  rw [lets4.1, hn]
section
variable {text : List UInt8} {fr to id : Int}
theorem tT_text (hl : text.length ≤ 300) (h1 : 0 ≤ fr ∧ fr ≤ 2147483647) (h2 : 0 ≤ to ∧ to ≤ 2147483647) (h3 : 0 ≤ id ∧ id ≤ 2147483647) (h6 : 10 ∉ text) : textF (oT text fr to id) = lnT text fr to id :=
  text_edit (x := oT text fr to id) rfl (by simp only [oT, fitsS]; omega) h3 h1 h2 (by simp only [oT]; omega) h6
theorem tP_text (hl : text.length ≤ 300) (h1 : 0 ≤ fr ∧ fr ≤ 2147483647) (h2 : 0 ≤ to ∧ to ≤ 2147483647) (h3 : 0 ≤ id ∧ id ≤ 2147483647) (h6 : 10 ∉ text) : textF (oP text fr to id) = lnT text fr to id :=
  text_edit (x := oP text fr to id) rfl (by simp only [oP, fitsS]; omega) h3 h1 h2 (by simp only [oP]; omega) h6
theorem take_num {x : So} {f : UInt8} (hf : f ≠ 120) (hn : isNum f = true) {n : Int} (h : 0 ≤ n ∧ n ≤ 2147483647) (r : List UInt8) :
    takeF x f (Lib.itoa n ++ 32 :: r) = (setN x f n, r) ∧ Lib.atoiAll (cutB 32 (Lib.itoa n ++ 32 :: r)).1 = .ok (numV (cutB 32 (Lib.itoa n ++ 32 :: r)).1) := by
  obtain ⟨i1, i2⟩ := itoa_back h
  have e := cut_app (r := r) i2
  unfold takeF
  rw [if_neg hf, if_pos hn, e]
  exact ⟨by simp only [num_back h], by simp only [num_back h]; exact i1⟩
theorem take_txt (x : So) (t : List UInt8) : takeF x 120 (txtW t) = ({ x with text := t }, []) := by
  unfold takeF
  rw [if_pos rfl]
  by_cases h : t = []
  · subst h
    rfl
  · obtain ⟨t1, t2⟩ := trim_back h
    rw [if_neg t1, t2]
theorem oP_ok (h : text.length ≤ 300) (h1 : 0 ≤ fr ∧ fr ≤ 2147483647) (h2 : 0 ≤ to ∧ to ≤ 2147483647) (h3 : 0 ≤ id ∧ id ≤ 2147483647) : okSo (oP text fr to id) := by
  refine ⟨⟨by simp [oP], fun b hb => by simp [oP] at hb⟩, by simp only [oP]; omega, fun n hn => ?_⟩
  simp only [oP, List.mem_cons, List.not_mem_nil, or_false] at hn
  rcases hn with rfl | rfl | rfl | rfl | rfl | rfl <;> omega
theorem ln_len (hl : text.length ≤ 300) (h1 : 0 ≤ fr ∧ fr ≤ 2147483647) (h2 : 0 ≤ to ∧ to ≤ 2147483647) (h3 : 0 ≤ id ∧ id ≤ 2147483647) : (lnT text fr to id).length ≤ 1000 := by
  have a1 := Lib.itoa_length_le 2 (by omega) (by omega)
  have a2 := Lib.itoa_length_le id (by omega) (by omega)
  have a3 := Lib.itoa_length_le fr (by omega) (by omega)
  have a4 := Lib.itoa_length_le to (by omega) (by omega)
  have a5 := txt_len text
  simp only [lnT, List.length_append, List.length_cons, List.length_nil]
  omega
theorem ln_parse (hl : text.length ≤ 300) (h1 : 0 ≤ fr ∧ fr ≤ 2147483647) (h2 : 0 ≤ to ∧ to ≤ 2147483647) (h3 : 0 ≤ id ∧ id ≤ 2147483647) (h6 : 10 ∉ text) : canP (lnT text fr to id) ∧ parseR (lnT text fr to id) = (oP text fr to id, 0) := by
  have hlen := ln_len (text := text) hl h1 h2 h3
  have hq : cutB 32 (lnT text fr to id) = ([101, 100, 105, 116], Lib.itoa 2 ++ 32 :: (Lib.itoa id ++ 32 :: (Lib.itoa fr ++ 32 :: (Lib.itoa to ++ 32 :: txtW text))), true) := cut_app (by decide)
  have hk : kindF [101, 100, 105, 116] 17 = 4 := by decide +kernel
  have hl4 : letsK ((4 : Nat) : Int) = [99, 105, 102, 116, 120] := rfl
  have h22 : (0 : Int) ≤ 2 ∧ (2 : Int) ≤ 2147483647 := by omega
  have t1 := fun x => take_num (x := x) (f := 99) (by decide) rfl h22 (Lib.itoa id ++ 32 :: (Lib.itoa fr ++ 32 :: (Lib.itoa to ++ 32 :: txtW text)))
  have t2 := fun x => take_num (x := x) (f := 105) (by decide) rfl h3 (Lib.itoa fr ++ 32 :: (Lib.itoa to ++ 32 :: txtW text))
  have t3 := fun x => take_num (x := x) (f := 102) (by decide) rfl h1 (Lib.itoa to ++ 32 :: txtW text)
  have t4 := fun x => take_num (x := x) (f := 116) (by decide) rfl h2 (txtW text)
  have hpx : parseX (lnT text fr to id) = oP text fr to id := by
    unfold parseX
    rw [hq]
    simp only [hk, hl4]
    simp only [takesF, true_or, if_true, (t1 _).1, (t2 _).1, (t3 _).1, (t4 _).1, take_txt]
    rfl
  refine ⟨?_, ?_⟩
  · unfold canP
    rw [hq]
    simp only [hk, hl4]
    simp only [canT, true_or, if_true, (t1 _).1, (t2 _).1, (t3 _).1, (t4 _).1, take_txt]
    have hlen2 := hlen
    simp only [lnT, List.length_append, List.length_cons, List.length_nil] at hlen2
    refine ⟨by decide, by simp only [List.length_append, List.length_cons]; omega, fun _ => (t1 so0).2, by decide, by simp only [List.length_append, List.length_cons]; omega, fun _ => (t2 so0).2, by decide, by simp only [List.length_append, List.length_cons]; omega, fun _ => (t3 so0).2, by decide, by simp only [List.length_append, List.length_cons]; omega, fun _ => (t4 so0).2, by decide, by omega, fun h => by simp [isNum] at h, ?_⟩
    exact oP_ok hl h1 h2 h3
  · unfold parseR
    rw [hpx, if_neg]
    rintro (h | h)
    · simp [oP] at h
    · exact h (tP_text hl h1 h2 h3 h6)
end
end Go.Proofs
end

-- SScA
section
namespace Go.Proofs
open Go Go.Rw
set_option maxRecDepth 100000
set_option linter.unusedSimpArgs false
set_option linter.unusedVariables false

abbrev StrBig := { l : List UInt8 // l.length ≤ 9223372036854775807 }
abbrev texts26Con : Con where
  ι := StrBig × I64 × I64 × I64
  args := fun p => [.v (sv p.1.1), .v (.int .i64 p.2.1.1), .v (.int .i64 p.2.2.1.1), .v (.int .i64 p.2.2.2.1)]
  post := fun _ r => r = .v (.bool true)
  plain := true
set_option maxHeartbeats 4000000 in
theorem texts26_good : Rw.Good Tryd.prog 4 texts26Con := by
  have hΓ : GoodEnv Tryd.prog [(8, trueCon26), (7, parseCon), (6, textCon26)] := (goodEnv_cons awake26_good (goodEnv_cons sparse_good (goodEnv_cons stext26_good goodEnv_nil)))
  refine good_fna (nn := 120) Tryd.func4 (by kernel_rfl) rfl (show Tryd.f4.results.toList = [.tmp 8] from rfl) (fun _ => rfl) (fun x => by simp [AV.erL, AV.er]) ?_
  rintro ⟨⟨text, ht⟩, ⟨fr, hfr⟩, ⟨to, hto⟩, ⟨id, hid⟩⟩
  refine vcM_ok hΓ (Ws := []) _ ?_
  by_cases g1 : (text.length : Int) > 300
  · simp only [goRules, coreRules, tiRules, unRules, AS_of_eq, ← decide_not, seval, mapRules, objRules, g1]
    refine call_awake26 (by simp [get_cons]) ?_
    simp only [goRules, coreRules, tiRules, unRules, AS_of_eq, ← decide_not, seval, mapRules, objRules,]
  by_cases g2 : fr < 0
  · simp only [goRules, coreRules, tiRules, unRules, AS_of_eq, ← decide_not, seval, mapRules, objRules, g1, g2]
    refine call_awake26 (by simp [get_cons]) ?_
    simp only [goRules, coreRules, tiRules, unRules, AS_of_eq, ← decide_not, seval, mapRules, objRules,]
  by_cases g3 : fr > 2147483647
  · simp only [goRules, coreRules, tiRules, unRules, AS_of_eq, ← decide_not, seval, mapRules, objRules, g1, g2, g3]
    refine call_awake26 (by simp [get_cons]) ?_
    simp only [goRules, coreRules, tiRules, unRules, AS_of_eq, ← decide_not, seval, mapRules, objRules,]
  by_cases g4 : to < 0
  · simp only [goRules, coreRules, tiRules, unRules, AS_of_eq, ← decide_not, seval, mapRules, objRules, g1, g2, g3, g4]
    refine call_awake26 (by simp [get_cons]) ?_
    simp only [goRules, coreRules, tiRules, unRules, AS_of_eq, ← decide_not, seval, mapRules, objRules,]
  by_cases g5 : to > 2147483647
  · simp only [goRules, coreRules, tiRules, unRules, AS_of_eq, ← decide_not, seval, mapRules, objRules, g1, g2, g3, g4, g5]
    refine call_awake26 (by simp [get_cons]) ?_
    simp only [goRules, coreRules, tiRules, unRules, AS_of_eq, ← decide_not, seval, mapRules, objRules,]
  by_cases g6 : id < 0
  · simp only [goRules, coreRules, tiRules, unRules, AS_of_eq, ← decide_not, seval, mapRules, objRules, g1, g2, g3, g4, g5, g6]
    refine call_awake26 (by simp [get_cons]) ?_
    simp only [goRules, coreRules, tiRules, unRules, AS_of_eq, ← decide_not, seval, mapRules, objRules,]
  by_cases g7 : id > 2147483647
  · simp only [goRules, coreRules, tiRules, unRules, AS_of_eq, ← decide_not, seval, mapRules, objRules, g1, g2, g3, g4, g5, g6, g7]
    refine call_awake26 (by simp [get_cons]) ?_
    simp only [goRules, coreRules, tiRules, unRules, AS_of_eq, ← decide_not, seval, mapRules, objRules,]
  simp only [goRules, coreRules, tiRules, unRules, AS_of_eq, ← decide_not, seval, mapRules, objRules, g1, g2, g3, g4, g5, g6, g7]
  have hl : text.length ≤ 300 := by omega
  have h1 : 0 ≤ fr ∧ fr ≤ 2147483647 := by omega
  have h2 : 0 ≤ to ∧ to ≤ 2147483647 := by omega
  have h3 : 0 ≤ id ∧ id ≤ 2147483647 := by omega
  clear g1 g2 g3 g4 g5 g6 g7
  obtain ⟨St, hSt⟩ : ∃ St : { i : Nat // i ≤ text.length } → AS, ∀ i, St i = AS.ofH 120 [(0, .v (sv text)), (1, .v (.int .i64 fr)), (2, .v (.int .i64 to)), (3, .v (.int .i64 id)), (9, .v (.bool (decide (10 ∈ text.take i.1)))), (10, .v (.int .i64 i.1))] [] [] [] := ⟨_, fun _ => rfl⟩
  refine vcM_lp ?_
  refine vc_loopM [] hΓ St (fun i => text.length - i.1) ⟨0, by omega⟩ (by rw [hSt]; refine weakH_go [] [] ?_; simp only [goRules, coreRules, tiRules, unRules, AS_of_eq, ← decide_not, seval, mapRules, objRules, List.take_zero, List.not_mem_nil, decide_false] <;> ((repeat' apply And.intro) <;> first | rfl | omega | trivial)) ?_
  rintro ⟨i, hi⟩
  rw [hSt]
  simp only
  simp only [goRules, coreRules, tiRules, unRules, AS_of_eq, ← decide_not, seval, mapRules, objRules,]
  (with_reducible first | refine branchP_dec (fun h => ?_) (fun h => ?_) | refine guardB_dec (fun h => ?_) (fun h => ?_))
  · have hlt : i < text.length := by omega
    have tk := List.take_succ_eq_append_getElem hlt
    by_cases hb : 10 ∈ text.take i
    · have hb2 : (10 ∈ text.take (i + 1)) = True := eq_true (by rw [tk]; exact List.mem_append_left _ hb)
      simp only [goRules, coreRules, tiRules, unRules, AS_of_eq, ← decide_not, seval, mapRules, objRules, h, hb, decide_true, wrap_i64 (n := (i : Int) + 1) (by omega) (by omega)]
      (repeat (with_reducible refine And.intro ?_ ?_; focus (first | omega | exact mixed1 | kernel_rfl)))
      refine weak_again ⟨i + 1, by omega⟩ (by simp only; omega) ?_
      rw [hSt]; refine weakH_go [] [] ?_
      simp only [goRules, coreRules, tiRules, unRules, AS_of_eq, ← decide_not, seval, mapRules, objRules, hb2, decide_true] <;> ((repeat' apply And.intro) <;> first | rfl | omega | trivial)
    · simp only [goRules, coreRules, tiRules, unRules, AS_of_eq, ← decide_not, seval, mapRules, objRules, h, hb, decide_false, wrap_i64 (n := (i : Int) + 1) (by omega) (by omega)]
      (repeat (with_reducible refine And.intro ?_ ?_; focus (first | omega | exact mixed1 | kernel_rfl)))
      have hg : text.getD i 0 = text[i] := by rw [List.getD_eq_getElem?_getD, List.getElem?_eq_getElem hlt]; rfl
      have hb2 : (10 ∈ text.take (i + 1)) = (((text.getD i 0).toNat : Int) = 10) := propext (by
        rw [hg, tk, List.mem_append, List.mem_singleton]
        refine ⟨fun h => ?_, fun h => .inr ?_⟩
        · rcases h with h | h
          · exact absurd h hb
          · rw [← h]; rfl
        · exact (UInt8.toNat_inj.1 (Int.ofNat.inj h)).symm)
      refine weak_again ⟨i + 1, by omega⟩ (by simp only; omega) ?_
      rw [hSt]; refine weakH_go [] [] ?_
      simp only [goRules, coreRules, tiRules, unRules, AS_of_eq, ← decide_not, seval, mapRules, objRules, hb2] <;> ((repeat' apply And.intro) <;> first | rfl | omega | trivial)
  · have e1 : text.take i = text := List.take_of_length_le (by omega)
    simp only [goRules, coreRules, tiRules, unRules, AS_of_eq, ← decide_not, seval, mapRules, objRules, h, e1]
    (repeat (with_reducible refine And.intro ?_ ?_; focus (first | omega | exact mixed1 | kernel_rfl)))
    refine call_text26 (x := oT text fr to id) (by simp [get_cons]) (by simp [opC, oT, AV.erL, AV.er]) (oT_ok hl h1 h2 h3) ?_
    by_cases h6 : 10 ∈ text
    · rw [text_bad h6]
      simp only [goRules, coreRules, tiRules, unRules, AS_of_eq, ← decide_not, seval, mapRules, objRules, h6, decide_true]
      (repeat (with_reducible refine And.intro ?_ ?_; focus (first | omega | exact mixed1 | kernel_rfl)))
      refine call_awake26 (by simp [get_cons]) ?_
      simp only [goRules, coreRules, tiRules, unRules, AS_of_eq, ← decide_not, seval, mapRules, objRules,]
    · rw [tT_text hl h1 h2 h3 h6]
      have hln := ln_len (text := text) hl h1 h2 h3
      have hne : (lnT text fr to id = []) = False := eq_false (by simp [lnT])
      simp only [goRules, coreRules, tiRules, unRules, AS_of_eq, ← decide_not, seval, mapRules, objRules, h6, decide_false]
      (repeat (with_reducible refine And.intro ?_ ?_; focus (first | omega | exact mixed1 | kernel_rfl)))
      refine call_parse (by simp [get_cons]) (by omega) (ln_parse hl h1 h2 h3 h6).1 (ln_parse hl h1 h2 h3 h6).2 ?_
      simp only [goRules, coreRules, tiRules, unRules, AS_of_eq, ← decide_not, seval, mapRules, objRules, opC, oP, hne, h6]
      (repeat (with_reducible refine And.intro ?_ ?_; focus (first | omega | exact mixed1 | kernel_rfl)))
      refine call_awake26 (by simp [get_cons]) ?_
      simp only [goRules, coreRules, tiRules, unRules, AS_of_eq, ← decide_not, seval, mapRules, objRules,]
end Go.Proofs
end

-- SScR
section
namespace Go.Proofs.YtnpofobcbfbfnaaDoor
open Go Go.ChangeShapes Go.WideShapes Go.ChangeAt Go.RowKit Go.Rw Go.Lib
open Go.ChangeMaps (open_string shut_string)
set_option linter.unusedVariables false
set_option maxRecDepth 100000

theorem own : ownKnob Tryd.prog.godebug = none := by kernel_rfl
theorem laidOut : laidOutB Tryd.prog = true := by kernel_rfl
def lit1 : DataW Unit → Value
  | .lit (.int k z) => .int k z
  | _ => .bool false
def tab1 : DataW Unit → List Value
  | .agg l => l.map lit1
  | _ => []
def tab2 : DataW Unit → List Value
  | .agg l => l.flatMap tab1
  | _ => []
/-- The settled world, the variables holding what their initialisers lay. -/
noncomputable def laidWorld (os : Os) : World :=
  let w0 := World.holding Tryd.prog os ⟨#[], #[], []⟩
  let put (h : Array Obj) (g : Nat) (cs : List Value) : Array Obj := h.modify g fun
    | .cells _ t frozen => .cells cs.toArray t frozen
    | o => o
  let h1 := put w0.heap 4 (tab1 Rows.laid_unicode_utf8_first)
  let h2 := put h1 5 (tab2 Rows.laid_unicode_utf8_acceptRanges)
  let h3 := put h2 6 (tab1 Rows.laid_math_bits_deBruijn32tab)
  let h4 := put h3 7 (tab1 Rows.laid_math_bits_deBruijn64tab)
  let h5 := put h4 3 (tab1 Rows.laid_internal_strconv_uint64pow10)
  let h6 := put h5 2 [.iface 127 (.pointer (some ⟨h5.size, 0, none⟩))]
  let h7 := put h6 1 [.iface 127 (.pointer (some ⟨h5.size + 1, 0, none⟩))]
  { w0 with heap := (h7.push (.cells #[.string ⟨#[118, 97, 108, 117, 101, 32, 111, 117, 116, 32, 111, 102, 32, 114, 97, 110, 103, 101]⟩] 129)).push (.cells #[.string ⟨#[105, 110, 118, 97, 108, 105, 100, 32, 115, 121, 110, 116, 97, 120]⟩] 129) }
abbrev laidL : List (String × DataW Unit) := [("math/bits.deBruijn32tab", Rows.laid_math_bits_deBruijn32tab), ("math/bits.deBruijn64tab", Rows.laid_math_bits_deBruijn64tab), ("internal/strconv.uint64pow10", Rows.laid_internal_strconv_uint64pow10), ("unicode/utf8.acceptRanges", Rows.laid_unicode_utf8_acceptRanges), ("strconv.ErrRange", Rows.laid_strconv_ErrRange), ("strconv.ErrSyntax", Rows.laid_strconv_ErrSyntax), ("unicode/utf8.first", Rows.laid_unicode_utf8_first)]
theorem laid_met (os : Os) (args : Array Value) : laidMet Tryd.prog laidL ((laidWorld os).forCall (fun _ _ => 0) ⟨#[], args, []⟩).memory :=
  (LaidIn.of_run (l := laidL) ((List.range 100)) 8 (by kernel_rfl) (by kernel_rfl) (by kernel_rfl) (by kernel_rfl)).met
theorem tabs_of {W : World} (hL : laidMet Tryd.prog laidL W) : TabOk W (tkBlock none) := by
  have h3 : laidMet Tryd.prog (("internal/strconv.uint64pow10", tabData .u64 Lib.pow10Tab) :: [("unicode/utf8.acceptRanges", Rows.laid_unicode_utf8_acceptRanges), ("strconv.ErrRange", Rows.laid_strconv_ErrRange), ("strconv.ErrSyntax", Rows.laid_strconv_ErrSyntax), ("unicode/utf8.first", Rows.laid_unicode_utf8_first)]) W := by
    have := hL.tail.tail
    exact this
  have htab : Lib.TabIs Tryd.prog W "internal/strconv.uint64pow10" .u64 Lib.pow10Tab :=
    Lib.tabIs_of_head (g := 3) (t := 121) (e := 101) (n := 20) (by kernel_rfl) (by kernel_rfl) (by kernel_rfl) (by kernel_rfl) (by kernel_rfl) (by kernel_rfl) h3
  refine ⟨htab, fun g hg => ⟨?_, by rintro ⟨k, hk, _⟩; cases hk⟩⟩
  have hg' : Tryd.prog.globalNamed "internal/strconv.uint64pow10" = some g := hg
  unfold Lib.TabIs World.var? at htab
  rw [hg', Option.bind_some] at htab
  rcases Nat.lt_or_ge g W.heap.size with h | h
  · exact h
  · rw [Array.getElem?_eq_none h] at htab; cases htab
theorem i64_wf {n : Int} (h : (Lit.int .i64 n).wf = true) : -9223372036854775808 ≤ n ∧ n ≤ 9223372036854775807 := by
  simp [Lit.wf, IntKind.min, IntKind.max, IntKind.signed, IntKind.bits] at h; omega
end Go.Proofs.YtnpofobcbfbfnaaDoor
end
