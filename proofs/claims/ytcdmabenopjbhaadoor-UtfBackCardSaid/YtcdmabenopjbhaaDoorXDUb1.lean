/-
  utf.Text puts a text together of code points, walked.
-/
import Derived.Test.YtcdmabenopjbhaaDoorXTrydShelf2
import Derived.Test.YtcdmabenopjbhaaDoorRwF
import Derived.WalkKit
import Derived.BigCall
import Derived.Deep.LoopGhost
import Derived.Test.YtcdmabenopjbhaaDoorRwG
set_option linter.unusedSimpArgs false
set_option linter.unusedVariables false
set_option linter.defProp false

-- DUb1
section
namespace Go.Proofs
open Go.RowKit Go.Rw
set_option linter.unusedSimpArgs false
set_option linter.unusedVariables false

def textEnd (l : List Int) : Ending := match textN l with | some t => .returned (.tuple #[.string ⟨t.toArray⟩, .int .i64 0]) | none => .returned (.tuple #[.string ⟨#[]⟩, .int .i64 2])
theorem textEnd_none {l : List Int} (h : textN l = none) : textEnd l = .returned (.tuple #[.string ⟨#[]⟩, .int .i64 2]) := by unfold textEnd; rw [h]
theorem textEnd_some {l : List Int} {t : List UInt8} (h : textN l = some t) : textEnd l = .returned (.tuple #[.string ⟨t.toArray⟩, .int .i64 0]) := by unfold textEnd; rw [h]
set_option maxHeartbeats 4000000 in
set_option maxRecDepth 1000000 in
theorem text_walk (l : List Int) (A : Option Addr) (g off cap : Nat) (w : World) (hA : l ≠ [] → A = some ⟨g, off, none⟩) (hc : ∀ j (hj : j < l.length), w.cell? ⟨g, off + j, none⟩ = some (.int .i64 l[j])) (hl : l.length ≤ 1099511627776) (hr : ∀ x ∈ l, -9223372036854775808 ≤ x ∧ x ≤ 9223372036854775807) :
    Calls Tryd.prog 10 #[.slice A l.length cap] w fun e w' => (e = textEnd l) ∧ Below w.heap.size w w' := by
  go_enter Tryd.func10, Tryd.ntmps10
  go_wp2
  go_loopg [9] l.length (fun k s9 wr => ∃ (i : Nat) (acc : List UInt8), s9 = .int .i64 i ∧ k = l.length - i ∧ i ≤ l.length ∧ Lib.IsBuilderF 68 5 w.heap.size w.heap.size (Lib.byteCells acc) wr ∧ Below w.heap.size w wr ∧ acc.length ≤ 4 * i ∧ textN l = (textN (l.drop i)).map (acc ++ ·))
  case atStart =>
    refine ⟨0, [], rfl, by omega, by omega, Lib.IsBuilderF.of (Lib.fresh_isBuilder 68 5 w), (Below.refl _ w).alloc (Nat.le_refl _) _, by simp, by simp⟩
  case round =>
    obtain ⟨i, acc, rfl, rfl, hi, hI, hbw, hal, hacc⟩ := hrel
    by_cases hlt : (i : Int) < l.length
    · have hi2 : i < l.length := by omega
      obtain rfl := hA (by intro e; rw [e] at hi2; simp at hi2)
      have hc0 := hc i hi2
      have hg : g < w.heap.size := Fw_lt (Nat.lt_of_le_of_lt (Nat.zero_le _) (Fw_cell hc0))
      have ci : wr.cell? ⟨g, off + i, none⟩ = some (.int .i64 l[i]) := by rw [hbw.cell (p := ⟨g, off + i, none⟩) hg]; exact hc0
      have hv := hr l[i] (List.getElem_mem hi2)
      have hsz : w.heap.size ≤ wr.heap.size := hbw.size
      rw [List.drop_eq_getElem_cons hi2, textN_cons] at hacc
      generalize l[i] = v at *
      have A1 : Aside (textN l = Option.map (fun x => acc ++ x) (if okn v then Option.map (fun x => enc v.toNat ++ x) (textN (l.drop (i + 1))) else none)) := hacc
      clear hacc hc hc0 hr hA
      have hok : okn v ↔ 1 ≤ v ∧ v ≤ 1114111 ∧ ¬ (55296 ≤ v ∧ v ≤ 57343) := Iff.rfl
      have bad : ¬ okn v → textEnd l = .returned (.tuple #[.string ⟨#[]⟩, .int .i64 2]) := fun h => textEnd_none (by have := A1.out; rw [if_neg h] at this; exact this)
      by_cases h1 : v < 1
      · go_wp2
        go_ret2
        exact ⟨(bad fun h => by have := hok.1 h; omega).symm, hbw⟩
      · by_cases h2 : v > 1114111
        · go_wp2
          go_ret2
          exact ⟨(bad fun h => by have := hok.1 h; omega).symm, hbw⟩
        · have hw : IntKind.i32.wrap v = v := by simp only [IntKind.wrap, IntKind.signed, IntKind.bits]; simp; omega
          cases hvr : Lib.validRune v with
          | false =>
            have h3 : ¬ okn v := fun h => by
              have h4 := hok.1 h
              unfold Lib.validRune at hvr
              have := of_decide_eq_false hvr
              omega
            go_wp2_with (go_at_call 37; refine (Any.utf8_ValidRune Tryd.lays119 _ _).mono ?_)
            go_ret2
            exact ⟨(bad h3).symm, hbw⟩
          | true =>
            have h3 : okn v := hok.2 (by
              unfold Lib.validRune at hvr
              have := of_decide_eq_true hvr
              omega)
            have A2 : Aside (textN l = (textN (l.drop (i + 1))).map ((acc ++ enc v.toNat) ++ ·)) := by
              have h5 := A1.out
              rw [if_pos h3, Option.map_map] at h5
              have h6 : ((fun x => acc ++ x) ∘ fun x => enc v.toNat ++ x) = fun x => acc ++ enc v.toNat ++ x := by funext x; simp
              rw [h6] at h5
              exact h5
            clear A1 bad
            go_wp2_with (first | (go_at_call 37; refine (Any.utf8_ValidRune Tryd.lays119 _ _).mono ?_) | (go_at_call 38; refine (Tryd.Builder_WriteRune_k w.heap.size w.heap.size _ _ (by omega) (by omega) _ hI (by rw [Lib.byteCells_length]; omega) hsz).mono ?_))
            rintro e W1 ⟨rfl, h6, b1, k1⟩
            go_wp2
            go_roundg (l.length - (i + 1))
            case measure => omega
            case rel =>
              obtain ⟨h7, h8⟩ := okn_okc h3
              refine ⟨i + 1, acc ++ enc v.toNat, by simp, rfl, by omega, ?_, hbw.trans b1, ?_, A2.out⟩
              · rw [Lib.byteCells_append, ← encodeRune_enc h7, Lib.byteCells_encodeRune, h8]; exact Or.inr h6
              · rw [List.length_append, enc_len]; have := wid_le v.toNat; omega
    · have hi2 : i = l.length := by omega
      go_wp2_with (go_at_call 39; refine (Tryd.Builder_String_any_k w.heap.size w.heap.size acc _ hI hbw.size).mono ?_)
      intro e W1 he h9 b1 k9
      subst he
      go_wp2
      go_ret2
      rw [hi2, List.drop_length, textN_nil] at hacc
      simp only [Option.map_some, List.append_nil] at hacc
      exact ⟨(textEnd_some hacc).symm, hbw.trans b1⟩
end Go.Proofs
end
