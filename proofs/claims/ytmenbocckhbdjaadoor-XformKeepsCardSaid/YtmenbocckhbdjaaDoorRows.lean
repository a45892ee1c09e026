/-
  NARROWER THAN 'FOR EVERY INPUT', by the rows' own cells (each row's printed sentence says how): ApplyKeeps: laid · ApplyDiffs: laid · ApplyAsks: laid · ApplyBack: laid · ComposeAsks: laid · ComposeDoes: laid · ComposeRow: laid · ComposeUndo: laid · XformAsks: laid · XformMeets: laid · XformKeeps: laid · XformMany: laid · XformNone: laid.
  DERIVED. THE GIVEN ROWS OF THIS SEAT. 13 by the template 'for every input the law returns true; each argument reads behind the call as it read before'; 0 by the template 'total and deterministic' (their statements: YtmenbocckhbdjaaDoorTotals.lean).
  GIVEN WITH THE SEED: the statements are not yours to turn. If you find one false, say at which input.
  Laid BY PROGRAM, IN A SANDBOX (cutbox-rows.mjs): the forced cells as the released guide's own fill.sh prints them over the translation bf51a49603f1877d… (all of the seat's roots in one cut). By AI agents, Wed Nov 11 2026. No macro, syntax, notation, axiom, sorry.
-/
import Derived.Test.YtmenbocckhbdjaaDoorChecked
import GoSem.PinnedTables
import GoSem.Claim
import GoSem.ClaimJoined
import GoSem.ClaimMapViews
import Derived.JoinedTies
import Derived.KernelRfl
namespace Go.Proofs.YtmenbocckhbdjaaDoor
/- THE CELL 'sum', in the pinned program and in every row, IS THE sha256 OF THE DUMP (.gsa) THAT YtmenbocckhbdjaaDoorProg.lean LOADS. Nothing in Lean hashes anything: it is a label: what it is worth is what the hold of that sum in a sandbox is worth. -/
noncomputable def Tryd.pinned : Pinned := { name := "ytmenbocckhbdjaadoor", sum := "bf51a49603f1877db26d3a8e819371ccd0f824b0b440233a09eb10e2a7853b81", checked := Tryd.checked }
namespace Rows
def none {H : Type} : Left H := { results := [], args := [] }

/- WHAT THE LISTED PACKAGE-LEVEL VARIABLES READ AS WHEN THE CALL BEGINS. Each datum BY PROGRAM (the guide's laid-datum.mjs) off the statement by which the dump's own 'gosem.cut.vars' lays the variable. In a bare row this is a premise. The card (YtmenbocckhbdjaaDoorCards.lean) ties it to the program's text. -/
def laid_unicode_utf8_acceptRanges {H : Type} : DataW H := .agg [.agg [.lit (.int .u8 128), .lit (.int .u8 191)], .agg [.lit (.int .u8 160), .lit (.int .u8 191)], .agg [.lit (.int .u8 128), .lit (.int .u8 159)], .agg [.lit (.int .u8 144), .lit (.int .u8 191)], .agg [.lit (.int .u8 128), .lit (.int .u8 143)], .agg [.lit (.int .u8 0), .lit (.int .u8 0)], .agg [.lit (.int .u8 0), .lit (.int .u8 0)], .agg [.lit (.int .u8 0), .lit (.int .u8 0)], .agg [.lit (.int .u8 0), .lit (.int .u8 0)], .agg [.lit (.int .u8 0), .lit (.int .u8 0)], .agg [.lit (.int .u8 0), .lit (.int .u8 0)], .agg [.lit (.int .u8 0), .lit (.int .u8 0)], .agg [.lit (.int .u8 0), .lit (.int .u8 0)], .agg [.lit (.int .u8 0), .lit (.int .u8 0)], .agg [.lit (.int .u8 0), .lit (.int .u8 0)], .agg [.lit (.int .u8 0), .lit (.int .u8 0)]]
/-- One of Go's own tables, pinned by name: the form's constant. -/
def laid_unicode_utf8_first : DataW Unit := Go.Pinned.utf8First

/-- 'ropewalklaw8.ApplyKeeps': WHATEVER THE INPUT: true; the input reads as it did. -/
def applyKeepsSpec : ChangeSpec := { name := "applyKeeps", fn := fun _ => fun
  | [d1, d2] => { results := [.lit (.bool true)], args := [d1, d2] }
  | _ => none }
def applyKeepsRow : OpenClaim := { program := "ytmenbocckhbdjaadoor", sum := "bf51a49603f1877db26d3a8e819371ccd0f824b0b440233a09eb10e2a7853b81", func := "ropewalk/ropewalklaw8.ApplyKeeps", spec := "applyKeeps", inPlace := ["internal/bytealg.IndexByteString", "internal/bytealg.IndexString"], named := ["unicode/utf8.first", "unicode/utf8.acceptRanges", "internal/bytealg.MaxLen"], apart := false, laid := [("unicode/utf8.acceptRanges", laid_unicode_utf8_acceptRanges), ("unicode/utf8.first", laid_unicode_utf8_first)] }
def ApplyKeepsSaid : Prop := applyKeepsRow.holds Tryd.pinned (OpenSpec.ofChange applyKeepsSpec)

/-- ITS FALSE NEIGHBOUR: 'it returns false'. Refute it at one input. -/
def applyKeepsWrong : ChangeSpec := { name := "applyKeeps", fn := fun _ => fun
  | [d1, d2] => { results := [.lit (.bool false)], args := [d1, d2] }
  | _ => none }
def ApplyKeepsWrongFalsely : Prop := applyKeepsRow.holds Tryd.pinned (OpenSpec.ofChange applyKeepsWrong)

/-- 'ropewalklaw8.ApplyDiffs': WHATEVER THE INPUT: true; the input reads as it did. -/
def applyDiffsSpec : ChangeSpec := { name := "applyDiffs", fn := fun _ => fun
  | [d1, d2, d3, d4] => { results := [.lit (.bool true)], args := [d1, d2, d3, d4] }
  | _ => none }
def applyDiffsRow : OpenClaim := { program := "ytmenbocckhbdjaadoor", sum := "bf51a49603f1877db26d3a8e819371ccd0f824b0b440233a09eb10e2a7853b81", func := "ropewalk/ropewalklaw8.ApplyDiffs", spec := "applyDiffs", inPlace := ["internal/bytealg.IndexByteString", "internal/bytealg.IndexString"], unfollowed := true, recurses := true, named := ["unicode/utf8.first", "unicode/utf8.acceptRanges", "internal/bytealg.MaxLen"], apart := false, laid := [("unicode/utf8.acceptRanges", laid_unicode_utf8_acceptRanges), ("unicode/utf8.first", laid_unicode_utf8_first)] }
def ApplyDiffsSaid : Prop := applyDiffsRow.holds Tryd.pinned (OpenSpec.ofChange applyDiffsSpec)

/-- ITS FALSE NEIGHBOUR: 'it returns false'. Refute it at one input. -/
def applyDiffsWrong : ChangeSpec := { name := "applyDiffs", fn := fun _ => fun
  | [d1, d2, d3, d4] => { results := [.lit (.bool false)], args := [d1, d2, d3, d4] }
  | _ => none }
def ApplyDiffsWrongFalsely : Prop := applyDiffsRow.holds Tryd.pinned (OpenSpec.ofChange applyDiffsWrong)

/-- 'ropewalklaw8.ApplyAsks': WHATEVER THE INPUT: true; the input reads as it did. -/
def applyAsksSpec : ChangeSpec := { name := "applyAsks", fn := fun _ => fun
  | [d1, d2, d3] => { results := [.lit (.bool true)], args := [d1, d2, d3] }
  | _ => none }
def applyAsksRow : OpenClaim := { program := "ytmenbocckhbdjaadoor", sum := "bf51a49603f1877db26d3a8e819371ccd0f824b0b440233a09eb10e2a7853b81", func := "ropewalk/ropewalklaw8.ApplyAsks", spec := "applyAsks", inPlace := ["internal/bytealg.IndexByteString", "internal/bytealg.IndexString"], named := ["unicode/utf8.first", "unicode/utf8.acceptRanges", "internal/bytealg.MaxLen"], apart := false, laid := [("unicode/utf8.acceptRanges", laid_unicode_utf8_acceptRanges), ("unicode/utf8.first", laid_unicode_utf8_first)] }
def ApplyAsksSaid : Prop := applyAsksRow.holds Tryd.pinned (OpenSpec.ofChange applyAsksSpec)

/-- ITS FALSE NEIGHBOUR: 'it returns false'. Refute it at one input. -/
def applyAsksWrong : ChangeSpec := { name := "applyAsks", fn := fun _ => fun
  | [d1, d2, d3] => { results := [.lit (.bool false)], args := [d1, d2, d3] }
  | _ => none }
def ApplyAsksWrongFalsely : Prop := applyAsksRow.holds Tryd.pinned (OpenSpec.ofChange applyAsksWrong)

/-- 'ropewalklaw8.ApplyBack': WHATEVER THE INPUT: true; the input reads as it did. -/
def applyBackSpec : ChangeSpec := { name := "applyBack", fn := fun _ => fun
  | [d1, d2, d3] => { results := [.lit (.bool true)], args := [d1, d2, d3] }
  | _ => none }
def applyBackRow : OpenClaim := { program := "ytmenbocckhbdjaadoor", sum := "bf51a49603f1877db26d3a8e819371ccd0f824b0b440233a09eb10e2a7853b81", func := "ropewalk/ropewalklaw8.ApplyBack", spec := "applyBack", inPlace := ["internal/bytealg.IndexByteString", "internal/bytealg.IndexString"], named := ["unicode/utf8.first", "unicode/utf8.acceptRanges", "internal/bytealg.MaxLen"], apart := false, laid := [("unicode/utf8.acceptRanges", laid_unicode_utf8_acceptRanges), ("unicode/utf8.first", laid_unicode_utf8_first)] }
def ApplyBackSaid : Prop := applyBackRow.holds Tryd.pinned (OpenSpec.ofChange applyBackSpec)

/-- ITS FALSE NEIGHBOUR: 'it returns false'. Refute it at one input. -/
def applyBackWrong : ChangeSpec := { name := "applyBack", fn := fun _ => fun
  | [d1, d2, d3] => { results := [.lit (.bool false)], args := [d1, d2, d3] }
  | _ => none }
def ApplyBackWrongFalsely : Prop := applyBackRow.holds Tryd.pinned (OpenSpec.ofChange applyBackWrong)

/-- 'ropewalklaw9.ComposeAsks': WHATEVER THE INPUT: true; the input reads as it did. -/
def composeAsksSpec : ChangeSpec := { name := "composeAsks", fn := fun _ => fun
  | [d1, d2, d3, d4] => { results := [.lit (.bool true)], args := [d1, d2, d3, d4] }
  | _ => none }
def composeAsksRow : OpenClaim := { program := "ytmenbocckhbdjaadoor", sum := "bf51a49603f1877db26d3a8e819371ccd0f824b0b440233a09eb10e2a7853b81", func := "ropewalk/ropewalklaw9.ComposeAsks", spec := "composeAsks", inPlace := ["internal/bytealg.IndexByteString", "internal/bytealg.IndexString"], named := ["unicode/utf8.first", "unicode/utf8.acceptRanges", "internal/bytealg.MaxLen"], apart := false, laid := [("unicode/utf8.acceptRanges", laid_unicode_utf8_acceptRanges), ("unicode/utf8.first", laid_unicode_utf8_first)] }
def ComposeAsksSaid : Prop := composeAsksRow.holds Tryd.pinned (OpenSpec.ofChange composeAsksSpec)

/-- ITS FALSE NEIGHBOUR: 'it returns false'. Refute it at one input. -/
def composeAsksWrong : ChangeSpec := { name := "composeAsks", fn := fun _ => fun
  | [d1, d2, d3, d4] => { results := [.lit (.bool false)], args := [d1, d2, d3, d4] }
  | _ => none }
def ComposeAsksWrongFalsely : Prop := composeAsksRow.holds Tryd.pinned (OpenSpec.ofChange composeAsksWrong)

/-- 'ropewalklaw9.ComposeDoes': WHATEVER THE INPUT: true; the input reads as it did. -/
def composeDoesSpec : ChangeSpec := { name := "composeDoes", fn := fun _ => fun
  | [d1, d2, d3, d4] => { results := [.lit (.bool true)], args := [d1, d2, d3, d4] }
  | _ => none }
def composeDoesRow : OpenClaim := { program := "ytmenbocckhbdjaadoor", sum := "bf51a49603f1877db26d3a8e819371ccd0f824b0b440233a09eb10e2a7853b81", func := "ropewalk/ropewalklaw9.ComposeDoes", spec := "composeDoes", inPlace := ["internal/bytealg.IndexByteString", "internal/bytealg.IndexString"], named := ["unicode/utf8.first", "unicode/utf8.acceptRanges", "internal/bytealg.MaxLen"], apart := false, laid := [("unicode/utf8.acceptRanges", laid_unicode_utf8_acceptRanges), ("unicode/utf8.first", laid_unicode_utf8_first)] }
def ComposeDoesSaid : Prop := composeDoesRow.holds Tryd.pinned (OpenSpec.ofChange composeDoesSpec)

/-- ITS FALSE NEIGHBOUR: 'it returns false'. Refute it at one input. -/
def composeDoesWrong : ChangeSpec := { name := "composeDoes", fn := fun _ => fun
  | [d1, d2, d3, d4] => { results := [.lit (.bool false)], args := [d1, d2, d3, d4] }
  | _ => none }
def ComposeDoesWrongFalsely : Prop := composeDoesRow.holds Tryd.pinned (OpenSpec.ofChange composeDoesWrong)

/-- 'ropewalklaw9.ComposeRow': WHATEVER THE INPUT: true; the input reads as it did. -/
def composeRowSpec : ChangeSpec := { name := "composeRow", fn := fun _ => fun
  | [d1, d2, d3] => { results := [.lit (.bool true)], args := [d1, d2, d3] }
  | _ => none }
def composeRowRow : OpenClaim := { program := "ytmenbocckhbdjaadoor", sum := "bf51a49603f1877db26d3a8e819371ccd0f824b0b440233a09eb10e2a7853b81", func := "ropewalk/ropewalklaw9.ComposeRow", spec := "composeRow", inPlace := ["internal/bytealg.IndexByteString", "internal/bytealg.IndexString"], named := ["unicode/utf8.first", "unicode/utf8.acceptRanges", "internal/bytealg.MaxLen"], apart := false, laid := [("unicode/utf8.acceptRanges", laid_unicode_utf8_acceptRanges), ("unicode/utf8.first", laid_unicode_utf8_first)] }
def ComposeRowSaid : Prop := composeRowRow.holds Tryd.pinned (OpenSpec.ofChange composeRowSpec)

/-- ITS FALSE NEIGHBOUR: 'it returns false'. Refute it at one input. -/
def composeRowWrong : ChangeSpec := { name := "composeRow", fn := fun _ => fun
  | [d1, d2, d3] => { results := [.lit (.bool false)], args := [d1, d2, d3] }
  | _ => none }
def ComposeRowWrongFalsely : Prop := composeRowRow.holds Tryd.pinned (OpenSpec.ofChange composeRowWrong)

/-- 'ropewalklaw9.ComposeUndo': WHATEVER THE INPUT: true; the input reads as it did. -/
def composeUndoSpec : ChangeSpec := { name := "composeUndo", fn := fun _ => fun
  | [d1, d2] => { results := [.lit (.bool true)], args := [d1, d2] }
  | _ => none }
def composeUndoRow : OpenClaim := { program := "ytmenbocckhbdjaadoor", sum := "bf51a49603f1877db26d3a8e819371ccd0f824b0b440233a09eb10e2a7853b81", func := "ropewalk/ropewalklaw9.ComposeUndo", spec := "composeUndo", inPlace := ["internal/bytealg.IndexByteString", "internal/bytealg.IndexString"], named := ["unicode/utf8.first", "unicode/utf8.acceptRanges", "internal/bytealg.MaxLen"], apart := false, laid := [("unicode/utf8.acceptRanges", laid_unicode_utf8_acceptRanges), ("unicode/utf8.first", laid_unicode_utf8_first)] }
def ComposeUndoSaid : Prop := composeUndoRow.holds Tryd.pinned (OpenSpec.ofChange composeUndoSpec)

/-- ITS FALSE NEIGHBOUR: 'it returns false'. Refute it at one input. -/
def composeUndoWrong : ChangeSpec := { name := "composeUndo", fn := fun _ => fun
  | [d1, d2] => { results := [.lit (.bool false)], args := [d1, d2] }
  | _ => none }
def ComposeUndoWrongFalsely : Prop := composeUndoRow.holds Tryd.pinned (OpenSpec.ofChange composeUndoWrong)

/-- 'ropewalklaw10.XformAsks': WHATEVER THE INPUT: true; the input reads as it did. -/
def xformAsksSpec : ChangeSpec := { name := "xformAsks", fn := fun _ => fun
  | [d1, d2, d3, d4] => { results := [.lit (.bool true)], args := [d1, d2, d3, d4] }
  | _ => none }
def xformAsksRow : OpenClaim := { program := "ytmenbocckhbdjaadoor", sum := "bf51a49603f1877db26d3a8e819371ccd0f824b0b440233a09eb10e2a7853b81", func := "ropewalk/ropewalklaw10.XformAsks", spec := "xformAsks", inPlace := ["internal/bytealg.IndexByteString", "internal/bytealg.IndexString"], named := ["unicode/utf8.first", "unicode/utf8.acceptRanges", "internal/bytealg.MaxLen"], apart := false, laid := [("unicode/utf8.acceptRanges", laid_unicode_utf8_acceptRanges), ("unicode/utf8.first", laid_unicode_utf8_first)] }
def XformAsksSaid : Prop := xformAsksRow.holds Tryd.pinned (OpenSpec.ofChange xformAsksSpec)

/-- ITS FALSE NEIGHBOUR: 'it returns false'. Refute it at one input. -/
def xformAsksWrong : ChangeSpec := { name := "xformAsks", fn := fun _ => fun
  | [d1, d2, d3, d4] => { results := [.lit (.bool false)], args := [d1, d2, d3, d4] }
  | _ => none }
def XformAsksWrongFalsely : Prop := xformAsksRow.holds Tryd.pinned (OpenSpec.ofChange xformAsksWrong)

/-- 'ropewalklaw10.XformMeets': WHATEVER THE INPUT: true; the input reads as it did. -/
def xformMeetsSpec : ChangeSpec := { name := "xformMeets", fn := fun _ => fun
  | [d1, d2, d3, d4] => { results := [.lit (.bool true)], args := [d1, d2, d3, d4] }
  | _ => none }
def xformMeetsRow : OpenClaim := { program := "ytmenbocckhbdjaadoor", sum := "bf51a49603f1877db26d3a8e819371ccd0f824b0b440233a09eb10e2a7853b81", func := "ropewalk/ropewalklaw10.XformMeets", spec := "xformMeets", inPlace := ["internal/bytealg.IndexByteString", "internal/bytealg.IndexString"], named := ["unicode/utf8.first", "unicode/utf8.acceptRanges", "internal/bytealg.MaxLen"], apart := false, laid := [("unicode/utf8.acceptRanges", laid_unicode_utf8_acceptRanges), ("unicode/utf8.first", laid_unicode_utf8_first)] }
def XformMeetsSaid : Prop := xformMeetsRow.holds Tryd.pinned (OpenSpec.ofChange xformMeetsSpec)

/-- ITS FALSE NEIGHBOUR: 'it returns false'. Refute it at one input. -/
def xformMeetsWrong : ChangeSpec := { name := "xformMeets", fn := fun _ => fun
  | [d1, d2, d3, d4] => { results := [.lit (.bool false)], args := [d1, d2, d3, d4] }
  | _ => none }
def XformMeetsWrongFalsely : Prop := xformMeetsRow.holds Tryd.pinned (OpenSpec.ofChange xformMeetsWrong)

/-- 'ropewalklaw10.XformKeeps': WHATEVER THE INPUT: true; the input reads as it did. -/
def xformKeepsSpec : ChangeSpec := { name := "xformKeeps", fn := fun _ => fun
  | [d1, d2, d3, d4] => { results := [.lit (.bool true)], args := [d1, d2, d3, d4] }
  | _ => none }
def xformKeepsRow : OpenClaim := { program := "ytmenbocckhbdjaadoor", sum := "bf51a49603f1877db26d3a8e819371ccd0f824b0b440233a09eb10e2a7853b81", func := "ropewalk/ropewalklaw10.XformKeeps", spec := "xformKeeps", inPlace := ["internal/bytealg.IndexByteString", "internal/bytealg.IndexString"], named := ["unicode/utf8.first", "unicode/utf8.acceptRanges", "internal/bytealg.MaxLen"], apart := false, laid := [("unicode/utf8.acceptRanges", laid_unicode_utf8_acceptRanges), ("unicode/utf8.first", laid_unicode_utf8_first)] }
def XformKeepsSaid : Prop := xformKeepsRow.holds Tryd.pinned (OpenSpec.ofChange xformKeepsSpec)

/-- ITS FALSE NEIGHBOUR: 'it returns false'. Refute it at one input. -/
def xformKeepsWrong : ChangeSpec := { name := "xformKeeps", fn := fun _ => fun
  | [d1, d2, d3, d4] => { results := [.lit (.bool false)], args := [d1, d2, d3, d4] }
  | _ => none }
def XformKeepsWrongFalsely : Prop := xformKeepsRow.holds Tryd.pinned (OpenSpec.ofChange xformKeepsWrong)

/-- 'ropewalklaw10.XformMany': WHATEVER THE INPUT: true; the input reads as it did. -/
def xformManySpec : ChangeSpec := { name := "xformMany", fn := fun _ => fun
  | [d1, d2, d3, d4, d5] => { results := [.lit (.bool true)], args := [d1, d2, d3, d4, d5] }
  | _ => none }
def xformManyRow : OpenClaim := { program := "ytmenbocckhbdjaadoor", sum := "bf51a49603f1877db26d3a8e819371ccd0f824b0b440233a09eb10e2a7853b81", func := "ropewalk/ropewalklaw10.XformMany", spec := "xformMany", inPlace := ["internal/bytealg.IndexByteString", "internal/bytealg.IndexString"], named := ["unicode/utf8.first", "unicode/utf8.acceptRanges", "internal/bytealg.MaxLen"], apart := false, laid := [("unicode/utf8.acceptRanges", laid_unicode_utf8_acceptRanges), ("unicode/utf8.first", laid_unicode_utf8_first)] }
def XformManySaid : Prop := xformManyRow.holds Tryd.pinned (OpenSpec.ofChange xformManySpec)

/-- ITS FALSE NEIGHBOUR: 'it returns false'. Refute it at one input. -/
def xformManyWrong : ChangeSpec := { name := "xformMany", fn := fun _ => fun
  | [d1, d2, d3, d4, d5] => { results := [.lit (.bool false)], args := [d1, d2, d3, d4, d5] }
  | _ => none }
def XformManyWrongFalsely : Prop := xformManyRow.holds Tryd.pinned (OpenSpec.ofChange xformManyWrong)

/-- 'ropewalklaw10.XformNone': WHATEVER THE INPUT: true; the input reads as it did. -/
def xformNoneSpec : ChangeSpec := { name := "xformNone", fn := fun _ => fun
  | [d1, d2, d3, d4] => { results := [.lit (.bool true)], args := [d1, d2, d3, d4] }
  | _ => none }
def xformNoneRow : OpenClaim := { program := "ytmenbocckhbdjaadoor", sum := "bf51a49603f1877db26d3a8e819371ccd0f824b0b440233a09eb10e2a7853b81", func := "ropewalk/ropewalklaw10.XformNone", spec := "xformNone", inPlace := ["internal/bytealg.IndexByteString", "internal/bytealg.IndexString"], unfollowed := true, recurses := true, named := ["unicode/utf8.first", "unicode/utf8.acceptRanges", "internal/bytealg.MaxLen"], apart := false, laid := [("unicode/utf8.acceptRanges", laid_unicode_utf8_acceptRanges), ("unicode/utf8.first", laid_unicode_utf8_first)] }
def XformNoneSaid : Prop := xformNoneRow.holds Tryd.pinned (OpenSpec.ofChange xformNoneSpec)

/-- ITS FALSE NEIGHBOUR: 'it returns false'. Refute it at one input. -/
def xformNoneWrong : ChangeSpec := { name := "xformNone", fn := fun _ => fun
  | [d1, d2, d3, d4] => { results := [.lit (.bool false)], args := [d1, d2, d3, d4] }
  | _ => none }
def XformNoneWrongFalsely : Prop := xformNoneRow.holds Tryd.pinned (OpenSpec.ofChange xformNoneWrong)

/- THE SECOND FORM. 'bulk': how many values and letters a reading holds, each counted each time it is reached (what is shared counts as often as it is met; a slice's spare places count too). A statement '..UptoSaid' is the law's where the arguments, and the package variables that the reading takes, are together of bulk at most 1048576: NARROWER than '..Said'. Prove '..Said' where nothing that the law and all that it calls make is longer than what came in: it says more and counts as full. Else prove '..UptoSaid'. A law counts once. -/
mutual
def uptoBulk {H : Type} : DataW H → Nat
  | .lit (.string bytes) => bytes.length + 1
  | .lit _ => 1
  | .nil => 1
  | .ptr d => uptoBulk d + 1
  | .slice elems spare => uptoBulkAll elems + uptoBulkAll spare + 1
  | .agg parts => uptoBulkAll parts + 1
  | .iface _ d => uptoBulk d + 1
  | .map entries => uptoBulkEntries entries + 1
  | .held _ => 1
def uptoBulkAll {H : Type} : List (DataW H) → Nat
  | [] => 0
  | d :: r => uptoBulk d + uptoBulkAll r
def uptoBulkEntries {H : Type} : List (Lit × DataW H) → Nat
  | [] => 0
  | x :: r => uptoBulkEntry x + uptoBulkEntries r
def uptoBulkEntry {H : Type} : Lit × DataW H → Nat
  | (.string bytes, d) => bytes.length + uptoBulk d + 1
  | (_, d) => uptoBulk d + 1
 end
def uptoSmall : (H : Type) → List (DataW H) → Bool := fun _ ds => decide (uptoBulkAll ds ≤ 1048576)
def OpenSpec.upto (s : _root_.Go.ChangeSpec) : _root_.Go.OpenSpec := { _root_.Go.OpenSpec.ofChange s with cond := some uptoSmall }

/-- 'ropewalklaw8.ApplyKeeps', WHERE WHAT IT READS IS OF BULK AT MOST 1048576: true; the input reads as it did. -/
def applyKeepsUptoRow : OpenClaim := { program := "ytmenbocckhbdjaadoor", sum := "bf51a49603f1877db26d3a8e819371ccd0f824b0b440233a09eb10e2a7853b81", func := "ropewalk/ropewalklaw8.ApplyKeeps", spec := "applyKeeps", inPlace := ["internal/bytealg.IndexByteString", "internal/bytealg.IndexString"], named := ["unicode/utf8.first", "unicode/utf8.acceptRanges", "internal/bytealg.MaxLen"], apart := false, laid := [("unicode/utf8.acceptRanges", laid_unicode_utf8_acceptRanges), ("unicode/utf8.first", laid_unicode_utf8_first)], narrowed := true }
def ApplyKeepsUptoSaid : Prop := applyKeepsUptoRow.holds Tryd.pinned (OpenSpec.upto applyKeepsSpec)

/-- 'ropewalklaw8.ApplyDiffs', WHERE WHAT IT READS IS OF BULK AT MOST 1048576: true; the input reads as it did. -/
def applyDiffsUptoRow : OpenClaim := { program := "ytmenbocckhbdjaadoor", sum := "bf51a49603f1877db26d3a8e819371ccd0f824b0b440233a09eb10e2a7853b81", func := "ropewalk/ropewalklaw8.ApplyDiffs", spec := "applyDiffs", inPlace := ["internal/bytealg.IndexByteString", "internal/bytealg.IndexString"], unfollowed := true, recurses := true, named := ["unicode/utf8.first", "unicode/utf8.acceptRanges", "internal/bytealg.MaxLen"], apart := false, laid := [("unicode/utf8.acceptRanges", laid_unicode_utf8_acceptRanges), ("unicode/utf8.first", laid_unicode_utf8_first)], narrowed := true }
def ApplyDiffsUptoSaid : Prop := applyDiffsUptoRow.holds Tryd.pinned (OpenSpec.upto applyDiffsSpec)

/-- 'ropewalklaw8.ApplyAsks', WHERE WHAT IT READS IS OF BULK AT MOST 1048576: true; the input reads as it did. -/
def applyAsksUptoRow : OpenClaim := { program := "ytmenbocckhbdjaadoor", sum := "bf51a49603f1877db26d3a8e819371ccd0f824b0b440233a09eb10e2a7853b81", func := "ropewalk/ropewalklaw8.ApplyAsks", spec := "applyAsks", inPlace := ["internal/bytealg.IndexByteString", "internal/bytealg.IndexString"], named := ["unicode/utf8.first", "unicode/utf8.acceptRanges", "internal/bytealg.MaxLen"], apart := false, laid := [("unicode/utf8.acceptRanges", laid_unicode_utf8_acceptRanges), ("unicode/utf8.first", laid_unicode_utf8_first)], narrowed := true }
def ApplyAsksUptoSaid : Prop := applyAsksUptoRow.holds Tryd.pinned (OpenSpec.upto applyAsksSpec)

/-- 'ropewalklaw8.ApplyBack', WHERE WHAT IT READS IS OF BULK AT MOST 1048576: true; the input reads as it did. -/
def applyBackUptoRow : OpenClaim := { program := "ytmenbocckhbdjaadoor", sum := "bf51a49603f1877db26d3a8e819371ccd0f824b0b440233a09eb10e2a7853b81", func := "ropewalk/ropewalklaw8.ApplyBack", spec := "applyBack", inPlace := ["internal/bytealg.IndexByteString", "internal/bytealg.IndexString"], named := ["unicode/utf8.first", "unicode/utf8.acceptRanges", "internal/bytealg.MaxLen"], apart := false, laid := [("unicode/utf8.acceptRanges", laid_unicode_utf8_acceptRanges), ("unicode/utf8.first", laid_unicode_utf8_first)], narrowed := true }
def ApplyBackUptoSaid : Prop := applyBackUptoRow.holds Tryd.pinned (OpenSpec.upto applyBackSpec)

/-- 'ropewalklaw9.ComposeAsks', WHERE WHAT IT READS IS OF BULK AT MOST 1048576: true; the input reads as it did. -/
def composeAsksUptoRow : OpenClaim := { program := "ytmenbocckhbdjaadoor", sum := "bf51a49603f1877db26d3a8e819371ccd0f824b0b440233a09eb10e2a7853b81", func := "ropewalk/ropewalklaw9.ComposeAsks", spec := "composeAsks", inPlace := ["internal/bytealg.IndexByteString", "internal/bytealg.IndexString"], named := ["unicode/utf8.first", "unicode/utf8.acceptRanges", "internal/bytealg.MaxLen"], apart := false, laid := [("unicode/utf8.acceptRanges", laid_unicode_utf8_acceptRanges), ("unicode/utf8.first", laid_unicode_utf8_first)], narrowed := true }
def ComposeAsksUptoSaid : Prop := composeAsksUptoRow.holds Tryd.pinned (OpenSpec.upto composeAsksSpec)

/-- 'ropewalklaw9.ComposeDoes', WHERE WHAT IT READS IS OF BULK AT MOST 1048576: true; the input reads as it did. -/
def composeDoesUptoRow : OpenClaim := { program := "ytmenbocckhbdjaadoor", sum := "bf51a49603f1877db26d3a8e819371ccd0f824b0b440233a09eb10e2a7853b81", func := "ropewalk/ropewalklaw9.ComposeDoes", spec := "composeDoes", inPlace := ["internal/bytealg.IndexByteString", "internal/bytealg.IndexString"], named := ["unicode/utf8.first", "unicode/utf8.acceptRanges", "internal/bytealg.MaxLen"], apart := false, laid := [("unicode/utf8.acceptRanges", laid_unicode_utf8_acceptRanges), ("unicode/utf8.first", laid_unicode_utf8_first)], narrowed := true }
def ComposeDoesUptoSaid : Prop := composeDoesUptoRow.holds Tryd.pinned (OpenSpec.upto composeDoesSpec)

/-- 'ropewalklaw9.ComposeRow', WHERE WHAT IT READS IS OF BULK AT MOST 1048576: true; the input reads as it did. -/
def composeRowUptoRow : OpenClaim := { program := "ytmenbocckhbdjaadoor", sum := "bf51a49603f1877db26d3a8e819371ccd0f824b0b440233a09eb10e2a7853b81", func := "ropewalk/ropewalklaw9.ComposeRow", spec := "composeRow", inPlace := ["internal/bytealg.IndexByteString", "internal/bytealg.IndexString"], named := ["unicode/utf8.first", "unicode/utf8.acceptRanges", "internal/bytealg.MaxLen"], apart := false, laid := [("unicode/utf8.acceptRanges", laid_unicode_utf8_acceptRanges), ("unicode/utf8.first", laid_unicode_utf8_first)], narrowed := true }
def ComposeRowUptoSaid : Prop := composeRowUptoRow.holds Tryd.pinned (OpenSpec.upto composeRowSpec)

/-- 'ropewalklaw9.ComposeUndo', WHERE WHAT IT READS IS OF BULK AT MOST 1048576: true; the input reads as it did. -/
def composeUndoUptoRow : OpenClaim := { program := "ytmenbocckhbdjaadoor", sum := "bf51a49603f1877db26d3a8e819371ccd0f824b0b440233a09eb10e2a7853b81", func := "ropewalk/ropewalklaw9.ComposeUndo", spec := "composeUndo", inPlace := ["internal/bytealg.IndexByteString", "internal/bytealg.IndexString"], named := ["unicode/utf8.first", "unicode/utf8.acceptRanges", "internal/bytealg.MaxLen"], apart := false, laid := [("unicode/utf8.acceptRanges", laid_unicode_utf8_acceptRanges), ("unicode/utf8.first", laid_unicode_utf8_first)], narrowed := true }
def ComposeUndoUptoSaid : Prop := composeUndoUptoRow.holds Tryd.pinned (OpenSpec.upto composeUndoSpec)

/-- 'ropewalklaw10.XformAsks', WHERE WHAT IT READS IS OF BULK AT MOST 1048576: true; the input reads as it did. -/
def xformAsksUptoRow : OpenClaim := { program := "ytmenbocckhbdjaadoor", sum := "bf51a49603f1877db26d3a8e819371ccd0f824b0b440233a09eb10e2a7853b81", func := "ropewalk/ropewalklaw10.XformAsks", spec := "xformAsks", inPlace := ["internal/bytealg.IndexByteString", "internal/bytealg.IndexString"], named := ["unicode/utf8.first", "unicode/utf8.acceptRanges", "internal/bytealg.MaxLen"], apart := false, laid := [("unicode/utf8.acceptRanges", laid_unicode_utf8_acceptRanges), ("unicode/utf8.first", laid_unicode_utf8_first)], narrowed := true }
def XformAsksUptoSaid : Prop := xformAsksUptoRow.holds Tryd.pinned (OpenSpec.upto xformAsksSpec)

/-- 'ropewalklaw10.XformMeets', WHERE WHAT IT READS IS OF BULK AT MOST 1048576: true; the input reads as it did. -/
def xformMeetsUptoRow : OpenClaim := { program := "ytmenbocckhbdjaadoor", sum := "bf51a49603f1877db26d3a8e819371ccd0f824b0b440233a09eb10e2a7853b81", func := "ropewalk/ropewalklaw10.XformMeets", spec := "xformMeets", inPlace := ["internal/bytealg.IndexByteString", "internal/bytealg.IndexString"], named := ["unicode/utf8.first", "unicode/utf8.acceptRanges", "internal/bytealg.MaxLen"], apart := false, laid := [("unicode/utf8.acceptRanges", laid_unicode_utf8_acceptRanges), ("unicode/utf8.first", laid_unicode_utf8_first)], narrowed := true }
def XformMeetsUptoSaid : Prop := xformMeetsUptoRow.holds Tryd.pinned (OpenSpec.upto xformMeetsSpec)

/-- 'ropewalklaw10.XformKeeps', WHERE WHAT IT READS IS OF BULK AT MOST 1048576: true; the input reads as it did. -/
def xformKeepsUptoRow : OpenClaim := { program := "ytmenbocckhbdjaadoor", sum := "bf51a49603f1877db26d3a8e819371ccd0f824b0b440233a09eb10e2a7853b81", func := "ropewalk/ropewalklaw10.XformKeeps", spec := "xformKeeps", inPlace := ["internal/bytealg.IndexByteString", "internal/bytealg.IndexString"], named := ["unicode/utf8.first", "unicode/utf8.acceptRanges", "internal/bytealg.MaxLen"], apart := false, laid := [("unicode/utf8.acceptRanges", laid_unicode_utf8_acceptRanges), ("unicode/utf8.first", laid_unicode_utf8_first)], narrowed := true }
def XformKeepsUptoSaid : Prop := xformKeepsUptoRow.holds Tryd.pinned (OpenSpec.upto xformKeepsSpec)

/-- 'ropewalklaw10.XformMany', WHERE WHAT IT READS IS OF BULK AT MOST 1048576: true; the input reads as it did. -/
def xformManyUptoRow : OpenClaim := { program := "ytmenbocckhbdjaadoor", sum := "bf51a49603f1877db26d3a8e819371ccd0f824b0b440233a09eb10e2a7853b81", func := "ropewalk/ropewalklaw10.XformMany", spec := "xformMany", inPlace := ["internal/bytealg.IndexByteString", "internal/bytealg.IndexString"], named := ["unicode/utf8.first", "unicode/utf8.acceptRanges", "internal/bytealg.MaxLen"], apart := false, laid := [("unicode/utf8.acceptRanges", laid_unicode_utf8_acceptRanges), ("unicode/utf8.first", laid_unicode_utf8_first)], narrowed := true }
def XformManyUptoSaid : Prop := xformManyUptoRow.holds Tryd.pinned (OpenSpec.upto xformManySpec)

/-- 'ropewalklaw10.XformNone', WHERE WHAT IT READS IS OF BULK AT MOST 1048576: true; the input reads as it did. -/
def xformNoneUptoRow : OpenClaim := { program := "ytmenbocckhbdjaadoor", sum := "bf51a49603f1877db26d3a8e819371ccd0f824b0b440233a09eb10e2a7853b81", func := "ropewalk/ropewalklaw10.XformNone", spec := "xformNone", inPlace := ["internal/bytealg.IndexByteString", "internal/bytealg.IndexString"], unfollowed := true, recurses := true, named := ["unicode/utf8.first", "unicode/utf8.acceptRanges", "internal/bytealg.MaxLen"], apart := false, laid := [("unicode/utf8.acceptRanges", laid_unicode_utf8_acceptRanges), ("unicode/utf8.first", laid_unicode_utf8_first)], narrowed := true }
def XformNoneUptoSaid : Prop := xformNoneUptoRow.holds Tryd.pinned (OpenSpec.upto xformNoneSpec)

end Rows
end Go.Proofs.YtmenbocckhbdjaaDoor
