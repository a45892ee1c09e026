/-
  NARROWER THAN 'FOR EVERY INPUT', by the rows' own cells (each row's printed sentence says how): GridBack: laid · GridSteps: laid · GridLines: laid · GridOrder: laid · CursorThrough: laid · CursorAsks: laid · CursorOdd: laid · CursorStays: laid.
  DERIVED. THE GIVEN ROWS OF THIS SEAT. 8 by the template 'for every input the law returns true; each argument reads behind the call as it read before'; 0 by the template 'total and deterministic' (their statements: YtknbfkmgoijncaaDoorTotals.lean).
  GIVEN WITH THE SEED: the statements are not yours to turn. If you find one false, say at which input.
  Laid BY PROGRAM, IN A SANDBOX (cutbox-rows.mjs): the forced cells as the released guide's own fill.sh prints them over the translation a885c1ff1bb4ab6a… (all of the seat's roots in one cut). By AI agents, Wed Nov 11 2026. No macro, syntax, notation, axiom, sorry.
-/
import Derived.Test.YtknbfkmgoijncaaDoorChecked
import GoSem.PinnedTables
import GoSem.Claim
import GoSem.ClaimJoined
import GoSem.ClaimMapViews
import Derived.JoinedTies
import Derived.KernelRfl
namespace Go.Proofs.YtknbfkmgoijncaaDoor
/- THE CELL 'sum', in the pinned program and in every row, IS THE sha256 OF THE DUMP (.gsa) THAT YtknbfkmgoijncaaDoorProg.lean LOADS. Nothing in Lean hashes anything: it is a label: what it is worth is what the hold of that sum in a sandbox is worth. -/
noncomputable def Tryd.pinned : Pinned := { name := "ytknbfkmgoijncaadoor", sum := "a885c1ff1bb4ab6a7cdccf86c4cb5ffa0980a3c830c9ad919897640bd6c438fb", checked := Tryd.checked }
namespace Rows
def none {H : Type} : Left H := { results := [], args := [] }

/- WHAT THE LISTED PACKAGE-LEVEL VARIABLES READ AS WHEN THE CALL BEGINS. Each datum BY PROGRAM (the guide's laid-datum.mjs) off the statement by which the dump's own 'gosem.cut.vars' lays the variable. In a bare row this is a premise. The card (YtknbfkmgoijncaaDoorCards.lean) ties it to the program's text. -/
def laid_unicode_utf8_acceptRanges {H : Type} : DataW H := .agg [.agg [.lit (.int .u8 128), .lit (.int .u8 191)], .agg [.lit (.int .u8 160), .lit (.int .u8 191)], .agg [.lit (.int .u8 128), .lit (.int .u8 159)], .agg [.lit (.int .u8 144), .lit (.int .u8 191)], .agg [.lit (.int .u8 128), .lit (.int .u8 143)], .agg [.lit (.int .u8 0), .lit (.int .u8 0)], .agg [.lit (.int .u8 0), .lit (.int .u8 0)], .agg [.lit (.int .u8 0), .lit (.int .u8 0)], .agg [.lit (.int .u8 0), .lit (.int .u8 0)], .agg [.lit (.int .u8 0), .lit (.int .u8 0)], .agg [.lit (.int .u8 0), .lit (.int .u8 0)], .agg [.lit (.int .u8 0), .lit (.int .u8 0)], .agg [.lit (.int .u8 0), .lit (.int .u8 0)], .agg [.lit (.int .u8 0), .lit (.int .u8 0)], .agg [.lit (.int .u8 0), .lit (.int .u8 0)], .agg [.lit (.int .u8 0), .lit (.int .u8 0)]]
/-- One of Go's own tables, pinned by name: the form's constant. -/
def laid_unicode_utf8_first : DataW Unit := Go.Pinned.utf8First

/-- 'ropewalklaw12.GridBack': WHATEVER THE INPUT: true; the input reads as it did. -/
def gridBackSpec : ChangeSpec := { name := "gridBack", fn := fun _ => fun
  | [d1, d2, d3, d4] => { results := [.lit (.bool true)], args := [d1, d2, d3, d4] }
  | _ => none }
def gridBackRow : OpenClaim := { program := "ytknbfkmgoijncaadoor", sum := "a885c1ff1bb4ab6a7cdccf86c4cb5ffa0980a3c830c9ad919897640bd6c438fb", func := "ropewalk/ropewalklaw12.GridBack", spec := "gridBack", inPlace := ["internal/bytealg.IndexByteString", "internal/bytealg.IndexString", "math.archTrunc", "math.Float64bits", "math.Float64frombits"], named := ["unicode/utf8.first", "unicode/utf8.acceptRanges", "internal/bytealg.MaxLen"], apart := false, laid := [("unicode/utf8.acceptRanges", laid_unicode_utf8_acceptRanges), ("unicode/utf8.first", laid_unicode_utf8_first)] }
def GridBackSaid : Prop := gridBackRow.holds Tryd.pinned (OpenSpec.ofChange gridBackSpec)

/-- ITS FALSE NEIGHBOUR: 'it returns false'. Refute it at one input. -/
def gridBackWrong : ChangeSpec := { name := "gridBack", fn := fun _ => fun
  | [d1, d2, d3, d4] => { results := [.lit (.bool false)], args := [d1, d2, d3, d4] }
  | _ => none }
def GridBackWrongFalsely : Prop := gridBackRow.holds Tryd.pinned (OpenSpec.ofChange gridBackWrong)

/-- 'ropewalklaw12.GridSteps': WHATEVER THE INPUT: true; the input reads as it did. -/
def gridStepsSpec : ChangeSpec := { name := "gridSteps", fn := fun _ => fun
  | [d1, d2, d3, d4] => { results := [.lit (.bool true)], args := [d1, d2, d3, d4] }
  | _ => none }
def gridStepsRow : OpenClaim := { program := "ytknbfkmgoijncaadoor", sum := "a885c1ff1bb4ab6a7cdccf86c4cb5ffa0980a3c830c9ad919897640bd6c438fb", func := "ropewalk/ropewalklaw12.GridSteps", spec := "gridSteps", inPlace := ["internal/bytealg.IndexByteString", "internal/bytealg.IndexString", "math.archTrunc", "math.Float64bits", "math.Float64frombits"], named := ["unicode/utf8.first", "unicode/utf8.acceptRanges", "internal/bytealg.MaxLen"], apart := false, laid := [("unicode/utf8.acceptRanges", laid_unicode_utf8_acceptRanges), ("unicode/utf8.first", laid_unicode_utf8_first)] }
def GridStepsSaid : Prop := gridStepsRow.holds Tryd.pinned (OpenSpec.ofChange gridStepsSpec)

/-- ITS FALSE NEIGHBOUR: 'it returns false'. Refute it at one input. -/
def gridStepsWrong : ChangeSpec := { name := "gridSteps", fn := fun _ => fun
  | [d1, d2, d3, d4] => { results := [.lit (.bool false)], args := [d1, d2, d3, d4] }
  | _ => none }
def GridStepsWrongFalsely : Prop := gridStepsRow.holds Tryd.pinned (OpenSpec.ofChange gridStepsWrong)

/-- 'ropewalklaw12.GridLines': WHATEVER THE INPUT: true; the input reads as it did. -/
def gridLinesSpec : ChangeSpec := { name := "gridLines", fn := fun _ => fun
  | [d1, d2, d3] => { results := [.lit (.bool true)], args := [d1, d2, d3] }
  | _ => none }
def gridLinesRow : OpenClaim := { program := "ytknbfkmgoijncaadoor", sum := "a885c1ff1bb4ab6a7cdccf86c4cb5ffa0980a3c830c9ad919897640bd6c438fb", func := "ropewalk/ropewalklaw12.GridLines", spec := "gridLines", inPlace := ["internal/bytealg.IndexByteString", "internal/bytealg.IndexString", "math.archTrunc", "math.Float64bits", "math.Float64frombits"], named := ["unicode/utf8.first", "unicode/utf8.acceptRanges", "internal/bytealg.MaxLen"], apart := false, laid := [("unicode/utf8.acceptRanges", laid_unicode_utf8_acceptRanges), ("unicode/utf8.first", laid_unicode_utf8_first)] }
def GridLinesSaid : Prop := gridLinesRow.holds Tryd.pinned (OpenSpec.ofChange gridLinesSpec)

/-- ITS FALSE NEIGHBOUR: 'it returns false'. Refute it at one input. -/
def gridLinesWrong : ChangeSpec := { name := "gridLines", fn := fun _ => fun
  | [d1, d2, d3] => { results := [.lit (.bool false)], args := [d1, d2, d3] }
  | _ => none }
def GridLinesWrongFalsely : Prop := gridLinesRow.holds Tryd.pinned (OpenSpec.ofChange gridLinesWrong)

/-- 'ropewalklaw12.GridOrder': WHATEVER THE INPUT: true; the input reads as it did. -/
def gridOrderSpec : ChangeSpec := { name := "gridOrder", fn := fun _ => fun
  | [d] => { results := [.lit (.bool true)], args := [d] }
  | _ => none }
def gridOrderRow : OpenClaim := { program := "ytknbfkmgoijncaadoor", sum := "a885c1ff1bb4ab6a7cdccf86c4cb5ffa0980a3c830c9ad919897640bd6c438fb", func := "ropewalk/ropewalklaw12.GridOrder", spec := "gridOrder", inPlace := ["internal/bytealg.IndexByteString", "internal/bytealg.IndexString", "math.archTrunc", "math.Float64bits", "math.Float64frombits"], named := ["unicode/utf8.first", "unicode/utf8.acceptRanges", "internal/bytealg.MaxLen"], apart := false, laid := [("unicode/utf8.acceptRanges", laid_unicode_utf8_acceptRanges), ("unicode/utf8.first", laid_unicode_utf8_first)] }
def GridOrderSaid : Prop := gridOrderRow.holds Tryd.pinned (OpenSpec.ofChange gridOrderSpec)

/-- ITS FALSE NEIGHBOUR: 'it returns false'. Refute it at one input. -/
def gridOrderWrong : ChangeSpec := { name := "gridOrder", fn := fun _ => fun
  | [d] => { results := [.lit (.bool false)], args := [d] }
  | _ => none }
def GridOrderWrongFalsely : Prop := gridOrderRow.holds Tryd.pinned (OpenSpec.ofChange gridOrderWrong)

/-- 'ropewalklaw11.CursorThrough': WHATEVER THE INPUT: true; the input reads as it did. -/
def cursorThroughSpec : ChangeSpec := { name := "cursorThrough", fn := fun _ => fun
  | [d1, d2, d3, d4] => { results := [.lit (.bool true)], args := [d1, d2, d3, d4] }
  | _ => none }
def cursorThroughRow : OpenClaim := { program := "ytknbfkmgoijncaadoor", sum := "a885c1ff1bb4ab6a7cdccf86c4cb5ffa0980a3c830c9ad919897640bd6c438fb", func := "ropewalk/ropewalklaw11.CursorThrough", spec := "cursorThrough", inPlace := ["internal/bytealg.IndexByteString", "internal/bytealg.IndexString", "math.archTrunc", "math.Float64bits", "math.Float64frombits"], named := ["unicode/utf8.first", "unicode/utf8.acceptRanges", "internal/bytealg.MaxLen"], apart := false, laid := [("unicode/utf8.acceptRanges", laid_unicode_utf8_acceptRanges), ("unicode/utf8.first", laid_unicode_utf8_first)] }
def CursorThroughSaid : Prop := cursorThroughRow.holds Tryd.pinned (OpenSpec.ofChange cursorThroughSpec)

/-- ITS FALSE NEIGHBOUR: 'it returns false'. Refute it at one input. -/
def cursorThroughWrong : ChangeSpec := { name := "cursorThrough", fn := fun _ => fun
  | [d1, d2, d3, d4] => { results := [.lit (.bool false)], args := [d1, d2, d3, d4] }
  | _ => none }
def CursorThroughWrongFalsely : Prop := cursorThroughRow.holds Tryd.pinned (OpenSpec.ofChange cursorThroughWrong)

/-- 'ropewalklaw11.CursorAsks': WHATEVER THE INPUT: true; the input reads as it did. -/
def cursorAsksSpec : ChangeSpec := { name := "cursorAsks", fn := fun _ => fun
  | [d1, d2, d3, d4] => { results := [.lit (.bool true)], args := [d1, d2, d3, d4] }
  | _ => none }
def cursorAsksRow : OpenClaim := { program := "ytknbfkmgoijncaadoor", sum := "a885c1ff1bb4ab6a7cdccf86c4cb5ffa0980a3c830c9ad919897640bd6c438fb", func := "ropewalk/ropewalklaw11.CursorAsks", spec := "cursorAsks", inPlace := ["internal/bytealg.IndexByteString", "internal/bytealg.IndexString", "math.archTrunc", "math.Float64bits", "math.Float64frombits"], named := ["unicode/utf8.first", "unicode/utf8.acceptRanges", "internal/bytealg.MaxLen"], apart := false, laid := [("unicode/utf8.acceptRanges", laid_unicode_utf8_acceptRanges), ("unicode/utf8.first", laid_unicode_utf8_first)] }
def CursorAsksSaid : Prop := cursorAsksRow.holds Tryd.pinned (OpenSpec.ofChange cursorAsksSpec)

/-- ITS FALSE NEIGHBOUR: 'it returns false'. Refute it at one input. -/
def cursorAsksWrong : ChangeSpec := { name := "cursorAsks", fn := fun _ => fun
  | [d1, d2, d3, d4] => { results := [.lit (.bool false)], args := [d1, d2, d3, d4] }
  | _ => none }
def CursorAsksWrongFalsely : Prop := cursorAsksRow.holds Tryd.pinned (OpenSpec.ofChange cursorAsksWrong)

/-- 'ropewalklaw11.CursorOdd': WHATEVER THE INPUT: true; the input reads as it did. -/
def cursorOddSpec : ChangeSpec := { name := "cursorOdd", fn := fun _ => fun
  | [d1, d2, d3] => { results := [.lit (.bool true)], args := [d1, d2, d3] }
  | _ => none }
def cursorOddRow : OpenClaim := { program := "ytknbfkmgoijncaadoor", sum := "a885c1ff1bb4ab6a7cdccf86c4cb5ffa0980a3c830c9ad919897640bd6c438fb", func := "ropewalk/ropewalklaw11.CursorOdd", spec := "cursorOdd", inPlace := ["internal/bytealg.IndexByteString", "internal/bytealg.IndexString", "math.archTrunc", "math.Float64bits", "math.Float64frombits"], named := ["unicode/utf8.first", "unicode/utf8.acceptRanges", "internal/bytealg.MaxLen"], apart := false, laid := [("unicode/utf8.acceptRanges", laid_unicode_utf8_acceptRanges), ("unicode/utf8.first", laid_unicode_utf8_first)] }
def CursorOddSaid : Prop := cursorOddRow.holds Tryd.pinned (OpenSpec.ofChange cursorOddSpec)

/-- ITS FALSE NEIGHBOUR: 'it returns false'. Refute it at one input. -/
def cursorOddWrong : ChangeSpec := { name := "cursorOdd", fn := fun _ => fun
  | [d1, d2, d3] => { results := [.lit (.bool false)], args := [d1, d2, d3] }
  | _ => none }
def CursorOddWrongFalsely : Prop := cursorOddRow.holds Tryd.pinned (OpenSpec.ofChange cursorOddWrong)

/-- 'ropewalklaw11.CursorStays': WHATEVER THE INPUT: true; the input reads as it did. -/
def cursorStaysSpec : ChangeSpec := { name := "cursorStays", fn := fun _ => fun
  | [d1, d2, d3, d4, d5, d6] => { results := [.lit (.bool true)], args := [d1, d2, d3, d4, d5, d6] }
  | _ => none }
def cursorStaysRow : OpenClaim := { program := "ytknbfkmgoijncaadoor", sum := "a885c1ff1bb4ab6a7cdccf86c4cb5ffa0980a3c830c9ad919897640bd6c438fb", func := "ropewalk/ropewalklaw11.CursorStays", spec := "cursorStays", inPlace := ["internal/bytealg.IndexByteString", "internal/bytealg.IndexString", "math.archTrunc", "math.Float64bits", "math.Float64frombits"], named := ["unicode/utf8.first", "unicode/utf8.acceptRanges", "internal/bytealg.MaxLen"], apart := false, laid := [("unicode/utf8.acceptRanges", laid_unicode_utf8_acceptRanges), ("unicode/utf8.first", laid_unicode_utf8_first)] }
def CursorStaysSaid : Prop := cursorStaysRow.holds Tryd.pinned (OpenSpec.ofChange cursorStaysSpec)

/-- ITS FALSE NEIGHBOUR: 'it returns false'. Refute it at one input. -/
def cursorStaysWrong : ChangeSpec := { name := "cursorStays", fn := fun _ => fun
  | [d1, d2, d3, d4, d5, d6] => { results := [.lit (.bool false)], args := [d1, d2, d3, d4, d5, d6] }
  | _ => none }
def CursorStaysWrongFalsely : Prop := cursorStaysRow.holds Tryd.pinned (OpenSpec.ofChange cursorStaysWrong)

/- THE SECOND FORM. 'bulk': how many values and letters a reading holds, each counted each time it is reached (what is shared counts as often as it is met; a slice's spare places count too). A statement '..UptoSaid' is the law's where the arguments, and the package variables that the reading takes, are together of bulk at most 1048576: NARROWER than '..Said'. Prove '..Said' where nothing that the law and all that it calls make is longer than what came in: it says more and counts as full. Else prove '..UptoSaid'. A law counts once. -/
mutual
def uptoBulk {H : Type} : DataW H → Nat
  | .lit (.string bytes) => bytes.length + 1
  | .lit _ => 1
  | .nil => 1
  | .ptr d => uptoBulk d + 1
  | .slice elems spare => uptoBulkAll elems + uptoBulkAll spare + 1
  | .agg parts => uptoBulkAll parts + 1
  | .iface _ d => uptoBulk d + 1
  | .map entries => uptoBulkEntries entries + 1
  | .held _ => 1
def uptoBulkAll {H : Type} : List (DataW H) → Nat
  | [] => 0
  | d :: r => uptoBulk d + uptoBulkAll r
def uptoBulkEntries {H : Type} : List (Lit × DataW H) → Nat
  | [] => 0
  | x :: r => uptoBulkEntry x + uptoBulkEntries r
def uptoBulkEntry {H : Type} : Lit × DataW H → Nat
  | (.string bytes, d) => bytes.length + uptoBulk d + 1
  | (_, d) => uptoBulk d + 1
 end
def uptoSmall : (H : Type) → List (DataW H) → Bool := fun _ ds => decide (uptoBulkAll ds ≤ 1048576)
def OpenSpec.upto (s : _root_.Go.ChangeSpec) : _root_.Go.OpenSpec := { _root_.Go.OpenSpec.ofChange s with cond := some uptoSmall }

/-- 'ropewalklaw12.GridBack', WHERE WHAT IT READS IS OF BULK AT MOST 1048576: true; the input reads as it did. -/
def gridBackUptoRow : OpenClaim := { program := "ytknbfkmgoijncaadoor", sum := "a885c1ff1bb4ab6a7cdccf86c4cb5ffa0980a3c830c9ad919897640bd6c438fb", func := "ropewalk/ropewalklaw12.GridBack", spec := "gridBack", inPlace := ["internal/bytealg.IndexByteString", "internal/bytealg.IndexString", "math.archTrunc", "math.Float64bits", "math.Float64frombits"], named := ["unicode/utf8.first", "unicode/utf8.acceptRanges", "internal/bytealg.MaxLen"], apart := false, laid := [("unicode/utf8.acceptRanges", laid_unicode_utf8_acceptRanges), ("unicode/utf8.first", laid_unicode_utf8_first)], narrowed := true }
def GridBackUptoSaid : Prop := gridBackUptoRow.holds Tryd.pinned (OpenSpec.upto gridBackSpec)

/-- 'ropewalklaw12.GridSteps', WHERE WHAT IT READS IS OF BULK AT MOST 1048576: true; the input reads as it did. -/
def gridStepsUptoRow : OpenClaim := { program := "ytknbfkmgoijncaadoor", sum := "a885c1ff1bb4ab6a7cdccf86c4cb5ffa0980a3c830c9ad919897640bd6c438fb", func := "ropewalk/ropewalklaw12.GridSteps", spec := "gridSteps", inPlace := ["internal/bytealg.IndexByteString", "internal/bytealg.IndexString", "math.archTrunc", "math.Float64bits", "math.Float64frombits"], named := ["unicode/utf8.first", "unicode/utf8.acceptRanges", "internal/bytealg.MaxLen"], apart := false, laid := [("unicode/utf8.acceptRanges", laid_unicode_utf8_acceptRanges), ("unicode/utf8.first", laid_unicode_utf8_first)], narrowed := true }
def GridStepsUptoSaid : Prop := gridStepsUptoRow.holds Tryd.pinned (OpenSpec.upto gridStepsSpec)

/-- 'ropewalklaw12.GridLines', WHERE WHAT IT READS IS OF BULK AT MOST 1048576: true; the input reads as it did. -/
def gridLinesUptoRow : OpenClaim := { program := "ytknbfkmgoijncaadoor", sum := "a885c1ff1bb4ab6a7cdccf86c4cb5ffa0980a3c830c9ad919897640bd6c438fb", func := "ropewalk/ropewalklaw12.GridLines", spec := "gridLines", inPlace := ["internal/bytealg.IndexByteString", "internal/bytealg.IndexString", "math.archTrunc", "math.Float64bits", "math.Float64frombits"], named := ["unicode/utf8.first", "unicode/utf8.acceptRanges", "internal/bytealg.MaxLen"], apart := false, laid := [("unicode/utf8.acceptRanges", laid_unicode_utf8_acceptRanges), ("unicode/utf8.first", laid_unicode_utf8_first)], narrowed := true }
def GridLinesUptoSaid : Prop := gridLinesUptoRow.holds Tryd.pinned (OpenSpec.upto gridLinesSpec)

/-- 'ropewalklaw12.GridOrder', WHERE WHAT IT READS IS OF BULK AT MOST 1048576: true; the input reads as it did. -/
def gridOrderUptoRow : OpenClaim := { program := "ytknbfkmgoijncaadoor", sum := "a885c1ff1bb4ab6a7cdccf86c4cb5ffa0980a3c830c9ad919897640bd6c438fb", func := "ropewalk/ropewalklaw12.GridOrder", spec := "gridOrder", inPlace := ["internal/bytealg.IndexByteString", "internal/bytealg.IndexString", "math.archTrunc", "math.Float64bits", "math.Float64frombits"], named := ["unicode/utf8.first", "unicode/utf8.acceptRanges", "internal/bytealg.MaxLen"], apart := false, laid := [("unicode/utf8.acceptRanges", laid_unicode_utf8_acceptRanges), ("unicode/utf8.first", laid_unicode_utf8_first)], narrowed := true }
def GridOrderUptoSaid : Prop := gridOrderUptoRow.holds Tryd.pinned (OpenSpec.upto gridOrderSpec)

/-- 'ropewalklaw11.CursorThrough', WHERE WHAT IT READS IS OF BULK AT MOST 1048576: true; the input reads as it did. -/
def cursorThroughUptoRow : OpenClaim := { program := "ytknbfkmgoijncaadoor", sum := "a885c1ff1bb4ab6a7cdccf86c4cb5ffa0980a3c830c9ad919897640bd6c438fb", func := "ropewalk/ropewalklaw11.CursorThrough", spec := "cursorThrough", inPlace := ["internal/bytealg.IndexByteString", "internal/bytealg.IndexString", "math.archTrunc", "math.Float64bits", "math.Float64frombits"], named := ["unicode/utf8.first", "unicode/utf8.acceptRanges", "internal/bytealg.MaxLen"], apart := false, laid := [("unicode/utf8.acceptRanges", laid_unicode_utf8_acceptRanges), ("unicode/utf8.first", laid_unicode_utf8_first)], narrowed := true }
def CursorThroughUptoSaid : Prop := cursorThroughUptoRow.holds Tryd.pinned (OpenSpec.upto cursorThroughSpec)

/-- 'ropewalklaw11.CursorAsks', WHERE WHAT IT READS IS OF BULK AT MOST 1048576: true; the input reads as it did. -/
def cursorAsksUptoRow : OpenClaim := { program := "ytknbfkmgoijncaadoor", sum := "a885c1ff1bb4ab6a7cdccf86c4cb5ffa0980a3c830c9ad919897640bd6c438fb", func := "ropewalk/ropewalklaw11.CursorAsks", spec := "cursorAsks", inPlace := ["internal/bytealg.IndexByteString", "internal/bytealg.IndexString", "math.archTrunc", "math.Float64bits", "math.Float64frombits"], named := ["unicode/utf8.first", "unicode/utf8.acceptRanges", "internal/bytealg.MaxLen"], apart := false, laid := [("unicode/utf8.acceptRanges", laid_unicode_utf8_acceptRanges), ("unicode/utf8.first", laid_unicode_utf8_first)], narrowed := true }
def CursorAsksUptoSaid : Prop := cursorAsksUptoRow.holds Tryd.pinned (OpenSpec.upto cursorAsksSpec)

/-- 'ropewalklaw11.CursorOdd', WHERE WHAT IT READS IS OF BULK AT MOST 1048576: true; the input reads as it did. -/
def cursorOddUptoRow : OpenClaim := { program := "ytknbfkmgoijncaadoor", sum := "a885c1ff1bb4ab6a7cdccf86c4cb5ffa0980a3c830c9ad919897640bd6c438fb", func := "ropewalk/ropewalklaw11.CursorOdd", spec := "cursorOdd", inPlace := ["internal/bytealg.IndexByteString", "internal/bytealg.IndexString", "math.archTrunc", "math.Float64bits", "math.Float64frombits"], named := ["unicode/utf8.first", "unicode/utf8.acceptRanges", "internal/bytealg.MaxLen"], apart := false, laid := [("unicode/utf8.acceptRanges", laid_unicode_utf8_acceptRanges), ("unicode/utf8.first", laid_unicode_utf8_first)], narrowed := true }
def CursorOddUptoSaid : Prop := cursorOddUptoRow.holds Tryd.pinned (OpenSpec.upto cursorOddSpec)

/-- 'ropewalklaw11.CursorStays', WHERE WHAT IT READS IS OF BULK AT MOST 1048576: true; the input reads as it did. -/
def cursorStaysUptoRow : OpenClaim := { program := "ytknbfkmgoijncaadoor", sum := "a885c1ff1bb4ab6a7cdccf86c4cb5ffa0980a3c830c9ad919897640bd6c438fb", func := "ropewalk/ropewalklaw11.CursorStays", spec := "cursorStays", inPlace := ["internal/bytealg.IndexByteString", "internal/bytealg.IndexString", "math.archTrunc", "math.Float64bits", "math.Float64frombits"], named := ["unicode/utf8.first", "unicode/utf8.acceptRanges", "internal/bytealg.MaxLen"], apart := false, laid := [("unicode/utf8.acceptRanges", laid_unicode_utf8_acceptRanges), ("unicode/utf8.first", laid_unicode_utf8_first)], narrowed := true }
def CursorStaysUptoSaid : Prop := cursorStaysUptoRow.holds Tryd.pinned (OpenSpec.upto cursorStaysSpec)

end Rows
end Go.Proofs.YtknbfkmgoijncaaDoor
