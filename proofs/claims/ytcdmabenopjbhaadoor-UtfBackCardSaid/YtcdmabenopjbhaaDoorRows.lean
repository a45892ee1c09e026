/-
  NARROWER THAN 'FOR EVERY INPUT', by the rows' own cells (each row's printed sentence says how): UtfForms: laid · UtfAsks: laid · UtfBack: laid · UtfPieces: laid · OpOf: laid · OpLimits: laid · OpNormal: laid.
  DERIVED. THE GIVEN ROWS OF THIS SEAT. 7 by the template 'for every input the law returns true; each argument reads behind the call as it read before'; 0 by the template 'total and deterministic' (their statements: YtcdmabenopjbhaaDoorTotals.lean).
  GIVEN WITH THE SEED: the statements are not yours to turn. If you find one false, say at which input.
  Laid BY PROGRAM, IN A SANDBOX (cutbox-rows.mjs): the forced cells as the released guide's own fill.sh prints them over the translation 6bf74d6390852eaf… (all of the seat's roots in one cut). By AI agents, Wed Nov 11 2026. No macro, syntax, notation, axiom, sorry.
-/
import Derived.Test.YtcdmabenopjbhaaDoorChecked
import GoSem.PinnedTables
import GoSem.Claim
import GoSem.ClaimJoined
import GoSem.ClaimMapViews
import Derived.JoinedTies
import Derived.KernelRfl
namespace Go.Proofs.YtcdmabenopjbhaaDoor
/- THE CELL 'sum', in the pinned program and in every row, IS THE sha256 OF THE DUMP (.gsa) THAT YtcdmabenopjbhaaDoorProg.lean LOADS. Nothing in Lean hashes anything: it is a label: what it is worth is what the hold of that sum in a sandbox is worth. -/
noncomputable def Tryd.pinned : Pinned := { name := "ytcdmabenopjbhaadoor", sum := "6bf74d6390852eaf0dfacf39c427054ed0b99ab80f5a61f3f6ebf7be1d9ef29d", checked := Tryd.checked }
namespace Rows
def none {H : Type} : Left H := { results := [], args := [] }

/- WHAT THE LISTED PACKAGE-LEVEL VARIABLES READ AS WHEN THE CALL BEGINS. Each datum BY PROGRAM (the guide's laid-datum.mjs) off the statement by which the dump's own 'gosem.cut.vars' lays the variable. In a bare row this is a premise. The card (YtcdmabenopjbhaaDoorCards.lean) ties it to the program's text. -/
def laid_unicode_utf8_acceptRanges {H : Type} : DataW H := .agg [.agg [.lit (.int .u8 128), .lit (.int .u8 191)], .agg [.lit (.int .u8 160), .lit (.int .u8 191)], .agg [.lit (.int .u8 128), .lit (.int .u8 159)], .agg [.lit (.int .u8 144), .lit (.int .u8 191)], .agg [.lit (.int .u8 128), .lit (.int .u8 143)], .agg [.lit (.int .u8 0), .lit (.int .u8 0)], .agg [.lit (.int .u8 0), .lit (.int .u8 0)], .agg [.lit (.int .u8 0), .lit (.int .u8 0)], .agg [.lit (.int .u8 0), .lit (.int .u8 0)], .agg [.lit (.int .u8 0), .lit (.int .u8 0)], .agg [.lit (.int .u8 0), .lit (.int .u8 0)], .agg [.lit (.int .u8 0), .lit (.int .u8 0)], .agg [.lit (.int .u8 0), .lit (.int .u8 0)], .agg [.lit (.int .u8 0), .lit (.int .u8 0)], .agg [.lit (.int .u8 0), .lit (.int .u8 0)], .agg [.lit (.int .u8 0), .lit (.int .u8 0)]]
/-- One of Go's own tables, pinned by name: the form's constant. -/
def laid_unicode_utf8_first : DataW Unit := Go.Pinned.utf8First

/-- 'ropewalklaw3.UtfForms': WHATEVER THE INPUT: true; the input reads as it did. -/
def utfFormsSpec : ChangeSpec := { name := "utfForms", fn := fun _ => fun
  | [d1, d2] => { results := [.lit (.bool true)], args := [d1, d2] }
  | _ => none }
def utfFormsRow : OpenClaim := { program := "ytcdmabenopjbhaadoor", sum := "6bf74d6390852eaf0dfacf39c427054ed0b99ab80f5a61f3f6ebf7be1d9ef29d", func := "ropewalk/ropewalklaw3.UtfForms", spec := "utfForms", inPlace := ["internal/abi.NoEscape", "internal/bytealg.IndexByteString", "internal/bytealg.IndexString"], named := ["unicode/utf8.first", "unicode/utf8.acceptRanges", "internal/bytealg.MaxLen"], apart := false, laid := [("unicode/utf8.acceptRanges", laid_unicode_utf8_acceptRanges), ("unicode/utf8.first", laid_unicode_utf8_first)] }
def UtfFormsSaid : Prop := utfFormsRow.holds Tryd.pinned (OpenSpec.ofChange utfFormsSpec)

/-- ITS FALSE NEIGHBOUR: 'it returns false'. Refute it at one input. -/
def utfFormsWrong : ChangeSpec := { name := "utfForms", fn := fun _ => fun
  | [d1, d2] => { results := [.lit (.bool false)], args := [d1, d2] }
  | _ => none }
def UtfFormsWrongFalsely : Prop := utfFormsRow.holds Tryd.pinned (OpenSpec.ofChange utfFormsWrong)

/-- 'ropewalklaw3.UtfAsks': WHATEVER THE INPUT: true; the input reads as it did. -/
def utfAsksSpec : ChangeSpec := { name := "utfAsks", fn := fun _ => fun
  | [d1, d2, d3] => { results := [.lit (.bool true)], args := [d1, d2, d3] }
  | _ => none }
def utfAsksRow : OpenClaim := { program := "ytcdmabenopjbhaadoor", sum := "6bf74d6390852eaf0dfacf39c427054ed0b99ab80f5a61f3f6ebf7be1d9ef29d", func := "ropewalk/ropewalklaw3.UtfAsks", spec := "utfAsks", inPlace := ["internal/bytealg.IndexByteString", "internal/bytealg.IndexString", "internal/abi.NoEscape"], named := ["unicode/utf8.first", "unicode/utf8.acceptRanges", "internal/bytealg.MaxLen"], apart := false, laid := [("unicode/utf8.acceptRanges", laid_unicode_utf8_acceptRanges), ("unicode/utf8.first", laid_unicode_utf8_first)] }
def UtfAsksSaid : Prop := utfAsksRow.holds Tryd.pinned (OpenSpec.ofChange utfAsksSpec)

/-- ITS FALSE NEIGHBOUR: 'it returns false'. Refute it at one input. -/
def utfAsksWrong : ChangeSpec := { name := "utfAsks", fn := fun _ => fun
  | [d1, d2, d3] => { results := [.lit (.bool false)], args := [d1, d2, d3] }
  | _ => none }
def UtfAsksWrongFalsely : Prop := utfAsksRow.holds Tryd.pinned (OpenSpec.ofChange utfAsksWrong)

/-- 'ropewalklaw3.UtfBack': WHATEVER THE INPUT: true; the input reads as it did. -/
def utfBackSpec : ChangeSpec := { name := "utfBack", fn := fun _ => fun
  | [d1, d2, d3] => { results := [.lit (.bool true)], args := [d1, d2, d3] }
  | _ => none }
def utfBackRow : OpenClaim := { program := "ytcdmabenopjbhaadoor", sum := "6bf74d6390852eaf0dfacf39c427054ed0b99ab80f5a61f3f6ebf7be1d9ef29d", func := "ropewalk/ropewalklaw3.UtfBack", spec := "utfBack", inPlace := ["internal/bytealg.IndexByteString", "internal/bytealg.IndexString", "internal/abi.NoEscape"], named := ["unicode/utf8.first", "unicode/utf8.acceptRanges", "internal/bytealg.MaxLen"], apart := false, laid := [("unicode/utf8.acceptRanges", laid_unicode_utf8_acceptRanges), ("unicode/utf8.first", laid_unicode_utf8_first)] }
def UtfBackSaid : Prop := utfBackRow.holds Tryd.pinned (OpenSpec.ofChange utfBackSpec)

/-- ITS FALSE NEIGHBOUR: 'it returns false'. Refute it at one input. -/
def utfBackWrong : ChangeSpec := { name := "utfBack", fn := fun _ => fun
  | [d1, d2, d3] => { results := [.lit (.bool false)], args := [d1, d2, d3] }
  | _ => none }
def UtfBackWrongFalsely : Prop := utfBackRow.holds Tryd.pinned (OpenSpec.ofChange utfBackWrong)

/-- 'ropewalklaw3.UtfPieces': WHATEVER THE INPUT: true; the input reads as it did. -/
def utfPiecesSpec : ChangeSpec := { name := "utfPieces", fn := fun _ => fun
  | [d1, d2, d3, d4, d5] => { results := [.lit (.bool true)], args := [d1, d2, d3, d4, d5] }
  | _ => none }
def utfPiecesRow : OpenClaim := { program := "ytcdmabenopjbhaadoor", sum := "6bf74d6390852eaf0dfacf39c427054ed0b99ab80f5a61f3f6ebf7be1d9ef29d", func := "ropewalk/ropewalklaw3.UtfPieces", spec := "utfPieces", inPlace := ["internal/bytealg.IndexByteString", "internal/bytealg.IndexString", "internal/abi.NoEscape"], named := ["unicode/utf8.first", "unicode/utf8.acceptRanges", "internal/bytealg.MaxLen"], apart := false, laid := [("unicode/utf8.acceptRanges", laid_unicode_utf8_acceptRanges), ("unicode/utf8.first", laid_unicode_utf8_first)] }
def UtfPiecesSaid : Prop := utfPiecesRow.holds Tryd.pinned (OpenSpec.ofChange utfPiecesSpec)

/-- ITS FALSE NEIGHBOUR: 'it returns false'. Refute it at one input. -/
def utfPiecesWrong : ChangeSpec := { name := "utfPieces", fn := fun _ => fun
  | [d1, d2, d3, d4, d5] => { results := [.lit (.bool false)], args := [d1, d2, d3, d4, d5] }
  | _ => none }
def UtfPiecesWrongFalsely : Prop := utfPiecesRow.holds Tryd.pinned (OpenSpec.ofChange utfPiecesWrong)

/-- 'ropewalklaw7.OpOf': WHATEVER THE INPUT: true; the input reads as it did. -/
def opOfSpec : ChangeSpec := { name := "opOf", fn := fun _ => fun
  | [d1, d2, d3, d4] => { results := [.lit (.bool true)], args := [d1, d2, d3, d4] }
  | _ => none }
def opOfRow : OpenClaim := { program := "ytcdmabenopjbhaadoor", sum := "6bf74d6390852eaf0dfacf39c427054ed0b99ab80f5a61f3f6ebf7be1d9ef29d", func := "ropewalk/ropewalklaw7.OpOf", spec := "opOf", inPlace := ["internal/bytealg.IndexByteString", "internal/bytealg.IndexString"], unfollowed := true, recurses := true, named := ["unicode/utf8.first", "unicode/utf8.acceptRanges", "internal/bytealg.MaxLen"], apart := false, laid := [("unicode/utf8.acceptRanges", laid_unicode_utf8_acceptRanges), ("unicode/utf8.first", laid_unicode_utf8_first)] }
def OpOfSaid : Prop := opOfRow.holds Tryd.pinned (OpenSpec.ofChange opOfSpec)

/-- ITS FALSE NEIGHBOUR: 'it returns false'. Refute it at one input. -/
def opOfWrong : ChangeSpec := { name := "opOf", fn := fun _ => fun
  | [d1, d2, d3, d4] => { results := [.lit (.bool false)], args := [d1, d2, d3, d4] }
  | _ => none }
def OpOfWrongFalsely : Prop := opOfRow.holds Tryd.pinned (OpenSpec.ofChange opOfWrong)

/-- 'ropewalklaw7.OpLimits': WHATEVER THE INPUT: true; the input reads as it did. -/
def opLimitsSpec : ChangeSpec := { name := "opLimits", fn := fun _ => fun
  | [d1, d2, d3] => { results := [.lit (.bool true)], args := [d1, d2, d3] }
  | _ => none }
def opLimitsRow : OpenClaim := { program := "ytcdmabenopjbhaadoor", sum := "6bf74d6390852eaf0dfacf39c427054ed0b99ab80f5a61f3f6ebf7be1d9ef29d", func := "ropewalk/ropewalklaw7.OpLimits", spec := "opLimits", inPlace := ["internal/bytealg.IndexByteString", "internal/bytealg.IndexString"], unfollowed := true, recurses := true, named := ["unicode/utf8.first", "unicode/utf8.acceptRanges", "internal/bytealg.MaxLen"], apart := false, laid := [("unicode/utf8.acceptRanges", laid_unicode_utf8_acceptRanges), ("unicode/utf8.first", laid_unicode_utf8_first)] }
def OpLimitsSaid : Prop := opLimitsRow.holds Tryd.pinned (OpenSpec.ofChange opLimitsSpec)

/-- ITS FALSE NEIGHBOUR: 'it returns false'. Refute it at one input. -/
def opLimitsWrong : ChangeSpec := { name := "opLimits", fn := fun _ => fun
  | [d1, d2, d3] => { results := [.lit (.bool false)], args := [d1, d2, d3] }
  | _ => none }
def OpLimitsWrongFalsely : Prop := opLimitsRow.holds Tryd.pinned (OpenSpec.ofChange opLimitsWrong)

/-- 'ropewalklaw7.OpNormal': WHATEVER THE INPUT: true; the input reads as it did. -/
def opNormalSpec : ChangeSpec := { name := "opNormal", fn := fun _ => fun
  | [d] => { results := [.lit (.bool true)], args := [d] }
  | _ => none }
def opNormalRow : OpenClaim := { program := "ytcdmabenopjbhaadoor", sum := "6bf74d6390852eaf0dfacf39c427054ed0b99ab80f5a61f3f6ebf7be1d9ef29d", func := "ropewalk/ropewalklaw7.OpNormal", spec := "opNormal", inPlace := ["internal/bytealg.IndexByteString", "internal/bytealg.IndexString"], unfollowed := true, recurses := true, named := ["unicode/utf8.first", "unicode/utf8.acceptRanges", "internal/bytealg.MaxLen"], apart := false, laid := [("unicode/utf8.acceptRanges", laid_unicode_utf8_acceptRanges), ("unicode/utf8.first", laid_unicode_utf8_first)] }
def OpNormalSaid : Prop := opNormalRow.holds Tryd.pinned (OpenSpec.ofChange opNormalSpec)

/-- ITS FALSE NEIGHBOUR: 'it returns false'. Refute it at one input. -/
def opNormalWrong : ChangeSpec := { name := "opNormal", fn := fun _ => fun
  | [d] => { results := [.lit (.bool false)], args := [d] }
  | _ => none }
def OpNormalWrongFalsely : Prop := opNormalRow.holds Tryd.pinned (OpenSpec.ofChange opNormalWrong)

/- THE SECOND FORM. 'bulk': how many values and letters a reading holds, each counted each time it is reached (what is shared counts as often as it is met; a slice's spare places count too). A statement '..UptoSaid' is the law's where the arguments, and the package variables that the reading takes, are together of bulk at most 1048576: NARROWER than '..Said'. Prove '..Said' where nothing that the law and all that it calls make is longer than what came in: it says more and counts as full. Else prove '..UptoSaid'. A law counts once. -/
mutual
def uptoBulk {H : Type} : DataW H → Nat
  | .lit (.string bytes) => bytes.length + 1
  | .lit _ => 1
  | .nil => 1
  | .ptr d => uptoBulk d + 1
  | .slice elems spare => uptoBulkAll elems + uptoBulkAll spare + 1
  | .agg parts => uptoBulkAll parts + 1
  | .iface _ d => uptoBulk d + 1
  | .map entries => uptoBulkEntries entries + 1
  | .held _ => 1
def uptoBulkAll {H : Type} : List (DataW H) → Nat
  | [] => 0
  | d :: r => uptoBulk d + uptoBulkAll r
def uptoBulkEntries {H : Type} : List (Lit × DataW H) → Nat
  | [] => 0
  | x :: r => uptoBulkEntry x + uptoBulkEntries r
def uptoBulkEntry {H : Type} : Lit × DataW H → Nat
  | (.string bytes, d) => bytes.length + uptoBulk d + 1
  | (_, d) => uptoBulk d + 1
 end
def uptoSmall : (H : Type) → List (DataW H) → Bool := fun _ ds => decide (uptoBulkAll ds ≤ 1048576)
def OpenSpec.upto (s : _root_.Go.ChangeSpec) : _root_.Go.OpenSpec := { _root_.Go.OpenSpec.ofChange s with cond := some uptoSmall }

/-- 'ropewalklaw3.UtfForms', WHERE WHAT IT READS IS OF BULK AT MOST 1048576: true; the input reads as it did. -/
def utfFormsUptoRow : OpenClaim := { program := "ytcdmabenopjbhaadoor", sum := "6bf74d6390852eaf0dfacf39c427054ed0b99ab80f5a61f3f6ebf7be1d9ef29d", func := "ropewalk/ropewalklaw3.UtfForms", spec := "utfForms", inPlace := ["internal/abi.NoEscape", "internal/bytealg.IndexByteString", "internal/bytealg.IndexString"], named := ["unicode/utf8.first", "unicode/utf8.acceptRanges", "internal/bytealg.MaxLen"], apart := false, laid := [("unicode/utf8.acceptRanges", laid_unicode_utf8_acceptRanges), ("unicode/utf8.first", laid_unicode_utf8_first)], narrowed := true }
def UtfFormsUptoSaid : Prop := utfFormsUptoRow.holds Tryd.pinned (OpenSpec.upto utfFormsSpec)

/-- 'ropewalklaw3.UtfAsks', WHERE WHAT IT READS IS OF BULK AT MOST 1048576: true; the input reads as it did. -/
def utfAsksUptoRow : OpenClaim := { program := "ytcdmabenopjbhaadoor", sum := "6bf74d6390852eaf0dfacf39c427054ed0b99ab80f5a61f3f6ebf7be1d9ef29d", func := "ropewalk/ropewalklaw3.UtfAsks", spec := "utfAsks", inPlace := ["internal/bytealg.IndexByteString", "internal/bytealg.IndexString", "internal/abi.NoEscape"], named := ["unicode/utf8.first", "unicode/utf8.acceptRanges", "internal/bytealg.MaxLen"], apart := false, laid := [("unicode/utf8.acceptRanges", laid_unicode_utf8_acceptRanges), ("unicode/utf8.first", laid_unicode_utf8_first)], narrowed := true }
def UtfAsksUptoSaid : Prop := utfAsksUptoRow.holds Tryd.pinned (OpenSpec.upto utfAsksSpec)

/-- 'ropewalklaw3.UtfBack', WHERE WHAT IT READS IS OF BULK AT MOST 1048576: true; the input reads as it did. -/
def utfBackUptoRow : OpenClaim := { program := "ytcdmabenopjbhaadoor", sum := "6bf74d6390852eaf0dfacf39c427054ed0b99ab80f5a61f3f6ebf7be1d9ef29d", func := "ropewalk/ropewalklaw3.UtfBack", spec := "utfBack", inPlace := ["internal/bytealg.IndexByteString", "internal/bytealg.IndexString", "internal/abi.NoEscape"], named := ["unicode/utf8.first", "unicode/utf8.acceptRanges", "internal/bytealg.MaxLen"], apart := false, laid := [("unicode/utf8.acceptRanges", laid_unicode_utf8_acceptRanges), ("unicode/utf8.first", laid_unicode_utf8_first)], narrowed := true }
def UtfBackUptoSaid : Prop := utfBackUptoRow.holds Tryd.pinned (OpenSpec.upto utfBackSpec)

/-- 'ropewalklaw3.UtfPieces', WHERE WHAT IT READS IS OF BULK AT MOST 1048576: true; the input reads as it did. -/
def utfPiecesUptoRow : OpenClaim := { program := "ytcdmabenopjbhaadoor", sum := "6bf74d6390852eaf0dfacf39c427054ed0b99ab80f5a61f3f6ebf7be1d9ef29d", func := "ropewalk/ropewalklaw3.UtfPieces", spec := "utfPieces", inPlace := ["internal/bytealg.IndexByteString", "internal/bytealg.IndexString", "internal/abi.NoEscape"], named := ["unicode/utf8.first", "unicode/utf8.acceptRanges", "internal/bytealg.MaxLen"], apart := false, laid := [("unicode/utf8.acceptRanges", laid_unicode_utf8_acceptRanges), ("unicode/utf8.first", laid_unicode_utf8_first)], narrowed := true }
def UtfPiecesUptoSaid : Prop := utfPiecesUptoRow.holds Tryd.pinned (OpenSpec.upto utfPiecesSpec)

/-- 'ropewalklaw7.OpOf', WHERE WHAT IT READS IS OF BULK AT MOST 1048576: true; the input reads as it did. -/
def opOfUptoRow : OpenClaim := { program := "ytcdmabenopjbhaadoor", sum := "6bf74d6390852eaf0dfacf39c427054ed0b99ab80f5a61f3f6ebf7be1d9ef29d", func := "ropewalk/ropewalklaw7.OpOf", spec := "opOf", inPlace := ["internal/bytealg.IndexByteString", "internal/bytealg.IndexString"], unfollowed := true, recurses := true, named := ["unicode/utf8.first", "unicode/utf8.acceptRanges", "internal/bytealg.MaxLen"], apart := false, laid := [("unicode/utf8.acceptRanges", laid_unicode_utf8_acceptRanges), ("unicode/utf8.first", laid_unicode_utf8_first)], narrowed := true }
def OpOfUptoSaid : Prop := opOfUptoRow.holds Tryd.pinned (OpenSpec.upto opOfSpec)

/-- 'ropewalklaw7.OpLimits', WHERE WHAT IT READS IS OF BULK AT MOST 1048576: true; the input reads as it did. -/
def opLimitsUptoRow : OpenClaim := { program := "ytcdmabenopjbhaadoor", sum := "6bf74d6390852eaf0dfacf39c427054ed0b99ab80f5a61f3f6ebf7be1d9ef29d", func := "ropewalk/ropewalklaw7.OpLimits", spec := "opLimits", inPlace := ["internal/bytealg.IndexByteString", "internal/bytealg.IndexString"], unfollowed := true, recurses := true, named := ["unicode/utf8.first", "unicode/utf8.acceptRanges", "internal/bytealg.MaxLen"], apart := false, laid := [("unicode/utf8.acceptRanges", laid_unicode_utf8_acceptRanges), ("unicode/utf8.first", laid_unicode_utf8_first)], narrowed := true }
def OpLimitsUptoSaid : Prop := opLimitsUptoRow.holds Tryd.pinned (OpenSpec.upto opLimitsSpec)

/-- 'ropewalklaw7.OpNormal', WHERE WHAT IT READS IS OF BULK AT MOST 1048576: true; the input reads as it did. -/
def opNormalUptoRow : OpenClaim := { program := "ytcdmabenopjbhaadoor", sum := "6bf74d6390852eaf0dfacf39c427054ed0b99ab80f5a61f3f6ebf7be1d9ef29d", func := "ropewalk/ropewalklaw7.OpNormal", spec := "opNormal", inPlace := ["internal/bytealg.IndexByteString", "internal/bytealg.IndexString"], unfollowed := true, recurses := true, named := ["unicode/utf8.first", "unicode/utf8.acceptRanges", "internal/bytealg.MaxLen"], apart := false, laid := [("unicode/utf8.acceptRanges", laid_unicode_utf8_acceptRanges), ("unicode/utf8.first", laid_unicode_utf8_first)], narrowed := true }
def OpNormalUptoSaid : Prop := opNormalUptoRow.holds Tryd.pinned (OpenSpec.upto opNormalSpec)

end Rows
end Go.Proofs.YtcdmabenopjbhaaDoor
