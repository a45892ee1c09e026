/-
  NARROWER THAN 'FOR EVERY INPUT', by the rows' own cells (each row's printed sentence says how): RebaseApart: laid · RebaseMeets: laid · RebaseAsks: laid · RebaseRow: laid · RebaseIdle: laid.
  DERIVED. THE GIVEN ROWS OF THIS SEAT. 5 by the template 'for every input the law returns true; each argument reads behind the call as it read before'; 0 by the template 'total and deterministic' (their statements: YtmhpninemdmbkaaGreatDoorTotals.lean).
  GIVEN WITH THE SEED: the statements are not yours to turn. If you find one false, say at which input.
  Laid BY PROGRAM, IN A SANDBOX (cutbox-rows.mjs): the forced cells as the released guide's own fill.sh prints them over the translation 499ca6945b79c44f… (all of the seat's roots in one cut). By AI agents, Wed Nov 11 2026. No macro, syntax, notation, axiom, sorry.
-/
import Derived.Test.YtmhpninemdmbkaaGreatDoorChecked
import GoSem.PinnedTables
import GoSem.Claim
import GoSem.ClaimJoined
import GoSem.ClaimMapViews
import Derived.JoinedTies
import Derived.KernelRfl
namespace Go.Proofs.YtmhpninemdmbkaaGreatDoor
/- THE CELL 'sum', in the pinned program and in every row, IS THE sha256 OF THE DUMP (.gsa) THAT YtmhpninemdmbkaaGreatDoorProg.lean LOADS. Nothing in Lean hashes anything: it is a label: what it is worth is what the hold of that sum in a sandbox is worth. -/
noncomputable def Tryz.pinned : Pinned := { name := "ytmhpninemdmbkaagreatdoor", sum := "499ca6945b79c44fd44b3e462e84f37e38183eb0593b8c0816ee4d5591bf85e2", checked := Tryz.checked }
namespace Rows
def none {H : Type} : Left H := { results := [], args := [] }

/- WHAT THE LISTED PACKAGE-LEVEL VARIABLES READ AS WHEN THE CALL BEGINS. Each datum BY PROGRAM (the guide's laid-datum.mjs) off the statement by which the dump's own 'gosem.cut.vars' lays the variable. In a bare row this is a premise. The card (YtmhpninemdmbkaaGreatDoorCards.lean) ties it to the program's text. -/
def laid_unicode_utf8_acceptRanges {H : Type} : DataW H := .agg [.agg [.lit (.int .u8 128), .lit (.int .u8 191)], .agg [.lit (.int .u8 160), .lit (.int .u8 191)], .agg [.lit (.int .u8 128), .lit (.int .u8 159)], .agg [.lit (.int .u8 144), .lit (.int .u8 191)], .agg [.lit (.int .u8 128), .lit (.int .u8 143)], .agg [.lit (.int .u8 0), .lit (.int .u8 0)], .agg [.lit (.int .u8 0), .lit (.int .u8 0)], .agg [.lit (.int .u8 0), .lit (.int .u8 0)], .agg [.lit (.int .u8 0), .lit (.int .u8 0)], .agg [.lit (.int .u8 0), .lit (.int .u8 0)], .agg [.lit (.int .u8 0), .lit (.int .u8 0)], .agg [.lit (.int .u8 0), .lit (.int .u8 0)], .agg [.lit (.int .u8 0), .lit (.int .u8 0)], .agg [.lit (.int .u8 0), .lit (.int .u8 0)], .agg [.lit (.int .u8 0), .lit (.int .u8 0)], .agg [.lit (.int .u8 0), .lit (.int .u8 0)]]
/-- One of Go's own tables, pinned by name: the form's constant. -/
def laid_unicode_utf8_first : DataW Unit := Go.Pinned.utf8First

/-- 'ropewalklaw16.RebaseApart': WHATEVER THE INPUT: true; the input reads as it did. -/
def rebaseApartSpec : ChangeSpec := { name := "rebaseApart", fn := fun _ => fun
  | [d1, d2, d3] => { results := [.lit (.bool true)], args := [d1, d2, d3] }
  | _ => none }
def rebaseApartRow : OpenClaim := { program := "ytmhpninemdmbkaagreatdoor", sum := "499ca6945b79c44fd44b3e462e84f37e38183eb0593b8c0816ee4d5591bf85e2", func := "ropewalk/ropewalklaw16.RebaseApart", spec := "rebaseApart", inPlace := ["internal/bytealg.IndexByteString", "internal/bytealg.IndexString"], unfollowed := true, recurses := true, named := ["unicode/utf8.first", "unicode/utf8.acceptRanges", "internal/bytealg.MaxLen"], apart := false, laid := [("unicode/utf8.acceptRanges", laid_unicode_utf8_acceptRanges), ("unicode/utf8.first", laid_unicode_utf8_first)] }
def RebaseApartSaid : Prop := rebaseApartRow.holds Tryz.pinned (OpenSpec.ofChange rebaseApartSpec)

/-- ITS FALSE NEIGHBOUR: 'it returns false'. Refute it at one input. -/
def rebaseApartWrong : ChangeSpec := { name := "rebaseApart", fn := fun _ => fun
  | [d1, d2, d3] => { results := [.lit (.bool false)], args := [d1, d2, d3] }
  | _ => none }
def RebaseApartWrongFalsely : Prop := rebaseApartRow.holds Tryz.pinned (OpenSpec.ofChange rebaseApartWrong)

/-- 'ropewalklaw16.RebaseMeets': WHATEVER THE INPUT: true; the input reads as it did. -/
def rebaseMeetsSpec : ChangeSpec := { name := "rebaseMeets", fn := fun _ => fun
  | [d1, d2, d3] => { results := [.lit (.bool true)], args := [d1, d2, d3] }
  | _ => none }
def rebaseMeetsRow : OpenClaim := { program := "ytmhpninemdmbkaagreatdoor", sum := "499ca6945b79c44fd44b3e462e84f37e38183eb0593b8c0816ee4d5591bf85e2", func := "ropewalk/ropewalklaw16.RebaseMeets", spec := "rebaseMeets", inPlace := ["internal/bytealg.IndexByteString", "internal/bytealg.IndexString"], unfollowed := true, recurses := true, named := ["unicode/utf8.first", "unicode/utf8.acceptRanges", "internal/bytealg.MaxLen"], apart := false, laid := [("unicode/utf8.acceptRanges", laid_unicode_utf8_acceptRanges), ("unicode/utf8.first", laid_unicode_utf8_first)] }
def RebaseMeetsSaid : Prop := rebaseMeetsRow.holds Tryz.pinned (OpenSpec.ofChange rebaseMeetsSpec)

/-- ITS FALSE NEIGHBOUR: 'it returns false'. Refute it at one input. -/
def rebaseMeetsWrong : ChangeSpec := { name := "rebaseMeets", fn := fun _ => fun
  | [d1, d2, d3] => { results := [.lit (.bool false)], args := [d1, d2, d3] }
  | _ => none }
def RebaseMeetsWrongFalsely : Prop := rebaseMeetsRow.holds Tryz.pinned (OpenSpec.ofChange rebaseMeetsWrong)

/-- 'ropewalklaw16.RebaseAsks': WHATEVER THE INPUT: true; the input reads as it did. -/
def rebaseAsksSpec : ChangeSpec := { name := "rebaseAsks", fn := fun _ => fun
  | [d1, d2, d3, d4] => { results := [.lit (.bool true)], args := [d1, d2, d3, d4] }
  | _ => none }
def rebaseAsksRow : OpenClaim := { program := "ytmhpninemdmbkaagreatdoor", sum := "499ca6945b79c44fd44b3e462e84f37e38183eb0593b8c0816ee4d5591bf85e2", func := "ropewalk/ropewalklaw16.RebaseAsks", spec := "rebaseAsks", inPlace := ["internal/bytealg.IndexByteString", "internal/bytealg.IndexString"], unfollowed := true, recurses := true, named := ["unicode/utf8.first", "unicode/utf8.acceptRanges", "internal/bytealg.MaxLen"], apart := false, laid := [("unicode/utf8.acceptRanges", laid_unicode_utf8_acceptRanges), ("unicode/utf8.first", laid_unicode_utf8_first)] }
def RebaseAsksSaid : Prop := rebaseAsksRow.holds Tryz.pinned (OpenSpec.ofChange rebaseAsksSpec)

/-- ITS FALSE NEIGHBOUR: 'it returns false'. Refute it at one input. -/
def rebaseAsksWrong : ChangeSpec := { name := "rebaseAsks", fn := fun _ => fun
  | [d1, d2, d3, d4] => { results := [.lit (.bool false)], args := [d1, d2, d3, d4] }
  | _ => none }
def RebaseAsksWrongFalsely : Prop := rebaseAsksRow.holds Tryz.pinned (OpenSpec.ofChange rebaseAsksWrong)

/-- 'ropewalklaw16.RebaseRow': WHATEVER THE INPUT: true; the input reads as it did. -/
def rebaseRowSpec : ChangeSpec := { name := "rebaseRow", fn := fun _ => fun
  | [d1, d2, d3] => { results := [.lit (.bool true)], args := [d1, d2, d3] }
  | _ => none }
def rebaseRowRow : OpenClaim := { program := "ytmhpninemdmbkaagreatdoor", sum := "499ca6945b79c44fd44b3e462e84f37e38183eb0593b8c0816ee4d5591bf85e2", func := "ropewalk/ropewalklaw16.RebaseRow", spec := "rebaseRow", inPlace := ["internal/bytealg.IndexByteString", "internal/bytealg.IndexString"], unfollowed := true, recurses := true, named := ["unicode/utf8.first", "unicode/utf8.acceptRanges", "internal/bytealg.MaxLen"], apart := false, laid := [("unicode/utf8.acceptRanges", laid_unicode_utf8_acceptRanges), ("unicode/utf8.first", laid_unicode_utf8_first)] }
def RebaseRowSaid : Prop := rebaseRowRow.holds Tryz.pinned (OpenSpec.ofChange rebaseRowSpec)

/-- ITS FALSE NEIGHBOUR: 'it returns false'. Refute it at one input. -/
def rebaseRowWrong : ChangeSpec := { name := "rebaseRow", fn := fun _ => fun
  | [d1, d2, d3] => { results := [.lit (.bool false)], args := [d1, d2, d3] }
  | _ => none }
def RebaseRowWrongFalsely : Prop := rebaseRowRow.holds Tryz.pinned (OpenSpec.ofChange rebaseRowWrong)

/-- 'ropewalklaw16.RebaseIdle': WHATEVER THE INPUT: true; the input reads as it did. -/
def rebaseIdleSpec : ChangeSpec := { name := "rebaseIdle", fn := fun _ => fun
  | [d1, d2] => { results := [.lit (.bool true)], args := [d1, d2] }
  | _ => none }
def rebaseIdleRow : OpenClaim := { program := "ytmhpninemdmbkaagreatdoor", sum := "499ca6945b79c44fd44b3e462e84f37e38183eb0593b8c0816ee4d5591bf85e2", func := "ropewalk/ropewalklaw16.RebaseIdle", spec := "rebaseIdle", inPlace := ["internal/bytealg.IndexByteString", "internal/bytealg.IndexString"], unfollowed := true, recurses := true, named := ["unicode/utf8.first", "unicode/utf8.acceptRanges", "internal/bytealg.MaxLen"], apart := false, laid := [("unicode/utf8.acceptRanges", laid_unicode_utf8_acceptRanges), ("unicode/utf8.first", laid_unicode_utf8_first)] }
def RebaseIdleSaid : Prop := rebaseIdleRow.holds Tryz.pinned (OpenSpec.ofChange rebaseIdleSpec)

/-- ITS FALSE NEIGHBOUR: 'it returns false'. Refute it at one input. -/
def rebaseIdleWrong : ChangeSpec := { name := "rebaseIdle", fn := fun _ => fun
  | [d1, d2] => { results := [.lit (.bool false)], args := [d1, d2] }
  | _ => none }
def RebaseIdleWrongFalsely : Prop := rebaseIdleRow.holds Tryz.pinned (OpenSpec.ofChange rebaseIdleWrong)

/- THE SECOND FORM. 'bulk': how many values and letters a reading holds, each counted each time it is reached (what is shared counts as often as it is met; a slice's spare places count too). A statement '..UptoSaid' is the law's where the arguments, and the package variables that the reading takes, are together of bulk at most 1048576: NARROWER than '..Said'. Prove '..Said' where nothing that the law and all that it calls make is longer than what came in: it says more and counts as full. Else prove '..UptoSaid'. A law counts once. -/
mutual
def uptoBulk {H : Type} : DataW H → Nat
  | .lit (.string bytes) => bytes.length + 1
  | .lit _ => 1
  | .nil => 1
  | .ptr d => uptoBulk d + 1
  | .slice elems spare => uptoBulkAll elems + uptoBulkAll spare + 1
  | .agg parts => uptoBulkAll parts + 1
  | .iface _ d => uptoBulk d + 1
  | .map entries => uptoBulkEntries entries + 1
  | .held _ => 1
def uptoBulkAll {H : Type} : List (DataW H) → Nat
  | [] => 0
  | d :: r => uptoBulk d + uptoBulkAll r
def uptoBulkEntries {H : Type} : List (Lit × DataW H) → Nat
  | [] => 0
  | x :: r => uptoBulkEntry x + uptoBulkEntries r
def uptoBulkEntry {H : Type} : Lit × DataW H → Nat
  | (.string bytes, d) => bytes.length + uptoBulk d + 1
  | (_, d) => uptoBulk d + 1
 end
def uptoSmall : (H : Type) → List (DataW H) → Bool := fun _ ds => decide (uptoBulkAll ds ≤ 1048576)
def OpenSpec.upto (s : _root_.Go.ChangeSpec) : _root_.Go.OpenSpec := { _root_.Go.OpenSpec.ofChange s with cond := some uptoSmall }

/-- 'ropewalklaw16.RebaseApart', WHERE WHAT IT READS IS OF BULK AT MOST 1048576: true; the input reads as it did. -/
def rebaseApartUptoRow : OpenClaim := { program := "ytmhpninemdmbkaagreatdoor", sum := "499ca6945b79c44fd44b3e462e84f37e38183eb0593b8c0816ee4d5591bf85e2", func := "ropewalk/ropewalklaw16.RebaseApart", spec := "rebaseApart", inPlace := ["internal/bytealg.IndexByteString", "internal/bytealg.IndexString"], unfollowed := true, recurses := true, named := ["unicode/utf8.first", "unicode/utf8.acceptRanges", "internal/bytealg.MaxLen"], apart := false, laid := [("unicode/utf8.acceptRanges", laid_unicode_utf8_acceptRanges), ("unicode/utf8.first", laid_unicode_utf8_first)], narrowed := true }
def RebaseApartUptoSaid : Prop := rebaseApartUptoRow.holds Tryz.pinned (OpenSpec.upto rebaseApartSpec)

/-- 'ropewalklaw16.RebaseMeets', WHERE WHAT IT READS IS OF BULK AT MOST 1048576: true; the input reads as it did. -/
def rebaseMeetsUptoRow : OpenClaim := { program := "ytmhpninemdmbkaagreatdoor", sum := "499ca6945b79c44fd44b3e462e84f37e38183eb0593b8c0816ee4d5591bf85e2", func := "ropewalk/ropewalklaw16.RebaseMeets", spec := "rebaseMeets", inPlace := ["internal/bytealg.IndexByteString", "internal/bytealg.IndexString"], unfollowed := true, recurses := true, named := ["unicode/utf8.first", "unicode/utf8.acceptRanges", "internal/bytealg.MaxLen"], apart := false, laid := [("unicode/utf8.acceptRanges", laid_unicode_utf8_acceptRanges), ("unicode/utf8.first", laid_unicode_utf8_first)], narrowed := true }
def RebaseMeetsUptoSaid : Prop := rebaseMeetsUptoRow.holds Tryz.pinned (OpenSpec.upto rebaseMeetsSpec)

/-- 'ropewalklaw16.RebaseAsks', WHERE WHAT IT READS IS OF BULK AT MOST 1048576: true; the input reads as it did. -/
def rebaseAsksUptoRow : OpenClaim := { program := "ytmhpninemdmbkaagreatdoor", sum := "499ca6945b79c44fd44b3e462e84f37e38183eb0593b8c0816ee4d5591bf85e2", func := "ropewalk/ropewalklaw16.RebaseAsks", spec := "rebaseAsks", inPlace := ["internal/bytealg.IndexByteString", "internal/bytealg.IndexString"], unfollowed := true, recurses := true, named := ["unicode/utf8.first", "unicode/utf8.acceptRanges", "internal/bytealg.MaxLen"], apart := false, laid := [("unicode/utf8.acceptRanges", laid_unicode_utf8_acceptRanges), ("unicode/utf8.first", laid_unicode_utf8_first)], narrowed := true }
def RebaseAsksUptoSaid : Prop := rebaseAsksUptoRow.holds Tryz.pinned (OpenSpec.upto rebaseAsksSpec)

/-- 'ropewalklaw16.RebaseRow', WHERE WHAT IT READS IS OF BULK AT MOST 1048576: true; the input reads as it did. -/
def rebaseRowUptoRow : OpenClaim := { program := "ytmhpninemdmbkaagreatdoor", sum := "499ca6945b79c44fd44b3e462e84f37e38183eb0593b8c0816ee4d5591bf85e2", func := "ropewalk/ropewalklaw16.RebaseRow", spec := "rebaseRow", inPlace := ["internal/bytealg.IndexByteString", "internal/bytealg.IndexString"], unfollowed := true, recurses := true, named := ["unicode/utf8.first", "unicode/utf8.acceptRanges", "internal/bytealg.MaxLen"], apart := false, laid := [("unicode/utf8.acceptRanges", laid_unicode_utf8_acceptRanges), ("unicode/utf8.first", laid_unicode_utf8_first)], narrowed := true }
def RebaseRowUptoSaid : Prop := rebaseRowUptoRow.holds Tryz.pinned (OpenSpec.upto rebaseRowSpec)

/-- 'ropewalklaw16.RebaseIdle', WHERE WHAT IT READS IS OF BULK AT MOST 1048576: true; the input reads as it did. -/
def rebaseIdleUptoRow : OpenClaim := { program := "ytmhpninemdmbkaagreatdoor", sum := "499ca6945b79c44fd44b3e462e84f37e38183eb0593b8c0816ee4d5591bf85e2", func := "ropewalk/ropewalklaw16.RebaseIdle", spec := "rebaseIdle", inPlace := ["internal/bytealg.IndexByteString", "internal/bytealg.IndexString"], unfollowed := true, recurses := true, named := ["unicode/utf8.first", "unicode/utf8.acceptRanges", "internal/bytealg.MaxLen"], apart := false, laid := [("unicode/utf8.acceptRanges", laid_unicode_utf8_acceptRanges), ("unicode/utf8.first", laid_unicode_utf8_first)], narrowed := true }
def RebaseIdleUptoSaid : Prop := rebaseIdleUptoRow.holds Tryz.pinned (OpenSpec.upto rebaseIdleSpec)

end Rows
end Go.Proofs.YtmhpninemdmbkaaGreatDoor
