/-
  NARROWER THAN 'FOR EVERY INPUT', by the rows' own cells (each row's printed sentence says how): EffectSees: laid · EffectKeeps: laid · EffectOne: laid · RebaseTable: laid · RebaseParent: laid.
  DERIVED. THE GIVEN ROWS OF THIS SEAT. 5 by the template 'for every input the law returns true; each argument reads behind the call as it read before'; 0 by the template 'total and deterministic' (their statements: YtmhpninemdmbkaaDoorTotals.lean).
  GIVEN WITH THE SEED: the statements are not yours to turn. If you find one false, say at which input.
  Laid BY PROGRAM, IN A SANDBOX (cutbox-rows.mjs): the forced cells as the released guide's own fill.sh prints them over the translation 41f7942387ec4c9f… (all of the seat's roots in one cut). By AI agents, Wed Nov 11 2026. No macro, syntax, notation, axiom, sorry.
-/
import Derived.Test.YtmhpninemdmbkaaDoorChecked
import GoSem.PinnedTables
import GoSem.Claim
import GoSem.ClaimJoined
import GoSem.ClaimMapViews
import Derived.JoinedTies
import Derived.KernelRfl
namespace Go.Proofs.YtmhpninemdmbkaaDoor
/- THE CELL 'sum', in the pinned program and in every row, IS THE sha256 OF THE DUMP (.gsa) THAT YtmhpninemdmbkaaDoorProg.lean LOADS. Nothing in Lean hashes anything: it is a label: what it is worth is what the hold of that sum in a sandbox is worth. -/
noncomputable def Tryd.pinned : Pinned := { name := "ytmhpninemdmbkaadoor", sum := "41f7942387ec4c9faed69014339c381b5db36fd89fe4ff039c9fcfd02438ec6b", checked := Tryd.checked }
namespace Rows
def none {H : Type} : Left H := { results := [], args := [] }

/- WHAT THE LISTED PACKAGE-LEVEL VARIABLES READ AS WHEN THE CALL BEGINS. Each datum BY PROGRAM (the guide's laid-datum.mjs) off the statement by which the dump's own 'gosem.cut.vars' lays the variable. In a bare row this is a premise. The card (YtmhpninemdmbkaaDoorCards.lean) ties it to the program's text. -/
def laid_unicode_utf8_acceptRanges {H : Type} : DataW H := .agg [.agg [.lit (.int .u8 128), .lit (.int .u8 191)], .agg [.lit (.int .u8 160), .lit (.int .u8 191)], .agg [.lit (.int .u8 128), .lit (.int .u8 159)], .agg [.lit (.int .u8 144), .lit (.int .u8 191)], .agg [.lit (.int .u8 128), .lit (.int .u8 143)], .agg [.lit (.int .u8 0), .lit (.int .u8 0)], .agg [.lit (.int .u8 0), .lit (.int .u8 0)], .agg [.lit (.int .u8 0), .lit (.int .u8 0)], .agg [.lit (.int .u8 0), .lit (.int .u8 0)], .agg [.lit (.int .u8 0), .lit (.int .u8 0)], .agg [.lit (.int .u8 0), .lit (.int .u8 0)], .agg [.lit (.int .u8 0), .lit (.int .u8 0)], .agg [.lit (.int .u8 0), .lit (.int .u8 0)], .agg [.lit (.int .u8 0), .lit (.int .u8 0)], .agg [.lit (.int .u8 0), .lit (.int .u8 0)], .agg [.lit (.int .u8 0), .lit (.int .u8 0)]]
/-- One of Go's own tables, pinned by name: the form's constant. -/
def laid_unicode_utf8_first : DataW Unit := Go.Pinned.utf8First

/-- 'ropewalklaw15.EffectSees': WHATEVER THE INPUT: true; the input reads as it did. -/
def effectSeesSpec : ChangeSpec := { name := "effectSees", fn := fun _ => fun
  | [d1, d2, d3] => { results := [.lit (.bool true)], args := [d1, d2, d3] }
  | _ => none }
def effectSeesRow : OpenClaim := { program := "ytmhpninemdmbkaadoor", sum := "41f7942387ec4c9faed69014339c381b5db36fd89fe4ff039c9fcfd02438ec6b", func := "ropewalk/ropewalklaw15.EffectSees", spec := "effectSees", inPlace := ["internal/bytealg.IndexByteString", "internal/bytealg.IndexString"], unfollowed := true, recurses := true, named := ["unicode/utf8.first", "unicode/utf8.acceptRanges", "internal/bytealg.MaxLen"], apart := false, laid := [("unicode/utf8.acceptRanges", laid_unicode_utf8_acceptRanges), ("unicode/utf8.first", laid_unicode_utf8_first)] }
def EffectSeesSaid : Prop := effectSeesRow.holds Tryd.pinned (OpenSpec.ofChange effectSeesSpec)

/-- ITS FALSE NEIGHBOUR: 'it returns false'. Refute it at one input. -/
def effectSeesWrong : ChangeSpec := { name := "effectSees", fn := fun _ => fun
  | [d1, d2, d3] => { results := [.lit (.bool false)], args := [d1, d2, d3] }
  | _ => none }
def EffectSeesWrongFalsely : Prop := effectSeesRow.holds Tryd.pinned (OpenSpec.ofChange effectSeesWrong)

/-- 'ropewalklaw15.EffectKeeps': WHATEVER THE INPUT: true; the input reads as it did. -/
def effectKeepsSpec : ChangeSpec := { name := "effectKeeps", fn := fun _ => fun
  | [d1, d2] => { results := [.lit (.bool true)], args := [d1, d2] }
  | _ => none }
def effectKeepsRow : OpenClaim := { program := "ytmhpninemdmbkaadoor", sum := "41f7942387ec4c9faed69014339c381b5db36fd89fe4ff039c9fcfd02438ec6b", func := "ropewalk/ropewalklaw15.EffectKeeps", spec := "effectKeeps", inPlace := ["internal/bytealg.IndexByteString", "internal/bytealg.IndexString"], unfollowed := true, recurses := true, named := ["unicode/utf8.first", "unicode/utf8.acceptRanges", "internal/bytealg.MaxLen"], apart := false, laid := [("unicode/utf8.acceptRanges", laid_unicode_utf8_acceptRanges), ("unicode/utf8.first", laid_unicode_utf8_first)] }
def EffectKeepsSaid : Prop := effectKeepsRow.holds Tryd.pinned (OpenSpec.ofChange effectKeepsSpec)

/-- ITS FALSE NEIGHBOUR: 'it returns false'. Refute it at one input. -/
def effectKeepsWrong : ChangeSpec := { name := "effectKeeps", fn := fun _ => fun
  | [d1, d2] => { results := [.lit (.bool false)], args := [d1, d2] }
  | _ => none }
def EffectKeepsWrongFalsely : Prop := effectKeepsRow.holds Tryd.pinned (OpenSpec.ofChange effectKeepsWrong)

/-- 'ropewalklaw15.EffectOne': WHATEVER THE INPUT: true; the input reads as it did. -/
def effectOneSpec : ChangeSpec := { name := "effectOne", fn := fun _ => fun
  | [d] => { results := [.lit (.bool true)], args := [d] }
  | _ => none }
def effectOneRow : OpenClaim := { program := "ytmhpninemdmbkaadoor", sum := "41f7942387ec4c9faed69014339c381b5db36fd89fe4ff039c9fcfd02438ec6b", func := "ropewalk/ropewalklaw15.EffectOne", spec := "effectOne", inPlace := ["internal/bytealg.IndexByteString", "internal/bytealg.IndexString"], unfollowed := true, recurses := true, named := ["unicode/utf8.first", "unicode/utf8.acceptRanges", "internal/bytealg.MaxLen"], apart := false, laid := [("unicode/utf8.acceptRanges", laid_unicode_utf8_acceptRanges), ("unicode/utf8.first", laid_unicode_utf8_first)] }
def EffectOneSaid : Prop := effectOneRow.holds Tryd.pinned (OpenSpec.ofChange effectOneSpec)

/-- ITS FALSE NEIGHBOUR: 'it returns false'. Refute it at one input. -/
def effectOneWrong : ChangeSpec := { name := "effectOne", fn := fun _ => fun
  | [d] => { results := [.lit (.bool false)], args := [d] }
  | _ => none }
def EffectOneWrongFalsely : Prop := effectOneRow.holds Tryd.pinned (OpenSpec.ofChange effectOneWrong)

/-- 'ropewalklaw16.RebaseTable': WHATEVER THE INPUT: true; the input reads as it did. -/
def rebaseTableSpec : ChangeSpec := { name := "rebaseTable", fn := fun _ => fun
  | [d1, d2, d3] => { results := [.lit (.bool true)], args := [d1, d2, d3] }
  | _ => none }
def rebaseTableRow : OpenClaim := { program := "ytmhpninemdmbkaadoor", sum := "41f7942387ec4c9faed69014339c381b5db36fd89fe4ff039c9fcfd02438ec6b", func := "ropewalk/ropewalklaw16.RebaseTable", spec := "rebaseTable", inPlace := ["internal/bytealg.IndexByteString", "internal/bytealg.IndexString"], unfollowed := true, recurses := true, named := ["unicode/utf8.first", "unicode/utf8.acceptRanges", "internal/bytealg.MaxLen"], apart := false, laid := [("unicode/utf8.acceptRanges", laid_unicode_utf8_acceptRanges), ("unicode/utf8.first", laid_unicode_utf8_first)] }
def RebaseTableSaid : Prop := rebaseTableRow.holds Tryd.pinned (OpenSpec.ofChange rebaseTableSpec)

/-- ITS FALSE NEIGHBOUR: 'it returns false'. Refute it at one input. -/
def rebaseTableWrong : ChangeSpec := { name := "rebaseTable", fn := fun _ => fun
  | [d1, d2, d3] => { results := [.lit (.bool false)], args := [d1, d2, d3] }
  | _ => none }
def RebaseTableWrongFalsely : Prop := rebaseTableRow.holds Tryd.pinned (OpenSpec.ofChange rebaseTableWrong)

/-- 'ropewalklaw16.RebaseParent': WHATEVER THE INPUT: true; the input reads as it did. -/
def rebaseParentSpec : ChangeSpec := { name := "rebaseParent", fn := fun _ => fun
  | [d1, d2, d3, d4] => { results := [.lit (.bool true)], args := [d1, d2, d3, d4] }
  | _ => none }
def rebaseParentRow : OpenClaim := { program := "ytmhpninemdmbkaadoor", sum := "41f7942387ec4c9faed69014339c381b5db36fd89fe4ff039c9fcfd02438ec6b", func := "ropewalk/ropewalklaw16.RebaseParent", spec := "rebaseParent", inPlace := ["internal/bytealg.IndexByteString", "internal/bytealg.IndexString"], unfollowed := true, recurses := true, named := ["unicode/utf8.first", "unicode/utf8.acceptRanges", "internal/bytealg.MaxLen"], apart := false, laid := [("unicode/utf8.acceptRanges", laid_unicode_utf8_acceptRanges), ("unicode/utf8.first", laid_unicode_utf8_first)] }
def RebaseParentSaid : Prop := rebaseParentRow.holds Tryd.pinned (OpenSpec.ofChange rebaseParentSpec)

/-- ITS FALSE NEIGHBOUR: 'it returns false'. Refute it at one input. -/
def rebaseParentWrong : ChangeSpec := { name := "rebaseParent", fn := fun _ => fun
  | [d1, d2, d3, d4] => { results := [.lit (.bool false)], args := [d1, d2, d3, d4] }
  | _ => none }
def RebaseParentWrongFalsely : Prop := rebaseParentRow.holds Tryd.pinned (OpenSpec.ofChange rebaseParentWrong)

/- THE SECOND FORM. 'bulk': how many values and letters a reading holds, each counted each time it is reached (what is shared counts as often as it is met; a slice's spare places count too). A statement '..UptoSaid' is the law's where the arguments, and the package variables that the reading takes, are together of bulk at most 1048576: NARROWER than '..Said'. Prove '..Said' where nothing that the law and all that it calls make is longer than what came in: it says more and counts as full. Else prove '..UptoSaid'. A law counts once. -/
mutual
def uptoBulk {H : Type} : DataW H → Nat
  | .lit (.string bytes) => bytes.length + 1
  | .lit _ => 1
  | .nil => 1
  | .ptr d => uptoBulk d + 1
  | .slice elems spare => uptoBulkAll elems + uptoBulkAll spare + 1
  | .agg parts => uptoBulkAll parts + 1
  | .iface _ d => uptoBulk d + 1
  | .map entries => uptoBulkEntries entries + 1
  | .held _ => 1
def uptoBulkAll {H : Type} : List (DataW H) → Nat
  | [] => 0
  | d :: r => uptoBulk d + uptoBulkAll r
def uptoBulkEntries {H : Type} : List (Lit × DataW H) → Nat
  | [] => 0
  | x :: r => uptoBulkEntry x + uptoBulkEntries r
def uptoBulkEntry {H : Type} : Lit × DataW H → Nat
  | (.string bytes, d) => bytes.length + uptoBulk d + 1
  | (_, d) => uptoBulk d + 1
 end
def uptoSmall : (H : Type) → List (DataW H) → Bool := fun _ ds => decide (uptoBulkAll ds ≤ 1048576)
def OpenSpec.upto (s : _root_.Go.ChangeSpec) : _root_.Go.OpenSpec := { _root_.Go.OpenSpec.ofChange s with cond := some uptoSmall }

/-- 'ropewalklaw15.EffectSees', WHERE WHAT IT READS IS OF BULK AT MOST 1048576: true; the input reads as it did. -/
def effectSeesUptoRow : OpenClaim := { program := "ytmhpninemdmbkaadoor", sum := "41f7942387ec4c9faed69014339c381b5db36fd89fe4ff039c9fcfd02438ec6b", func := "ropewalk/ropewalklaw15.EffectSees", spec := "effectSees", inPlace := ["internal/bytealg.IndexByteString", "internal/bytealg.IndexString"], unfollowed := true, recurses := true, named := ["unicode/utf8.first", "unicode/utf8.acceptRanges", "internal/bytealg.MaxLen"], apart := false, laid := [("unicode/utf8.acceptRanges", laid_unicode_utf8_acceptRanges), ("unicode/utf8.first", laid_unicode_utf8_first)], narrowed := true }
def EffectSeesUptoSaid : Prop := effectSeesUptoRow.holds Tryd.pinned (OpenSpec.upto effectSeesSpec)

/-- 'ropewalklaw15.EffectKeeps', WHERE WHAT IT READS IS OF BULK AT MOST 1048576: true; the input reads as it did. -/
def effectKeepsUptoRow : OpenClaim := { program := "ytmhpninemdmbkaadoor", sum := "41f7942387ec4c9faed69014339c381b5db36fd89fe4ff039c9fcfd02438ec6b", func := "ropewalk/ropewalklaw15.EffectKeeps", spec := "effectKeeps", inPlace := ["internal/bytealg.IndexByteString", "internal/bytealg.IndexString"], unfollowed := true, recurses := true, named := ["unicode/utf8.first", "unicode/utf8.acceptRanges", "internal/bytealg.MaxLen"], apart := false, laid := [("unicode/utf8.acceptRanges", laid_unicode_utf8_acceptRanges), ("unicode/utf8.first", laid_unicode_utf8_first)], narrowed := true }
def EffectKeepsUptoSaid : Prop := effectKeepsUptoRow.holds Tryd.pinned (OpenSpec.upto effectKeepsSpec)

/-- 'ropewalklaw15.EffectOne', WHERE WHAT IT READS IS OF BULK AT MOST 1048576: true; the input reads as it did. -/
def effectOneUptoRow : OpenClaim := { program := "ytmhpninemdmbkaadoor", sum := "41f7942387ec4c9faed69014339c381b5db36fd89fe4ff039c9fcfd02438ec6b", func := "ropewalk/ropewalklaw15.EffectOne", spec := "effectOne", inPlace := ["internal/bytealg.IndexByteString", "internal/bytealg.IndexString"], unfollowed := true, recurses := true, named := ["unicode/utf8.first", "unicode/utf8.acceptRanges", "internal/bytealg.MaxLen"], apart := false, laid := [("unicode/utf8.acceptRanges", laid_unicode_utf8_acceptRanges), ("unicode/utf8.first", laid_unicode_utf8_first)], narrowed := true }
def EffectOneUptoSaid : Prop := effectOneUptoRow.holds Tryd.pinned (OpenSpec.upto effectOneSpec)

/-- 'ropewalklaw16.RebaseTable', WHERE WHAT IT READS IS OF BULK AT MOST 1048576: true; the input reads as it did. -/
def rebaseTableUptoRow : OpenClaim := { program := "ytmhpninemdmbkaadoor", sum := "41f7942387ec4c9faed69014339c381b5db36fd89fe4ff039c9fcfd02438ec6b", func := "ropewalk/ropewalklaw16.RebaseTable", spec := "rebaseTable", inPlace := ["internal/bytealg.IndexByteString", "internal/bytealg.IndexString"], unfollowed := true, recurses := true, named := ["unicode/utf8.first", "unicode/utf8.acceptRanges", "internal/bytealg.MaxLen"], apart := false, laid := [("unicode/utf8.acceptRanges", laid_unicode_utf8_acceptRanges), ("unicode/utf8.first", laid_unicode_utf8_first)], narrowed := true }
def RebaseTableUptoSaid : Prop := rebaseTableUptoRow.holds Tryd.pinned (OpenSpec.upto rebaseTableSpec)

/-- 'ropewalklaw16.RebaseParent', WHERE WHAT IT READS IS OF BULK AT MOST 1048576: true; the input reads as it did. -/
def rebaseParentUptoRow : OpenClaim := { program := "ytmhpninemdmbkaadoor", sum := "41f7942387ec4c9faed69014339c381b5db36fd89fe4ff039c9fcfd02438ec6b", func := "ropewalk/ropewalklaw16.RebaseParent", spec := "rebaseParent", inPlace := ["internal/bytealg.IndexByteString", "internal/bytealg.IndexString"], unfollowed := true, recurses := true, named := ["unicode/utf8.first", "unicode/utf8.acceptRanges", "internal/bytealg.MaxLen"], apart := false, laid := [("unicode/utf8.acceptRanges", laid_unicode_utf8_acceptRanges), ("unicode/utf8.first", laid_unicode_utf8_first)], narrowed := true }
def RebaseParentUptoSaid : Prop := rebaseParentUptoRow.holds Tryd.pinned (OpenSpec.upto rebaseParentSpec)

end Rows
end Go.Proofs.YtmhpninemdmbkaaDoor
