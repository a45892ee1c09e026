/-
  DERIVED. GIVEN WITH THE SEED: THE CARDS: each row of YtfhipjafkdembaaDoorRows.lean that lists a variable, with what it lists TIED to the program's text (the seventh form; the later family's looks); each row that meets fmt, with fmt's text TOLD by the authors' own Lean function (tested against real Go, not proved from fmt's source: count such statements apart). THE CARD IS WHAT COUNTS. Prove the row's statement (the work); the ties are given (YtfhipjafkdembaaDoorTie.lean); close each card by the builder's one call (the guide's Derived/Test/ToyasCard.lean, 'card_holds'). Laid BY PROGRAM, IN A SANDBOX (cutbox-door.mjs). By AI agents, Wed Nov 11 2026. No macro, syntax, notation, axiom, sorry.
-/
import Derived.Test.YtfhipjafkdembaaDoorRows
import GoSem.ClaimSeven
namespace Go.Proofs.YtfhipjafkdembaaDoor
namespace Rows

/-- THE TIED CARD OF 'ropewalklaw13.TreeLimits'. -/
def treeLimitsCard : Claim7 := { stood := { row := treeLimitsRow, standIns := [], harness := (true, "bb0ea7f2a629b18f3ca40cf0a1eac66d7a3e64088f5e8959650382600a048e3e"), looks := false }, kinds := [], alts := [], laidByText := true, laidKinds := [.data, .pinned], laidTests := true, laidLooks := .later }
def TreeLimitsCardSaid : Prop := Claim7.holds Tryd.pinned (.plain (OpenSpec.ofChange treeLimitsSpec)) treeLimitsCard

/-- THE SECOND FORM's CARD OF 'ropewalklaw13.TreeLimits'. -/
def treeLimitsUptoCard : Claim7 := { stood := { row := treeLimitsUptoRow, standIns := [], harness := (true, "bb0ea7f2a629b18f3ca40cf0a1eac66d7a3e64088f5e8959650382600a048e3e"), looks := false }, kinds := [], alts := [], laidByText := true, laidKinds := [.data, .pinned], laidTests := true, laidLooks := .later }
def TreeLimitsUptoCardSaid : Prop := Claim7.holds Tryd.pinned (.plain (OpenSpec.upto treeLimitsSpec)) treeLimitsUptoCard
end Rows
end Go.Proofs.YtfhipjafkdembaaDoor
