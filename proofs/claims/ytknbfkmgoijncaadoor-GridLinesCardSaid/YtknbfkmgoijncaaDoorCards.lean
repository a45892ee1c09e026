/-
  DERIVED. GIVEN WITH THE SEED: THE CARDS: each row of YtknbfkmgoijncaaDoorRows.lean that lists a variable, with what it lists TIED to the program's text (the seventh form; the later family's looks); each row that meets fmt, with fmt's text TOLD by the authors' own Lean function (tested against real Go, not proved from fmt's source: count such statements apart). THE CARD IS WHAT COUNTS. Prove the row's statement (the work); the ties are given (YtknbfkmgoijncaaDoorTie.lean); close each card by the builder's one call (the guide's Derived/Test/ToyasCard.lean, 'card_holds'). Laid BY PROGRAM, IN A SANDBOX (cutbox-door.mjs). By AI agents, Wed Nov 11 2026. No macro, syntax, notation, axiom, sorry.
-/
import Derived.Test.YtknbfkmgoijncaaDoorRows
import GoSem.ClaimSeven
namespace Go.Proofs.YtknbfkmgoijncaaDoor
namespace Rows

/-- THE TIED CARD OF 'ropewalklaw12.GridBack'. -/
def gridBackCard : Claim7 := { stood := { row := gridBackRow, standIns := [], harness := (true, "458cefe22e7c46c25639f883496160f057d91f287aeac2a4d883414b36308f6e"), looks := false }, kinds := [], alts := [], laidByText := true, laidKinds := [.data, .pinned], laidTests := true, laidLooks := .later }
def GridBackCardSaid : Prop := Claim7.holds Tryd.pinned (.plain (OpenSpec.ofChange gridBackSpec)) gridBackCard

/-- THE TIED CARD OF 'ropewalklaw12.GridSteps'. -/
def gridStepsCard : Claim7 := { stood := { row := gridStepsRow, standIns := [], harness := (true, "458cefe22e7c46c25639f883496160f057d91f287aeac2a4d883414b36308f6e"), looks := false }, kinds := [], alts := [], laidByText := true, laidKinds := [.data, .pinned], laidTests := true, laidLooks := .later }
def GridStepsCardSaid : Prop := Claim7.holds Tryd.pinned (.plain (OpenSpec.ofChange gridStepsSpec)) gridStepsCard

/-- THE TIED CARD OF 'ropewalklaw12.GridLines'. -/
def gridLinesCard : Claim7 := { stood := { row := gridLinesRow, standIns := [], harness := (true, "458cefe22e7c46c25639f883496160f057d91f287aeac2a4d883414b36308f6e"), looks := false }, kinds := [], alts := [], laidByText := true, laidKinds := [.data, .pinned], laidTests := true, laidLooks := .later }
def GridLinesCardSaid : Prop := Claim7.holds Tryd.pinned (.plain (OpenSpec.ofChange gridLinesSpec)) gridLinesCard

/-- THE TIED CARD OF 'ropewalklaw12.GridOrder'. -/
def gridOrderCard : Claim7 := { stood := { row := gridOrderRow, standIns := [], harness := (true, "458cefe22e7c46c25639f883496160f057d91f287aeac2a4d883414b36308f6e"), looks := false }, kinds := [], alts := [], laidByText := true, laidKinds := [.data, .pinned], laidTests := true, laidLooks := .later }
def GridOrderCardSaid : Prop := Claim7.holds Tryd.pinned (.plain (OpenSpec.ofChange gridOrderSpec)) gridOrderCard

/-- THE TIED CARD OF 'ropewalklaw11.CursorThrough'. -/
def cursorThroughCard : Claim7 := { stood := { row := cursorThroughRow, standIns := [], harness := (true, "458cefe22e7c46c25639f883496160f057d91f287aeac2a4d883414b36308f6e"), looks := false }, kinds := [], alts := [], laidByText := true, laidKinds := [.data, .pinned], laidTests := true, laidLooks := .later }
def CursorThroughCardSaid : Prop := Claim7.holds Tryd.pinned (.plain (OpenSpec.ofChange cursorThroughSpec)) cursorThroughCard

/-- THE TIED CARD OF 'ropewalklaw11.CursorAsks'. -/
def cursorAsksCard : Claim7 := { stood := { row := cursorAsksRow, standIns := [], harness := (true, "458cefe22e7c46c25639f883496160f057d91f287aeac2a4d883414b36308f6e"), looks := false }, kinds := [], alts := [], laidByText := true, laidKinds := [.data, .pinned], laidTests := true, laidLooks := .later }
def CursorAsksCardSaid : Prop := Claim7.holds Tryd.pinned (.plain (OpenSpec.ofChange cursorAsksSpec)) cursorAsksCard

/-- THE TIED CARD OF 'ropewalklaw11.CursorOdd'. -/
def cursorOddCard : Claim7 := { stood := { row := cursorOddRow, standIns := [], harness := (true, "458cefe22e7c46c25639f883496160f057d91f287aeac2a4d883414b36308f6e"), looks := false }, kinds := [], alts := [], laidByText := true, laidKinds := [.data, .pinned], laidTests := true, laidLooks := .later }
def CursorOddCardSaid : Prop := Claim7.holds Tryd.pinned (.plain (OpenSpec.ofChange cursorOddSpec)) cursorOddCard

/-- THE TIED CARD OF 'ropewalklaw11.CursorStays'. -/
def cursorStaysCard : Claim7 := { stood := { row := cursorStaysRow, standIns := [], harness := (true, "458cefe22e7c46c25639f883496160f057d91f287aeac2a4d883414b36308f6e"), looks := false }, kinds := [], alts := [], laidByText := true, laidKinds := [.data, .pinned], laidTests := true, laidLooks := .later }
def CursorStaysCardSaid : Prop := Claim7.holds Tryd.pinned (.plain (OpenSpec.ofChange cursorStaysSpec)) cursorStaysCard

/-- THE SECOND FORM's CARD OF 'ropewalklaw12.GridBack'. -/
def gridBackUptoCard : Claim7 := { stood := { row := gridBackUptoRow, standIns := [], harness := (true, "458cefe22e7c46c25639f883496160f057d91f287aeac2a4d883414b36308f6e"), looks := false }, kinds := [], alts := [], laidByText := true, laidKinds := [.data, .pinned], laidTests := true, laidLooks := .later }
def GridBackUptoCardSaid : Prop := Claim7.holds Tryd.pinned (.plain (OpenSpec.upto gridBackSpec)) gridBackUptoCard

/-- THE SECOND FORM's CARD OF 'ropewalklaw12.GridSteps'. -/
def gridStepsUptoCard : Claim7 := { stood := { row := gridStepsUptoRow, standIns := [], harness := (true, "458cefe22e7c46c25639f883496160f057d91f287aeac2a4d883414b36308f6e"), looks := false }, kinds := [], alts := [], laidByText := true, laidKinds := [.data, .pinned], laidTests := true, laidLooks := .later }
def GridStepsUptoCardSaid : Prop := Claim7.holds Tryd.pinned (.plain (OpenSpec.upto gridStepsSpec)) gridStepsUptoCard

/-- THE SECOND FORM's CARD OF 'ropewalklaw12.GridLines'. -/
def gridLinesUptoCard : Claim7 := { stood := { row := gridLinesUptoRow, standIns := [], harness := (true, "458cefe22e7c46c25639f883496160f057d91f287aeac2a4d883414b36308f6e"), looks := false }, kinds := [], alts := [], laidByText := true, laidKinds := [.data, .pinned], laidTests := true, laidLooks := .later }
def GridLinesUptoCardSaid : Prop := Claim7.holds Tryd.pinned (.plain (OpenSpec.upto gridLinesSpec)) gridLinesUptoCard

/-- THE SECOND FORM's CARD OF 'ropewalklaw12.GridOrder'. -/
def gridOrderUptoCard : Claim7 := { stood := { row := gridOrderUptoRow, standIns := [], harness := (true, "458cefe22e7c46c25639f883496160f057d91f287aeac2a4d883414b36308f6e"), looks := false }, kinds := [], alts := [], laidByText := true, laidKinds := [.data, .pinned], laidTests := true, laidLooks := .later }
def GridOrderUptoCardSaid : Prop := Claim7.holds Tryd.pinned (.plain (OpenSpec.upto gridOrderSpec)) gridOrderUptoCard

/-- THE SECOND FORM's CARD OF 'ropewalklaw11.CursorThrough'. -/
def cursorThroughUptoCard : Claim7 := { stood := { row := cursorThroughUptoRow, standIns := [], harness := (true, "458cefe22e7c46c25639f883496160f057d91f287aeac2a4d883414b36308f6e"), looks := false }, kinds := [], alts := [], laidByText := true, laidKinds := [.data, .pinned], laidTests := true, laidLooks := .later }
def CursorThroughUptoCardSaid : Prop := Claim7.holds Tryd.pinned (.plain (OpenSpec.upto cursorThroughSpec)) cursorThroughUptoCard

/-- THE SECOND FORM's CARD OF 'ropewalklaw11.CursorAsks'. -/
def cursorAsksUptoCard : Claim7 := { stood := { row := cursorAsksUptoRow, standIns := [], harness := (true, "458cefe22e7c46c25639f883496160f057d91f287aeac2a4d883414b36308f6e"), looks := false }, kinds := [], alts := [], laidByText := true, laidKinds := [.data, .pinned], laidTests := true, laidLooks := .later }
def CursorAsksUptoCardSaid : Prop := Claim7.holds Tryd.pinned (.plain (OpenSpec.upto cursorAsksSpec)) cursorAsksUptoCard

/-- THE SECOND FORM's CARD OF 'ropewalklaw11.CursorOdd'. -/
def cursorOddUptoCard : Claim7 := { stood := { row := cursorOddUptoRow, standIns := [], harness := (true, "458cefe22e7c46c25639f883496160f057d91f287aeac2a4d883414b36308f6e"), looks := false }, kinds := [], alts := [], laidByText := true, laidKinds := [.data, .pinned], laidTests := true, laidLooks := .later }
def CursorOddUptoCardSaid : Prop := Claim7.holds Tryd.pinned (.plain (OpenSpec.upto cursorOddSpec)) cursorOddUptoCard

/-- THE SECOND FORM's CARD OF 'ropewalklaw11.CursorStays'. -/
def cursorStaysUptoCard : Claim7 := { stood := { row := cursorStaysUptoRow, standIns := [], harness := (true, "458cefe22e7c46c25639f883496160f057d91f287aeac2a4d883414b36308f6e"), looks := false }, kinds := [], alts := [], laidByText := true, laidKinds := [.data, .pinned], laidTests := true, laidLooks := .later }
def CursorStaysUptoCardSaid : Prop := Claim7.holds Tryd.pinned (.plain (OpenSpec.upto cursorStaysSpec)) cursorStaysUptoCard
end Rows
end Go.Proofs.YtknbfkmgoijncaaDoor
