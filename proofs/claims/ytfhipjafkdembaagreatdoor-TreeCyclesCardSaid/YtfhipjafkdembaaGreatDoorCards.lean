/-
  DERIVED. GIVEN WITH THE SEED: THE CARDS: each row of YtfhipjafkdembaaGreatDoorRows.lean that lists a variable, with what it lists TIED to the program's text (the seventh form; the later family's looks); each row that meets fmt, with fmt's text TOLD by the authors' own Lean function (tested against real Go, not proved from fmt's source: count such statements apart). THE CARD IS WHAT COUNTS. Prove the row's statement (the work); the ties are given (YtfhipjafkdembaaGreatDoorTie.lean); close each card by the builder's one call (the guide's Derived/Test/ToyasCard.lean, 'card_holds'). Laid BY PROGRAM, IN A SANDBOX (cutbox-door.mjs). By AI agents, Wed Nov 11 2026. No macro, syntax, notation, axiom, sorry.
-/
import Derived.Test.YtfhipjafkdembaaGreatDoorRows
import GoSem.ClaimSeven
namespace Go.Proofs.YtfhipjafkdembaaGreatDoor
namespace Rows

/-- THE TIED CARD OF 'ropewalklaw13.TreePlays'. -/
def treePlaysCard : Claim7 := { stood := { row := treePlaysRow, standIns := [], harness := (true, "9a2f90485e7a95bc69e87ccfea22dd83bfcb204ffc9f213d236ff6bcd91a71a6"), looks := true }, kinds := [], alts := [], laidByText := true, laidKinds := [.data, .pinned], laidTests := true, laidLooks := .later }
def TreePlaysCardSaid : Prop := Claim7.holds Tryz.pinned (.plain (OpenSpec.ofChange treePlaysSpec)) treePlaysCard

/-- THE TIED CARD OF 'ropewalklaw13.TreeApart'. -/
def treeApartCard : Claim7 := { stood := { row := treeApartRow, standIns := [], harness := (true, "9a2f90485e7a95bc69e87ccfea22dd83bfcb204ffc9f213d236ff6bcd91a71a6"), looks := true }, kinds := [], alts := [], laidByText := true, laidKinds := [.data, .pinned], laidTests := true, laidLooks := .later }
def TreeApartCardSaid : Prop := Claim7.holds Tryz.pinned (.plain (OpenSpec.ofChange treeApartSpec)) treeApartCard

/-- THE TIED CARD OF 'ropewalklaw13.TreeOrder'. -/
def treeOrderCard : Claim7 := { stood := { row := treeOrderRow, standIns := [], harness := (true, "9a2f90485e7a95bc69e87ccfea22dd83bfcb204ffc9f213d236ff6bcd91a71a6"), looks := true }, kinds := [], alts := [], laidByText := true, laidKinds := [.data, .pinned], laidTests := true, laidLooks := .later }
def TreeOrderCardSaid : Prop := Claim7.holds Tryz.pinned (.plain (OpenSpec.ofChange treeOrderSpec)) treeOrderCard

/-- THE TIED CARD OF 'ropewalklaw13.TreeCycles'. -/
def treeCyclesCard : Claim7 := { stood := { row := treeCyclesRow, standIns := [], harness := (true, "9a2f90485e7a95bc69e87ccfea22dd83bfcb204ffc9f213d236ff6bcd91a71a6"), looks := true }, kinds := [], alts := [], laidByText := true, laidKinds := [.data, .pinned], laidTests := true, laidLooks := .later }
def TreeCyclesCardSaid : Prop := Claim7.holds Tryz.pinned (.plain (OpenSpec.ofChange treeCyclesSpec)) treeCyclesCard

/-- THE TIED CARD OF 'ropewalklaw13.TreeLoads'. -/
def treeLoadsCard : Claim7 := { stood := { row := treeLoadsRow, standIns := [], harness := (true, "9a2f90485e7a95bc69e87ccfea22dd83bfcb204ffc9f213d236ff6bcd91a71a6"), looks := true }, kinds := [], alts := [], laidByText := true, laidKinds := [.data, .pinned], laidTests := true, laidLooks := .later }
def TreeLoadsCardSaid : Prop := Claim7.holds Tryz.pinned (.plain (OpenSpec.ofChange treeLoadsSpec)) treeLoadsCard

/-- THE TIED CARD OF 'ropewalklaw14.TxnLimits'. -/
def txnLimitsCard : Claim7 := { stood := { row := txnLimitsRow, standIns := [], harness := (true, "9a2f90485e7a95bc69e87ccfea22dd83bfcb204ffc9f213d236ff6bcd91a71a6"), looks := true }, kinds := [], alts := [], laidByText := true, laidKinds := [.data, .pinned], laidTests := true, laidLooks := .later }
def TxnLimitsCardSaid : Prop := Claim7.holds Tryz.pinned (.plain (OpenSpec.ofChange txnLimitsSpec)) txnLimitsCard

/-- THE TIED CARD OF 'ropewalklaw14.TxnAsks'. -/
def txnAsksCard : Claim7 := { stood := { row := txnAsksRow, standIns := [], harness := (true, "9a2f90485e7a95bc69e87ccfea22dd83bfcb204ffc9f213d236ff6bcd91a71a6"), looks := true }, kinds := [], alts := [], laidByText := true, laidKinds := [.data, .pinned], laidTests := true, laidLooks := .later }
def TxnAsksCardSaid : Prop := Claim7.holds Tryz.pinned (.plain (OpenSpec.ofChange txnAsksSpec)) txnAsksCard

/-- THE TIED CARD OF 'ropewalklaw14.TxnDoes'. -/
def txnDoesCard : Claim7 := { stood := { row := txnDoesRow, standIns := [], harness := (true, "9a2f90485e7a95bc69e87ccfea22dd83bfcb204ffc9f213d236ff6bcd91a71a6"), looks := true }, kinds := [], alts := [], laidByText := true, laidKinds := [.data, .pinned], laidTests := true, laidLooks := .later }
def TxnDoesCardSaid : Prop := Claim7.holds Tryz.pinned (.plain (OpenSpec.ofChange txnDoesSpec)) txnDoesCard

/-- THE TIED CARD OF 'ropewalklaw14.TxnTwo'. -/
def txnTwoCard : Claim7 := { stood := { row := txnTwoRow, standIns := [], harness := (true, "9a2f90485e7a95bc69e87ccfea22dd83bfcb204ffc9f213d236ff6bcd91a71a6"), looks := true }, kinds := [], alts := [], laidByText := true, laidKinds := [.data, .pinned], laidTests := true, laidLooks := .later }
def TxnTwoCardSaid : Prop := Claim7.holds Tryz.pinned (.plain (OpenSpec.ofChange txnTwoSpec)) txnTwoCard

/-- THE TIED CARD OF 'ropewalklaw14.TxnApart'. -/
def txnApartCard : Claim7 := { stood := { row := txnApartRow, standIns := [], harness := (true, "9a2f90485e7a95bc69e87ccfea22dd83bfcb204ffc9f213d236ff6bcd91a71a6"), looks := true }, kinds := [], alts := [], laidByText := true, laidKinds := [.data, .pinned], laidTests := true, laidLooks := .later }
def TxnApartCardSaid : Prop := Claim7.holds Tryz.pinned (.plain (OpenSpec.ofChange txnApartSpec)) txnApartCard

/-- THE SECOND FORM's CARD OF 'ropewalklaw13.TreePlays'. -/
def treePlaysUptoCard : Claim7 := { stood := { row := treePlaysUptoRow, standIns := [], harness := (true, "9a2f90485e7a95bc69e87ccfea22dd83bfcb204ffc9f213d236ff6bcd91a71a6"), looks := true }, kinds := [], alts := [], laidByText := true, laidKinds := [.data, .pinned], laidTests := true, laidLooks := .later }
def TreePlaysUptoCardSaid : Prop := Claim7.holds Tryz.pinned (.plain (OpenSpec.upto treePlaysSpec)) treePlaysUptoCard

/-- THE SECOND FORM's CARD OF 'ropewalklaw13.TreeApart'. -/
def treeApartUptoCard : Claim7 := { stood := { row := treeApartUptoRow, standIns := [], harness := (true, "9a2f90485e7a95bc69e87ccfea22dd83bfcb204ffc9f213d236ff6bcd91a71a6"), looks := true }, kinds := [], alts := [], laidByText := true, laidKinds := [.data, .pinned], laidTests := true, laidLooks := .later }
def TreeApartUptoCardSaid : Prop := Claim7.holds Tryz.pinned (.plain (OpenSpec.upto treeApartSpec)) treeApartUptoCard

/-- THE SECOND FORM's CARD OF 'ropewalklaw13.TreeOrder'. -/
def treeOrderUptoCard : Claim7 := { stood := { row := treeOrderUptoRow, standIns := [], harness := (true, "9a2f90485e7a95bc69e87ccfea22dd83bfcb204ffc9f213d236ff6bcd91a71a6"), looks := true }, kinds := [], alts := [], laidByText := true, laidKinds := [.data, .pinned], laidTests := true, laidLooks := .later }
def TreeOrderUptoCardSaid : Prop := Claim7.holds Tryz.pinned (.plain (OpenSpec.upto treeOrderSpec)) treeOrderUptoCard

/-- THE SECOND FORM's CARD OF 'ropewalklaw13.TreeCycles'. -/
def treeCyclesUptoCard : Claim7 := { stood := { row := treeCyclesUptoRow, standIns := [], harness := (true, "9a2f90485e7a95bc69e87ccfea22dd83bfcb204ffc9f213d236ff6bcd91a71a6"), looks := true }, kinds := [], alts := [], laidByText := true, laidKinds := [.data, .pinned], laidTests := true, laidLooks := .later }
def TreeCyclesUptoCardSaid : Prop := Claim7.holds Tryz.pinned (.plain (OpenSpec.upto treeCyclesSpec)) treeCyclesUptoCard

/-- THE SECOND FORM's CARD OF 'ropewalklaw13.TreeLoads'. -/
def treeLoadsUptoCard : Claim7 := { stood := { row := treeLoadsUptoRow, standIns := [], harness := (true, "9a2f90485e7a95bc69e87ccfea22dd83bfcb204ffc9f213d236ff6bcd91a71a6"), looks := true }, kinds := [], alts := [], laidByText := true, laidKinds := [.data, .pinned], laidTests := true, laidLooks := .later }
def TreeLoadsUptoCardSaid : Prop := Claim7.holds Tryz.pinned (.plain (OpenSpec.upto treeLoadsSpec)) treeLoadsUptoCard

/-- THE SECOND FORM's CARD OF 'ropewalklaw14.TxnLimits'. -/
def txnLimitsUptoCard : Claim7 := { stood := { row := txnLimitsUptoRow, standIns := [], harness := (true, "9a2f90485e7a95bc69e87ccfea22dd83bfcb204ffc9f213d236ff6bcd91a71a6"), looks := true }, kinds := [], alts := [], laidByText := true, laidKinds := [.data, .pinned], laidTests := true, laidLooks := .later }
def TxnLimitsUptoCardSaid : Prop := Claim7.holds Tryz.pinned (.plain (OpenSpec.upto txnLimitsSpec)) txnLimitsUptoCard

/-- THE SECOND FORM's CARD OF 'ropewalklaw14.TxnAsks'. -/
def txnAsksUptoCard : Claim7 := { stood := { row := txnAsksUptoRow, standIns := [], harness := (true, "9a2f90485e7a95bc69e87ccfea22dd83bfcb204ffc9f213d236ff6bcd91a71a6"), looks := true }, kinds := [], alts := [], laidByText := true, laidKinds := [.data, .pinned], laidTests := true, laidLooks := .later }
def TxnAsksUptoCardSaid : Prop := Claim7.holds Tryz.pinned (.plain (OpenSpec.upto txnAsksSpec)) txnAsksUptoCard

/-- THE SECOND FORM's CARD OF 'ropewalklaw14.TxnDoes'. -/
def txnDoesUptoCard : Claim7 := { stood := { row := txnDoesUptoRow, standIns := [], harness := (true, "9a2f90485e7a95bc69e87ccfea22dd83bfcb204ffc9f213d236ff6bcd91a71a6"), looks := true }, kinds := [], alts := [], laidByText := true, laidKinds := [.data, .pinned], laidTests := true, laidLooks := .later }
def TxnDoesUptoCardSaid : Prop := Claim7.holds Tryz.pinned (.plain (OpenSpec.upto txnDoesSpec)) txnDoesUptoCard

/-- THE SECOND FORM's CARD OF 'ropewalklaw14.TxnTwo'. -/
def txnTwoUptoCard : Claim7 := { stood := { row := txnTwoUptoRow, standIns := [], harness := (true, "9a2f90485e7a95bc69e87ccfea22dd83bfcb204ffc9f213d236ff6bcd91a71a6"), looks := true }, kinds := [], alts := [], laidByText := true, laidKinds := [.data, .pinned], laidTests := true, laidLooks := .later }
def TxnTwoUptoCardSaid : Prop := Claim7.holds Tryz.pinned (.plain (OpenSpec.upto txnTwoSpec)) txnTwoUptoCard

/-- THE SECOND FORM's CARD OF 'ropewalklaw14.TxnApart'. -/
def txnApartUptoCard : Claim7 := { stood := { row := txnApartUptoRow, standIns := [], harness := (true, "9a2f90485e7a95bc69e87ccfea22dd83bfcb204ffc9f213d236ff6bcd91a71a6"), looks := true }, kinds := [], alts := [], laidByText := true, laidKinds := [.data, .pinned], laidTests := true, laidLooks := .later }
def TxnApartUptoCardSaid : Prop := Claim7.holds Tryz.pinned (.plain (OpenSpec.upto txnApartSpec)) txnApartUptoCard
end Rows
end Go.Proofs.YtfhipjafkdembaaGreatDoor
