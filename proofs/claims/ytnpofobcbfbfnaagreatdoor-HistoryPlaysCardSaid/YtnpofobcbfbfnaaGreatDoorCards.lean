/-
  DERIVED. GIVEN WITH THE SEED: THE CARDS: each row of YtnpofobcbfbfnaaGreatDoorRows.lean that lists a variable, with what it lists TIED to the program's text (the seventh form; the later family's looks); each row that meets fmt, with fmt's text TOLD by the authors' own Lean function (tested against real Go, not proved from fmt's source: count such statements apart). THE CARD IS WHAT COUNTS. Prove the row's statement (the work); the ties are given (YtnpofobcbfbfnaaGreatDoorTie.lean); close each card by the builder's one call (the guide's Derived/Test/ToyasCard.lean, 'card_holds'). Laid BY PROGRAM, IN A SANDBOX (cutbox-door.mjs). By AI agents, Wed Nov 11 2026. No macro, syntax, notation, axiom, sorry.
-/
import Derived.Test.YtnpofobcbfbfnaaGreatDoorRows
import GoSem.ClaimSeven
namespace Go.Proofs.YtnpofobcbfbfnaaGreatDoor
namespace Rows

/-- THE TIED CARD OF 'ropewalklaw17.HistoryTrims'. -/
def historyTrimsCard : Claim7 := { stood := { row := historyTrimsRow, standIns := [], harness := (true, "1b28a05842dfbf06627e4cd51b68b43cdad6f2a2cc9bdb9dede3c8a7c67bf71d"), looks := true }, kinds := [], alts := [], laidByText := true, laidKinds := [.data, .pinned], laidTests := true, laidLooks := .later }
def HistoryTrimsCardSaid : Prop := Claim7.holds Tryz.pinned (.plain (OpenSpec.ofChange historyTrimsSpec)) historyTrimsCard

/-- THE TIED CARD OF 'ropewalklaw17.HistoryFolds'. -/
def historyFoldsCard : Claim7 := { stood := { row := historyFoldsRow, standIns := [], harness := (true, "1b28a05842dfbf06627e4cd51b68b43cdad6f2a2cc9bdb9dede3c8a7c67bf71d"), looks := true }, kinds := [], alts := [], laidByText := true, laidKinds := [.data, .pinned], laidTests := true, laidLooks := .later }
def HistoryFoldsCardSaid : Prop := Claim7.holds Tryz.pinned (.plain (OpenSpec.ofChange historyFoldsSpec)) historyFoldsCard

/-- THE TIED CARD OF 'ropewalklaw17.HistoryApart'. -/
def historyApartCard : Claim7 := { stood := { row := historyApartRow, standIns := [], harness := (true, "1b28a05842dfbf06627e4cd51b68b43cdad6f2a2cc9bdb9dede3c8a7c67bf71d"), looks := true }, kinds := [], alts := [], laidByText := true, laidKinds := [.data, .pinned], laidTests := true, laidLooks := .later }
def HistoryApartCardSaid : Prop := Claim7.holds Tryz.pinned (.plain (OpenSpec.ofChange historyApartSpec)) historyApartCard

/-- THE TIED CARD OF 'ropewalklaw17.HistoryPlays'. -/
def historyPlaysCard : Claim7 := { stood := { row := historyPlaysRow, standIns := [], harness := (true, "1b28a05842dfbf06627e4cd51b68b43cdad6f2a2cc9bdb9dede3c8a7c67bf71d"), looks := true }, kinds := [], alts := [], laidByText := true, laidKinds := [.data, .pinned], laidTests := true, laidLooks := .later }
def HistoryPlaysCardSaid : Prop := Claim7.holds Tryz.pinned (.plain (OpenSpec.ofChange historyPlaysSpec)) historyPlaysCard

/-- THE SECOND FORM's CARD OF 'ropewalklaw17.HistoryTrims'. -/
def historyTrimsUptoCard : Claim7 := { stood := { row := historyTrimsUptoRow, standIns := [], harness := (true, "1b28a05842dfbf06627e4cd51b68b43cdad6f2a2cc9bdb9dede3c8a7c67bf71d"), looks := true }, kinds := [], alts := [], laidByText := true, laidKinds := [.data, .pinned], laidTests := true, laidLooks := .later }
def HistoryTrimsUptoCardSaid : Prop := Claim7.holds Tryz.pinned (.plain (OpenSpec.upto historyTrimsSpec)) historyTrimsUptoCard

/-- THE SECOND FORM's CARD OF 'ropewalklaw17.HistoryFolds'. -/
def historyFoldsUptoCard : Claim7 := { stood := { row := historyFoldsUptoRow, standIns := [], harness := (true, "1b28a05842dfbf06627e4cd51b68b43cdad6f2a2cc9bdb9dede3c8a7c67bf71d"), looks := true }, kinds := [], alts := [], laidByText := true, laidKinds := [.data, .pinned], laidTests := true, laidLooks := .later }
def HistoryFoldsUptoCardSaid : Prop := Claim7.holds Tryz.pinned (.plain (OpenSpec.upto historyFoldsSpec)) historyFoldsUptoCard

/-- THE SECOND FORM's CARD OF 'ropewalklaw17.HistoryApart'. -/
def historyApartUptoCard : Claim7 := { stood := { row := historyApartUptoRow, standIns := [], harness := (true, "1b28a05842dfbf06627e4cd51b68b43cdad6f2a2cc9bdb9dede3c8a7c67bf71d"), looks := true }, kinds := [], alts := [], laidByText := true, laidKinds := [.data, .pinned], laidTests := true, laidLooks := .later }
def HistoryApartUptoCardSaid : Prop := Claim7.holds Tryz.pinned (.plain (OpenSpec.upto historyApartSpec)) historyApartUptoCard

/-- THE SECOND FORM's CARD OF 'ropewalklaw17.HistoryPlays'. -/
def historyPlaysUptoCard : Claim7 := { stood := { row := historyPlaysUptoRow, standIns := [], harness := (true, "1b28a05842dfbf06627e4cd51b68b43cdad6f2a2cc9bdb9dede3c8a7c67bf71d"), looks := true }, kinds := [], alts := [], laidByText := true, laidKinds := [.data, .pinned], laidTests := true, laidLooks := .later }
def HistoryPlaysUptoCardSaid : Prop := Claim7.holds Tryz.pinned (.plain (OpenSpec.upto historyPlaysSpec)) historyPlaysUptoCard
end Rows
end Go.Proofs.YtnpofobcbfbfnaaGreatDoor
