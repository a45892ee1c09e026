/-
  DERIVED. GIVEN WITH THE SEED: THE CARDS: each row of YtcdmabenopjbhaaDoorRows.lean that lists a variable, with what it lists TIED to the program's text (the seventh form; the later family's looks); each row that meets fmt, with fmt's text TOLD by the authors' own Lean function (tested against real Go, not proved from fmt's source: count such statements apart). THE CARD IS WHAT COUNTS. Prove the row's statement (the work); the ties are given (YtcdmabenopjbhaaDoorTie.lean); close each card by the builder's one call (the guide's Derived/Test/ToyasCard.lean, 'card_holds'). Laid BY PROGRAM, IN A SANDBOX (cutbox-door.mjs). By AI agents, Wed Nov 11 2026. No macro, syntax, notation, axiom, sorry.
-/
import Derived.Test.YtcdmabenopjbhaaDoorRows
import GoSem.ClaimSeven
namespace Go.Proofs.YtcdmabenopjbhaaDoor
namespace Rows

/-- THE TIED CARD OF 'ropewalklaw3.UtfForms'. -/
def utfFormsCard : Claim7 := { stood := { row := utfFormsRow, standIns := [], harness := (true, "7bd710c3a7de345373f4f559422ead5b78bf132e57686d78b89f9b30674efe01"), looks := false }, kinds := [], alts := [], laidByText := true, laidKinds := [.data, .pinned], laidTests := true, laidLooks := .later }
def UtfFormsCardSaid : Prop := Claim7.holds Tryd.pinned (.plain (OpenSpec.ofChange utfFormsSpec)) utfFormsCard

/-- THE TIED CARD OF 'ropewalklaw3.UtfAsks'. -/
def utfAsksCard : Claim7 := { stood := { row := utfAsksRow, standIns := [], harness := (true, "7bd710c3a7de345373f4f559422ead5b78bf132e57686d78b89f9b30674efe01"), looks := false }, kinds := [], alts := [], laidByText := true, laidKinds := [.data, .pinned], laidTests := true, laidLooks := .later }
def UtfAsksCardSaid : Prop := Claim7.holds Tryd.pinned (.plain (OpenSpec.ofChange utfAsksSpec)) utfAsksCard

/-- THE TIED CARD OF 'ropewalklaw3.UtfBack'. -/
def utfBackCard : Claim7 := { stood := { row := utfBackRow, standIns := [], harness := (true, "7bd710c3a7de345373f4f559422ead5b78bf132e57686d78b89f9b30674efe01"), looks := false }, kinds := [], alts := [], laidByText := true, laidKinds := [.data, .pinned], laidTests := true, laidLooks := .later }
def UtfBackCardSaid : Prop := Claim7.holds Tryd.pinned (.plain (OpenSpec.ofChange utfBackSpec)) utfBackCard

/-- THE TIED CARD OF 'ropewalklaw3.UtfPieces'. -/
def utfPiecesCard : Claim7 := { stood := { row := utfPiecesRow, standIns := [], harness := (true, "7bd710c3a7de345373f4f559422ead5b78bf132e57686d78b89f9b30674efe01"), looks := false }, kinds := [], alts := [], laidByText := true, laidKinds := [.data, .pinned], laidTests := true, laidLooks := .later }
def UtfPiecesCardSaid : Prop := Claim7.holds Tryd.pinned (.plain (OpenSpec.ofChange utfPiecesSpec)) utfPiecesCard

/-- THE TIED CARD OF 'ropewalklaw7.OpOf'. -/
def opOfCard : Claim7 := { stood := { row := opOfRow, standIns := [], harness := (true, "7bd710c3a7de345373f4f559422ead5b78bf132e57686d78b89f9b30674efe01"), looks := false }, kinds := [], alts := [], laidByText := true, laidKinds := [.data, .pinned], laidTests := true, laidLooks := .later }
def OpOfCardSaid : Prop := Claim7.holds Tryd.pinned (.plain (OpenSpec.ofChange opOfSpec)) opOfCard

/-- THE TIED CARD OF 'ropewalklaw7.OpLimits'. -/
def opLimitsCard : Claim7 := { stood := { row := opLimitsRow, standIns := [], harness := (true, "7bd710c3a7de345373f4f559422ead5b78bf132e57686d78b89f9b30674efe01"), looks := false }, kinds := [], alts := [], laidByText := true, laidKinds := [.data, .pinned], laidTests := true, laidLooks := .later }
def OpLimitsCardSaid : Prop := Claim7.holds Tryd.pinned (.plain (OpenSpec.ofChange opLimitsSpec)) opLimitsCard

/-- THE TIED CARD OF 'ropewalklaw7.OpNormal'. -/
def opNormalCard : Claim7 := { stood := { row := opNormalRow, standIns := [], harness := (true, "7bd710c3a7de345373f4f559422ead5b78bf132e57686d78b89f9b30674efe01"), looks := false }, kinds := [], alts := [], laidByText := true, laidKinds := [.data, .pinned], laidTests := true, laidLooks := .later }
def OpNormalCardSaid : Prop := Claim7.holds Tryd.pinned (.plain (OpenSpec.ofChange opNormalSpec)) opNormalCard

/-- THE SECOND FORM's CARD OF 'ropewalklaw3.UtfForms'. -/
def utfFormsUptoCard : Claim7 := { stood := { row := utfFormsUptoRow, standIns := [], harness := (true, "7bd710c3a7de345373f4f559422ead5b78bf132e57686d78b89f9b30674efe01"), looks := false }, kinds := [], alts := [], laidByText := true, laidKinds := [.data, .pinned], laidTests := true, laidLooks := .later }
def UtfFormsUptoCardSaid : Prop := Claim7.holds Tryd.pinned (.plain (OpenSpec.upto utfFormsSpec)) utfFormsUptoCard

/-- THE SECOND FORM's CARD OF 'ropewalklaw3.UtfAsks'. -/
def utfAsksUptoCard : Claim7 := { stood := { row := utfAsksUptoRow, standIns := [], harness := (true, "7bd710c3a7de345373f4f559422ead5b78bf132e57686d78b89f9b30674efe01"), looks := false }, kinds := [], alts := [], laidByText := true, laidKinds := [.data, .pinned], laidTests := true, laidLooks := .later }
def UtfAsksUptoCardSaid : Prop := Claim7.holds Tryd.pinned (.plain (OpenSpec.upto utfAsksSpec)) utfAsksUptoCard

/-- THE SECOND FORM's CARD OF 'ropewalklaw3.UtfBack'. -/
def utfBackUptoCard : Claim7 := { stood := { row := utfBackUptoRow, standIns := [], harness := (true, "7bd710c3a7de345373f4f559422ead5b78bf132e57686d78b89f9b30674efe01"), looks := false }, kinds := [], alts := [], laidByText := true, laidKinds := [.data, .pinned], laidTests := true, laidLooks := .later }
def UtfBackUptoCardSaid : Prop := Claim7.holds Tryd.pinned (.plain (OpenSpec.upto utfBackSpec)) utfBackUptoCard

/-- THE SECOND FORM's CARD OF 'ropewalklaw3.UtfPieces'. -/
def utfPiecesUptoCard : Claim7 := { stood := { row := utfPiecesUptoRow, standIns := [], harness := (true, "7bd710c3a7de345373f4f559422ead5b78bf132e57686d78b89f9b30674efe01"), looks := false }, kinds := [], alts := [], laidByText := true, laidKinds := [.data, .pinned], laidTests := true, laidLooks := .later }
def UtfPiecesUptoCardSaid : Prop := Claim7.holds Tryd.pinned (.plain (OpenSpec.upto utfPiecesSpec)) utfPiecesUptoCard

/-- THE SECOND FORM's CARD OF 'ropewalklaw7.OpOf'. -/
def opOfUptoCard : Claim7 := { stood := { row := opOfUptoRow, standIns := [], harness := (true, "7bd710c3a7de345373f4f559422ead5b78bf132e57686d78b89f9b30674efe01"), looks := false }, kinds := [], alts := [], laidByText := true, laidKinds := [.data, .pinned], laidTests := true, laidLooks := .later }
def OpOfUptoCardSaid : Prop := Claim7.holds Tryd.pinned (.plain (OpenSpec.upto opOfSpec)) opOfUptoCard

/-- THE SECOND FORM's CARD OF 'ropewalklaw7.OpLimits'. -/
def opLimitsUptoCard : Claim7 := { stood := { row := opLimitsUptoRow, standIns := [], harness := (true, "7bd710c3a7de345373f4f559422ead5b78bf132e57686d78b89f9b30674efe01"), looks := false }, kinds := [], alts := [], laidByText := true, laidKinds := [.data, .pinned], laidTests := true, laidLooks := .later }
def OpLimitsUptoCardSaid : Prop := Claim7.holds Tryd.pinned (.plain (OpenSpec.upto opLimitsSpec)) opLimitsUptoCard

/-- THE SECOND FORM's CARD OF 'ropewalklaw7.OpNormal'. -/
def opNormalUptoCard : Claim7 := { stood := { row := opNormalUptoRow, standIns := [], harness := (true, "7bd710c3a7de345373f4f559422ead5b78bf132e57686d78b89f9b30674efe01"), looks := false }, kinds := [], alts := [], laidByText := true, laidKinds := [.data, .pinned], laidTests := true, laidLooks := .later }
def OpNormalUptoCardSaid : Prop := Claim7.holds Tryd.pinned (.plain (OpenSpec.upto opNormalSpec)) opNormalUptoCard
end Rows
end Go.Proofs.YtcdmabenopjbhaaDoor
