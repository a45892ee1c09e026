/-
  DERIVED. GIVEN WITH THE SEED: THE CARDS: each row of YtmenbocckhbdjaaDoorRows.lean that lists a variable, with what it lists TIED to the program's text (the seventh form; the later family's looks); each row that meets fmt, with fmt's text TOLD by the authors' own Lean function (tested against real Go, not proved from fmt's source: count such statements apart). THE CARD IS WHAT COUNTS. Prove the row's statement (the work); the ties are given (YtmenbocckhbdjaaDoorTie.lean); close each card by the builder's one call (the guide's Derived/Test/ToyasCard.lean, 'card_holds'). Laid BY PROGRAM, IN A SANDBOX (cutbox-door.mjs). By AI agents, Wed Nov 11 2026. No macro, syntax, notation, axiom, sorry.
-/
import Derived.Test.YtmenbocckhbdjaaDoorRows
import GoSem.ClaimSeven
namespace Go.Proofs.YtmenbocckhbdjaaDoor
namespace Rows

/-- THE TIED CARD OF 'ropewalklaw8.ApplyKeeps'. -/
def applyKeepsCard : Claim7 := { stood := { row := applyKeepsRow, standIns := [], harness := (true, "3664115ad78d4aeeb7a42f7ab015a7544262788c31b124ec63aaa3a06cce64e7"), looks := false }, kinds := [], alts := [], laidByText := true, laidKinds := [.data, .pinned], laidTests := true, laidLooks := .later }
def ApplyKeepsCardSaid : Prop := Claim7.holds Tryd.pinned (.plain (OpenSpec.ofChange applyKeepsSpec)) applyKeepsCard

/-- THE TIED CARD OF 'ropewalklaw8.ApplyDiffs'. -/
def applyDiffsCard : Claim7 := { stood := { row := applyDiffsRow, standIns := [], harness := (true, "3664115ad78d4aeeb7a42f7ab015a7544262788c31b124ec63aaa3a06cce64e7"), looks := false }, kinds := [], alts := [], laidByText := true, laidKinds := [.data, .pinned], laidTests := true, laidLooks := .later }
def ApplyDiffsCardSaid : Prop := Claim7.holds Tryd.pinned (.plain (OpenSpec.ofChange applyDiffsSpec)) applyDiffsCard

/-- THE TIED CARD OF 'ropewalklaw8.ApplyAsks'. -/
def applyAsksCard : Claim7 := { stood := { row := applyAsksRow, standIns := [], harness := (true, "3664115ad78d4aeeb7a42f7ab015a7544262788c31b124ec63aaa3a06cce64e7"), looks := false }, kinds := [], alts := [], laidByText := true, laidKinds := [.data, .pinned], laidTests := true, laidLooks := .later }
def ApplyAsksCardSaid : Prop := Claim7.holds Tryd.pinned (.plain (OpenSpec.ofChange applyAsksSpec)) applyAsksCard

/-- THE TIED CARD OF 'ropewalklaw8.ApplyBack'. -/
def applyBackCard : Claim7 := { stood := { row := applyBackRow, standIns := [], harness := (true, "3664115ad78d4aeeb7a42f7ab015a7544262788c31b124ec63aaa3a06cce64e7"), looks := false }, kinds := [], alts := [], laidByText := true, laidKinds := [.data, .pinned], laidTests := true, laidLooks := .later }
def ApplyBackCardSaid : Prop := Claim7.holds Tryd.pinned (.plain (OpenSpec.ofChange applyBackSpec)) applyBackCard

/-- THE TIED CARD OF 'ropewalklaw9.ComposeAsks'. -/
def composeAsksCard : Claim7 := { stood := { row := composeAsksRow, standIns := [], harness := (true, "3664115ad78d4aeeb7a42f7ab015a7544262788c31b124ec63aaa3a06cce64e7"), looks := false }, kinds := [], alts := [], laidByText := true, laidKinds := [.data, .pinned], laidTests := true, laidLooks := .later }
def ComposeAsksCardSaid : Prop := Claim7.holds Tryd.pinned (.plain (OpenSpec.ofChange composeAsksSpec)) composeAsksCard

/-- THE TIED CARD OF 'ropewalklaw9.ComposeDoes'. -/
def composeDoesCard : Claim7 := { stood := { row := composeDoesRow, standIns := [], harness := (true, "3664115ad78d4aeeb7a42f7ab015a7544262788c31b124ec63aaa3a06cce64e7"), looks := false }, kinds := [], alts := [], laidByText := true, laidKinds := [.data, .pinned], laidTests := true, laidLooks := .later }
def ComposeDoesCardSaid : Prop := Claim7.holds Tryd.pinned (.plain (OpenSpec.ofChange composeDoesSpec)) composeDoesCard

/-- THE TIED CARD OF 'ropewalklaw9.ComposeRow'. -/
def composeRowCard : Claim7 := { stood := { row := composeRowRow, standIns := [], harness := (true, "3664115ad78d4aeeb7a42f7ab015a7544262788c31b124ec63aaa3a06cce64e7"), looks := false }, kinds := [], alts := [], laidByText := true, laidKinds := [.data, .pinned], laidTests := true, laidLooks := .later }
def ComposeRowCardSaid : Prop := Claim7.holds Tryd.pinned (.plain (OpenSpec.ofChange composeRowSpec)) composeRowCard

/-- THE TIED CARD OF 'ropewalklaw9.ComposeUndo'. -/
def composeUndoCard : Claim7 := { stood := { row := composeUndoRow, standIns := [], harness := (true, "3664115ad78d4aeeb7a42f7ab015a7544262788c31b124ec63aaa3a06cce64e7"), looks := false }, kinds := [], alts := [], laidByText := true, laidKinds := [.data, .pinned], laidTests := true, laidLooks := .later }
def ComposeUndoCardSaid : Prop := Claim7.holds Tryd.pinned (.plain (OpenSpec.ofChange composeUndoSpec)) composeUndoCard

/-- THE TIED CARD OF 'ropewalklaw10.XformAsks'. -/
def xformAsksCard : Claim7 := { stood := { row := xformAsksRow, standIns := [], harness := (true, "3664115ad78d4aeeb7a42f7ab015a7544262788c31b124ec63aaa3a06cce64e7"), looks := false }, kinds := [], alts := [], laidByText := true, laidKinds := [.data, .pinned], laidTests := true, laidLooks := .later }
def XformAsksCardSaid : Prop := Claim7.holds Tryd.pinned (.plain (OpenSpec.ofChange xformAsksSpec)) xformAsksCard

/-- THE TIED CARD OF 'ropewalklaw10.XformMeets'. -/
def xformMeetsCard : Claim7 := { stood := { row := xformMeetsRow, standIns := [], harness := (true, "3664115ad78d4aeeb7a42f7ab015a7544262788c31b124ec63aaa3a06cce64e7"), looks := false }, kinds := [], alts := [], laidByText := true, laidKinds := [.data, .pinned], laidTests := true, laidLooks := .later }
def XformMeetsCardSaid : Prop := Claim7.holds Tryd.pinned (.plain (OpenSpec.ofChange xformMeetsSpec)) xformMeetsCard

/-- THE TIED CARD OF 'ropewalklaw10.XformKeeps'. -/
def xformKeepsCard : Claim7 := { stood := { row := xformKeepsRow, standIns := [], harness := (true, "3664115ad78d4aeeb7a42f7ab015a7544262788c31b124ec63aaa3a06cce64e7"), looks := false }, kinds := [], alts := [], laidByText := true, laidKinds := [.data, .pinned], laidTests := true, laidLooks := .later }
def XformKeepsCardSaid : Prop := Claim7.holds Tryd.pinned (.plain (OpenSpec.ofChange xformKeepsSpec)) xformKeepsCard

/-- THE TIED CARD OF 'ropewalklaw10.XformMany'. -/
def xformManyCard : Claim7 := { stood := { row := xformManyRow, standIns := [], harness := (true, "3664115ad78d4aeeb7a42f7ab015a7544262788c31b124ec63aaa3a06cce64e7"), looks := false }, kinds := [], alts := [], laidByText := true, laidKinds := [.data, .pinned], laidTests := true, laidLooks := .later }
def XformManyCardSaid : Prop := Claim7.holds Tryd.pinned (.plain (OpenSpec.ofChange xformManySpec)) xformManyCard

/-- THE TIED CARD OF 'ropewalklaw10.XformNone'. -/
def xformNoneCard : Claim7 := { stood := { row := xformNoneRow, standIns := [], harness := (true, "3664115ad78d4aeeb7a42f7ab015a7544262788c31b124ec63aaa3a06cce64e7"), looks := false }, kinds := [], alts := [], laidByText := true, laidKinds := [.data, .pinned], laidTests := true, laidLooks := .later }
def XformNoneCardSaid : Prop := Claim7.holds Tryd.pinned (.plain (OpenSpec.ofChange xformNoneSpec)) xformNoneCard

/-- THE SECOND FORM's CARD OF 'ropewalklaw8.ApplyKeeps'. -/
def applyKeepsUptoCard : Claim7 := { stood := { row := applyKeepsUptoRow, standIns := [], harness := (true, "3664115ad78d4aeeb7a42f7ab015a7544262788c31b124ec63aaa3a06cce64e7"), looks := false }, kinds := [], alts := [], laidByText := true, laidKinds := [.data, .pinned], laidTests := true, laidLooks := .later }
def ApplyKeepsUptoCardSaid : Prop := Claim7.holds Tryd.pinned (.plain (OpenSpec.upto applyKeepsSpec)) applyKeepsUptoCard

/-- THE SECOND FORM's CARD OF 'ropewalklaw8.ApplyDiffs'. -/
def applyDiffsUptoCard : Claim7 := { stood := { row := applyDiffsUptoRow, standIns := [], harness := (true, "3664115ad78d4aeeb7a42f7ab015a7544262788c31b124ec63aaa3a06cce64e7"), looks := false }, kinds := [], alts := [], laidByText := true, laidKinds := [.data, .pinned], laidTests := true, laidLooks := .later }
def ApplyDiffsUptoCardSaid : Prop := Claim7.holds Tryd.pinned (.plain (OpenSpec.upto applyDiffsSpec)) applyDiffsUptoCard

/-- THE SECOND FORM's CARD OF 'ropewalklaw8.ApplyAsks'. -/
def applyAsksUptoCard : Claim7 := { stood := { row := applyAsksUptoRow, standIns := [], harness := (true, "3664115ad78d4aeeb7a42f7ab015a7544262788c31b124ec63aaa3a06cce64e7"), looks := false }, kinds := [], alts := [], laidByText := true, laidKinds := [.data, .pinned], laidTests := true, laidLooks := .later }
def ApplyAsksUptoCardSaid : Prop := Claim7.holds Tryd.pinned (.plain (OpenSpec.upto applyAsksSpec)) applyAsksUptoCard

/-- THE SECOND FORM's CARD OF 'ropewalklaw8.ApplyBack'. -/
def applyBackUptoCard : Claim7 := { stood := { row := applyBackUptoRow, standIns := [], harness := (true, "3664115ad78d4aeeb7a42f7ab015a7544262788c31b124ec63aaa3a06cce64e7"), looks := false }, kinds := [], alts := [], laidByText := true, laidKinds := [.data, .pinned], laidTests := true, laidLooks := .later }
def ApplyBackUptoCardSaid : Prop := Claim7.holds Tryd.pinned (.plain (OpenSpec.upto applyBackSpec)) applyBackUptoCard

/-- THE SECOND FORM's CARD OF 'ropewalklaw9.ComposeAsks'. -/
def composeAsksUptoCard : Claim7 := { stood := { row := composeAsksUptoRow, standIns := [], harness := (true, "3664115ad78d4aeeb7a42f7ab015a7544262788c31b124ec63aaa3a06cce64e7"), looks := false }, kinds := [], alts := [], laidByText := true, laidKinds := [.data, .pinned], laidTests := true, laidLooks := .later }
def ComposeAsksUptoCardSaid : Prop := Claim7.holds Tryd.pinned (.plain (OpenSpec.upto composeAsksSpec)) composeAsksUptoCard

/-- THE SECOND FORM's CARD OF 'ropewalklaw9.ComposeDoes'. -/
def composeDoesUptoCard : Claim7 := { stood := { row := composeDoesUptoRow, standIns := [], harness := (true, "3664115ad78d4aeeb7a42f7ab015a7544262788c31b124ec63aaa3a06cce64e7"), looks := false }, kinds := [], alts := [], laidByText := true, laidKinds := [.data, .pinned], laidTests := true, laidLooks := .later }
def ComposeDoesUptoCardSaid : Prop := Claim7.holds Tryd.pinned (.plain (OpenSpec.upto composeDoesSpec)) composeDoesUptoCard

/-- THE SECOND FORM's CARD OF 'ropewalklaw9.ComposeRow'. -/
def composeRowUptoCard : Claim7 := { stood := { row := composeRowUptoRow, standIns := [], harness := (true, "3664115ad78d4aeeb7a42f7ab015a7544262788c31b124ec63aaa3a06cce64e7"), looks := false }, kinds := [], alts := [], laidByText := true, laidKinds := [.data, .pinned], laidTests := true, laidLooks := .later }
def ComposeRowUptoCardSaid : Prop := Claim7.holds Tryd.pinned (.plain (OpenSpec.upto composeRowSpec)) composeRowUptoCard

/-- THE SECOND FORM's CARD OF 'ropewalklaw9.ComposeUndo'. -/
def composeUndoUptoCard : Claim7 := { stood := { row := composeUndoUptoRow, standIns := [], harness := (true, "3664115ad78d4aeeb7a42f7ab015a7544262788c31b124ec63aaa3a06cce64e7"), looks := false }, kinds := [], alts := [], laidByText := true, laidKinds := [.data, .pinned], laidTests := true, laidLooks := .later }
def ComposeUndoUptoCardSaid : Prop := Claim7.holds Tryd.pinned (.plain (OpenSpec.upto composeUndoSpec)) composeUndoUptoCard

/-- THE SECOND FORM's CARD OF 'ropewalklaw10.XformAsks'. -/
def xformAsksUptoCard : Claim7 := { stood := { row := xformAsksUptoRow, standIns := [], harness := (true, "3664115ad78d4aeeb7a42f7ab015a7544262788c31b124ec63aaa3a06cce64e7"), looks := false }, kinds := [], alts := [], laidByText := true, laidKinds := [.data, .pinned], laidTests := true, laidLooks := .later }
def XformAsksUptoCardSaid : Prop := Claim7.holds Tryd.pinned (.plain (OpenSpec.upto xformAsksSpec)) xformAsksUptoCard

/-- THE SECOND FORM's CARD OF 'ropewalklaw10.XformMeets'. -/
def xformMeetsUptoCard : Claim7 := { stood := { row := xformMeetsUptoRow, standIns := [], harness := (true, "3664115ad78d4aeeb7a42f7ab015a7544262788c31b124ec63aaa3a06cce64e7"), looks := false }, kinds := [], alts := [], laidByText := true, laidKinds := [.data, .pinned], laidTests := true, laidLooks := .later }
def XformMeetsUptoCardSaid : Prop := Claim7.holds Tryd.pinned (.plain (OpenSpec.upto xformMeetsSpec)) xformMeetsUptoCard

/-- THE SECOND FORM's CARD OF 'ropewalklaw10.XformKeeps'. -/
def xformKeepsUptoCard : Claim7 := { stood := { row := xformKeepsUptoRow, standIns := [], harness := (true, "3664115ad78d4aeeb7a42f7ab015a7544262788c31b124ec63aaa3a06cce64e7"), looks := false }, kinds := [], alts := [], laidByText := true, laidKinds := [.data, .pinned], laidTests := true, laidLooks := .later }
def XformKeepsUptoCardSaid : Prop := Claim7.holds Tryd.pinned (.plain (OpenSpec.upto xformKeepsSpec)) xformKeepsUptoCard

/-- THE SECOND FORM's CARD OF 'ropewalklaw10.XformMany'. -/
def xformManyUptoCard : Claim7 := { stood := { row := xformManyUptoRow, standIns := [], harness := (true, "3664115ad78d4aeeb7a42f7ab015a7544262788c31b124ec63aaa3a06cce64e7"), looks := false }, kinds := [], alts := [], laidByText := true, laidKinds := [.data, .pinned], laidTests := true, laidLooks := .later }
def XformManyUptoCardSaid : Prop := Claim7.holds Tryd.pinned (.plain (OpenSpec.upto xformManySpec)) xformManyUptoCard

/-- THE SECOND FORM's CARD OF 'ropewalklaw10.XformNone'. -/
def xformNoneUptoCard : Claim7 := { stood := { row := xformNoneUptoRow, standIns := [], harness := (true, "3664115ad78d4aeeb7a42f7ab015a7544262788c31b124ec63aaa3a06cce64e7"), looks := false }, kinds := [], alts := [], laidByText := true, laidKinds := [.data, .pinned], laidTests := true, laidLooks := .later }
def XformNoneUptoCardSaid : Prop := Claim7.holds Tryd.pinned (.plain (OpenSpec.upto xformNoneSpec)) xformNoneUptoCard
end Rows
end Go.Proofs.YtmenbocckhbdjaaDoor
