/-
  DERIVED. GIVEN WITH THE SEED: THE CARDS: each row of YtmhpninemdmbkaaGreatDoorRows.lean that lists a variable, with what it lists TIED to the program's text (the seventh form; the later family's looks); each row that meets fmt, with fmt's text TOLD by the authors' own Lean function (tested against real Go, not proved from fmt's source: count such statements apart). THE CARD IS WHAT COUNTS. Prove the row's statement (the work); the ties are given (YtmhpninemdmbkaaGreatDoorTie.lean); close each card by the builder's one call (the guide's Derived/Test/ToyasCard.lean, 'card_holds'). Laid BY PROGRAM, IN A SANDBOX (cutbox-door.mjs). By AI agents, Wed Nov 11 2026. No macro, syntax, notation, axiom, sorry.
-/
import Derived.Test.YtmhpninemdmbkaaGreatDoorRows
import GoSem.ClaimSeven
namespace Go.Proofs.YtmhpninemdmbkaaGreatDoor
namespace Rows

/-- THE TIED CARD OF 'ropewalklaw16.RebaseApart'. -/
def rebaseApartCard : Claim7 := { stood := { row := rebaseApartRow, standIns := [], harness := (true, "99f0e025a0cb67df6153a958622706ce2fd3ef23ad3a45ec4df2760b93dbd94a"), looks := false }, kinds := [], alts := [], laidByText := true, laidKinds := [.data, .pinned], laidTests := true, laidLooks := .later }
def RebaseApartCardSaid : Prop := Claim7.holds Tryz.pinned (.plain (OpenSpec.ofChange rebaseApartSpec)) rebaseApartCard

/-- THE TIED CARD OF 'ropewalklaw16.RebaseMeets'. -/
def rebaseMeetsCard : Claim7 := { stood := { row := rebaseMeetsRow, standIns := [], harness := (true, "99f0e025a0cb67df6153a958622706ce2fd3ef23ad3a45ec4df2760b93dbd94a"), looks := false }, kinds := [], alts := [], laidByText := true, laidKinds := [.data, .pinned], laidTests := true, laidLooks := .later }
def RebaseMeetsCardSaid : Prop := Claim7.holds Tryz.pinned (.plain (OpenSpec.ofChange rebaseMeetsSpec)) rebaseMeetsCard

/-- THE TIED CARD OF 'ropewalklaw16.RebaseAsks'. -/
def rebaseAsksCard : Claim7 := { stood := { row := rebaseAsksRow, standIns := [], harness := (true, "99f0e025a0cb67df6153a958622706ce2fd3ef23ad3a45ec4df2760b93dbd94a"), looks := false }, kinds := [], alts := [], laidByText := true, laidKinds := [.data, .pinned], laidTests := true, laidLooks := .later }
def RebaseAsksCardSaid : Prop := Claim7.holds Tryz.pinned (.plain (OpenSpec.ofChange rebaseAsksSpec)) rebaseAsksCard

/-- THE TIED CARD OF 'ropewalklaw16.RebaseRow'. -/
def rebaseRowCard : Claim7 := { stood := { row := rebaseRowRow, standIns := [], harness := (true, "99f0e025a0cb67df6153a958622706ce2fd3ef23ad3a45ec4df2760b93dbd94a"), looks := false }, kinds := [], alts := [], laidByText := true, laidKinds := [.data, .pinned], laidTests := true, laidLooks := .later }
def RebaseRowCardSaid : Prop := Claim7.holds Tryz.pinned (.plain (OpenSpec.ofChange rebaseRowSpec)) rebaseRowCard

/-- THE TIED CARD OF 'ropewalklaw16.RebaseIdle'. -/
def rebaseIdleCard : Claim7 := { stood := { row := rebaseIdleRow, standIns := [], harness := (true, "99f0e025a0cb67df6153a958622706ce2fd3ef23ad3a45ec4df2760b93dbd94a"), looks := false }, kinds := [], alts := [], laidByText := true, laidKinds := [.data, .pinned], laidTests := true, laidLooks := .later }
def RebaseIdleCardSaid : Prop := Claim7.holds Tryz.pinned (.plain (OpenSpec.ofChange rebaseIdleSpec)) rebaseIdleCard

/-- THE SECOND FORM's CARD OF 'ropewalklaw16.RebaseApart'. -/
def rebaseApartUptoCard : Claim7 := { stood := { row := rebaseApartUptoRow, standIns := [], harness := (true, "99f0e025a0cb67df6153a958622706ce2fd3ef23ad3a45ec4df2760b93dbd94a"), looks := false }, kinds := [], alts := [], laidByText := true, laidKinds := [.data, .pinned], laidTests := true, laidLooks := .later }
def RebaseApartUptoCardSaid : Prop := Claim7.holds Tryz.pinned (.plain (OpenSpec.upto rebaseApartSpec)) rebaseApartUptoCard

/-- THE SECOND FORM's CARD OF 'ropewalklaw16.RebaseMeets'. -/
def rebaseMeetsUptoCard : Claim7 := { stood := { row := rebaseMeetsUptoRow, standIns := [], harness := (true, "99f0e025a0cb67df6153a958622706ce2fd3ef23ad3a45ec4df2760b93dbd94a"), looks := false }, kinds := [], alts := [], laidByText := true, laidKinds := [.data, .pinned], laidTests := true, laidLooks := .later }
def RebaseMeetsUptoCardSaid : Prop := Claim7.holds Tryz.pinned (.plain (OpenSpec.upto rebaseMeetsSpec)) rebaseMeetsUptoCard

/-- THE SECOND FORM's CARD OF 'ropewalklaw16.RebaseAsks'. -/
def rebaseAsksUptoCard : Claim7 := { stood := { row := rebaseAsksUptoRow, standIns := [], harness := (true, "99f0e025a0cb67df6153a958622706ce2fd3ef23ad3a45ec4df2760b93dbd94a"), looks := false }, kinds := [], alts := [], laidByText := true, laidKinds := [.data, .pinned], laidTests := true, laidLooks := .later }
def RebaseAsksUptoCardSaid : Prop := Claim7.holds Tryz.pinned (.plain (OpenSpec.upto rebaseAsksSpec)) rebaseAsksUptoCard

/-- THE SECOND FORM's CARD OF 'ropewalklaw16.RebaseRow'. -/
def rebaseRowUptoCard : Claim7 := { stood := { row := rebaseRowUptoRow, standIns := [], harness := (true, "99f0e025a0cb67df6153a958622706ce2fd3ef23ad3a45ec4df2760b93dbd94a"), looks := false }, kinds := [], alts := [], laidByText := true, laidKinds := [.data, .pinned], laidTests := true, laidLooks := .later }
def RebaseRowUptoCardSaid : Prop := Claim7.holds Tryz.pinned (.plain (OpenSpec.upto rebaseRowSpec)) rebaseRowUptoCard

/-- THE SECOND FORM's CARD OF 'ropewalklaw16.RebaseIdle'. -/
def rebaseIdleUptoCard : Claim7 := { stood := { row := rebaseIdleUptoRow, standIns := [], harness := (true, "99f0e025a0cb67df6153a958622706ce2fd3ef23ad3a45ec4df2760b93dbd94a"), looks := false }, kinds := [], alts := [], laidByText := true, laidKinds := [.data, .pinned], laidTests := true, laidLooks := .later }
def RebaseIdleUptoCardSaid : Prop := Claim7.holds Tryz.pinned (.plain (OpenSpec.upto rebaseIdleSpec)) rebaseIdleUptoCard
end Rows
end Go.Proofs.YtmhpninemdmbkaaGreatDoor
