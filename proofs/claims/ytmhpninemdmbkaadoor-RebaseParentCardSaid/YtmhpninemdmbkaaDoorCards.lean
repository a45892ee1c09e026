/-
  DERIVED. GIVEN WITH THE SEED: THE CARDS: each row of YtmhpninemdmbkaaDoorRows.lean that lists a variable, with what it lists TIED to the program's text (the seventh form; the later family's looks); each row that meets fmt, with fmt's text TOLD by the authors' own Lean function (tested against real Go, not proved from fmt's source: count such statements apart). THE CARD IS WHAT COUNTS. Prove the row's statement (the work); the ties are given (YtmhpninemdmbkaaDoorTie.lean); close each card by the builder's one call (the guide's Derived/Test/ToyasCard.lean, 'card_holds'). Laid BY PROGRAM, IN A SANDBOX (cutbox-door.mjs). By AI agents, Wed Nov 11 2026. No macro, syntax, notation, axiom, sorry.
-/
import Derived.Test.YtmhpninemdmbkaaDoorRows
import GoSem.ClaimSeven
namespace Go.Proofs.YtmhpninemdmbkaaDoor
namespace Rows

/-- THE TIED CARD OF 'ropewalklaw15.EffectSees'. -/
def effectSeesCard : Claim7 := { stood := { row := effectSeesRow, standIns := [], harness := (true, "97138ff3facebfcf0193f7dd02fe654a23bd078986b9a6f105e905bb8c80536b"), looks := false }, kinds := [], alts := [], laidByText := true, laidKinds := [.data, .pinned], laidTests := true, laidLooks := .later }
def EffectSeesCardSaid : Prop := Claim7.holds Tryd.pinned (.plain (OpenSpec.ofChange effectSeesSpec)) effectSeesCard

/-- THE TIED CARD OF 'ropewalklaw15.EffectKeeps'. -/
def effectKeepsCard : Claim7 := { stood := { row := effectKeepsRow, standIns := [], harness := (true, "97138ff3facebfcf0193f7dd02fe654a23bd078986b9a6f105e905bb8c80536b"), looks := false }, kinds := [], alts := [], laidByText := true, laidKinds := [.data, .pinned], laidTests := true, laidLooks := .later }
def EffectKeepsCardSaid : Prop := Claim7.holds Tryd.pinned (.plain (OpenSpec.ofChange effectKeepsSpec)) effectKeepsCard

/-- THE TIED CARD OF 'ropewalklaw15.EffectOne'. -/
def effectOneCard : Claim7 := { stood := { row := effectOneRow, standIns := [], harness := (true, "97138ff3facebfcf0193f7dd02fe654a23bd078986b9a6f105e905bb8c80536b"), looks := false }, kinds := [], alts := [], laidByText := true, laidKinds := [.data, .pinned], laidTests := true, laidLooks := .later }
def EffectOneCardSaid : Prop := Claim7.holds Tryd.pinned (.plain (OpenSpec.ofChange effectOneSpec)) effectOneCard

/-- THE TIED CARD OF 'ropewalklaw16.RebaseTable'. -/
def rebaseTableCard : Claim7 := { stood := { row := rebaseTableRow, standIns := [], harness := (true, "97138ff3facebfcf0193f7dd02fe654a23bd078986b9a6f105e905bb8c80536b"), looks := false }, kinds := [], alts := [], laidByText := true, laidKinds := [.data, .pinned], laidTests := true, laidLooks := .later }
def RebaseTableCardSaid : Prop := Claim7.holds Tryd.pinned (.plain (OpenSpec.ofChange rebaseTableSpec)) rebaseTableCard

/-- THE TIED CARD OF 'ropewalklaw16.RebaseParent'. -/
def rebaseParentCard : Claim7 := { stood := { row := rebaseParentRow, standIns := [], harness := (true, "97138ff3facebfcf0193f7dd02fe654a23bd078986b9a6f105e905bb8c80536b"), looks := false }, kinds := [], alts := [], laidByText := true, laidKinds := [.data, .pinned], laidTests := true, laidLooks := .later }
def RebaseParentCardSaid : Prop := Claim7.holds Tryd.pinned (.plain (OpenSpec.ofChange rebaseParentSpec)) rebaseParentCard

/-- THE SECOND FORM's CARD OF 'ropewalklaw15.EffectSees'. -/
def effectSeesUptoCard : Claim7 := { stood := { row := effectSeesUptoRow, standIns := [], harness := (true, "97138ff3facebfcf0193f7dd02fe654a23bd078986b9a6f105e905bb8c80536b"), looks := false }, kinds := [], alts := [], laidByText := true, laidKinds := [.data, .pinned], laidTests := true, laidLooks := .later }
def EffectSeesUptoCardSaid : Prop := Claim7.holds Tryd.pinned (.plain (OpenSpec.upto effectSeesSpec)) effectSeesUptoCard

/-- THE SECOND FORM's CARD OF 'ropewalklaw15.EffectKeeps'. -/
def effectKeepsUptoCard : Claim7 := { stood := { row := effectKeepsUptoRow, standIns := [], harness := (true, "97138ff3facebfcf0193f7dd02fe654a23bd078986b9a6f105e905bb8c80536b"), looks := false }, kinds := [], alts := [], laidByText := true, laidKinds := [.data, .pinned], laidTests := true, laidLooks := .later }
def EffectKeepsUptoCardSaid : Prop := Claim7.holds Tryd.pinned (.plain (OpenSpec.upto effectKeepsSpec)) effectKeepsUptoCard

/-- THE SECOND FORM's CARD OF 'ropewalklaw15.EffectOne'. -/
def effectOneUptoCard : Claim7 := { stood := { row := effectOneUptoRow, standIns := [], harness := (true, "97138ff3facebfcf0193f7dd02fe654a23bd078986b9a6f105e905bb8c80536b"), looks := false }, kinds := [], alts := [], laidByText := true, laidKinds := [.data, .pinned], laidTests := true, laidLooks := .later }
def EffectOneUptoCardSaid : Prop := Claim7.holds Tryd.pinned (.plain (OpenSpec.upto effectOneSpec)) effectOneUptoCard

/-- THE SECOND FORM's CARD OF 'ropewalklaw16.RebaseTable'. -/
def rebaseTableUptoCard : Claim7 := { stood := { row := rebaseTableUptoRow, standIns := [], harness := (true, "97138ff3facebfcf0193f7dd02fe654a23bd078986b9a6f105e905bb8c80536b"), looks := false }, kinds := [], alts := [], laidByText := true, laidKinds := [.data, .pinned], laidTests := true, laidLooks := .later }
def RebaseTableUptoCardSaid : Prop := Claim7.holds Tryd.pinned (.plain (OpenSpec.upto rebaseTableSpec)) rebaseTableUptoCard

/-- THE SECOND FORM's CARD OF 'ropewalklaw16.RebaseParent'. -/
def rebaseParentUptoCard : Claim7 := { stood := { row := rebaseParentUptoRow, standIns := [], harness := (true, "97138ff3facebfcf0193f7dd02fe654a23bd078986b9a6f105e905bb8c80536b"), looks := false }, kinds := [], alts := [], laidByText := true, laidKinds := [.data, .pinned], laidTests := true, laidLooks := .later }
def RebaseParentUptoCardSaid : Prop := Claim7.holds Tryd.pinned (.plain (OpenSpec.upto rebaseParentSpec)) rebaseParentUptoCard
end Rows
end Go.Proofs.YtmhpninemdmbkaaDoor
