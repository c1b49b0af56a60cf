/-
  DERIVED. GIVEN WITH THE SEED: THE CARDS: each row of YtmainkiflkagjaaGreatDoorRows.lean that lists a variable, with what it lists TIED to the program's text (the seventh form; the later family's looks); each row that meets fmt, with fmt's text TOLD by the authors' own Lean function (tested against real Go, not proved from fmt's source: count such statements apart). THE CARD IS WHAT COUNTS. Prove the row's statement (the work); the ties are given (YtmainkiflkagjaaGreatDoorTie.lean); close each card by the builder's one call (the guide's Derived/Test/ToyasCard.lean, 'card_holds'). Laid BY PROGRAM, IN A SANDBOX (cutbox-door.mjs). By AI agents, Wed Nov 11 2026. No macro, syntax, notation, axiom, sorry.
-/
import Derived.Test.YtmainkiflkagjaaGreatDoorRows
import GoSem.ClaimSeven
namespace Go.Proofs.YtmainkiflkagjaaGreatDoor
namespace Rows

/-- THE TIED CARD OF 'catenarylaw18.ChooseRights'. -/
def chooseRightsCard : Claim7 := { stood := { row := chooseRightsRow, standIns := [], harness := (true, "0be97a72075e56cb73b8a3e9ccd2af86da49dd2ae9bd49b61bf538b0bac29853"), looks := true }, kinds := [], alts := [], laidByText := true, laidKinds := [.sentinel], laidTests := true, laidLooks := .later }
def ChooseRightsCardSaid : Prop := Claim7.holds Tryz.pinned (.plain (OpenSpec.ofChange chooseRightsSpec)) chooseRightsCard

/-- THE TIED CARD OF 'catenarylaw18.ChooseAlls'. -/
def chooseAllsCard : Claim7 := { stood := { row := chooseAllsRow, standIns := [], harness := (true, "0be97a72075e56cb73b8a3e9ccd2af86da49dd2ae9bd49b61bf538b0bac29853"), looks := true }, kinds := [], alts := [], laidByText := true, laidKinds := [.sentinel], laidTests := true, laidLooks := .later }
def ChooseAllsCardSaid : Prop := Claim7.holds Tryz.pinned (.plain (OpenSpec.ofChange chooseAllsSpec)) chooseAllsCard

/-- THE TIED CARD OF 'catenarytop.WholeTold'. -/
def wholeToldCard : Claim7 := { stood := { row := wholeToldRow, standIns := [], harness := (true, "0be97a72075e56cb73b8a3e9ccd2af86da49dd2ae9bd49b61bf538b0bac29853"), looks := true }, kinds := [], alts := [], laidByText := true, laidKinds := [.sentinel], laidTests := true, laidLooks := .later }
def WholeToldCardSaid : Prop := Claim7.holds Tryz.pinned (.plain (OpenSpec.ofChange wholeToldSpec)) wholeToldCard

/-- THE TIED CARD OF 'catenarylaw16.ProofChecks'. -/
def proofChecksCard : Claim7 := { stood := { row := proofChecksRow, standIns := [], harness := (true, "0be97a72075e56cb73b8a3e9ccd2af86da49dd2ae9bd49b61bf538b0bac29853"), looks := true }, kinds := [], alts := [], laidByText := true, laidKinds := [.sentinel], laidTests := true, laidLooks := .later }
def ProofChecksCardSaid : Prop := Claim7.holds Tryz.pinned (.plain (OpenSpec.ofChange proofChecksSpec)) proofChecksCard

/-- THE TIED CARD OF 'catenarylaw16.ProofMakes'. -/
def proofMakesCard : Claim7 := { stood := { row := proofMakesRow, standIns := [], harness := (true, "0be97a72075e56cb73b8a3e9ccd2af86da49dd2ae9bd49b61bf538b0bac29853"), looks := true }, kinds := [], alts := [], laidByText := true, laidKinds := [.sentinel], laidTests := true, laidLooks := .later }
def ProofMakesCardSaid : Prop := Claim7.holds Tryz.pinned (.plain (OpenSpec.ofChange proofMakesSpec)) proofMakesCard

/-- THE SECOND FORM's CARD OF 'catenarylaw18.ChooseRights'. -/
def chooseRightsUptoCard : Claim7 := { stood := { row := chooseRightsUptoRow, standIns := [], harness := (true, "0be97a72075e56cb73b8a3e9ccd2af86da49dd2ae9bd49b61bf538b0bac29853"), looks := true }, kinds := [], alts := [], laidByText := true, laidKinds := [.sentinel], laidTests := true, laidLooks := .later }
def ChooseRightsUptoCardSaid : Prop := Claim7.holds Tryz.pinned (.plain (OpenSpec.upto chooseRightsSpec)) chooseRightsUptoCard

/-- THE SECOND FORM's CARD OF 'catenarylaw18.ChooseAlls'. -/
def chooseAllsUptoCard : Claim7 := { stood := { row := chooseAllsUptoRow, standIns := [], harness := (true, "0be97a72075e56cb73b8a3e9ccd2af86da49dd2ae9bd49b61bf538b0bac29853"), looks := true }, kinds := [], alts := [], laidByText := true, laidKinds := [.sentinel], laidTests := true, laidLooks := .later }
def ChooseAllsUptoCardSaid : Prop := Claim7.holds Tryz.pinned (.plain (OpenSpec.upto chooseAllsSpec)) chooseAllsUptoCard

/-- THE SECOND FORM's CARD OF 'catenarytop.WholeTold'. -/
def wholeToldUptoCard : Claim7 := { stood := { row := wholeToldUptoRow, standIns := [], harness := (true, "0be97a72075e56cb73b8a3e9ccd2af86da49dd2ae9bd49b61bf538b0bac29853"), looks := true }, kinds := [], alts := [], laidByText := true, laidKinds := [.sentinel], laidTests := true, laidLooks := .later }
def WholeToldUptoCardSaid : Prop := Claim7.holds Tryz.pinned (.plain (OpenSpec.upto wholeToldSpec)) wholeToldUptoCard

/-- THE SECOND FORM's CARD OF 'catenarylaw16.ProofChecks'. -/
def proofChecksUptoCard : Claim7 := { stood := { row := proofChecksUptoRow, standIns := [], harness := (true, "0be97a72075e56cb73b8a3e9ccd2af86da49dd2ae9bd49b61bf538b0bac29853"), looks := true }, kinds := [], alts := [], laidByText := true, laidKinds := [.sentinel], laidTests := true, laidLooks := .later }
def ProofChecksUptoCardSaid : Prop := Claim7.holds Tryz.pinned (.plain (OpenSpec.upto proofChecksSpec)) proofChecksUptoCard

/-- THE SECOND FORM's CARD OF 'catenarylaw16.ProofMakes'. -/
def proofMakesUptoCard : Claim7 := { stood := { row := proofMakesUptoRow, standIns := [], harness := (true, "0be97a72075e56cb73b8a3e9ccd2af86da49dd2ae9bd49b61bf538b0bac29853"), looks := true }, kinds := [], alts := [], laidByText := true, laidKinds := [.sentinel], laidTests := true, laidLooks := .later }
def ProofMakesUptoCardSaid : Prop := Claim7.holds Tryz.pinned (.plain (OpenSpec.upto proofMakesSpec)) proofMakesUptoCard
end Rows
end Go.Proofs.YtmainkiflkagjaaGreatDoor
