/-
  DERIVED. GIVEN WITH THE SEED: THE CARDS: each row of YtmainkiflkagjaaDoorRows.lean that lists a variable, with what it lists TIED to the program's text (the seventh form; the later family's looks); each row that meets fmt, with fmt's text TOLD by the authors' own Lean function (tested against real Go, not proved from fmt's source: count such statements apart). THE CARD IS WHAT COUNTS. Prove the row's statement (the work); the ties are given (YtmainkiflkagjaaDoorTie.lean); close each card by the builder's one call (the guide's Derived/Test/ToyasCard.lean, 'card_holds'). Laid BY PROGRAM, IN A SANDBOX (cutbox-door.mjs). By AI agents, Wed Nov 11 2026. No macro, syntax, notation, axiom, sorry.
-/
import Derived.Test.YtmainkiflkagjaaDoorRows
import GoSem.ClaimSeven
namespace Go.Proofs.YtmainkiflkagjaaDoor
namespace Rows

/-- THE TIED CARD OF 'catenarylaw18.ChooseNames'. -/
def chooseNamesCard : Claim7 := { stood := { row := chooseNamesRow, standIns := [], harness := (true, "f2cba7bdfaa63c2450a57f8574a90a8ab7f045c3eb77b190b9ec01a452e867f1"), looks := true }, kinds := [], alts := [], laidByText := true, laidKinds := [.sentinel], laidTests := true, laidLooks := .later }
def ChooseNamesCardSaid : Prop := Claim7.holds Tryd.pinned (.plain (OpenSpec.ofChange chooseNamesSpec)) chooseNamesCard

/-- THE TIED CARD OF 'catenarylaw18.ChooseCommits'. -/
def chooseCommitsCard : Claim7 := { stood := { row := chooseCommitsRow, standIns := [], harness := (true, "f2cba7bdfaa63c2450a57f8574a90a8ab7f045c3eb77b190b9ec01a452e867f1"), looks := true }, kinds := [], alts := [], laidByText := true, laidKinds := [.sentinel], laidTests := true, laidLooks := .later }
def ChooseCommitsCardSaid : Prop := Claim7.holds Tryd.pinned (.plain (OpenSpec.ofChange chooseCommitsSpec)) chooseCommitsCard

/-- THE TIED CARD OF 'catenarylaw16.ProofNames'. -/
def proofNamesCard : Claim7 := { stood := { row := proofNamesRow, standIns := [], harness := (true, "f2cba7bdfaa63c2450a57f8574a90a8ab7f045c3eb77b190b9ec01a452e867f1"), looks := true }, kinds := [], alts := [], laidByText := true, laidKinds := [.sentinel], laidTests := true, laidLooks := .later }
def ProofNamesCardSaid : Prop := Claim7.holds Tryd.pinned (.plain (OpenSpec.ofChange proofNamesSpec)) proofNamesCard

/-- THE TIED CARD OF 'catenarylaw16.ProofEnough'. -/
def proofEnoughCard : Claim7 := { stood := { row := proofEnoughRow, standIns := [], harness := (true, "f2cba7bdfaa63c2450a57f8574a90a8ab7f045c3eb77b190b9ec01a452e867f1"), looks := true }, kinds := [], alts := [], laidByText := true, laidKinds := [.sentinel], laidTests := true, laidLooks := .later }
def ProofEnoughCardSaid : Prop := Claim7.holds Tryd.pinned (.plain (OpenSpec.ofChange proofEnoughSpec)) proofEnoughCard

/-- THE TIED CARD OF 'catenarylaw16.ProofSigned'. -/
def proofSignedCard : Claim7 := { stood := { row := proofSignedRow, standIns := [], harness := (true, "f2cba7bdfaa63c2450a57f8574a90a8ab7f045c3eb77b190b9ec01a452e867f1"), looks := true }, kinds := [], alts := [], laidByText := true, laidKinds := [.sentinel], laidTests := true, laidLooks := .later }
def ProofSignedCardSaid : Prop := Claim7.holds Tryd.pinned (.plain (OpenSpec.ofChange proofSignedSpec)) proofSignedCard

/-- THE SECOND FORM's CARD OF 'catenarylaw18.ChooseNames'. -/
def chooseNamesUptoCard : Claim7 := { stood := { row := chooseNamesUptoRow, standIns := [], harness := (true, "f2cba7bdfaa63c2450a57f8574a90a8ab7f045c3eb77b190b9ec01a452e867f1"), looks := true }, kinds := [], alts := [], laidByText := true, laidKinds := [.sentinel], laidTests := true, laidLooks := .later }
def ChooseNamesUptoCardSaid : Prop := Claim7.holds Tryd.pinned (.plain (OpenSpec.upto chooseNamesSpec)) chooseNamesUptoCard

/-- THE SECOND FORM's CARD OF 'catenarylaw18.ChooseCommits'. -/
def chooseCommitsUptoCard : Claim7 := { stood := { row := chooseCommitsUptoRow, standIns := [], harness := (true, "f2cba7bdfaa63c2450a57f8574a90a8ab7f045c3eb77b190b9ec01a452e867f1"), looks := true }, kinds := [], alts := [], laidByText := true, laidKinds := [.sentinel], laidTests := true, laidLooks := .later }
def ChooseCommitsUptoCardSaid : Prop := Claim7.holds Tryd.pinned (.plain (OpenSpec.upto chooseCommitsSpec)) chooseCommitsUptoCard

/-- THE SECOND FORM's CARD OF 'catenarylaw16.ProofNames'. -/
def proofNamesUptoCard : Claim7 := { stood := { row := proofNamesUptoRow, standIns := [], harness := (true, "f2cba7bdfaa63c2450a57f8574a90a8ab7f045c3eb77b190b9ec01a452e867f1"), looks := true }, kinds := [], alts := [], laidByText := true, laidKinds := [.sentinel], laidTests := true, laidLooks := .later }
def ProofNamesUptoCardSaid : Prop := Claim7.holds Tryd.pinned (.plain (OpenSpec.upto proofNamesSpec)) proofNamesUptoCard

/-- THE SECOND FORM's CARD OF 'catenarylaw16.ProofEnough'. -/
def proofEnoughUptoCard : Claim7 := { stood := { row := proofEnoughUptoRow, standIns := [], harness := (true, "f2cba7bdfaa63c2450a57f8574a90a8ab7f045c3eb77b190b9ec01a452e867f1"), looks := true }, kinds := [], alts := [], laidByText := true, laidKinds := [.sentinel], laidTests := true, laidLooks := .later }
def ProofEnoughUptoCardSaid : Prop := Claim7.holds Tryd.pinned (.plain (OpenSpec.upto proofEnoughSpec)) proofEnoughUptoCard

/-- THE SECOND FORM's CARD OF 'catenarylaw16.ProofSigned'. -/
def proofSignedUptoCard : Claim7 := { stood := { row := proofSignedUptoRow, standIns := [], harness := (true, "f2cba7bdfaa63c2450a57f8574a90a8ab7f045c3eb77b190b9ec01a452e867f1"), looks := true }, kinds := [], alts := [], laidByText := true, laidKinds := [.sentinel], laidTests := true, laidLooks := .later }
def ProofSignedUptoCardSaid : Prop := Claim7.holds Tryd.pinned (.plain (OpenSpec.upto proofSignedSpec)) proofSignedUptoCard
end Rows
end Go.Proofs.YtmainkiflkagjaaDoor
