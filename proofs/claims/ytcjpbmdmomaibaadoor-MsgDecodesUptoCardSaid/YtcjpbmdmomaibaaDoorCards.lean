/-
  DERIVED. GIVEN WITH THE SEED: THE CARDS: each row of YtcjpbmdmomaibaaDoorRows.lean that lists a variable, with what it lists TIED to the program's text (the seventh form; the later family's looks); each row that meets fmt, with fmt's text TOLD by the authors' own Lean function (tested against real Go, not proved from fmt's source: count such statements apart). THE CARD IS WHAT COUNTS. Prove the row's statement (the work); the ties are given (YtcjpbmdmomaibaaDoorTie.lean); close each card by the builder's one call (the guide's Derived/Test/ToyasCard.lean, 'card_holds'). Laid BY PROGRAM, IN A SANDBOX (cutbox-door.mjs). By AI agents, Wed Nov 11 2026. No macro, syntax, notation, axiom, sorry.
-/
import Derived.Test.YtcjpbmdmomaibaaDoorRows
import GoSem.ClaimSeven
namespace Go.Proofs.YtcjpbmdmomaibaaDoor
namespace Rows

/-- THE TIED CARD OF 'catenarylaw05.MsgNames'. -/
def msgNamesCard : Claim7 := { stood := { row := msgNamesRow, standIns := [], harness := (true, "2129d8a9cfbec5d94f94805ac25a4f43120db9e581dd96006f1bd36c6ee66f2f"), looks := true }, kinds := [], alts := [], laidByText := true, laidKinds := [.sentinel], laidTests := true, laidLooks := .later }
def MsgNamesCardSaid : Prop := Claim7.holds Tryd.pinned (.plain (OpenSpec.ofChange msgNamesSpec)) msgNamesCard

/-- THE TIED CARD OF 'catenarylaw05.MsgEncodes'. -/
def msgEncodesCard : Claim7 := { stood := { row := msgEncodesRow, standIns := [], harness := (true, "2129d8a9cfbec5d94f94805ac25a4f43120db9e581dd96006f1bd36c6ee66f2f"), looks := true }, kinds := [], alts := [], laidByText := true, laidKinds := [.sentinel], laidTests := true, laidLooks := .later }
def MsgEncodesCardSaid : Prop := Claim7.holds Tryd.pinned (.plain (OpenSpec.ofChange msgEncodesSpec)) msgEncodesCard

/-- THE TIED CARD OF 'catenarylaw05.MsgDecodes'. -/
def msgDecodesCard : Claim7 := { stood := { row := msgDecodesRow, standIns := [], harness := (true, "2129d8a9cfbec5d94f94805ac25a4f43120db9e581dd96006f1bd36c6ee66f2f"), looks := true }, kinds := [], alts := [], laidByText := true, laidKinds := [.sentinel], laidTests := true, laidLooks := .later }
def MsgDecodesCardSaid : Prop := Claim7.holds Tryd.pinned (.plain (OpenSpec.ofChange msgDecodesSpec)) msgDecodesCard

/-- THE TIED CARD OF 'catenarylaw05.MsgBack'. -/
def msgBackCard : Claim7 := { stood := { row := msgBackRow, standIns := [], harness := (true, "2129d8a9cfbec5d94f94805ac25a4f43120db9e581dd96006f1bd36c6ee66f2f"), looks := true }, kinds := [], alts := [], laidByText := true, laidKinds := [.sentinel], laidTests := true, laidLooks := .later }
def MsgBackCardSaid : Prop := Claim7.holds Tryd.pinned (.plain (OpenSpec.ofChange msgBackSpec)) msgBackCard

/-- THE TIED CARD OF 'catenarylaw05.MsgOnly'. -/
def msgOnlyCard : Claim7 := { stood := { row := msgOnlyRow, standIns := [], harness := (true, "2129d8a9cfbec5d94f94805ac25a4f43120db9e581dd96006f1bd36c6ee66f2f"), looks := true }, kinds := [], alts := [], laidByText := true, laidKinds := [.sentinel], laidTests := true, laidLooks := .later }
def MsgOnlyCardSaid : Prop := Claim7.holds Tryd.pinned (.plain (OpenSpec.ofChange msgOnlySpec)) msgOnlyCard

/-- THE TIED CARD OF 'catenarylaw05.MsgTrails'. -/
def msgTrailsCard : Claim7 := { stood := { row := msgTrailsRow, standIns := [], harness := (true, "2129d8a9cfbec5d94f94805ac25a4f43120db9e581dd96006f1bd36c6ee66f2f"), looks := true }, kinds := [], alts := [], laidByText := true, laidKinds := [.sentinel], laidTests := true, laidLooks := .later }
def MsgTrailsCardSaid : Prop := Claim7.holds Tryd.pinned (.plain (OpenSpec.ofChange msgTrailsSpec)) msgTrailsCard

/-- THE TIED CARD OF 'catenarylaw05.MsgBodies'. -/
def msgBodiesCard : Claim7 := { stood := { row := msgBodiesRow, standIns := [], harness := (true, "2129d8a9cfbec5d94f94805ac25a4f43120db9e581dd96006f1bd36c6ee66f2f"), looks := true }, kinds := [], alts := [], laidByText := true, laidKinds := [.sentinel], laidTests := true, laidLooks := .later }
def MsgBodiesCardSaid : Prop := Claim7.holds Tryd.pinned (.plain (OpenSpec.ofChange msgBodiesSpec)) msgBodiesCard

/-- THE TIED CARD OF 'catenarylaw06.VoteSeals'. -/
def voteSealsCard : Claim7 := { stood := { row := voteSealsRow, standIns := [], harness := (true, "2129d8a9cfbec5d94f94805ac25a4f43120db9e581dd96006f1bd36c6ee66f2f"), looks := true }, kinds := [], alts := [], laidByText := true, laidKinds := [.sentinel], laidTests := true, laidLooks := .later }
def VoteSealsCardSaid : Prop := Claim7.holds Tryd.pinned (.plain (OpenSpec.ofChange voteSealsSpec)) voteSealsCard

/-- THE TIED CARD OF 'catenarylaw20.FetchNames'. -/
def fetchNamesCard : Claim7 := { stood := { row := fetchNamesRow, standIns := [], harness := (true, "2129d8a9cfbec5d94f94805ac25a4f43120db9e581dd96006f1bd36c6ee66f2f"), looks := true }, kinds := [], alts := [], laidByText := true, laidKinds := [.sentinel], laidTests := true, laidLooks := .later }
def FetchNamesCardSaid : Prop := Claim7.holds Tryd.pinned (.plain (OpenSpec.ofChange fetchNamesSpec)) fetchNamesCard

/-- THE TIED CARD OF 'catenarylaw20.FetchForgets'. -/
def fetchForgetsCard : Claim7 := { stood := { row := fetchForgetsRow, standIns := [], harness := (true, "2129d8a9cfbec5d94f94805ac25a4f43120db9e581dd96006f1bd36c6ee66f2f"), looks := true }, kinds := [], alts := [], laidByText := true, laidKinds := [.sentinel], laidTests := true, laidLooks := .later }
def FetchForgetsCardSaid : Prop := Claim7.holds Tryd.pinned (.plain (OpenSpec.ofChange fetchForgetsSpec)) fetchForgetsCard

/-- THE TIED CARD OF 'catenarylaw20.FetchTrue'. -/
def fetchTrueCard : Claim7 := { stood := { row := fetchTrueRow, standIns := [], harness := (true, "2129d8a9cfbec5d94f94805ac25a4f43120db9e581dd96006f1bd36c6ee66f2f"), looks := true }, kinds := [], alts := [], laidByText := true, laidKinds := [.sentinel], laidTests := true, laidLooks := .later }
def FetchTrueCardSaid : Prop := Claim7.holds Tryd.pinned (.plain (OpenSpec.ofChange fetchTrueSpec)) fetchTrueCard

/-- THE SECOND FORM's CARD OF 'catenarylaw05.MsgNames'. -/
def msgNamesUptoCard : Claim7 := { stood := { row := msgNamesUptoRow, standIns := [], harness := (true, "2129d8a9cfbec5d94f94805ac25a4f43120db9e581dd96006f1bd36c6ee66f2f"), looks := true }, kinds := [], alts := [], laidByText := true, laidKinds := [.sentinel], laidTests := true, laidLooks := .later }
def MsgNamesUptoCardSaid : Prop := Claim7.holds Tryd.pinned (.plain (OpenSpec.upto msgNamesSpec)) msgNamesUptoCard

/-- THE SECOND FORM's CARD OF 'catenarylaw05.MsgEncodes'. -/
def msgEncodesUptoCard : Claim7 := { stood := { row := msgEncodesUptoRow, standIns := [], harness := (true, "2129d8a9cfbec5d94f94805ac25a4f43120db9e581dd96006f1bd36c6ee66f2f"), looks := true }, kinds := [], alts := [], laidByText := true, laidKinds := [.sentinel], laidTests := true, laidLooks := .later }
def MsgEncodesUptoCardSaid : Prop := Claim7.holds Tryd.pinned (.plain (OpenSpec.upto msgEncodesSpec)) msgEncodesUptoCard

/-- THE SECOND FORM's CARD OF 'catenarylaw05.MsgDecodes'. -/
def msgDecodesUptoCard : Claim7 := { stood := { row := msgDecodesUptoRow, standIns := [], harness := (true, "2129d8a9cfbec5d94f94805ac25a4f43120db9e581dd96006f1bd36c6ee66f2f"), looks := true }, kinds := [], alts := [], laidByText := true, laidKinds := [.sentinel], laidTests := true, laidLooks := .later }
def MsgDecodesUptoCardSaid : Prop := Claim7.holds Tryd.pinned (.plain (OpenSpec.upto msgDecodesSpec)) msgDecodesUptoCard

/-- THE SECOND FORM's CARD OF 'catenarylaw05.MsgBack'. -/
def msgBackUptoCard : Claim7 := { stood := { row := msgBackUptoRow, standIns := [], harness := (true, "2129d8a9cfbec5d94f94805ac25a4f43120db9e581dd96006f1bd36c6ee66f2f"), looks := true }, kinds := [], alts := [], laidByText := true, laidKinds := [.sentinel], laidTests := true, laidLooks := .later }
def MsgBackUptoCardSaid : Prop := Claim7.holds Tryd.pinned (.plain (OpenSpec.upto msgBackSpec)) msgBackUptoCard

/-- THE SECOND FORM's CARD OF 'catenarylaw05.MsgOnly'. -/
def msgOnlyUptoCard : Claim7 := { stood := { row := msgOnlyUptoRow, standIns := [], harness := (true, "2129d8a9cfbec5d94f94805ac25a4f43120db9e581dd96006f1bd36c6ee66f2f"), looks := true }, kinds := [], alts := [], laidByText := true, laidKinds := [.sentinel], laidTests := true, laidLooks := .later }
def MsgOnlyUptoCardSaid : Prop := Claim7.holds Tryd.pinned (.plain (OpenSpec.upto msgOnlySpec)) msgOnlyUptoCard

/-- THE SECOND FORM's CARD OF 'catenarylaw05.MsgTrails'. -/
def msgTrailsUptoCard : Claim7 := { stood := { row := msgTrailsUptoRow, standIns := [], harness := (true, "2129d8a9cfbec5d94f94805ac25a4f43120db9e581dd96006f1bd36c6ee66f2f"), looks := true }, kinds := [], alts := [], laidByText := true, laidKinds := [.sentinel], laidTests := true, laidLooks := .later }
def MsgTrailsUptoCardSaid : Prop := Claim7.holds Tryd.pinned (.plain (OpenSpec.upto msgTrailsSpec)) msgTrailsUptoCard

/-- THE SECOND FORM's CARD OF 'catenarylaw05.MsgBodies'. -/
def msgBodiesUptoCard : Claim7 := { stood := { row := msgBodiesUptoRow, standIns := [], harness := (true, "2129d8a9cfbec5d94f94805ac25a4f43120db9e581dd96006f1bd36c6ee66f2f"), looks := true }, kinds := [], alts := [], laidByText := true, laidKinds := [.sentinel], laidTests := true, laidLooks := .later }
def MsgBodiesUptoCardSaid : Prop := Claim7.holds Tryd.pinned (.plain (OpenSpec.upto msgBodiesSpec)) msgBodiesUptoCard

/-- THE SECOND FORM's CARD OF 'catenarylaw06.VoteSeals'. -/
def voteSealsUptoCard : Claim7 := { stood := { row := voteSealsUptoRow, standIns := [], harness := (true, "2129d8a9cfbec5d94f94805ac25a4f43120db9e581dd96006f1bd36c6ee66f2f"), looks := true }, kinds := [], alts := [], laidByText := true, laidKinds := [.sentinel], laidTests := true, laidLooks := .later }
def VoteSealsUptoCardSaid : Prop := Claim7.holds Tryd.pinned (.plain (OpenSpec.upto voteSealsSpec)) voteSealsUptoCard

/-- THE SECOND FORM's CARD OF 'catenarylaw20.FetchNames'. -/
def fetchNamesUptoCard : Claim7 := { stood := { row := fetchNamesUptoRow, standIns := [], harness := (true, "2129d8a9cfbec5d94f94805ac25a4f43120db9e581dd96006f1bd36c6ee66f2f"), looks := true }, kinds := [], alts := [], laidByText := true, laidKinds := [.sentinel], laidTests := true, laidLooks := .later }
def FetchNamesUptoCardSaid : Prop := Claim7.holds Tryd.pinned (.plain (OpenSpec.upto fetchNamesSpec)) fetchNamesUptoCard

/-- THE SECOND FORM's CARD OF 'catenarylaw20.FetchForgets'. -/
def fetchForgetsUptoCard : Claim7 := { stood := { row := fetchForgetsUptoRow, standIns := [], harness := (true, "2129d8a9cfbec5d94f94805ac25a4f43120db9e581dd96006f1bd36c6ee66f2f"), looks := true }, kinds := [], alts := [], laidByText := true, laidKinds := [.sentinel], laidTests := true, laidLooks := .later }
def FetchForgetsUptoCardSaid : Prop := Claim7.holds Tryd.pinned (.plain (OpenSpec.upto fetchForgetsSpec)) fetchForgetsUptoCard

/-- THE SECOND FORM's CARD OF 'catenarylaw20.FetchTrue'. -/
def fetchTrueUptoCard : Claim7 := { stood := { row := fetchTrueUptoRow, standIns := [], harness := (true, "2129d8a9cfbec5d94f94805ac25a4f43120db9e581dd96006f1bd36c6ee66f2f"), looks := true }, kinds := [], alts := [], laidByText := true, laidKinds := [.sentinel], laidTests := true, laidLooks := .later }
def FetchTrueUptoCardSaid : Prop := Claim7.holds Tryd.pinned (.plain (OpenSpec.upto fetchTrueSpec)) fetchTrueUptoCard
end Rows
end Go.Proofs.YtcjpbmdmomaibaaDoor
