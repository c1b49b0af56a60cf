/-
  NARROWER THAN 'FOR EVERY INPUT', by the rows' own cells (each row's printed sentence says how): MsgNames: laid · MsgEncodes: laid · MsgDecodes: laid · MsgBack: laid · MsgOnly: laid · MsgTrails: laid · MsgBodies: laid · VoteSeals: laid · FetchNames: laid · FetchForgets: laid · FetchTrue: laid.
  DERIVED. THE GIVEN ROWS OF THIS SEAT. 11 by the template 'for every input the law returns true; each argument reads behind the call as it read before'; 0 by the template 'total and deterministic' (their statements: YtcjpbmdmomaibaaDoorTotals.lean).
  GIVEN WITH THE SEED: the statements are not yours to turn. If you find one false, say at which input.
  Laid BY PROGRAM, IN A SANDBOX (cutbox-rows.mjs): the forced cells as the released guide's own fill.sh prints them over the translation 91b651b1cffd9d97… (all of the seat's roots in one cut). By AI agents, Wed Nov 11 2026. No macro, syntax, notation, axiom, sorry.
-/
import Derived.Test.YtcjpbmdmomaibaaDoorChecked
import GoSem.Claim
import GoSem.ClaimJoined
import GoSem.ClaimMapViews
import Derived.JoinedTies
import Derived.KernelRfl
namespace Go.Proofs.YtcjpbmdmomaibaaDoor
/- THE CELL 'sum', in the pinned program and in every row, IS THE sha256 OF THE DUMP (.gsa) THAT YtcjpbmdmomaibaaDoorProg.lean LOADS. Nothing in Lean hashes anything: it is a label: what it is worth is what the hold of that sum in a sandbox is worth. -/
noncomputable def Tryd.pinned : Pinned := { name := "ytcjpbmdmomaibaadoor", sum := "91b651b1cffd9d97603361b88ff8a1b0a01e365660fd7dead869df863ed00c49", checked := Tryd.checked }
namespace Rows
def none {H : Type} : Left H := { results := [], args := [] }

/- WHAT THE LISTED PACKAGE-LEVEL VARIABLES READ AS WHEN THE CALL BEGINS. Each datum BY PROGRAM (the guide's laid-datum.mjs) off the statement by which the dump's own 'gosem.cut.vars' lays the variable. In a bare row this is a premise. The card (YtcjpbmdmomaibaaDoorCards.lean) ties it to the program's text. -/
def laid_bytes_ErrTooLarge {H : Type} : DataW H := .iface "*errors.errorString" (.ptr (.agg [.lit (.string [98, 121, 116, 101, 115, 46, 66, 117, 102, 102, 101, 114, 58, 32, 116, 111, 111, 32, 108, 97, 114, 103, 101])]))

/-- 'catenarylaw05.MsgNames': WHATEVER THE INPUT: true; the input reads as it did. -/
def msgNamesSpec : ChangeSpec := { name := "msgNames", fn := fun _ => fun
  | [] => { results := [.lit (.bool true)], args := [] }
  | _ => none }
def msgNamesRow : OpenClaim := { program := "ytcjpbmdmomaibaadoor", sum := "91b651b1cffd9d97603361b88ff8a1b0a01e365660fd7dead869df863ed00c49", func := "catenary/catenarylaw05.MsgNames", spec := "msgNames", unfollowed := true, recurses := true, named := ["bytes.ErrTooLarge"], apart := false, laid := [("bytes.ErrTooLarge", laid_bytes_ErrTooLarge)] }
def MsgNamesSaid : Prop := msgNamesRow.holds Tryd.pinned (OpenSpec.ofChange msgNamesSpec)

/-- ITS FALSE NEIGHBOUR: 'it returns false'. Refute it at one input. -/
def msgNamesWrong : ChangeSpec := { name := "msgNames", fn := fun _ => fun
  | [] => { results := [.lit (.bool false)], args := [] }
  | _ => none }
def MsgNamesWrongFalsely : Prop := msgNamesRow.holds Tryd.pinned (OpenSpec.ofChange msgNamesWrong)

/-- 'catenarylaw05.MsgEncodes': WHATEVER THE INPUT: true; the input reads as it did. -/
def msgEncodesSpec : ChangeSpec := { name := "msgEncodes", fn := fun _ => fun
  | [d] => { results := [.lit (.bool true)], args := [d] }
  | _ => none }
def msgEncodesRow : OpenClaim := { program := "ytcjpbmdmomaibaadoor", sum := "91b651b1cffd9d97603361b88ff8a1b0a01e365660fd7dead869df863ed00c49", func := "catenary/catenarylaw05.MsgEncodes", spec := "msgEncodes", unfollowed := true, recurses := true, named := ["bytes.ErrTooLarge"], apart := false, laid := [("bytes.ErrTooLarge", laid_bytes_ErrTooLarge)] }
def MsgEncodesSaid : Prop := msgEncodesRow.holds Tryd.pinned (OpenSpec.ofChange msgEncodesSpec)

/-- ITS FALSE NEIGHBOUR: 'it returns false'. Refute it at one input. -/
def msgEncodesWrong : ChangeSpec := { name := "msgEncodes", fn := fun _ => fun
  | [d] => { results := [.lit (.bool false)], args := [d] }
  | _ => none }
def MsgEncodesWrongFalsely : Prop := msgEncodesRow.holds Tryd.pinned (OpenSpec.ofChange msgEncodesWrong)

/-- 'catenarylaw05.MsgDecodes': WHATEVER THE INPUT: true; the input reads as it did. -/
def msgDecodesSpec : ChangeSpec := { name := "msgDecodes", fn := fun _ => fun
  | [d] => { results := [.lit (.bool true)], args := [d] }
  | _ => none }
def msgDecodesRow : OpenClaim := { program := "ytcjpbmdmomaibaadoor", sum := "91b651b1cffd9d97603361b88ff8a1b0a01e365660fd7dead869df863ed00c49", func := "catenary/catenarylaw05.MsgDecodes", spec := "msgDecodes", unfollowed := true, recurses := true, named := ["bytes.ErrTooLarge"], apart := false, laid := [("bytes.ErrTooLarge", laid_bytes_ErrTooLarge)] }
def MsgDecodesSaid : Prop := msgDecodesRow.holds Tryd.pinned (OpenSpec.ofChange msgDecodesSpec)

/-- ITS FALSE NEIGHBOUR: 'it returns false'. Refute it at one input. -/
def msgDecodesWrong : ChangeSpec := { name := "msgDecodes", fn := fun _ => fun
  | [d] => { results := [.lit (.bool false)], args := [d] }
  | _ => none }
def MsgDecodesWrongFalsely : Prop := msgDecodesRow.holds Tryd.pinned (OpenSpec.ofChange msgDecodesWrong)

/-- 'catenarylaw05.MsgBack': WHATEVER THE INPUT: true; the input reads as it did. -/
def msgBackSpec : ChangeSpec := { name := "msgBack", fn := fun _ => fun
  | [d] => { results := [.lit (.bool true)], args := [d] }
  | _ => none }
def msgBackRow : OpenClaim := { program := "ytcjpbmdmomaibaadoor", sum := "91b651b1cffd9d97603361b88ff8a1b0a01e365660fd7dead869df863ed00c49", func := "catenary/catenarylaw05.MsgBack", spec := "msgBack", unfollowed := true, recurses := true, named := ["bytes.ErrTooLarge"], apart := false, laid := [("bytes.ErrTooLarge", laid_bytes_ErrTooLarge)] }
def MsgBackSaid : Prop := msgBackRow.holds Tryd.pinned (OpenSpec.ofChange msgBackSpec)

/-- ITS FALSE NEIGHBOUR: 'it returns false'. Refute it at one input. -/
def msgBackWrong : ChangeSpec := { name := "msgBack", fn := fun _ => fun
  | [d] => { results := [.lit (.bool false)], args := [d] }
  | _ => none }
def MsgBackWrongFalsely : Prop := msgBackRow.holds Tryd.pinned (OpenSpec.ofChange msgBackWrong)

/-- 'catenarylaw05.MsgOnly': WHATEVER THE INPUT: true; the input reads as it did. -/
def msgOnlySpec : ChangeSpec := { name := "msgOnly", fn := fun _ => fun
  | [d] => { results := [.lit (.bool true)], args := [d] }
  | _ => none }
def msgOnlyRow : OpenClaim := { program := "ytcjpbmdmomaibaadoor", sum := "91b651b1cffd9d97603361b88ff8a1b0a01e365660fd7dead869df863ed00c49", func := "catenary/catenarylaw05.MsgOnly", spec := "msgOnly", unfollowed := true, recurses := true, named := ["bytes.ErrTooLarge"], apart := false, laid := [("bytes.ErrTooLarge", laid_bytes_ErrTooLarge)] }
def MsgOnlySaid : Prop := msgOnlyRow.holds Tryd.pinned (OpenSpec.ofChange msgOnlySpec)

/-- ITS FALSE NEIGHBOUR: 'it returns false'. Refute it at one input. -/
def msgOnlyWrong : ChangeSpec := { name := "msgOnly", fn := fun _ => fun
  | [d] => { results := [.lit (.bool false)], args := [d] }
  | _ => none }
def MsgOnlyWrongFalsely : Prop := msgOnlyRow.holds Tryd.pinned (OpenSpec.ofChange msgOnlyWrong)

/-- 'catenarylaw05.MsgTrails': WHATEVER THE INPUT: true; the input reads as it did. -/
def msgTrailsSpec : ChangeSpec := { name := "msgTrails", fn := fun _ => fun
  | [d1, d2, d3] => { results := [.lit (.bool true)], args := [d1, d2, d3] }
  | _ => none }
def msgTrailsRow : OpenClaim := { program := "ytcjpbmdmomaibaadoor", sum := "91b651b1cffd9d97603361b88ff8a1b0a01e365660fd7dead869df863ed00c49", func := "catenary/catenarylaw05.MsgTrails", spec := "msgTrails", unfollowed := true, recurses := true, named := ["bytes.ErrTooLarge"], apart := false, laid := [("bytes.ErrTooLarge", laid_bytes_ErrTooLarge)] }
def MsgTrailsSaid : Prop := msgTrailsRow.holds Tryd.pinned (OpenSpec.ofChange msgTrailsSpec)

/-- ITS FALSE NEIGHBOUR: 'it returns false'. Refute it at one input. -/
def msgTrailsWrong : ChangeSpec := { name := "msgTrails", fn := fun _ => fun
  | [d1, d2, d3] => { results := [.lit (.bool false)], args := [d1, d2, d3] }
  | _ => none }
def MsgTrailsWrongFalsely : Prop := msgTrailsRow.holds Tryd.pinned (OpenSpec.ofChange msgTrailsWrong)

/-- 'catenarylaw05.MsgBodies': WHATEVER THE INPUT: true; the input reads as it did. -/
def msgBodiesSpec : ChangeSpec := { name := "msgBodies", fn := fun _ => fun
  | [d1, d2] => { results := [.lit (.bool true)], args := [d1, d2] }
  | _ => none }
def msgBodiesRow : OpenClaim := { program := "ytcjpbmdmomaibaadoor", sum := "91b651b1cffd9d97603361b88ff8a1b0a01e365660fd7dead869df863ed00c49", func := "catenary/catenarylaw05.MsgBodies", spec := "msgBodies", unfollowed := true, recurses := true, named := ["bytes.ErrTooLarge"], apart := false, laid := [("bytes.ErrTooLarge", laid_bytes_ErrTooLarge)] }
def MsgBodiesSaid : Prop := msgBodiesRow.holds Tryd.pinned (OpenSpec.ofChange msgBodiesSpec)

/-- ITS FALSE NEIGHBOUR: 'it returns false'. Refute it at one input. -/
def msgBodiesWrong : ChangeSpec := { name := "msgBodies", fn := fun _ => fun
  | [d1, d2] => { results := [.lit (.bool false)], args := [d1, d2] }
  | _ => none }
def MsgBodiesWrongFalsely : Prop := msgBodiesRow.holds Tryd.pinned (OpenSpec.ofChange msgBodiesWrong)

/-- 'catenarylaw06.VoteSeals': WHATEVER THE INPUT: true; the input reads as it did. -/
def voteSealsSpec : ChangeSpec := { name := "voteSeals", fn := fun _ => fun
  | [d1, d2] => { results := [.lit (.bool true)], args := [d1, d2] }
  | _ => none }
def voteSealsRow : OpenClaim := { program := "ytcjpbmdmomaibaadoor", sum := "91b651b1cffd9d97603361b88ff8a1b0a01e365660fd7dead869df863ed00c49", func := "catenary/catenarylaw06.VoteSeals", spec := "voteSeals", unfollowed := true, recurses := true, named := ["bytes.ErrTooLarge"], apart := false, laid := [("bytes.ErrTooLarge", laid_bytes_ErrTooLarge)] }
def VoteSealsSaid : Prop := voteSealsRow.holds Tryd.pinned (OpenSpec.ofChange voteSealsSpec)

/-- ITS FALSE NEIGHBOUR: 'it returns false'. Refute it at one input. -/
def voteSealsWrong : ChangeSpec := { name := "voteSeals", fn := fun _ => fun
  | [d1, d2] => { results := [.lit (.bool false)], args := [d1, d2] }
  | _ => none }
def VoteSealsWrongFalsely : Prop := voteSealsRow.holds Tryd.pinned (OpenSpec.ofChange voteSealsWrong)

/-- 'catenarylaw20.FetchNames': WHATEVER THE INPUT: true; the input reads as it did. -/
def fetchNamesSpec : ChangeSpec := { name := "fetchNames", fn := fun _ => fun
  | [] => { results := [.lit (.bool true)], args := [] }
  | _ => none }
def fetchNamesRow : OpenClaim := { program := "ytcjpbmdmomaibaadoor", sum := "91b651b1cffd9d97603361b88ff8a1b0a01e365660fd7dead869df863ed00c49", func := "catenary/catenarylaw20.FetchNames", spec := "fetchNames", unfollowed := true, recurses := true, named := ["bytes.ErrTooLarge"], apart := false, laid := [("bytes.ErrTooLarge", laid_bytes_ErrTooLarge)] }
def FetchNamesSaid : Prop := fetchNamesRow.holds Tryd.pinned (OpenSpec.ofChange fetchNamesSpec)

/-- ITS FALSE NEIGHBOUR: 'it returns false'. Refute it at one input. -/
def fetchNamesWrong : ChangeSpec := { name := "fetchNames", fn := fun _ => fun
  | [] => { results := [.lit (.bool false)], args := [] }
  | _ => none }
def FetchNamesWrongFalsely : Prop := fetchNamesRow.holds Tryd.pinned (OpenSpec.ofChange fetchNamesWrong)

/-- 'catenarylaw20.FetchForgets': WHATEVER THE INPUT: true; the input reads as it did. -/
def fetchForgetsSpec : ChangeSpec := { name := "fetchForgets", fn := fun _ => fun
  | [d1, d2, d3] => { results := [.lit (.bool true)], args := [d1, d2, d3] }
  | _ => none }
def fetchForgetsRow : OpenClaim := { program := "ytcjpbmdmomaibaadoor", sum := "91b651b1cffd9d97603361b88ff8a1b0a01e365660fd7dead869df863ed00c49", func := "catenary/catenarylaw20.FetchForgets", spec := "fetchForgets", unfollowed := true, recurses := true, named := ["bytes.ErrTooLarge"], apart := false, laid := [("bytes.ErrTooLarge", laid_bytes_ErrTooLarge)] }
def FetchForgetsSaid : Prop := fetchForgetsRow.holds Tryd.pinned (OpenSpec.ofChange fetchForgetsSpec)

/-- ITS FALSE NEIGHBOUR: 'it returns false'. Refute it at one input. -/
def fetchForgetsWrong : ChangeSpec := { name := "fetchForgets", fn := fun _ => fun
  | [d1, d2, d3] => { results := [.lit (.bool false)], args := [d1, d2, d3] }
  | _ => none }
def FetchForgetsWrongFalsely : Prop := fetchForgetsRow.holds Tryd.pinned (OpenSpec.ofChange fetchForgetsWrong)

/-- 'catenarylaw20.FetchTrue': WHATEVER THE INPUT: true; the input reads as it did. -/
def fetchTrueSpec : ChangeSpec := { name := "fetchTrue", fn := fun _ => fun
  | [d1, d2, d3] => { results := [.lit (.bool true)], args := [d1, d2, d3] }
  | _ => none }
def fetchTrueRow : OpenClaim := { program := "ytcjpbmdmomaibaadoor", sum := "91b651b1cffd9d97603361b88ff8a1b0a01e365660fd7dead869df863ed00c49", func := "catenary/catenarylaw20.FetchTrue", spec := "fetchTrue", unfollowed := true, recurses := true, named := ["bytes.ErrTooLarge"], apart := false, laid := [("bytes.ErrTooLarge", laid_bytes_ErrTooLarge)] }
def FetchTrueSaid : Prop := fetchTrueRow.holds Tryd.pinned (OpenSpec.ofChange fetchTrueSpec)

/-- ITS FALSE NEIGHBOUR: 'it returns false'. Refute it at one input. -/
def fetchTrueWrong : ChangeSpec := { name := "fetchTrue", fn := fun _ => fun
  | [d1, d2, d3] => { results := [.lit (.bool false)], args := [d1, d2, d3] }
  | _ => none }
def FetchTrueWrongFalsely : Prop := fetchTrueRow.holds Tryd.pinned (OpenSpec.ofChange fetchTrueWrong)

/- THE SECOND FORM. 'bulk': how many values and letters a reading holds, each counted each time it is reached (what is shared counts as often as it is met; a slice's spare places count too). A statement '..UptoSaid' is the law's where the arguments, and the package variables that the reading takes, are together of bulk at most 1048576: NARROWER than '..Said'. Prove '..Said' where nothing that the law and all that it calls make is longer than what came in: it says more and counts as full. Else prove '..UptoSaid'. A law counts once. -/
mutual
def uptoBulk {H : Type} : DataW H → Nat
  | .lit (.string bytes) => bytes.length + 1
  | .lit _ => 1
  | .nil => 1
  | .ptr d => uptoBulk d + 1
  | .slice elems spare => uptoBulkAll elems + uptoBulkAll spare + 1
  | .agg parts => uptoBulkAll parts + 1
  | .iface _ d => uptoBulk d + 1
  | .map entries => uptoBulkEntries entries + 1
  | .held _ => 1
def uptoBulkAll {H : Type} : List (DataW H) → Nat
  | [] => 0
  | d :: r => uptoBulk d + uptoBulkAll r
def uptoBulkEntries {H : Type} : List (Lit × DataW H) → Nat
  | [] => 0
  | x :: r => uptoBulkEntry x + uptoBulkEntries r
def uptoBulkEntry {H : Type} : Lit × DataW H → Nat
  | (.string bytes, d) => bytes.length + uptoBulk d + 1
  | (_, d) => uptoBulk d + 1
 end
def uptoSmall : (H : Type) → List (DataW H) → Bool := fun _ ds => decide (uptoBulkAll ds ≤ 1048576)
def OpenSpec.upto (s : _root_.Go.ChangeSpec) : _root_.Go.OpenSpec := { _root_.Go.OpenSpec.ofChange s with cond := some uptoSmall }

/-- 'catenarylaw05.MsgNames', WHERE WHAT IT READS IS OF BULK AT MOST 1048576: true; the input reads as it did. -/
def msgNamesUptoRow : OpenClaim := { program := "ytcjpbmdmomaibaadoor", sum := "91b651b1cffd9d97603361b88ff8a1b0a01e365660fd7dead869df863ed00c49", func := "catenary/catenarylaw05.MsgNames", spec := "msgNames", unfollowed := true, recurses := true, named := ["bytes.ErrTooLarge"], apart := false, laid := [("bytes.ErrTooLarge", laid_bytes_ErrTooLarge)], narrowed := true }
def MsgNamesUptoSaid : Prop := msgNamesUptoRow.holds Tryd.pinned (OpenSpec.upto msgNamesSpec)

/-- 'catenarylaw05.MsgEncodes', WHERE WHAT IT READS IS OF BULK AT MOST 1048576: true; the input reads as it did. -/
def msgEncodesUptoRow : OpenClaim := { program := "ytcjpbmdmomaibaadoor", sum := "91b651b1cffd9d97603361b88ff8a1b0a01e365660fd7dead869df863ed00c49", func := "catenary/catenarylaw05.MsgEncodes", spec := "msgEncodes", unfollowed := true, recurses := true, named := ["bytes.ErrTooLarge"], apart := false, laid := [("bytes.ErrTooLarge", laid_bytes_ErrTooLarge)], narrowed := true }
def MsgEncodesUptoSaid : Prop := msgEncodesUptoRow.holds Tryd.pinned (OpenSpec.upto msgEncodesSpec)

/-- 'catenarylaw05.MsgDecodes', WHERE WHAT IT READS IS OF BULK AT MOST 1048576: true; the input reads as it did. -/
def msgDecodesUptoRow : OpenClaim := { program := "ytcjpbmdmomaibaadoor", sum := "91b651b1cffd9d97603361b88ff8a1b0a01e365660fd7dead869df863ed00c49", func := "catenary/catenarylaw05.MsgDecodes", spec := "msgDecodes", unfollowed := true, recurses := true, named := ["bytes.ErrTooLarge"], apart := false, laid := [("bytes.ErrTooLarge", laid_bytes_ErrTooLarge)], narrowed := true }
def MsgDecodesUptoSaid : Prop := msgDecodesUptoRow.holds Tryd.pinned (OpenSpec.upto msgDecodesSpec)

/-- 'catenarylaw05.MsgBack', WHERE WHAT IT READS IS OF BULK AT MOST 1048576: true; the input reads as it did. -/
def msgBackUptoRow : OpenClaim := { program := "ytcjpbmdmomaibaadoor", sum := "91b651b1cffd9d97603361b88ff8a1b0a01e365660fd7dead869df863ed00c49", func := "catenary/catenarylaw05.MsgBack", spec := "msgBack", unfollowed := true, recurses := true, named := ["bytes.ErrTooLarge"], apart := false, laid := [("bytes.ErrTooLarge", laid_bytes_ErrTooLarge)], narrowed := true }
def MsgBackUptoSaid : Prop := msgBackUptoRow.holds Tryd.pinned (OpenSpec.upto msgBackSpec)

/-- 'catenarylaw05.MsgOnly', WHERE WHAT IT READS IS OF BULK AT MOST 1048576: true; the input reads as it did. -/
def msgOnlyUptoRow : OpenClaim := { program := "ytcjpbmdmomaibaadoor", sum := "91b651b1cffd9d97603361b88ff8a1b0a01e365660fd7dead869df863ed00c49", func := "catenary/catenarylaw05.MsgOnly", spec := "msgOnly", unfollowed := true, recurses := true, named := ["bytes.ErrTooLarge"], apart := false, laid := [("bytes.ErrTooLarge", laid_bytes_ErrTooLarge)], narrowed := true }
def MsgOnlyUptoSaid : Prop := msgOnlyUptoRow.holds Tryd.pinned (OpenSpec.upto msgOnlySpec)

/-- 'catenarylaw05.MsgTrails', WHERE WHAT IT READS IS OF BULK AT MOST 1048576: true; the input reads as it did. -/
def msgTrailsUptoRow : OpenClaim := { program := "ytcjpbmdmomaibaadoor", sum := "91b651b1cffd9d97603361b88ff8a1b0a01e365660fd7dead869df863ed00c49", func := "catenary/catenarylaw05.MsgTrails", spec := "msgTrails", unfollowed := true, recurses := true, named := ["bytes.ErrTooLarge"], apart := false, laid := [("bytes.ErrTooLarge", laid_bytes_ErrTooLarge)], narrowed := true }
def MsgTrailsUptoSaid : Prop := msgTrailsUptoRow.holds Tryd.pinned (OpenSpec.upto msgTrailsSpec)

/-- 'catenarylaw05.MsgBodies', WHERE WHAT IT READS IS OF BULK AT MOST 1048576: true; the input reads as it did. -/
def msgBodiesUptoRow : OpenClaim := { program := "ytcjpbmdmomaibaadoor", sum := "91b651b1cffd9d97603361b88ff8a1b0a01e365660fd7dead869df863ed00c49", func := "catenary/catenarylaw05.MsgBodies", spec := "msgBodies", unfollowed := true, recurses := true, named := ["bytes.ErrTooLarge"], apart := false, laid := [("bytes.ErrTooLarge", laid_bytes_ErrTooLarge)], narrowed := true }
def MsgBodiesUptoSaid : Prop := msgBodiesUptoRow.holds Tryd.pinned (OpenSpec.upto msgBodiesSpec)

/-- 'catenarylaw06.VoteSeals', WHERE WHAT IT READS IS OF BULK AT MOST 1048576: true; the input reads as it did. -/
def voteSealsUptoRow : OpenClaim := { program := "ytcjpbmdmomaibaadoor", sum := "91b651b1cffd9d97603361b88ff8a1b0a01e365660fd7dead869df863ed00c49", func := "catenary/catenarylaw06.VoteSeals", spec := "voteSeals", unfollowed := true, recurses := true, named := ["bytes.ErrTooLarge"], apart := false, laid := [("bytes.ErrTooLarge", laid_bytes_ErrTooLarge)], narrowed := true }
def VoteSealsUptoSaid : Prop := voteSealsUptoRow.holds Tryd.pinned (OpenSpec.upto voteSealsSpec)

/-- 'catenarylaw20.FetchNames', WHERE WHAT IT READS IS OF BULK AT MOST 1048576: true; the input reads as it did. -/
def fetchNamesUptoRow : OpenClaim := { program := "ytcjpbmdmomaibaadoor", sum := "91b651b1cffd9d97603361b88ff8a1b0a01e365660fd7dead869df863ed00c49", func := "catenary/catenarylaw20.FetchNames", spec := "fetchNames", unfollowed := true, recurses := true, named := ["bytes.ErrTooLarge"], apart := false, laid := [("bytes.ErrTooLarge", laid_bytes_ErrTooLarge)], narrowed := true }
def FetchNamesUptoSaid : Prop := fetchNamesUptoRow.holds Tryd.pinned (OpenSpec.upto fetchNamesSpec)

/-- 'catenarylaw20.FetchForgets', WHERE WHAT IT READS IS OF BULK AT MOST 1048576: true; the input reads as it did. -/
def fetchForgetsUptoRow : OpenClaim := { program := "ytcjpbmdmomaibaadoor", sum := "91b651b1cffd9d97603361b88ff8a1b0a01e365660fd7dead869df863ed00c49", func := "catenary/catenarylaw20.FetchForgets", spec := "fetchForgets", unfollowed := true, recurses := true, named := ["bytes.ErrTooLarge"], apart := false, laid := [("bytes.ErrTooLarge", laid_bytes_ErrTooLarge)], narrowed := true }
def FetchForgetsUptoSaid : Prop := fetchForgetsUptoRow.holds Tryd.pinned (OpenSpec.upto fetchForgetsSpec)

/-- 'catenarylaw20.FetchTrue', WHERE WHAT IT READS IS OF BULK AT MOST 1048576: true; the input reads as it did. -/
def fetchTrueUptoRow : OpenClaim := { program := "ytcjpbmdmomaibaadoor", sum := "91b651b1cffd9d97603361b88ff8a1b0a01e365660fd7dead869df863ed00c49", func := "catenary/catenarylaw20.FetchTrue", spec := "fetchTrue", unfollowed := true, recurses := true, named := ["bytes.ErrTooLarge"], apart := false, laid := [("bytes.ErrTooLarge", laid_bytes_ErrTooLarge)], narrowed := true }
def FetchTrueUptoSaid : Prop := fetchTrueUptoRow.holds Tryd.pinned (OpenSpec.upto fetchTrueSpec)

end Rows
end Go.Proofs.YtcjpbmdmomaibaaDoor
