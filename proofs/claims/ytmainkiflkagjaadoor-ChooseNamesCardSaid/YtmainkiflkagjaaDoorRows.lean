/-
  NARROWER THAN 'FOR EVERY INPUT', by the rows' own cells (each row's printed sentence says how): ChooseNames: laid · ChooseCommits: laid · ProofNames: laid · ProofEnough: laid · ProofSigned: laid.
  DERIVED. THE GIVEN ROWS OF THIS SEAT. 5 by the template 'for every input the law returns true; each argument reads behind the call as it read before'; 0 by the template 'total and deterministic' (their statements: YtmainkiflkagjaaDoorTotals.lean).
  GIVEN WITH THE SEED: the statements are not yours to turn. If you find one false, say at which input.
  Laid BY PROGRAM, IN A SANDBOX (cutbox-rows.mjs): the forced cells as the released guide's own fill.sh prints them over the translation 98a17b312792b22f… (all of the seat's roots in one cut). By AI agents, Wed Nov 11 2026. No macro, syntax, notation, axiom, sorry.
-/
import Derived.Test.YtmainkiflkagjaaDoorChecked
import GoSem.Claim
import GoSem.ClaimJoined
import GoSem.ClaimMapViews
import Derived.JoinedTies
import Derived.KernelRfl
namespace Go.Proofs.YtmainkiflkagjaaDoor
/- THE CELL 'sum', in the pinned program and in every row, IS THE sha256 OF THE DUMP (.gsa) THAT YtmainkiflkagjaaDoorProg.lean LOADS. Nothing in Lean hashes anything: it is a label: what it is worth is what the hold of that sum in a sandbox is worth. -/
noncomputable def Tryd.pinned : Pinned := { name := "ytmainkiflkagjaadoor", sum := "98a17b312792b22f08d2ccf59991c3f7239b201c76b3f19cefca1c81aa69cd21", checked := Tryd.checked }
namespace Rows
def none {H : Type} : Left H := { results := [], args := [] }

/- WHAT THE LISTED PACKAGE-LEVEL VARIABLES READ AS WHEN THE CALL BEGINS. Each datum BY PROGRAM (the guide's laid-datum.mjs) off the statement by which the dump's own 'gosem.cut.vars' lays the variable. In a bare row this is a premise. The card (YtmainkiflkagjaaDoorCards.lean) ties it to the program's text. -/
def laid_bytes_ErrTooLarge {H : Type} : DataW H := .iface "*errors.errorString" (.ptr (.agg [.lit (.string [98, 121, 116, 101, 115, 46, 66, 117, 102, 102, 101, 114, 58, 32, 116, 111, 111, 32, 108, 97, 114, 103, 101])]))

/-- 'catenarylaw18.ChooseNames': WHATEVER THE INPUT: true; the input reads as it did. -/
def chooseNamesSpec : ChangeSpec := { name := "chooseNames", fn := fun _ => fun
  | [] => { results := [.lit (.bool true)], args := [] }
  | _ => none }
def chooseNamesRow : OpenClaim := { program := "ytmainkiflkagjaadoor", sum := "98a17b312792b22f08d2ccf59991c3f7239b201c76b3f19cefca1c81aa69cd21", func := "catenary/catenarylaw18.ChooseNames", spec := "chooseNames", unfollowed := true, recurses := true, named := ["bytes.ErrTooLarge"], plainKeys := false, apart := false, laid := [("bytes.ErrTooLarge", laid_bytes_ErrTooLarge)] }
def ChooseNamesSaid : Prop := chooseNamesRow.holds Tryd.pinned (OpenSpec.ofChange chooseNamesSpec)

/-- ITS FALSE NEIGHBOUR: 'it returns false'. Refute it at one input. -/
def chooseNamesWrong : ChangeSpec := { name := "chooseNames", fn := fun _ => fun
  | [] => { results := [.lit (.bool false)], args := [] }
  | _ => none }
def ChooseNamesWrongFalsely : Prop := chooseNamesRow.holds Tryd.pinned (OpenSpec.ofChange chooseNamesWrong)

/-- 'catenarylaw18.ChooseCommits': WHATEVER THE INPUT: true; the input reads as it did. -/
def chooseCommitsSpec : ChangeSpec := { name := "chooseCommits", fn := fun _ => fun
  | [d1, d2, d3] => { results := [.lit (.bool true)], args := [d1, d2, d3] }
  | _ => none }
def chooseCommitsRow : OpenClaim := { program := "ytmainkiflkagjaadoor", sum := "98a17b312792b22f08d2ccf59991c3f7239b201c76b3f19cefca1c81aa69cd21", func := "catenary/catenarylaw18.ChooseCommits", spec := "chooseCommits", unfollowed := true, recurses := true, named := ["bytes.ErrTooLarge"], plainKeys := false, apart := false, laid := [("bytes.ErrTooLarge", laid_bytes_ErrTooLarge)] }
def ChooseCommitsSaid : Prop := chooseCommitsRow.holds Tryd.pinned (OpenSpec.ofChange chooseCommitsSpec)

/-- ITS FALSE NEIGHBOUR: 'it returns false'. Refute it at one input. -/
def chooseCommitsWrong : ChangeSpec := { name := "chooseCommits", fn := fun _ => fun
  | [d1, d2, d3] => { results := [.lit (.bool false)], args := [d1, d2, d3] }
  | _ => none }
def ChooseCommitsWrongFalsely : Prop := chooseCommitsRow.holds Tryd.pinned (OpenSpec.ofChange chooseCommitsWrong)

/-- 'catenarylaw16.ProofNames': WHATEVER THE INPUT: true; the input reads as it did. -/
def proofNamesSpec : ChangeSpec := { name := "proofNames", fn := fun _ => fun
  | [] => { results := [.lit (.bool true)], args := [] }
  | _ => none }
def proofNamesRow : OpenClaim := { program := "ytmainkiflkagjaadoor", sum := "98a17b312792b22f08d2ccf59991c3f7239b201c76b3f19cefca1c81aa69cd21", func := "catenary/catenarylaw16.ProofNames", spec := "proofNames", inPlace := ["internal/bytealg.Compare"], unfollowed := true, recurses := true, named := ["bytes.ErrTooLarge"], plainKeys := false, apart := false, laid := [("bytes.ErrTooLarge", laid_bytes_ErrTooLarge)] }
def ProofNamesSaid : Prop := proofNamesRow.holds Tryd.pinned (OpenSpec.ofChange proofNamesSpec)

/-- ITS FALSE NEIGHBOUR: 'it returns false'. Refute it at one input. -/
def proofNamesWrong : ChangeSpec := { name := "proofNames", fn := fun _ => fun
  | [] => { results := [.lit (.bool false)], args := [] }
  | _ => none }
def ProofNamesWrongFalsely : Prop := proofNamesRow.holds Tryd.pinned (OpenSpec.ofChange proofNamesWrong)

/-- 'catenarylaw16.ProofEnough': WHATEVER THE INPUT: true; the input reads as it did. -/
def proofEnoughSpec : ChangeSpec := { name := "proofEnough", fn := fun _ => fun
  | [d1, d2, d3] => { results := [.lit (.bool true)], args := [d1, d2, d3] }
  | _ => none }
def proofEnoughRow : OpenClaim := { program := "ytmainkiflkagjaadoor", sum := "98a17b312792b22f08d2ccf59991c3f7239b201c76b3f19cefca1c81aa69cd21", func := "catenary/catenarylaw16.ProofEnough", spec := "proofEnough", inPlace := ["internal/bytealg.Compare"], unfollowed := true, recurses := true, named := ["bytes.ErrTooLarge"], plainKeys := false, apart := false, laid := [("bytes.ErrTooLarge", laid_bytes_ErrTooLarge)] }
def ProofEnoughSaid : Prop := proofEnoughRow.holds Tryd.pinned (OpenSpec.ofChange proofEnoughSpec)

/-- ITS FALSE NEIGHBOUR: 'it returns false'. Refute it at one input. -/
def proofEnoughWrong : ChangeSpec := { name := "proofEnough", fn := fun _ => fun
  | [d1, d2, d3] => { results := [.lit (.bool false)], args := [d1, d2, d3] }
  | _ => none }
def ProofEnoughWrongFalsely : Prop := proofEnoughRow.holds Tryd.pinned (OpenSpec.ofChange proofEnoughWrong)

/-- 'catenarylaw16.ProofSigned': WHATEVER THE INPUT: true; the input reads as it did. -/
def proofSignedSpec : ChangeSpec := { name := "proofSigned", fn := fun _ => fun
  | [d1, d2] => { results := [.lit (.bool true)], args := [d1, d2] }
  | _ => none }
def proofSignedRow : OpenClaim := { program := "ytmainkiflkagjaadoor", sum := "98a17b312792b22f08d2ccf59991c3f7239b201c76b3f19cefca1c81aa69cd21", func := "catenary/catenarylaw16.ProofSigned", spec := "proofSigned", inPlace := ["internal/bytealg.Compare"], unfollowed := true, recurses := true, named := ["bytes.ErrTooLarge"], plainKeys := false, apart := false, laid := [("bytes.ErrTooLarge", laid_bytes_ErrTooLarge)] }
def ProofSignedSaid : Prop := proofSignedRow.holds Tryd.pinned (OpenSpec.ofChange proofSignedSpec)

/-- ITS FALSE NEIGHBOUR: 'it returns false'. Refute it at one input. -/
def proofSignedWrong : ChangeSpec := { name := "proofSigned", fn := fun _ => fun
  | [d1, d2] => { results := [.lit (.bool false)], args := [d1, d2] }
  | _ => none }
def ProofSignedWrongFalsely : Prop := proofSignedRow.holds Tryd.pinned (OpenSpec.ofChange proofSignedWrong)

/- THE SECOND FORM. 'bulk': how many values and letters a reading holds, each counted each time it is reached (what is shared counts as often as it is met; a slice's spare places count too). A statement '..UptoSaid' is the law's where the arguments, and the package variables that the reading takes, are together of bulk at most 1048576: NARROWER than '..Said'. Prove '..Said' where nothing that the law and all that it calls make is longer than what came in: it says more and counts as full. Else prove '..UptoSaid'. A law counts once. -/
mutual
def uptoBulk {H : Type} : DataW H → Nat
  | .lit (.string bytes) => bytes.length + 1
  | .lit _ => 1
  | .nil => 1
  | .ptr d => uptoBulk d + 1
  | .slice elems spare => uptoBulkAll elems + uptoBulkAll spare + 1
  | .agg parts => uptoBulkAll parts + 1
  | .iface _ d => uptoBulk d + 1
  | .map entries => uptoBulkEntries entries + 1
  | .held _ => 1
def uptoBulkAll {H : Type} : List (DataW H) → Nat
  | [] => 0
  | d :: r => uptoBulk d + uptoBulkAll r
def uptoBulkEntries {H : Type} : List (Lit × DataW H) → Nat
  | [] => 0
  | x :: r => uptoBulkEntry x + uptoBulkEntries r
def uptoBulkEntry {H : Type} : Lit × DataW H → Nat
  | (.string bytes, d) => bytes.length + uptoBulk d + 1
  | (_, d) => uptoBulk d + 1
 end
def uptoSmall : (H : Type) → List (DataW H) → Bool := fun _ ds => decide (uptoBulkAll ds ≤ 1048576)
def OpenSpec.upto (s : _root_.Go.ChangeSpec) : _root_.Go.OpenSpec := { _root_.Go.OpenSpec.ofChange s with cond := some uptoSmall }

/-- 'catenarylaw18.ChooseNames', WHERE WHAT IT READS IS OF BULK AT MOST 1048576: true; the input reads as it did. -/
def chooseNamesUptoRow : OpenClaim := { program := "ytmainkiflkagjaadoor", sum := "98a17b312792b22f08d2ccf59991c3f7239b201c76b3f19cefca1c81aa69cd21", func := "catenary/catenarylaw18.ChooseNames", spec := "chooseNames", unfollowed := true, recurses := true, named := ["bytes.ErrTooLarge"], plainKeys := false, apart := false, laid := [("bytes.ErrTooLarge", laid_bytes_ErrTooLarge)], narrowed := true }
def ChooseNamesUptoSaid : Prop := chooseNamesUptoRow.holds Tryd.pinned (OpenSpec.upto chooseNamesSpec)

/-- 'catenarylaw18.ChooseCommits', WHERE WHAT IT READS IS OF BULK AT MOST 1048576: true; the input reads as it did. -/
def chooseCommitsUptoRow : OpenClaim := { program := "ytmainkiflkagjaadoor", sum := "98a17b312792b22f08d2ccf59991c3f7239b201c76b3f19cefca1c81aa69cd21", func := "catenary/catenarylaw18.ChooseCommits", spec := "chooseCommits", unfollowed := true, recurses := true, named := ["bytes.ErrTooLarge"], plainKeys := false, apart := false, laid := [("bytes.ErrTooLarge", laid_bytes_ErrTooLarge)], narrowed := true }
def ChooseCommitsUptoSaid : Prop := chooseCommitsUptoRow.holds Tryd.pinned (OpenSpec.upto chooseCommitsSpec)

/-- 'catenarylaw16.ProofNames', WHERE WHAT IT READS IS OF BULK AT MOST 1048576: true; the input reads as it did. -/
def proofNamesUptoRow : OpenClaim := { program := "ytmainkiflkagjaadoor", sum := "98a17b312792b22f08d2ccf59991c3f7239b201c76b3f19cefca1c81aa69cd21", func := "catenary/catenarylaw16.ProofNames", spec := "proofNames", inPlace := ["internal/bytealg.Compare"], unfollowed := true, recurses := true, named := ["bytes.ErrTooLarge"], plainKeys := false, apart := false, laid := [("bytes.ErrTooLarge", laid_bytes_ErrTooLarge)], narrowed := true }
def ProofNamesUptoSaid : Prop := proofNamesUptoRow.holds Tryd.pinned (OpenSpec.upto proofNamesSpec)

/-- 'catenarylaw16.ProofEnough', WHERE WHAT IT READS IS OF BULK AT MOST 1048576: true; the input reads as it did. -/
def proofEnoughUptoRow : OpenClaim := { program := "ytmainkiflkagjaadoor", sum := "98a17b312792b22f08d2ccf59991c3f7239b201c76b3f19cefca1c81aa69cd21", func := "catenary/catenarylaw16.ProofEnough", spec := "proofEnough", inPlace := ["internal/bytealg.Compare"], unfollowed := true, recurses := true, named := ["bytes.ErrTooLarge"], plainKeys := false, apart := false, laid := [("bytes.ErrTooLarge", laid_bytes_ErrTooLarge)], narrowed := true }
def ProofEnoughUptoSaid : Prop := proofEnoughUptoRow.holds Tryd.pinned (OpenSpec.upto proofEnoughSpec)

/-- 'catenarylaw16.ProofSigned', WHERE WHAT IT READS IS OF BULK AT MOST 1048576: true; the input reads as it did. -/
def proofSignedUptoRow : OpenClaim := { program := "ytmainkiflkagjaadoor", sum := "98a17b312792b22f08d2ccf59991c3f7239b201c76b3f19cefca1c81aa69cd21", func := "catenary/catenarylaw16.ProofSigned", spec := "proofSigned", inPlace := ["internal/bytealg.Compare"], unfollowed := true, recurses := true, named := ["bytes.ErrTooLarge"], plainKeys := false, apart := false, laid := [("bytes.ErrTooLarge", laid_bytes_ErrTooLarge)], narrowed := true }
def ProofSignedUptoSaid : Prop := proofSignedUptoRow.holds Tryd.pinned (OpenSpec.upto proofSignedSpec)

end Rows
end Go.Proofs.YtmainkiflkagjaaDoor
