/-
  NARROWER THAN 'FOR EVERY INPUT', by the rows' own cells (each row's printed sentence says how): ChooseRights: laid · ChooseAlls: laid · WholeTold: laid · ProofChecks: laid · ProofMakes: laid.
  DERIVED. THE GIVEN ROWS OF THIS SEAT. 5 by the template 'for every input the law returns true; each argument reads behind the call as it read before'; 0 by the template 'total and deterministic' (their statements: YtmainkiflkagjaaGreatDoorTotals.lean).
  GIVEN WITH THE SEED: the statements are not yours to turn. If you find one false, say at which input.
  Laid BY PROGRAM, IN A SANDBOX (cutbox-rows.mjs): the forced cells as the released guide's own fill.sh prints them over the translation 8ba04fb26c4af19c… (all of the seat's roots in one cut). By AI agents, Wed Nov 11 2026. No macro, syntax, notation, axiom, sorry.
-/
import Derived.Test.YtmainkiflkagjaaGreatDoorChecked
import GoSem.Claim
import GoSem.ClaimJoined
import GoSem.ClaimMapViews
import Derived.JoinedTies
import Derived.KernelRfl
namespace Go.Proofs.YtmainkiflkagjaaGreatDoor
/- THE CELL 'sum', in the pinned program and in every row, IS THE sha256 OF THE DUMP (.gsa) THAT YtmainkiflkagjaaGreatDoorProg.lean LOADS. Nothing in Lean hashes anything: it is a label: what it is worth is what the hold of that sum in a sandbox is worth. -/
noncomputable def Tryz.pinned : Pinned := { name := "ytmainkiflkagjaagreatdoor", sum := "8ba04fb26c4af19cccb7fac350fc3bab16436b0908b29f6cb26d68bb791fdf8a", checked := Tryz.checked }
namespace Rows
def none {H : Type} : Left H := { results := [], args := [] }

/- WHAT THE LISTED PACKAGE-LEVEL VARIABLES READ AS WHEN THE CALL BEGINS. Each datum BY PROGRAM (the guide's laid-datum.mjs) off the statement by which the dump's own 'gosem.cut.vars' lays the variable. In a bare row this is a premise. The card (YtmainkiflkagjaaGreatDoorCards.lean) ties it to the program's text. -/
def laid_bytes_ErrTooLarge {H : Type} : DataW H := .iface "*errors.errorString" (.ptr (.agg [.lit (.string [98, 121, 116, 101, 115, 46, 66, 117, 102, 102, 101, 114, 58, 32, 116, 111, 111, 32, 108, 97, 114, 103, 101])]))

/-- 'catenarylaw18.ChooseRights': WHATEVER THE INPUT: true; the input reads as it did. -/
def chooseRightsSpec : ChangeSpec := { name := "chooseRights", fn := fun _ => fun
  | [d1, d2] => { results := [.lit (.bool true)], args := [d1, d2] }
  | _ => none }
def chooseRightsRow : OpenClaim := { program := "ytmainkiflkagjaagreatdoor", sum := "8ba04fb26c4af19cccb7fac350fc3bab16436b0908b29f6cb26d68bb791fdf8a", func := "catenary/catenarylaw18.ChooseRights", spec := "chooseRights", unfollowed := true, recurses := true, named := ["bytes.ErrTooLarge"], plainKeys := false, apart := false, laid := [("bytes.ErrTooLarge", laid_bytes_ErrTooLarge)] }
def ChooseRightsSaid : Prop := chooseRightsRow.holds Tryz.pinned (OpenSpec.ofChange chooseRightsSpec)

/-- ITS FALSE NEIGHBOUR: 'it returns false'. Refute it at one input. -/
def chooseRightsWrong : ChangeSpec := { name := "chooseRights", fn := fun _ => fun
  | [d1, d2] => { results := [.lit (.bool false)], args := [d1, d2] }
  | _ => none }
def ChooseRightsWrongFalsely : Prop := chooseRightsRow.holds Tryz.pinned (OpenSpec.ofChange chooseRightsWrong)

/-- 'catenarylaw18.ChooseAlls': WHATEVER THE INPUT: true; the input reads as it did. -/
def chooseAllsSpec : ChangeSpec := { name := "chooseAlls", fn := fun _ => fun
  | [d1, d2, d3] => { results := [.lit (.bool true)], args := [d1, d2, d3] }
  | _ => none }
def chooseAllsRow : OpenClaim := { program := "ytmainkiflkagjaagreatdoor", sum := "8ba04fb26c4af19cccb7fac350fc3bab16436b0908b29f6cb26d68bb791fdf8a", func := "catenary/catenarylaw18.ChooseAlls", spec := "chooseAlls", unfollowed := true, recurses := true, named := ["bytes.ErrTooLarge"], plainKeys := false, apart := false, laid := [("bytes.ErrTooLarge", laid_bytes_ErrTooLarge)] }
def ChooseAllsSaid : Prop := chooseAllsRow.holds Tryz.pinned (OpenSpec.ofChange chooseAllsSpec)

/-- ITS FALSE NEIGHBOUR: 'it returns false'. Refute it at one input. -/
def chooseAllsWrong : ChangeSpec := { name := "chooseAlls", fn := fun _ => fun
  | [d1, d2, d3] => { results := [.lit (.bool false)], args := [d1, d2, d3] }
  | _ => none }
def ChooseAllsWrongFalsely : Prop := chooseAllsRow.holds Tryz.pinned (OpenSpec.ofChange chooseAllsWrong)

/-- 'catenarytop.WholeTold': WHATEVER THE INPUT: true; the input reads as it did. -/
def wholeToldSpec : ChangeSpec := { name := "wholeTold", fn := fun _ => fun
  | [d1, d2, d3] => { results := [.lit (.bool true)], args := [d1, d2, d3] }
  | _ => none }
def wholeToldRow : OpenClaim := { program := "ytmainkiflkagjaagreatdoor", sum := "8ba04fb26c4af19cccb7fac350fc3bab16436b0908b29f6cb26d68bb791fdf8a", func := "catenary/catenarytop.WholeTold", spec := "wholeTold", unfollowed := true, recurses := true, named := ["bytes.ErrTooLarge"], plainKeys := false, apart := false, laid := [("bytes.ErrTooLarge", laid_bytes_ErrTooLarge)] }
def WholeToldSaid : Prop := wholeToldRow.holds Tryz.pinned (OpenSpec.ofChange wholeToldSpec)

/-- ITS FALSE NEIGHBOUR: 'it returns false'. Refute it at one input. -/
def wholeToldWrong : ChangeSpec := { name := "wholeTold", fn := fun _ => fun
  | [d1, d2, d3] => { results := [.lit (.bool false)], args := [d1, d2, d3] }
  | _ => none }
def WholeToldWrongFalsely : Prop := wholeToldRow.holds Tryz.pinned (OpenSpec.ofChange wholeToldWrong)

/-- 'catenarylaw16.ProofChecks': WHATEVER THE INPUT: true; the input reads as it did. -/
def proofChecksSpec : ChangeSpec := { name := "proofChecks", fn := fun _ => fun
  | [d1, d2] => { results := [.lit (.bool true)], args := [d1, d2] }
  | _ => none }
def proofChecksRow : OpenClaim := { program := "ytmainkiflkagjaagreatdoor", sum := "8ba04fb26c4af19cccb7fac350fc3bab16436b0908b29f6cb26d68bb791fdf8a", func := "catenary/catenarylaw16.ProofChecks", spec := "proofChecks", inPlace := ["internal/bytealg.Compare"], unfollowed := true, recurses := true, named := ["bytes.ErrTooLarge"], plainKeys := false, apart := false, laid := [("bytes.ErrTooLarge", laid_bytes_ErrTooLarge)] }
def ProofChecksSaid : Prop := proofChecksRow.holds Tryz.pinned (OpenSpec.ofChange proofChecksSpec)

/-- ITS FALSE NEIGHBOUR: 'it returns false'. Refute it at one input. -/
def proofChecksWrong : ChangeSpec := { name := "proofChecks", fn := fun _ => fun
  | [d1, d2] => { results := [.lit (.bool false)], args := [d1, d2] }
  | _ => none }
def ProofChecksWrongFalsely : Prop := proofChecksRow.holds Tryz.pinned (OpenSpec.ofChange proofChecksWrong)

/-- 'catenarylaw16.ProofMakes': WHATEVER THE INPUT: true; the input reads as it did. -/
def proofMakesSpec : ChangeSpec := { name := "proofMakes", fn := fun _ => fun
  | [d] => { results := [.lit (.bool true)], args := [d] }
  | _ => none }
def proofMakesRow : OpenClaim := { program := "ytmainkiflkagjaagreatdoor", sum := "8ba04fb26c4af19cccb7fac350fc3bab16436b0908b29f6cb26d68bb791fdf8a", func := "catenary/catenarylaw16.ProofMakes", spec := "proofMakes", inPlace := ["internal/bytealg.Compare"], unfollowed := true, recurses := true, named := ["bytes.ErrTooLarge"], plainKeys := false, apart := false, laid := [("bytes.ErrTooLarge", laid_bytes_ErrTooLarge)] }
def ProofMakesSaid : Prop := proofMakesRow.holds Tryz.pinned (OpenSpec.ofChange proofMakesSpec)

/-- ITS FALSE NEIGHBOUR: 'it returns false'. Refute it at one input. -/
def proofMakesWrong : ChangeSpec := { name := "proofMakes", fn := fun _ => fun
  | [d] => { results := [.lit (.bool false)], args := [d] }
  | _ => none }
def ProofMakesWrongFalsely : Prop := proofMakesRow.holds Tryz.pinned (OpenSpec.ofChange proofMakesWrong)

/- THE SECOND FORM. 'bulk': how many values and letters a reading holds, each counted each time it is reached (what is shared counts as often as it is met; a slice's spare places count too). A statement '..UptoSaid' is the law's where the arguments, and the package variables that the reading takes, are together of bulk at most 1048576: NARROWER than '..Said'. Prove '..Said' where nothing that the law and all that it calls make is longer than what came in: it says more and counts as full. Else prove '..UptoSaid'. A law counts once. -/
mutual
def uptoBulk {H : Type} : DataW H → Nat
  | .lit (.string bytes) => bytes.length + 1
  | .lit _ => 1
  | .nil => 1
  | .ptr d => uptoBulk d + 1
  | .slice elems spare => uptoBulkAll elems + uptoBulkAll spare + 1
  | .agg parts => uptoBulkAll parts + 1
  | .iface _ d => uptoBulk d + 1
  | .map entries => uptoBulkEntries entries + 1
  | .held _ => 1
def uptoBulkAll {H : Type} : List (DataW H) → Nat
  | [] => 0
  | d :: r => uptoBulk d + uptoBulkAll r
def uptoBulkEntries {H : Type} : List (Lit × DataW H) → Nat
  | [] => 0
  | x :: r => uptoBulkEntry x + uptoBulkEntries r
def uptoBulkEntry {H : Type} : Lit × DataW H → Nat
  | (.string bytes, d) => bytes.length + uptoBulk d + 1
  | (_, d) => uptoBulk d + 1
 end
def uptoSmall : (H : Type) → List (DataW H) → Bool := fun _ ds => decide (uptoBulkAll ds ≤ 1048576)
def OpenSpec.upto (s : _root_.Go.ChangeSpec) : _root_.Go.OpenSpec := { _root_.Go.OpenSpec.ofChange s with cond := some uptoSmall }

/-- 'catenarylaw18.ChooseRights', WHERE WHAT IT READS IS OF BULK AT MOST 1048576: true; the input reads as it did. -/
def chooseRightsUptoRow : OpenClaim := { program := "ytmainkiflkagjaagreatdoor", sum := "8ba04fb26c4af19cccb7fac350fc3bab16436b0908b29f6cb26d68bb791fdf8a", func := "catenary/catenarylaw18.ChooseRights", spec := "chooseRights", unfollowed := true, recurses := true, named := ["bytes.ErrTooLarge"], plainKeys := false, apart := false, laid := [("bytes.ErrTooLarge", laid_bytes_ErrTooLarge)], narrowed := true }
def ChooseRightsUptoSaid : Prop := chooseRightsUptoRow.holds Tryz.pinned (OpenSpec.upto chooseRightsSpec)

/-- 'catenarylaw18.ChooseAlls', WHERE WHAT IT READS IS OF BULK AT MOST 1048576: true; the input reads as it did. -/
def chooseAllsUptoRow : OpenClaim := { program := "ytmainkiflkagjaagreatdoor", sum := "8ba04fb26c4af19cccb7fac350fc3bab16436b0908b29f6cb26d68bb791fdf8a", func := "catenary/catenarylaw18.ChooseAlls", spec := "chooseAlls", unfollowed := true, recurses := true, named := ["bytes.ErrTooLarge"], plainKeys := false, apart := false, laid := [("bytes.ErrTooLarge", laid_bytes_ErrTooLarge)], narrowed := true }
def ChooseAllsUptoSaid : Prop := chooseAllsUptoRow.holds Tryz.pinned (OpenSpec.upto chooseAllsSpec)

/-- 'catenarytop.WholeTold', WHERE WHAT IT READS IS OF BULK AT MOST 1048576: true; the input reads as it did. -/
def wholeToldUptoRow : OpenClaim := { program := "ytmainkiflkagjaagreatdoor", sum := "8ba04fb26c4af19cccb7fac350fc3bab16436b0908b29f6cb26d68bb791fdf8a", func := "catenary/catenarytop.WholeTold", spec := "wholeTold", unfollowed := true, recurses := true, named := ["bytes.ErrTooLarge"], plainKeys := false, apart := false, laid := [("bytes.ErrTooLarge", laid_bytes_ErrTooLarge)], narrowed := true }
def WholeToldUptoSaid : Prop := wholeToldUptoRow.holds Tryz.pinned (OpenSpec.upto wholeToldSpec)

/-- 'catenarylaw16.ProofChecks', WHERE WHAT IT READS IS OF BULK AT MOST 1048576: true; the input reads as it did. -/
def proofChecksUptoRow : OpenClaim := { program := "ytmainkiflkagjaagreatdoor", sum := "8ba04fb26c4af19cccb7fac350fc3bab16436b0908b29f6cb26d68bb791fdf8a", func := "catenary/catenarylaw16.ProofChecks", spec := "proofChecks", inPlace := ["internal/bytealg.Compare"], unfollowed := true, recurses := true, named := ["bytes.ErrTooLarge"], plainKeys := false, apart := false, laid := [("bytes.ErrTooLarge", laid_bytes_ErrTooLarge)], narrowed := true }
def ProofChecksUptoSaid : Prop := proofChecksUptoRow.holds Tryz.pinned (OpenSpec.upto proofChecksSpec)

/-- 'catenarylaw16.ProofMakes', WHERE WHAT IT READS IS OF BULK AT MOST 1048576: true; the input reads as it did. -/
def proofMakesUptoRow : OpenClaim := { program := "ytmainkiflkagjaagreatdoor", sum := "8ba04fb26c4af19cccb7fac350fc3bab16436b0908b29f6cb26d68bb791fdf8a", func := "catenary/catenarylaw16.ProofMakes", spec := "proofMakes", inPlace := ["internal/bytealg.Compare"], unfollowed := true, recurses := true, named := ["bytes.ErrTooLarge"], plainKeys := false, apart := false, laid := [("bytes.ErrTooLarge", laid_bytes_ErrTooLarge)], narrowed := true }
def ProofMakesUptoSaid : Prop := proofMakesUptoRow.holds Tryz.pinned (OpenSpec.upto proofMakesSpec)

end Rows
end Go.Proofs.YtmainkiflkagjaaGreatDoor
