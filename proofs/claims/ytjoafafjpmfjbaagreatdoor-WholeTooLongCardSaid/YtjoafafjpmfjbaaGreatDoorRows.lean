/-
  NARROWER THAN 'FOR EVERY INPUT', by the rows' own cells (each row's printed sentence says how): WholeTooLong: laid.
  DERIVED. THE GIVEN ROWS OF THIS SEAT. 1 by the template 'for every input the law returns true; each argument reads behind the call as it read before'; 0 by the template 'total and deterministic' (their statements: YtjoafafjpmfjbaaGreatDoorTotals.lean).
  GIVEN WITH THE SEED: the statements are not yours to turn. If you find one false, say at which input.
  Laid BY PROGRAM, IN A SANDBOX (cutbox-rows.mjs): the forced cells as the released guide's own fill.sh prints them over the translation 943023c7a1f7c6e4… (all of the seat's roots in one cut). By AI agents, Wed Nov 11 2026. No macro, syntax, notation, axiom, sorry.
-/
import Derived.Test.YtjoafafjpmfjbaaGreatDoorChecked
import GoSem.Claim
import GoSem.ClaimJoined
import GoSem.ClaimMapViews
import Derived.JoinedTies
import Derived.KernelRfl
namespace Go.Proofs.YtjoafafjpmfjbaaGreatDoor
/- THE CELL 'sum', in the pinned program and in every row, IS THE sha256 OF THE DUMP (.gsa) THAT YtjoafafjpmfjbaaGreatDoorProg.lean LOADS. Nothing in Lean hashes anything: it is a label: what it is worth is what the hold of that sum in a sandbox is worth. -/
noncomputable def Tryz.pinned : Pinned := { name := "ytjoafafjpmfjbaagreatdoor", sum := "943023c7a1f7c6e46f7ca1bcdf60183efaad5056447a3c92353ec725af2fc664", checked := Tryz.checked }
namespace Rows
def none {H : Type} : Left H := { results := [], args := [] }

/- WHAT THE LISTED PACKAGE-LEVEL VARIABLES READ AS WHEN THE CALL BEGINS. Each datum BY PROGRAM (the guide's laid-datum.mjs) off the statement by which the dump's own 'gosem.cut.vars' lays the variable. In a bare row this is a premise. The card (YtjoafafjpmfjbaaGreatDoorCards.lean) ties it to the program's text. -/
def laid_erewhile_caltok_units {H : Type} : DataW H := .map [(.int .u8 100, .lit (.int .i64 1440)), (.int .u8 104, .lit (.int .i64 60)), (.int .u8 109, .lit (.int .i64 1))]

/-- 'erewhiletop.WholeTooLong': WHATEVER THE INPUT: true; the input reads as it did. -/
def wholeTooLongSpec : ChangeSpec := { name := "wholeTooLong", fn := fun _ => fun
  | [d1, d2, d3] => { results := [.lit (.bool true)], args := [d1, d2, d3] }
  | _ => none }
def wholeTooLongRow : OpenClaim := { program := "ytjoafafjpmfjbaagreatdoor", sum := "943023c7a1f7c6e46f7ca1bcdf60183efaad5056447a3c92353ec725af2fc664", func := "erewhile/erewhiletop.WholeTooLong", spec := "wholeTooLong", unfollowed := true, recurses := true, named := ["erewhile/caltok.units"], apart := false, laid := [("erewhile/caltok.units", laid_erewhile_caltok_units)] }
def WholeTooLongSaid : Prop := wholeTooLongRow.holds Tryz.pinned (OpenSpec.ofChange wholeTooLongSpec)

/-- ITS FALSE NEIGHBOUR: 'it returns false'. Refute it at one input. -/
def wholeTooLongWrong : ChangeSpec := { name := "wholeTooLong", fn := fun _ => fun
  | [d1, d2, d3] => { results := [.lit (.bool false)], args := [d1, d2, d3] }
  | _ => none }
def WholeTooLongWrongFalsely : Prop := wholeTooLongRow.holds Tryz.pinned (OpenSpec.ofChange wholeTooLongWrong)

/- THE SECOND FORM. 'bulk': how many values and letters a reading holds, each counted each time it is reached (what is shared counts as often as it is met; a slice's spare places count too). A statement '..UptoSaid' is the law's where the arguments, and the package variables that the reading takes, are together of bulk at most 1048576: NARROWER than '..Said'. Prove '..Said' where nothing that the law and all that it calls make is longer than what came in: it says more and counts as full. Else prove '..UptoSaid'. A law counts once. -/
mutual
def uptoBulk {H : Type} : DataW H → Nat
  | .lit (.string bytes) => bytes.length + 1
  | .lit _ => 1
  | .nil => 1
  | .ptr d => uptoBulk d + 1
  | .slice elems spare => uptoBulkAll elems + uptoBulkAll spare + 1
  | .agg parts => uptoBulkAll parts + 1
  | .iface _ d => uptoBulk d + 1
  | .map entries => uptoBulkEntries entries + 1
  | .held _ => 1
def uptoBulkAll {H : Type} : List (DataW H) → Nat
  | [] => 0
  | d :: r => uptoBulk d + uptoBulkAll r
def uptoBulkEntries {H : Type} : List (Lit × DataW H) → Nat
  | [] => 0
  | x :: r => uptoBulkEntry x + uptoBulkEntries r
def uptoBulkEntry {H : Type} : Lit × DataW H → Nat
  | (.string bytes, d) => bytes.length + uptoBulk d + 1
  | (_, d) => uptoBulk d + 1
 end
def uptoSmall : (H : Type) → List (DataW H) → Bool := fun _ ds => decide (uptoBulkAll ds ≤ 1048576)
def OpenSpec.upto (s : _root_.Go.ChangeSpec) : _root_.Go.OpenSpec := { _root_.Go.OpenSpec.ofChange s with cond := some uptoSmall }

/-- 'erewhiletop.WholeTooLong', WHERE WHAT IT READS IS OF BULK AT MOST 1048576: true; the input reads as it did. -/
def wholeTooLongUptoRow : OpenClaim := { program := "ytjoafafjpmfjbaagreatdoor", sum := "943023c7a1f7c6e46f7ca1bcdf60183efaad5056447a3c92353ec725af2fc664", func := "erewhile/erewhiletop.WholeTooLong", spec := "wholeTooLong", unfollowed := true, recurses := true, named := ["erewhile/caltok.units"], apart := false, laid := [("erewhile/caltok.units", laid_erewhile_caltok_units)], narrowed := true }
def WholeTooLongUptoSaid : Prop := wholeTooLongUptoRow.holds Tryz.pinned (OpenSpec.upto wholeTooLongSpec)

end Rows
end Go.Proofs.YtjoafafjpmfjbaaGreatDoor
