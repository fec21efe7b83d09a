/-
  NARROWER THAN 'FOR EVERY INPUT', by the rows' own cells (each row's printed sentence says how): ProbeData: laid · ProbeRenames: laid · ProbeLooks: laid · ProbeCalm: laid · ProbeMixed: laid · ProbeStorm: laid · ProbeLost: laid · ProbeNew: laid · ProbeMounted: laid.
  DERIVED. THE GIVEN ROWS OF THIS SEAT. 9 by the template 'for every input the law returns true; each argument reads behind the call as it read before'; 0 by the template 'total and deterministic' (their statements: YtoglbbonfjnmpaaDoorTotals.lean).
  GIVEN WITH THE SEED: the statements are not yours to turn. If you find one false, say at which input.
  Laid BY PROGRAM, IN A SANDBOX (cutbox-rows.mjs): the forced cells as the released guide's own fill.sh prints them over the translation 7287716c17262a7a… (all of the seat's roots in one cut). By AI agents, Wed Nov 11 2026. No macro, syntax, notation, axiom, sorry.
-/
import Derived.Test.YtoglbbonfjnmpaaDoorChecked
import GoSem.Claim
import GoSem.ClaimJoined
import GoSem.ClaimMapViews
import Derived.JoinedTies
import Derived.KernelRfl
namespace Go.Proofs.YtoglbbonfjnmpaaDoor
/- THE CELL 'sum', in the pinned program and in every row, IS THE sha256 OF THE DUMP (.gsa) THAT YtoglbbonfjnmpaaDoorProg.lean LOADS. Nothing in Lean hashes anything: it is a label: what it is worth is what the hold of that sum in a sandbox is worth. -/
noncomputable def Tryd.pinned : Pinned := { name := "ytoglbbonfjnmpaadoor", sum := "7287716c17262a7a6e89feccdc4f9a33fca30bd5e60c99c36f365243c103cdda", checked := Tryd.checked }
namespace Rows
def none {H : Type} : Left H := { results := [], args := [] }

/- WHAT THE LISTED PACKAGE-LEVEL VARIABLES READ AS WHEN THE CALL BEGINS. Each datum BY PROGRAM (the guide's laid-datum.mjs) off the statement by which the dump's own 'gosem.cut.vars' lays the variable. In a bare row this is a premise. The card (YtoglbbonfjnmpaaDoorCards.lean) ties it to the program's text. -/
def laid_erewhile_probe_numbers {H : Type} : DataW H := .agg [.agg [.lit (.int .u8 37), .lit (.int .u8 80), .lit (.int .u8 68), .lit (.int .u8 70)], .agg [.lit (.int .u8 80), .lit (.int .u8 75), .lit (.int .u8 3), .lit (.int .u8 4)], .agg [.lit (.int .u8 137), .lit (.int .u8 80), .lit (.int .u8 78), .lit (.int .u8 71)], .agg [.lit (.int .u8 127), .lit (.int .u8 69), .lit (.int .u8 76), .lit (.int .u8 70)]]
def laid_erewhile_probe_endings {H : Type} : DataW H := .agg [.lit (.string [112, 100, 102]), .lit (.string [122, 105, 112]), .lit (.string [112, 110, 103]), .lit (.string [101, 108, 102])]
def laid_erewhile_fs_magic {H : Type} : DataW H := .agg [.lit (.int .u8 69), .lit (.int .u8 82), .lit (.int .u8 69), .lit (.int .u8 87), .lit (.int .u8 1)]

/-- 'erewhilelaw51.ProbeData': WHATEVER THE INPUT: true; the input reads as it did. -/
def probeDataSpec : ChangeSpec := { name := "probeData", fn := fun _ => fun
  | [d1, d2] => { results := [.lit (.bool true)], args := [d1, d2] }
  | _ => none }
def probeDataRow : OpenClaim := { program := "ytoglbbonfjnmpaadoor", sum := "7287716c17262a7a6e89feccdc4f9a33fca30bd5e60c99c36f365243c103cdda", func := "erewhile/erewhilelaw51.ProbeData", spec := "probeData", unfollowed := true, recurses := true, named := ["erewhile/probe.endings", "erewhile/probe.numbers"], apart := false, laid := [("erewhile/probe.numbers", laid_erewhile_probe_numbers), ("erewhile/probe.endings", laid_erewhile_probe_endings)] }
def ProbeDataSaid : Prop := probeDataRow.holds Tryd.pinned (OpenSpec.ofChange probeDataSpec)

/-- ITS FALSE NEIGHBOUR: 'it returns false'. Refute it at one input. -/
def probeDataWrong : ChangeSpec := { name := "probeData", fn := fun _ => fun
  | [d1, d2] => { results := [.lit (.bool false)], args := [d1, d2] }
  | _ => none }
def ProbeDataWrongFalsely : Prop := probeDataRow.holds Tryd.pinned (OpenSpec.ofChange probeDataWrong)

/-- 'erewhilelaw51.ProbeRenames': WHATEVER THE INPUT: true; the input reads as it did. -/
def probeRenamesSpec : ChangeSpec := { name := "probeRenames", fn := fun _ => fun
  | [d1, d2] => { results := [.lit (.bool true)], args := [d1, d2] }
  | _ => none }
def probeRenamesRow : OpenClaim := { program := "ytoglbbonfjnmpaadoor", sum := "7287716c17262a7a6e89feccdc4f9a33fca30bd5e60c99c36f365243c103cdda", func := "erewhile/erewhilelaw51.ProbeRenames", spec := "probeRenames", unfollowed := true, recurses := true, named := ["erewhile/probe.endings", "erewhile/probe.numbers"], apart := false, laid := [("erewhile/probe.numbers", laid_erewhile_probe_numbers), ("erewhile/probe.endings", laid_erewhile_probe_endings)] }
def ProbeRenamesSaid : Prop := probeRenamesRow.holds Tryd.pinned (OpenSpec.ofChange probeRenamesSpec)

/-- ITS FALSE NEIGHBOUR: 'it returns false'. Refute it at one input. -/
def probeRenamesWrong : ChangeSpec := { name := "probeRenames", fn := fun _ => fun
  | [d1, d2] => { results := [.lit (.bool false)], args := [d1, d2] }
  | _ => none }
def ProbeRenamesWrongFalsely : Prop := probeRenamesRow.holds Tryd.pinned (OpenSpec.ofChange probeRenamesWrong)

/-- 'erewhilelaw51.ProbeLooks': WHATEVER THE INPUT: true; the input reads as it did. -/
def probeLooksSpec : ChangeSpec := { name := "probeLooks", fn := fun _ => fun
  | [d1, d2, d3] => { results := [.lit (.bool true)], args := [d1, d2, d3] }
  | _ => none }
def probeLooksRow : OpenClaim := { program := "ytoglbbonfjnmpaadoor", sum := "7287716c17262a7a6e89feccdc4f9a33fca30bd5e60c99c36f365243c103cdda", func := "erewhile/erewhilelaw51.ProbeLooks", spec := "probeLooks", unfollowed := true, recurses := true, named := ["erewhile/probe.endings", "erewhile/probe.numbers"], apart := false, laid := [("erewhile/probe.numbers", laid_erewhile_probe_numbers), ("erewhile/probe.endings", laid_erewhile_probe_endings)] }
def ProbeLooksSaid : Prop := probeLooksRow.holds Tryd.pinned (OpenSpec.ofChange probeLooksSpec)

/-- ITS FALSE NEIGHBOUR: 'it returns false'. Refute it at one input. -/
def probeLooksWrong : ChangeSpec := { name := "probeLooks", fn := fun _ => fun
  | [d1, d2, d3] => { results := [.lit (.bool false)], args := [d1, d2, d3] }
  | _ => none }
def ProbeLooksWrongFalsely : Prop := probeLooksRow.holds Tryd.pinned (OpenSpec.ofChange probeLooksWrong)

/-- 'erewhilelaw51.ProbeCalm': WHATEVER THE INPUT: true; the input reads as it did. -/
def probeCalmSpec : ChangeSpec := { name := "probeCalm", fn := fun _ => fun
  | [d1, d2] => { results := [.lit (.bool true)], args := [d1, d2] }
  | _ => none }
def probeCalmRow : OpenClaim := { program := "ytoglbbonfjnmpaadoor", sum := "7287716c17262a7a6e89feccdc4f9a33fca30bd5e60c99c36f365243c103cdda", func := "erewhile/erewhilelaw51.ProbeCalm", spec := "probeCalm", unfollowed := true, recurses := true, named := ["erewhile/probe.endings", "erewhile/probe.numbers"], apart := false, laid := [("erewhile/probe.numbers", laid_erewhile_probe_numbers), ("erewhile/probe.endings", laid_erewhile_probe_endings)] }
def ProbeCalmSaid : Prop := probeCalmRow.holds Tryd.pinned (OpenSpec.ofChange probeCalmSpec)

/-- ITS FALSE NEIGHBOUR: 'it returns false'. Refute it at one input. -/
def probeCalmWrong : ChangeSpec := { name := "probeCalm", fn := fun _ => fun
  | [d1, d2] => { results := [.lit (.bool false)], args := [d1, d2] }
  | _ => none }
def ProbeCalmWrongFalsely : Prop := probeCalmRow.holds Tryd.pinned (OpenSpec.ofChange probeCalmWrong)

/-- 'erewhilelaw51.ProbeMixed': WHATEVER THE INPUT: true; the input reads as it did. -/
def probeMixedSpec : ChangeSpec := { name := "probeMixed", fn := fun _ => fun
  | [d1, d2, d3] => { results := [.lit (.bool true)], args := [d1, d2, d3] }
  | _ => none }
def probeMixedRow : OpenClaim := { program := "ytoglbbonfjnmpaadoor", sum := "7287716c17262a7a6e89feccdc4f9a33fca30bd5e60c99c36f365243c103cdda", func := "erewhile/erewhilelaw51.ProbeMixed", spec := "probeMixed", unfollowed := true, recurses := true, named := ["erewhile/probe.endings", "erewhile/probe.numbers"], apart := false, laid := [("erewhile/probe.numbers", laid_erewhile_probe_numbers), ("erewhile/probe.endings", laid_erewhile_probe_endings)] }
def ProbeMixedSaid : Prop := probeMixedRow.holds Tryd.pinned (OpenSpec.ofChange probeMixedSpec)

/-- ITS FALSE NEIGHBOUR: 'it returns false'. Refute it at one input. -/
def probeMixedWrong : ChangeSpec := { name := "probeMixed", fn := fun _ => fun
  | [d1, d2, d3] => { results := [.lit (.bool false)], args := [d1, d2, d3] }
  | _ => none }
def ProbeMixedWrongFalsely : Prop := probeMixedRow.holds Tryd.pinned (OpenSpec.ofChange probeMixedWrong)

/-- 'erewhilelaw51.ProbeStorm': WHATEVER THE INPUT: true; the input reads as it did. -/
def probeStormSpec : ChangeSpec := { name := "probeStorm", fn := fun _ => fun
  | [d1, d2] => { results := [.lit (.bool true)], args := [d1, d2] }
  | _ => none }
def probeStormRow : OpenClaim := { program := "ytoglbbonfjnmpaadoor", sum := "7287716c17262a7a6e89feccdc4f9a33fca30bd5e60c99c36f365243c103cdda", func := "erewhile/erewhilelaw51.ProbeStorm", spec := "probeStorm", unfollowed := true, recurses := true, named := ["erewhile/probe.endings", "erewhile/probe.numbers"], apart := false, laid := [("erewhile/probe.numbers", laid_erewhile_probe_numbers), ("erewhile/probe.endings", laid_erewhile_probe_endings)] }
def ProbeStormSaid : Prop := probeStormRow.holds Tryd.pinned (OpenSpec.ofChange probeStormSpec)

/-- ITS FALSE NEIGHBOUR: 'it returns false'. Refute it at one input. -/
def probeStormWrong : ChangeSpec := { name := "probeStorm", fn := fun _ => fun
  | [d1, d2] => { results := [.lit (.bool false)], args := [d1, d2] }
  | _ => none }
def ProbeStormWrongFalsely : Prop := probeStormRow.holds Tryd.pinned (OpenSpec.ofChange probeStormWrong)

/-- 'erewhilelaw51.ProbeLost': WHATEVER THE INPUT: true; the input reads as it did. -/
def probeLostSpec : ChangeSpec := { name := "probeLost", fn := fun _ => fun
  | [d1, d2, d3, d4] => { results := [.lit (.bool true)], args := [d1, d2, d3, d4] }
  | _ => none }
def probeLostRow : OpenClaim := { program := "ytoglbbonfjnmpaadoor", sum := "7287716c17262a7a6e89feccdc4f9a33fca30bd5e60c99c36f365243c103cdda", func := "erewhile/erewhilelaw51.ProbeLost", spec := "probeLost", unfollowed := true, recurses := true, named := ["erewhile/probe.endings", "erewhile/probe.numbers"], apart := false, laid := [("erewhile/probe.numbers", laid_erewhile_probe_numbers), ("erewhile/probe.endings", laid_erewhile_probe_endings)] }
def ProbeLostSaid : Prop := probeLostRow.holds Tryd.pinned (OpenSpec.ofChange probeLostSpec)

/-- ITS FALSE NEIGHBOUR: 'it returns false'. Refute it at one input. -/
def probeLostWrong : ChangeSpec := { name := "probeLost", fn := fun _ => fun
  | [d1, d2, d3, d4] => { results := [.lit (.bool false)], args := [d1, d2, d3, d4] }
  | _ => none }
def ProbeLostWrongFalsely : Prop := probeLostRow.holds Tryd.pinned (OpenSpec.ofChange probeLostWrong)

/-- 'erewhilelaw51.ProbeNew': WHATEVER THE INPUT: true; the input reads as it did. -/
def probeNewSpec : ChangeSpec := { name := "probeNew", fn := fun _ => fun
  | [d1, d2, d3, d4] => { results := [.lit (.bool true)], args := [d1, d2, d3, d4] }
  | _ => none }
def probeNewRow : OpenClaim := { program := "ytoglbbonfjnmpaadoor", sum := "7287716c17262a7a6e89feccdc4f9a33fca30bd5e60c99c36f365243c103cdda", func := "erewhile/erewhilelaw51.ProbeNew", spec := "probeNew", unfollowed := true, recurses := true, named := ["erewhile/probe.endings", "erewhile/probe.numbers"], apart := false, laid := [("erewhile/probe.numbers", laid_erewhile_probe_numbers), ("erewhile/probe.endings", laid_erewhile_probe_endings)] }
def ProbeNewSaid : Prop := probeNewRow.holds Tryd.pinned (OpenSpec.ofChange probeNewSpec)

/-- ITS FALSE NEIGHBOUR: 'it returns false'. Refute it at one input. -/
def probeNewWrong : ChangeSpec := { name := "probeNew", fn := fun _ => fun
  | [d1, d2, d3, d4] => { results := [.lit (.bool false)], args := [d1, d2, d3, d4] }
  | _ => none }
def ProbeNewWrongFalsely : Prop := probeNewRow.holds Tryd.pinned (OpenSpec.ofChange probeNewWrong)

/-- 'erewhilelaw51.ProbeMounted': WHATEVER THE INPUT: true; the input reads as it did. -/
def probeMountedSpec : ChangeSpec := { name := "probeMounted", fn := fun _ => fun
  | [d1, d2] => { results := [.lit (.bool true)], args := [d1, d2] }
  | _ => none }
def probeMountedRow : OpenClaim := { program := "ytoglbbonfjnmpaadoor", sum := "7287716c17262a7a6e89feccdc4f9a33fca30bd5e60c99c36f365243c103cdda", func := "erewhile/erewhilelaw51.ProbeMounted", spec := "probeMounted", inPlace := ["internal/bytealg.Count", "internal/bytealg.IndexByte", "internal/bytealg.Index"], unfollowed := true, recurses := true, named := ["erewhile/probe.endings", "erewhile/probe.numbers", "erewhile/fs.magic", "internal/bytealg.MaxLen"], apart := false, laid := [("erewhile/fs.magic", laid_erewhile_fs_magic), ("erewhile/probe.numbers", laid_erewhile_probe_numbers), ("erewhile/probe.endings", laid_erewhile_probe_endings)] }
def ProbeMountedSaid : Prop := probeMountedRow.holds Tryd.pinned (OpenSpec.ofChange probeMountedSpec)

/-- ITS FALSE NEIGHBOUR: 'it returns false'. Refute it at one input. -/
def probeMountedWrong : ChangeSpec := { name := "probeMounted", fn := fun _ => fun
  | [d1, d2] => { results := [.lit (.bool false)], args := [d1, d2] }
  | _ => none }
def ProbeMountedWrongFalsely : Prop := probeMountedRow.holds Tryd.pinned (OpenSpec.ofChange probeMountedWrong)

/- THE SECOND FORM. 'bulk': how many values and letters a reading holds, each counted each time it is reached (what is shared counts as often as it is met; a slice's spare places count too). A statement '..UptoSaid' is the law's where the arguments, and the package variables that the reading takes, are together of bulk at most 1048576: NARROWER than '..Said'. Prove '..Said' where nothing that the law and all that it calls make is longer than what came in: it says more and counts as full. Else prove '..UptoSaid'. A law counts once. -/
mutual
def uptoBulk {H : Type} : DataW H → Nat
  | .lit (.string bytes) => bytes.length + 1
  | .lit _ => 1
  | .nil => 1
  | .ptr d => uptoBulk d + 1
  | .slice elems spare => uptoBulkAll elems + uptoBulkAll spare + 1
  | .agg parts => uptoBulkAll parts + 1
  | .iface _ d => uptoBulk d + 1
  | .map entries => uptoBulkEntries entries + 1
  | .held _ => 1
def uptoBulkAll {H : Type} : List (DataW H) → Nat
  | [] => 0
  | d :: r => uptoBulk d + uptoBulkAll r
def uptoBulkEntries {H : Type} : List (Lit × DataW H) → Nat
  | [] => 0
  | x :: r => uptoBulkEntry x + uptoBulkEntries r
def uptoBulkEntry {H : Type} : Lit × DataW H → Nat
  | (.string bytes, d) => bytes.length + uptoBulk d + 1
  | (_, d) => uptoBulk d + 1
 end
def uptoSmall : (H : Type) → List (DataW H) → Bool := fun _ ds => decide (uptoBulkAll ds ≤ 1048576)
def OpenSpec.upto (s : _root_.Go.ChangeSpec) : _root_.Go.OpenSpec := { _root_.Go.OpenSpec.ofChange s with cond := some uptoSmall }

/-- 'erewhilelaw51.ProbeData', WHERE WHAT IT READS IS OF BULK AT MOST 1048576: true; the input reads as it did. -/
def probeDataUptoRow : OpenClaim := { program := "ytoglbbonfjnmpaadoor", sum := "7287716c17262a7a6e89feccdc4f9a33fca30bd5e60c99c36f365243c103cdda", func := "erewhile/erewhilelaw51.ProbeData", spec := "probeData", unfollowed := true, recurses := true, named := ["erewhile/probe.endings", "erewhile/probe.numbers"], apart := false, laid := [("erewhile/probe.numbers", laid_erewhile_probe_numbers), ("erewhile/probe.endings", laid_erewhile_probe_endings)], narrowed := true }
def ProbeDataUptoSaid : Prop := probeDataUptoRow.holds Tryd.pinned (OpenSpec.upto probeDataSpec)

/-- 'erewhilelaw51.ProbeRenames', WHERE WHAT IT READS IS OF BULK AT MOST 1048576: true; the input reads as it did. -/
def probeRenamesUptoRow : OpenClaim := { program := "ytoglbbonfjnmpaadoor", sum := "7287716c17262a7a6e89feccdc4f9a33fca30bd5e60c99c36f365243c103cdda", func := "erewhile/erewhilelaw51.ProbeRenames", spec := "probeRenames", unfollowed := true, recurses := true, named := ["erewhile/probe.endings", "erewhile/probe.numbers"], apart := false, laid := [("erewhile/probe.numbers", laid_erewhile_probe_numbers), ("erewhile/probe.endings", laid_erewhile_probe_endings)], narrowed := true }
def ProbeRenamesUptoSaid : Prop := probeRenamesUptoRow.holds Tryd.pinned (OpenSpec.upto probeRenamesSpec)

/-- 'erewhilelaw51.ProbeLooks', WHERE WHAT IT READS IS OF BULK AT MOST 1048576: true; the input reads as it did. -/
def probeLooksUptoRow : OpenClaim := { program := "ytoglbbonfjnmpaadoor", sum := "7287716c17262a7a6e89feccdc4f9a33fca30bd5e60c99c36f365243c103cdda", func := "erewhile/erewhilelaw51.ProbeLooks", spec := "probeLooks", unfollowed := true, recurses := true, named := ["erewhile/probe.endings", "erewhile/probe.numbers"], apart := false, laid := [("erewhile/probe.numbers", laid_erewhile_probe_numbers), ("erewhile/probe.endings", laid_erewhile_probe_endings)], narrowed := true }
def ProbeLooksUptoSaid : Prop := probeLooksUptoRow.holds Tryd.pinned (OpenSpec.upto probeLooksSpec)

/-- 'erewhilelaw51.ProbeCalm', WHERE WHAT IT READS IS OF BULK AT MOST 1048576: true; the input reads as it did. -/
def probeCalmUptoRow : OpenClaim := { program := "ytoglbbonfjnmpaadoor", sum := "7287716c17262a7a6e89feccdc4f9a33fca30bd5e60c99c36f365243c103cdda", func := "erewhile/erewhilelaw51.ProbeCalm", spec := "probeCalm", unfollowed := true, recurses := true, named := ["erewhile/probe.endings", "erewhile/probe.numbers"], apart := false, laid := [("erewhile/probe.numbers", laid_erewhile_probe_numbers), ("erewhile/probe.endings", laid_erewhile_probe_endings)], narrowed := true }
def ProbeCalmUptoSaid : Prop := probeCalmUptoRow.holds Tryd.pinned (OpenSpec.upto probeCalmSpec)

/-- 'erewhilelaw51.ProbeMixed', WHERE WHAT IT READS IS OF BULK AT MOST 1048576: true; the input reads as it did. -/
def probeMixedUptoRow : OpenClaim := { program := "ytoglbbonfjnmpaadoor", sum := "7287716c17262a7a6e89feccdc4f9a33fca30bd5e60c99c36f365243c103cdda", func := "erewhile/erewhilelaw51.ProbeMixed", spec := "probeMixed", unfollowed := true, recurses := true, named := ["erewhile/probe.endings", "erewhile/probe.numbers"], apart := false, laid := [("erewhile/probe.numbers", laid_erewhile_probe_numbers), ("erewhile/probe.endings", laid_erewhile_probe_endings)], narrowed := true }
def ProbeMixedUptoSaid : Prop := probeMixedUptoRow.holds Tryd.pinned (OpenSpec.upto probeMixedSpec)

/-- 'erewhilelaw51.ProbeStorm', WHERE WHAT IT READS IS OF BULK AT MOST 1048576: true; the input reads as it did. -/
def probeStormUptoRow : OpenClaim := { program := "ytoglbbonfjnmpaadoor", sum := "7287716c17262a7a6e89feccdc4f9a33fca30bd5e60c99c36f365243c103cdda", func := "erewhile/erewhilelaw51.ProbeStorm", spec := "probeStorm", unfollowed := true, recurses := true, named := ["erewhile/probe.endings", "erewhile/probe.numbers"], apart := false, laid := [("erewhile/probe.numbers", laid_erewhile_probe_numbers), ("erewhile/probe.endings", laid_erewhile_probe_endings)], narrowed := true }
def ProbeStormUptoSaid : Prop := probeStormUptoRow.holds Tryd.pinned (OpenSpec.upto probeStormSpec)

/-- 'erewhilelaw51.ProbeLost', WHERE WHAT IT READS IS OF BULK AT MOST 1048576: true; the input reads as it did. -/
def probeLostUptoRow : OpenClaim := { program := "ytoglbbonfjnmpaadoor", sum := "7287716c17262a7a6e89feccdc4f9a33fca30bd5e60c99c36f365243c103cdda", func := "erewhile/erewhilelaw51.ProbeLost", spec := "probeLost", unfollowed := true, recurses := true, named := ["erewhile/probe.endings", "erewhile/probe.numbers"], apart := false, laid := [("erewhile/probe.numbers", laid_erewhile_probe_numbers), ("erewhile/probe.endings", laid_erewhile_probe_endings)], narrowed := true }
def ProbeLostUptoSaid : Prop := probeLostUptoRow.holds Tryd.pinned (OpenSpec.upto probeLostSpec)

/-- 'erewhilelaw51.ProbeNew', WHERE WHAT IT READS IS OF BULK AT MOST 1048576: true; the input reads as it did. -/
def probeNewUptoRow : OpenClaim := { program := "ytoglbbonfjnmpaadoor", sum := "7287716c17262a7a6e89feccdc4f9a33fca30bd5e60c99c36f365243c103cdda", func := "erewhile/erewhilelaw51.ProbeNew", spec := "probeNew", unfollowed := true, recurses := true, named := ["erewhile/probe.endings", "erewhile/probe.numbers"], apart := false, laid := [("erewhile/probe.numbers", laid_erewhile_probe_numbers), ("erewhile/probe.endings", laid_erewhile_probe_endings)], narrowed := true }
def ProbeNewUptoSaid : Prop := probeNewUptoRow.holds Tryd.pinned (OpenSpec.upto probeNewSpec)

/-- 'erewhilelaw51.ProbeMounted', WHERE WHAT IT READS IS OF BULK AT MOST 1048576: true; the input reads as it did. -/
def probeMountedUptoRow : OpenClaim := { program := "ytoglbbonfjnmpaadoor", sum := "7287716c17262a7a6e89feccdc4f9a33fca30bd5e60c99c36f365243c103cdda", func := "erewhile/erewhilelaw51.ProbeMounted", spec := "probeMounted", inPlace := ["internal/bytealg.Count", "internal/bytealg.IndexByte", "internal/bytealg.Index"], unfollowed := true, recurses := true, named := ["erewhile/probe.endings", "erewhile/probe.numbers", "erewhile/fs.magic", "internal/bytealg.MaxLen"], apart := false, laid := [("erewhile/fs.magic", laid_erewhile_fs_magic), ("erewhile/probe.numbers", laid_erewhile_probe_numbers), ("erewhile/probe.endings", laid_erewhile_probe_endings)], narrowed := true }
def ProbeMountedUptoSaid : Prop := probeMountedUptoRow.holds Tryd.pinned (OpenSpec.upto probeMountedSpec)

end Rows
end Go.Proofs.YtoglbbonfjnmpaaDoor
