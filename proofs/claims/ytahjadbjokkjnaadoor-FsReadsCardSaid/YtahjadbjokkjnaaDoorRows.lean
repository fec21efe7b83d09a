/-
  NARROWER THAN 'FOR EVERY INPUT', by the rows' own cells (each row's printed sentence says how): FsMakes: laid · FsTable: laid · FsSame: laid · FsReads: laid · FsHides: laid · FsSpoils: laid · FsFronts: laid · FsBack: laid.
  DERIVED. THE GIVEN ROWS OF THIS SEAT. 8 by the template 'for every input the law returns true; each argument reads behind the call as it read before'; 0 by the template 'total and deterministic' (their statements: YtahjadbjokkjnaaDoorTotals.lean).
  GIVEN WITH THE SEED: the statements are not yours to turn. If you find one false, say at which input.
  Laid BY PROGRAM, IN A SANDBOX (cutbox-rows.mjs): the forced cells as the released guide's own fill.sh prints them over the translation 9c0a4289ca32cbeb… (all of the seat's roots in one cut). By AI agents, Wed Nov 11 2026. No macro, syntax, notation, axiom, sorry.
-/
import Derived.Test.YtahjadbjokkjnaaDoorChecked
import GoSem.Claim
import GoSem.ClaimJoined
import GoSem.ClaimMapViews
import Derived.JoinedTies
import Derived.KernelRfl
namespace Go.Proofs.YtahjadbjokkjnaaDoor
/- THE CELL 'sum', in the pinned program and in every row, IS THE sha256 OF THE DUMP (.gsa) THAT YtahjadbjokkjnaaDoorProg.lean LOADS. Nothing in Lean hashes anything: it is a label: what it is worth is what the hold of that sum in a sandbox is worth. -/
noncomputable def Tryd.pinned : Pinned := { name := "ytahjadbjokkjnaadoor", sum := "9c0a4289ca32cbebe6c83d03e170fb14a0ee40d2523cb3004229657bd345fc61", checked := Tryd.checked }
namespace Rows
def none {H : Type} : Left H := { results := [], args := [] }

/- WHAT THE LISTED PACKAGE-LEVEL VARIABLES READ AS WHEN THE CALL BEGINS. Each datum BY PROGRAM (the guide's laid-datum.mjs) off the statement by which the dump's own 'gosem.cut.vars' lays the variable. In a bare row this is a premise. The card (YtahjadbjokkjnaaDoorCards.lean) ties it to the program's text. -/
def laid_erewhile_fs_magic {H : Type} : DataW H := .agg [.lit (.int .u8 69), .lit (.int .u8 82), .lit (.int .u8 69), .lit (.int .u8 87), .lit (.int .u8 1)]

/-- 'erewhilelaw49.FsMakes': WHATEVER THE INPUT: true; the input reads as it did. -/
def fsMakesSpec : ChangeSpec := { name := "fsMakes", fn := fun _ => fun
  | [d] => { results := [.lit (.bool true)], args := [d] }
  | _ => none }
def fsMakesRow : OpenClaim := { program := "ytahjadbjokkjnaadoor", sum := "9c0a4289ca32cbebe6c83d03e170fb14a0ee40d2523cb3004229657bd345fc61", func := "erewhile/erewhilelaw49.FsMakes", spec := "fsMakes", unfollowed := true, recurses := true, named := ["erewhile/fs.magic"], apart := false, laid := [("erewhile/fs.magic", laid_erewhile_fs_magic)] }
def FsMakesSaid : Prop := fsMakesRow.holds Tryd.pinned (OpenSpec.ofChange fsMakesSpec)

/-- ITS FALSE NEIGHBOUR: 'it returns false'. Refute it at one input. -/
def fsMakesWrong : ChangeSpec := { name := "fsMakes", fn := fun _ => fun
  | [d] => { results := [.lit (.bool false)], args := [d] }
  | _ => none }
def FsMakesWrongFalsely : Prop := fsMakesRow.holds Tryd.pinned (OpenSpec.ofChange fsMakesWrong)

/-- 'erewhilelaw49.FsTable': WHATEVER THE INPUT: true; the input reads as it did. -/
def fsTableSpec : ChangeSpec := { name := "fsTable", fn := fun _ => fun
  | [d1, d2] => { results := [.lit (.bool true)], args := [d1, d2] }
  | _ => none }
def fsTableRow : OpenClaim := { program := "ytahjadbjokkjnaadoor", sum := "9c0a4289ca32cbebe6c83d03e170fb14a0ee40d2523cb3004229657bd345fc61", func := "erewhile/erewhilelaw49.FsTable", spec := "fsTable", unfollowed := true, recurses := true, named := ["erewhile/fs.magic"], apart := false, laid := [("erewhile/fs.magic", laid_erewhile_fs_magic)] }
def FsTableSaid : Prop := fsTableRow.holds Tryd.pinned (OpenSpec.ofChange fsTableSpec)

/-- ITS FALSE NEIGHBOUR: 'it returns false'. Refute it at one input. -/
def fsTableWrong : ChangeSpec := { name := "fsTable", fn := fun _ => fun
  | [d1, d2] => { results := [.lit (.bool false)], args := [d1, d2] }
  | _ => none }
def FsTableWrongFalsely : Prop := fsTableRow.holds Tryd.pinned (OpenSpec.ofChange fsTableWrong)

/-- 'erewhilelaw49.FsSame': WHATEVER THE INPUT: true; the input reads as it did. -/
def fsSameSpec : ChangeSpec := { name := "fsSame", fn := fun _ => fun
  | [d1, d2] => { results := [.lit (.bool true)], args := [d1, d2] }
  | _ => none }
def fsSameRow : OpenClaim := { program := "ytahjadbjokkjnaadoor", sum := "9c0a4289ca32cbebe6c83d03e170fb14a0ee40d2523cb3004229657bd345fc61", func := "erewhile/erewhilelaw49.FsSame", spec := "fsSame", unfollowed := true, recurses := true, named := ["erewhile/fs.magic"], apart := false, laid := [("erewhile/fs.magic", laid_erewhile_fs_magic)] }
def FsSameSaid : Prop := fsSameRow.holds Tryd.pinned (OpenSpec.ofChange fsSameSpec)

/-- ITS FALSE NEIGHBOUR: 'it returns false'. Refute it at one input. -/
def fsSameWrong : ChangeSpec := { name := "fsSame", fn := fun _ => fun
  | [d1, d2] => { results := [.lit (.bool false)], args := [d1, d2] }
  | _ => none }
def FsSameWrongFalsely : Prop := fsSameRow.holds Tryd.pinned (OpenSpec.ofChange fsSameWrong)

/-- 'erewhilelaw49.FsReads': WHATEVER THE INPUT: true; the input reads as it did. -/
def fsReadsSpec : ChangeSpec := { name := "fsReads", fn := fun _ => fun
  | [d] => { results := [.lit (.bool true)], args := [d] }
  | _ => none }
def fsReadsRow : OpenClaim := { program := "ytahjadbjokkjnaadoor", sum := "9c0a4289ca32cbebe6c83d03e170fb14a0ee40d2523cb3004229657bd345fc61", func := "erewhile/erewhilelaw49.FsReads", spec := "fsReads", inPlace := ["internal/bytealg.Count", "internal/bytealg.IndexByte", "internal/bytealg.Index"], unfollowed := true, recurses := true, named := ["erewhile/fs.magic", "internal/bytealg.MaxLen"], apart := false, laid := [("erewhile/fs.magic", laid_erewhile_fs_magic)] }
def FsReadsSaid : Prop := fsReadsRow.holds Tryd.pinned (OpenSpec.ofChange fsReadsSpec)

/-- ITS FALSE NEIGHBOUR: 'it returns false'. Refute it at one input. -/
def fsReadsWrong : ChangeSpec := { name := "fsReads", fn := fun _ => fun
  | [d] => { results := [.lit (.bool false)], args := [d] }
  | _ => none }
def FsReadsWrongFalsely : Prop := fsReadsRow.holds Tryd.pinned (OpenSpec.ofChange fsReadsWrong)

/-- 'erewhilelaw49.FsHides': WHATEVER THE INPUT: true; the input reads as it did. -/
def fsHidesSpec : ChangeSpec := { name := "fsHides", fn := fun _ => fun
  | [d1, d2] => { results := [.lit (.bool true)], args := [d1, d2] }
  | _ => none }
def fsHidesRow : OpenClaim := { program := "ytahjadbjokkjnaadoor", sum := "9c0a4289ca32cbebe6c83d03e170fb14a0ee40d2523cb3004229657bd345fc61", func := "erewhile/erewhilelaw49.FsHides", spec := "fsHides", inPlace := ["internal/bytealg.Count", "internal/bytealg.IndexByte", "internal/bytealg.Index"], unfollowed := true, recurses := true, named := ["erewhile/fs.magic", "internal/bytealg.MaxLen"], apart := false, laid := [("erewhile/fs.magic", laid_erewhile_fs_magic)] }
def FsHidesSaid : Prop := fsHidesRow.holds Tryd.pinned (OpenSpec.ofChange fsHidesSpec)

/-- ITS FALSE NEIGHBOUR: 'it returns false'. Refute it at one input. -/
def fsHidesWrong : ChangeSpec := { name := "fsHides", fn := fun _ => fun
  | [d1, d2] => { results := [.lit (.bool false)], args := [d1, d2] }
  | _ => none }
def FsHidesWrongFalsely : Prop := fsHidesRow.holds Tryd.pinned (OpenSpec.ofChange fsHidesWrong)

/-- 'erewhilelaw49.FsSpoils': WHATEVER THE INPUT: true; the input reads as it did. -/
def fsSpoilsSpec : ChangeSpec := { name := "fsSpoils", fn := fun _ => fun
  | [d1, d2, d3] => { results := [.lit (.bool true)], args := [d1, d2, d3] }
  | _ => none }
def fsSpoilsRow : OpenClaim := { program := "ytahjadbjokkjnaadoor", sum := "9c0a4289ca32cbebe6c83d03e170fb14a0ee40d2523cb3004229657bd345fc61", func := "erewhile/erewhilelaw49.FsSpoils", spec := "fsSpoils", inPlace := ["internal/bytealg.Count", "internal/bytealg.IndexByte", "internal/bytealg.Index"], unfollowed := true, recurses := true, named := ["erewhile/fs.magic", "internal/bytealg.MaxLen"], apart := false, laid := [("erewhile/fs.magic", laid_erewhile_fs_magic)] }
def FsSpoilsSaid : Prop := fsSpoilsRow.holds Tryd.pinned (OpenSpec.ofChange fsSpoilsSpec)

/-- ITS FALSE NEIGHBOUR: 'it returns false'. Refute it at one input. -/
def fsSpoilsWrong : ChangeSpec := { name := "fsSpoils", fn := fun _ => fun
  | [d1, d2, d3] => { results := [.lit (.bool false)], args := [d1, d2, d3] }
  | _ => none }
def FsSpoilsWrongFalsely : Prop := fsSpoilsRow.holds Tryd.pinned (OpenSpec.ofChange fsSpoilsWrong)

/-- 'erewhilelaw49.FsFronts': WHATEVER THE INPUT: true; the input reads as it did. -/
def fsFrontsSpec : ChangeSpec := { name := "fsFronts", fn := fun _ => fun
  | [d] => { results := [.lit (.bool true)], args := [d] }
  | _ => none }
def fsFrontsRow : OpenClaim := { program := "ytahjadbjokkjnaadoor", sum := "9c0a4289ca32cbebe6c83d03e170fb14a0ee40d2523cb3004229657bd345fc61", func := "erewhile/erewhilelaw49.FsFronts", spec := "fsFronts", inPlace := ["internal/bytealg.Count", "internal/bytealg.IndexByte", "internal/bytealg.Index"], unfollowed := true, recurses := true, named := ["erewhile/fs.magic", "internal/bytealg.MaxLen"], apart := false, laid := [("erewhile/fs.magic", laid_erewhile_fs_magic)] }
def FsFrontsSaid : Prop := fsFrontsRow.holds Tryd.pinned (OpenSpec.ofChange fsFrontsSpec)

/-- ITS FALSE NEIGHBOUR: 'it returns false'. Refute it at one input. -/
def fsFrontsWrong : ChangeSpec := { name := "fsFronts", fn := fun _ => fun
  | [d] => { results := [.lit (.bool false)], args := [d] }
  | _ => none }
def FsFrontsWrongFalsely : Prop := fsFrontsRow.holds Tryd.pinned (OpenSpec.ofChange fsFrontsWrong)

/-- 'erewhilelaw49.FsBack': WHATEVER THE INPUT: true; the input reads as it did. -/
def fsBackSpec : ChangeSpec := { name := "fsBack", fn := fun _ => fun
  | [d1, d2] => { results := [.lit (.bool true)], args := [d1, d2] }
  | _ => none }
def fsBackRow : OpenClaim := { program := "ytahjadbjokkjnaadoor", sum := "9c0a4289ca32cbebe6c83d03e170fb14a0ee40d2523cb3004229657bd345fc61", func := "erewhile/erewhilelaw49.FsBack", spec := "fsBack", inPlace := ["internal/bytealg.Count", "internal/bytealg.IndexByte", "internal/bytealg.Index"], unfollowed := true, recurses := true, named := ["erewhile/fs.magic", "internal/bytealg.MaxLen"], apart := false, laid := [("erewhile/fs.magic", laid_erewhile_fs_magic)] }
def FsBackSaid : Prop := fsBackRow.holds Tryd.pinned (OpenSpec.ofChange fsBackSpec)

/-- ITS FALSE NEIGHBOUR: 'it returns false'. Refute it at one input. -/
def fsBackWrong : ChangeSpec := { name := "fsBack", fn := fun _ => fun
  | [d1, d2] => { results := [.lit (.bool false)], args := [d1, d2] }
  | _ => none }
def FsBackWrongFalsely : Prop := fsBackRow.holds Tryd.pinned (OpenSpec.ofChange fsBackWrong)

/- THE SECOND FORM. 'bulk': how many values and letters a reading holds, each counted each time it is reached (what is shared counts as often as it is met; a slice's spare places count too). A statement '..UptoSaid' is the law's where the arguments, and the package variables that the reading takes, are together of bulk at most 1048576: NARROWER than '..Said'. Prove '..Said' where nothing that the law and all that it calls make is longer than what came in: it says more and counts as full. Else prove '..UptoSaid'. A law counts once. -/
mutual
def uptoBulk {H : Type} : DataW H → Nat
  | .lit (.string bytes) => bytes.length + 1
  | .lit _ => 1
  | .nil => 1
  | .ptr d => uptoBulk d + 1
  | .slice elems spare => uptoBulkAll elems + uptoBulkAll spare + 1
  | .agg parts => uptoBulkAll parts + 1
  | .iface _ d => uptoBulk d + 1
  | .map entries => uptoBulkEntries entries + 1
  | .held _ => 1
def uptoBulkAll {H : Type} : List (DataW H) → Nat
  | [] => 0
  | d :: r => uptoBulk d + uptoBulkAll r
def uptoBulkEntries {H : Type} : List (Lit × DataW H) → Nat
  | [] => 0
  | x :: r => uptoBulkEntry x + uptoBulkEntries r
def uptoBulkEntry {H : Type} : Lit × DataW H → Nat
  | (.string bytes, d) => bytes.length + uptoBulk d + 1
  | (_, d) => uptoBulk d + 1
 end
def uptoSmall : (H : Type) → List (DataW H) → Bool := fun _ ds => decide (uptoBulkAll ds ≤ 1048576)
def OpenSpec.upto (s : _root_.Go.ChangeSpec) : _root_.Go.OpenSpec := { _root_.Go.OpenSpec.ofChange s with cond := some uptoSmall }

/-- 'erewhilelaw49.FsMakes', WHERE WHAT IT READS IS OF BULK AT MOST 1048576: true; the input reads as it did. -/
def fsMakesUptoRow : OpenClaim := { program := "ytahjadbjokkjnaadoor", sum := "9c0a4289ca32cbebe6c83d03e170fb14a0ee40d2523cb3004229657bd345fc61", func := "erewhile/erewhilelaw49.FsMakes", spec := "fsMakes", unfollowed := true, recurses := true, named := ["erewhile/fs.magic"], apart := false, laid := [("erewhile/fs.magic", laid_erewhile_fs_magic)], narrowed := true }
def FsMakesUptoSaid : Prop := fsMakesUptoRow.holds Tryd.pinned (OpenSpec.upto fsMakesSpec)

/-- 'erewhilelaw49.FsTable', WHERE WHAT IT READS IS OF BULK AT MOST 1048576: true; the input reads as it did. -/
def fsTableUptoRow : OpenClaim := { program := "ytahjadbjokkjnaadoor", sum := "9c0a4289ca32cbebe6c83d03e170fb14a0ee40d2523cb3004229657bd345fc61", func := "erewhile/erewhilelaw49.FsTable", spec := "fsTable", unfollowed := true, recurses := true, named := ["erewhile/fs.magic"], apart := false, laid := [("erewhile/fs.magic", laid_erewhile_fs_magic)], narrowed := true }
def FsTableUptoSaid : Prop := fsTableUptoRow.holds Tryd.pinned (OpenSpec.upto fsTableSpec)

/-- 'erewhilelaw49.FsSame', WHERE WHAT IT READS IS OF BULK AT MOST 1048576: true; the input reads as it did. -/
def fsSameUptoRow : OpenClaim := { program := "ytahjadbjokkjnaadoor", sum := "9c0a4289ca32cbebe6c83d03e170fb14a0ee40d2523cb3004229657bd345fc61", func := "erewhile/erewhilelaw49.FsSame", spec := "fsSame", unfollowed := true, recurses := true, named := ["erewhile/fs.magic"], apart := false, laid := [("erewhile/fs.magic", laid_erewhile_fs_magic)], narrowed := true }
def FsSameUptoSaid : Prop := fsSameUptoRow.holds Tryd.pinned (OpenSpec.upto fsSameSpec)

/-- 'erewhilelaw49.FsReads', WHERE WHAT IT READS IS OF BULK AT MOST 1048576: true; the input reads as it did. -/
def fsReadsUptoRow : OpenClaim := { program := "ytahjadbjokkjnaadoor", sum := "9c0a4289ca32cbebe6c83d03e170fb14a0ee40d2523cb3004229657bd345fc61", func := "erewhile/erewhilelaw49.FsReads", spec := "fsReads", inPlace := ["internal/bytealg.Count", "internal/bytealg.IndexByte", "internal/bytealg.Index"], unfollowed := true, recurses := true, named := ["erewhile/fs.magic", "internal/bytealg.MaxLen"], apart := false, laid := [("erewhile/fs.magic", laid_erewhile_fs_magic)], narrowed := true }
def FsReadsUptoSaid : Prop := fsReadsUptoRow.holds Tryd.pinned (OpenSpec.upto fsReadsSpec)

/-- 'erewhilelaw49.FsHides', WHERE WHAT IT READS IS OF BULK AT MOST 1048576: true; the input reads as it did. -/
def fsHidesUptoRow : OpenClaim := { program := "ytahjadbjokkjnaadoor", sum := "9c0a4289ca32cbebe6c83d03e170fb14a0ee40d2523cb3004229657bd345fc61", func := "erewhile/erewhilelaw49.FsHides", spec := "fsHides", inPlace := ["internal/bytealg.Count", "internal/bytealg.IndexByte", "internal/bytealg.Index"], unfollowed := true, recurses := true, named := ["erewhile/fs.magic", "internal/bytealg.MaxLen"], apart := false, laid := [("erewhile/fs.magic", laid_erewhile_fs_magic)], narrowed := true }
def FsHidesUptoSaid : Prop := fsHidesUptoRow.holds Tryd.pinned (OpenSpec.upto fsHidesSpec)

/-- 'erewhilelaw49.FsSpoils', WHERE WHAT IT READS IS OF BULK AT MOST 1048576: true; the input reads as it did. -/
def fsSpoilsUptoRow : OpenClaim := { program := "ytahjadbjokkjnaadoor", sum := "9c0a4289ca32cbebe6c83d03e170fb14a0ee40d2523cb3004229657bd345fc61", func := "erewhile/erewhilelaw49.FsSpoils", spec := "fsSpoils", inPlace := ["internal/bytealg.Count", "internal/bytealg.IndexByte", "internal/bytealg.Index"], unfollowed := true, recurses := true, named := ["erewhile/fs.magic", "internal/bytealg.MaxLen"], apart := false, laid := [("erewhile/fs.magic", laid_erewhile_fs_magic)], narrowed := true }
def FsSpoilsUptoSaid : Prop := fsSpoilsUptoRow.holds Tryd.pinned (OpenSpec.upto fsSpoilsSpec)

/-- 'erewhilelaw49.FsFronts', WHERE WHAT IT READS IS OF BULK AT MOST 1048576: true; the input reads as it did. -/
def fsFrontsUptoRow : OpenClaim := { program := "ytahjadbjokkjnaadoor", sum := "9c0a4289ca32cbebe6c83d03e170fb14a0ee40d2523cb3004229657bd345fc61", func := "erewhile/erewhilelaw49.FsFronts", spec := "fsFronts", inPlace := ["internal/bytealg.Count", "internal/bytealg.IndexByte", "internal/bytealg.Index"], unfollowed := true, recurses := true, named := ["erewhile/fs.magic", "internal/bytealg.MaxLen"], apart := false, laid := [("erewhile/fs.magic", laid_erewhile_fs_magic)], narrowed := true }
def FsFrontsUptoSaid : Prop := fsFrontsUptoRow.holds Tryd.pinned (OpenSpec.upto fsFrontsSpec)

/-- 'erewhilelaw49.FsBack', WHERE WHAT IT READS IS OF BULK AT MOST 1048576: true; the input reads as it did. -/
def fsBackUptoRow : OpenClaim := { program := "ytahjadbjokkjnaadoor", sum := "9c0a4289ca32cbebe6c83d03e170fb14a0ee40d2523cb3004229657bd345fc61", func := "erewhile/erewhilelaw49.FsBack", spec := "fsBack", inPlace := ["internal/bytealg.Count", "internal/bytealg.IndexByte", "internal/bytealg.Index"], unfollowed := true, recurses := true, named := ["erewhile/fs.magic", "internal/bytealg.MaxLen"], apart := false, laid := [("erewhile/fs.magic", laid_erewhile_fs_magic)], narrowed := true }
def FsBackUptoSaid : Prop := fsBackUptoRow.holds Tryd.pinned (OpenSpec.upto fsBackSpec)

end Rows
end Go.Proofs.YtahjadbjokkjnaaDoor
