/-
  NARROWER THAN 'FOR EVERY INPUT', by the rows' own cells (each row's printed sentence says how): AttackFlood: laid · AttackFloods: laid · AttackRansom: laid · AttackThief: laid · AttackNone: laid · AttackLocks: laid · AttackSteals: laid · AttackRenames: laid · AttackSeen: laid.
  DERIVED. THE GIVEN ROWS OF THIS SEAT. 9 by the template 'for every input the law returns true; each argument reads behind the call as it read before'; 0 by the template 'total and deterministic' (their statements: YtdobjbdkfammbaaDoorTotals.lean).
  GIVEN WITH THE SEED: the statements are not yours to turn. If you find one false, say at which input.
  Laid BY PROGRAM, IN A SANDBOX (cutbox-rows.mjs): the forced cells as the released guide's own fill.sh prints them over the translation 66b0f974e7d13be8… (all of the seat's roots in one cut). By AI agents, Wed Nov 11 2026. No macro, syntax, notation, axiom, sorry.
-/
import Derived.Test.YtdobjbdkfammbaaDoorChecked
import GoSem.Claim
import GoSem.ClaimJoined
import GoSem.ClaimMapViews
import Derived.JoinedTies
import Derived.KernelRfl
namespace Go.Proofs.YtdobjbdkfammbaaDoor
/- THE CELL 'sum', in the pinned program and in every row, IS THE sha256 OF THE DUMP (.gsa) THAT YtdobjbdkfammbaaDoorProg.lean LOADS. Nothing in Lean hashes anything: it is a label: what it is worth is what the hold of that sum in a sandbox is worth. -/
noncomputable def Tryd.pinned : Pinned := { name := "ytdobjbdkfammbaadoor", sum := "66b0f974e7d13be8dd1c076aed09e270a5318e81074773ffba7b00acbb46e287", checked := Tryd.checked }
namespace Rows
def none {H : Type} : Left H := { results := [], args := [] }

/- WHAT THE LISTED PACKAGE-LEVEL VARIABLES READ AS WHEN THE CALL BEGINS. Each datum BY PROGRAM (the guide's laid-datum.mjs) off the statement by which the dump's own 'gosem.cut.vars' lays the variable. In a bare row this is a premise. The card (YtdobjbdkfammbaaDoorCards.lean) ties it to the program's text. -/
def laid_erewhile_fs_magic {H : Type} : DataW H := .agg [.lit (.int .u8 69), .lit (.int .u8 82), .lit (.int .u8 69), .lit (.int .u8 87), .lit (.int .u8 1)]
def laid_erewhile_probe_numbers {H : Type} : DataW H := .agg [.agg [.lit (.int .u8 37), .lit (.int .u8 80), .lit (.int .u8 68), .lit (.int .u8 70)], .agg [.lit (.int .u8 80), .lit (.int .u8 75), .lit (.int .u8 3), .lit (.int .u8 4)], .agg [.lit (.int .u8 137), .lit (.int .u8 80), .lit (.int .u8 78), .lit (.int .u8 71)], .agg [.lit (.int .u8 127), .lit (.int .u8 69), .lit (.int .u8 76), .lit (.int .u8 70)]]
def laid_erewhile_probe_endings {H : Type} : DataW H := .agg [.lit (.string [112, 100, 102]), .lit (.string [122, 105, 112]), .lit (.string [112, 110, 103]), .lit (.string [101, 108, 102])]

/-- 'erewhilelaw55.AttackFlood': WHATEVER THE INPUT: true; the input reads as it did. -/
def attackFloodSpec : ChangeSpec := { name := "attackFlood", fn := fun _ => fun
  | [d1, d2, d3, d4] => { results := [.lit (.bool true)], args := [d1, d2, d3, d4] }
  | _ => none }
def attackFloodRow : OpenClaim := { program := "ytdobjbdkfammbaadoor", sum := "66b0f974e7d13be8dd1c076aed09e270a5318e81074773ffba7b00acbb46e287", func := "erewhile/erewhilelaw55.AttackFlood", spec := "attackFlood", unfollowed := true, recurses := true, named := ["erewhile/fs.magic"], apart := false, laid := [("erewhile/fs.magic", laid_erewhile_fs_magic)] }
def AttackFloodSaid : Prop := attackFloodRow.holds Tryd.pinned (OpenSpec.ofChange attackFloodSpec)

/-- ITS FALSE NEIGHBOUR: 'it returns false'. Refute it at one input. -/
def attackFloodWrong : ChangeSpec := { name := "attackFlood", fn := fun _ => fun
  | [d1, d2, d3, d4] => { results := [.lit (.bool false)], args := [d1, d2, d3, d4] }
  | _ => none }
def AttackFloodWrongFalsely : Prop := attackFloodRow.holds Tryd.pinned (OpenSpec.ofChange attackFloodWrong)

/-- 'erewhilelaw55.AttackFloods': WHATEVER THE INPUT: true; the input reads as it did. -/
def attackFloodsSpec : ChangeSpec := { name := "attackFloods", fn := fun _ => fun
  | [d1, d2, d3, d4, d5] => { results := [.lit (.bool true)], args := [d1, d2, d3, d4, d5] }
  | _ => none }
def attackFloodsRow : OpenClaim := { program := "ytdobjbdkfammbaadoor", sum := "66b0f974e7d13be8dd1c076aed09e270a5318e81074773ffba7b00acbb46e287", func := "erewhile/erewhilelaw55.AttackFloods", spec := "attackFloods", unfollowed := true, recurses := true, named := ["erewhile/fs.magic"], apart := false, laid := [("erewhile/fs.magic", laid_erewhile_fs_magic)] }
def AttackFloodsSaid : Prop := attackFloodsRow.holds Tryd.pinned (OpenSpec.ofChange attackFloodsSpec)

/-- ITS FALSE NEIGHBOUR: 'it returns false'. Refute it at one input. -/
def attackFloodsWrong : ChangeSpec := { name := "attackFloods", fn := fun _ => fun
  | [d1, d2, d3, d4, d5] => { results := [.lit (.bool false)], args := [d1, d2, d3, d4, d5] }
  | _ => none }
def AttackFloodsWrongFalsely : Prop := attackFloodsRow.holds Tryd.pinned (OpenSpec.ofChange attackFloodsWrong)

/-- 'erewhilelaw55.AttackRansom': WHATEVER THE INPUT: true; the input reads as it did. -/
def attackRansomSpec : ChangeSpec := { name := "attackRansom", fn := fun _ => fun
  | [d1, d2, d3, d4] => { results := [.lit (.bool true)], args := [d1, d2, d3, d4] }
  | _ => none }
def attackRansomRow : OpenClaim := { program := "ytdobjbdkfammbaadoor", sum := "66b0f974e7d13be8dd1c076aed09e270a5318e81074773ffba7b00acbb46e287", func := "erewhile/erewhilelaw55.AttackRansom", spec := "attackRansom", unfollowed := true, recurses := true, named := ["erewhile/fs.magic"], apart := false, laid := [("erewhile/fs.magic", laid_erewhile_fs_magic)] }
def AttackRansomSaid : Prop := attackRansomRow.holds Tryd.pinned (OpenSpec.ofChange attackRansomSpec)

/-- ITS FALSE NEIGHBOUR: 'it returns false'. Refute it at one input. -/
def attackRansomWrong : ChangeSpec := { name := "attackRansom", fn := fun _ => fun
  | [d1, d2, d3, d4] => { results := [.lit (.bool false)], args := [d1, d2, d3, d4] }
  | _ => none }
def AttackRansomWrongFalsely : Prop := attackRansomRow.holds Tryd.pinned (OpenSpec.ofChange attackRansomWrong)

/-- 'erewhilelaw55.AttackThief': WHATEVER THE INPUT: true; the input reads as it did. -/
def attackThiefSpec : ChangeSpec := { name := "attackThief", fn := fun _ => fun
  | [d1, d2, d3] => { results := [.lit (.bool true)], args := [d1, d2, d3] }
  | _ => none }
def attackThiefRow : OpenClaim := { program := "ytdobjbdkfammbaadoor", sum := "66b0f974e7d13be8dd1c076aed09e270a5318e81074773ffba7b00acbb46e287", func := "erewhile/erewhilelaw55.AttackThief", spec := "attackThief", unfollowed := true, recurses := true, named := ["erewhile/fs.magic"], apart := false, laid := [("erewhile/fs.magic", laid_erewhile_fs_magic)] }
def AttackThiefSaid : Prop := attackThiefRow.holds Tryd.pinned (OpenSpec.ofChange attackThiefSpec)

/-- ITS FALSE NEIGHBOUR: 'it returns false'. Refute it at one input. -/
def attackThiefWrong : ChangeSpec := { name := "attackThief", fn := fun _ => fun
  | [d1, d2, d3] => { results := [.lit (.bool false)], args := [d1, d2, d3] }
  | _ => none }
def AttackThiefWrongFalsely : Prop := attackThiefRow.holds Tryd.pinned (OpenSpec.ofChange attackThiefWrong)

/-- 'erewhilelaw55.AttackNone': WHATEVER THE INPUT: true; the input reads as it did. -/
def attackNoneSpec : ChangeSpec := { name := "attackNone", fn := fun _ => fun
  | [d1, d2, d3, d4, d5] => { results := [.lit (.bool true)], args := [d1, d2, d3, d4, d5] }
  | _ => none }
def attackNoneRow : OpenClaim := { program := "ytdobjbdkfammbaadoor", sum := "66b0f974e7d13be8dd1c076aed09e270a5318e81074773ffba7b00acbb46e287", func := "erewhile/erewhilelaw55.AttackNone", spec := "attackNone", unfollowed := true, recurses := true, named := ["erewhile/fs.magic"], apart := false, laid := [("erewhile/fs.magic", laid_erewhile_fs_magic)] }
def AttackNoneSaid : Prop := attackNoneRow.holds Tryd.pinned (OpenSpec.ofChange attackNoneSpec)

/-- ITS FALSE NEIGHBOUR: 'it returns false'. Refute it at one input. -/
def attackNoneWrong : ChangeSpec := { name := "attackNone", fn := fun _ => fun
  | [d1, d2, d3, d4, d5] => { results := [.lit (.bool false)], args := [d1, d2, d3, d4, d5] }
  | _ => none }
def AttackNoneWrongFalsely : Prop := attackNoneRow.holds Tryd.pinned (OpenSpec.ofChange attackNoneWrong)

/-- 'erewhilelaw55.AttackLocks': WHATEVER THE INPUT: true; the input reads as it did. -/
def attackLocksSpec : ChangeSpec := { name := "attackLocks", fn := fun _ => fun
  | [d1, d2, d3, d4] => { results := [.lit (.bool true)], args := [d1, d2, d3, d4] }
  | _ => none }
def attackLocksRow : OpenClaim := { program := "ytdobjbdkfammbaadoor", sum := "66b0f974e7d13be8dd1c076aed09e270a5318e81074773ffba7b00acbb46e287", func := "erewhile/erewhilelaw55.AttackLocks", spec := "attackLocks", inPlace := ["internal/bytealg.Count", "internal/bytealg.IndexByte", "internal/bytealg.Index"], unfollowed := true, recurses := true, named := ["erewhile/fs.magic", "internal/bytealg.MaxLen"], apart := false, laid := [("erewhile/fs.magic", laid_erewhile_fs_magic)] }
def AttackLocksSaid : Prop := attackLocksRow.holds Tryd.pinned (OpenSpec.ofChange attackLocksSpec)

/-- ITS FALSE NEIGHBOUR: 'it returns false'. Refute it at one input. -/
def attackLocksWrong : ChangeSpec := { name := "attackLocks", fn := fun _ => fun
  | [d1, d2, d3, d4] => { results := [.lit (.bool false)], args := [d1, d2, d3, d4] }
  | _ => none }
def AttackLocksWrongFalsely : Prop := attackLocksRow.holds Tryd.pinned (OpenSpec.ofChange attackLocksWrong)

/-- 'erewhilelaw55.AttackSteals': WHATEVER THE INPUT: true; the input reads as it did. -/
def attackStealsSpec : ChangeSpec := { name := "attackSteals", fn := fun _ => fun
  | [d1, d2] => { results := [.lit (.bool true)], args := [d1, d2] }
  | _ => none }
def attackStealsRow : OpenClaim := { program := "ytdobjbdkfammbaadoor", sum := "66b0f974e7d13be8dd1c076aed09e270a5318e81074773ffba7b00acbb46e287", func := "erewhile/erewhilelaw55.AttackSteals", spec := "attackSteals", inPlace := ["internal/bytealg.Count", "internal/bytealg.IndexByte", "internal/bytealg.Index"], unfollowed := true, recurses := true, named := ["erewhile/fs.magic", "internal/bytealg.MaxLen"], apart := false, laid := [("erewhile/fs.magic", laid_erewhile_fs_magic)] }
def AttackStealsSaid : Prop := attackStealsRow.holds Tryd.pinned (OpenSpec.ofChange attackStealsSpec)

/-- ITS FALSE NEIGHBOUR: 'it returns false'. Refute it at one input. -/
def attackStealsWrong : ChangeSpec := { name := "attackSteals", fn := fun _ => fun
  | [d1, d2] => { results := [.lit (.bool false)], args := [d1, d2] }
  | _ => none }
def AttackStealsWrongFalsely : Prop := attackStealsRow.holds Tryd.pinned (OpenSpec.ofChange attackStealsWrong)

/-- 'erewhilelaw55.AttackRenames': WHATEVER THE INPUT: true; the input reads as it did. -/
def attackRenamesSpec : ChangeSpec := { name := "attackRenames", fn := fun _ => fun
  | [d1, d2, d3] => { results := [.lit (.bool true)], args := [d1, d2, d3] }
  | _ => none }
def attackRenamesRow : OpenClaim := { program := "ytdobjbdkfammbaadoor", sum := "66b0f974e7d13be8dd1c076aed09e270a5318e81074773ffba7b00acbb46e287", func := "erewhile/erewhilelaw55.AttackRenames", spec := "attackRenames", inPlace := ["internal/bytealg.Count", "internal/bytealg.IndexByte", "internal/bytealg.Index"], unfollowed := true, recurses := true, named := ["erewhile/fs.magic", "internal/bytealg.MaxLen"], apart := false, laid := [("erewhile/fs.magic", laid_erewhile_fs_magic)] }
def AttackRenamesSaid : Prop := attackRenamesRow.holds Tryd.pinned (OpenSpec.ofChange attackRenamesSpec)

/-- ITS FALSE NEIGHBOUR: 'it returns false'. Refute it at one input. -/
def attackRenamesWrong : ChangeSpec := { name := "attackRenames", fn := fun _ => fun
  | [d1, d2, d3] => { results := [.lit (.bool false)], args := [d1, d2, d3] }
  | _ => none }
def AttackRenamesWrongFalsely : Prop := attackRenamesRow.holds Tryd.pinned (OpenSpec.ofChange attackRenamesWrong)

/-- 'erewhilelaw55.AttackSeen': WHATEVER THE INPUT: true; the input reads as it did. -/
def attackSeenSpec : ChangeSpec := { name := "attackSeen", fn := fun _ => fun
  | [d1, d2, d3] => { results := [.lit (.bool true)], args := [d1, d2, d3] }
  | _ => none }
def attackSeenRow : OpenClaim := { program := "ytdobjbdkfammbaadoor", sum := "66b0f974e7d13be8dd1c076aed09e270a5318e81074773ffba7b00acbb46e287", func := "erewhile/erewhilelaw55.AttackSeen", spec := "attackSeen", inPlace := ["internal/bytealg.Count", "internal/bytealg.IndexByte", "internal/bytealg.Index"], unfollowed := true, recurses := true, named := ["erewhile/fs.magic", "internal/bytealg.MaxLen", "erewhile/probe.endings", "erewhile/probe.numbers"], apart := false, laid := [("erewhile/fs.magic", laid_erewhile_fs_magic), ("erewhile/probe.numbers", laid_erewhile_probe_numbers), ("erewhile/probe.endings", laid_erewhile_probe_endings)] }
def AttackSeenSaid : Prop := attackSeenRow.holds Tryd.pinned (OpenSpec.ofChange attackSeenSpec)

/-- ITS FALSE NEIGHBOUR: 'it returns false'. Refute it at one input. -/
def attackSeenWrong : ChangeSpec := { name := "attackSeen", fn := fun _ => fun
  | [d1, d2, d3] => { results := [.lit (.bool false)], args := [d1, d2, d3] }
  | _ => none }
def AttackSeenWrongFalsely : Prop := attackSeenRow.holds Tryd.pinned (OpenSpec.ofChange attackSeenWrong)

/- THE SECOND FORM. 'bulk': how many values and letters a reading holds, each counted each time it is reached (what is shared counts as often as it is met; a slice's spare places count too). A statement '..UptoSaid' is the law's where the arguments, and the package variables that the reading takes, are together of bulk at most 1048576: NARROWER than '..Said'. Prove '..Said' where nothing that the law and all that it calls make is longer than what came in: it says more and counts as full. Else prove '..UptoSaid'. A law counts once. -/
mutual
def uptoBulk {H : Type} : DataW H → Nat
  | .lit (.string bytes) => bytes.length + 1
  | .lit _ => 1
  | .nil => 1
  | .ptr d => uptoBulk d + 1
  | .slice elems spare => uptoBulkAll elems + uptoBulkAll spare + 1
  | .agg parts => uptoBulkAll parts + 1
  | .iface _ d => uptoBulk d + 1
  | .map entries => uptoBulkEntries entries + 1
  | .held _ => 1
def uptoBulkAll {H : Type} : List (DataW H) → Nat
  | [] => 0
  | d :: r => uptoBulk d + uptoBulkAll r
def uptoBulkEntries {H : Type} : List (Lit × DataW H) → Nat
  | [] => 0
  | x :: r => uptoBulkEntry x + uptoBulkEntries r
def uptoBulkEntry {H : Type} : Lit × DataW H → Nat
  | (.string bytes, d) => bytes.length + uptoBulk d + 1
  | (_, d) => uptoBulk d + 1
 end
def uptoSmall : (H : Type) → List (DataW H) → Bool := fun _ ds => decide (uptoBulkAll ds ≤ 1048576)
def OpenSpec.upto (s : _root_.Go.ChangeSpec) : _root_.Go.OpenSpec := { _root_.Go.OpenSpec.ofChange s with cond := some uptoSmall }

/-- 'erewhilelaw55.AttackFlood', WHERE WHAT IT READS IS OF BULK AT MOST 1048576: true; the input reads as it did. -/
def attackFloodUptoRow : OpenClaim := { program := "ytdobjbdkfammbaadoor", sum := "66b0f974e7d13be8dd1c076aed09e270a5318e81074773ffba7b00acbb46e287", func := "erewhile/erewhilelaw55.AttackFlood", spec := "attackFlood", unfollowed := true, recurses := true, named := ["erewhile/fs.magic"], apart := false, laid := [("erewhile/fs.magic", laid_erewhile_fs_magic)], narrowed := true }
def AttackFloodUptoSaid : Prop := attackFloodUptoRow.holds Tryd.pinned (OpenSpec.upto attackFloodSpec)

/-- 'erewhilelaw55.AttackFloods', WHERE WHAT IT READS IS OF BULK AT MOST 1048576: true; the input reads as it did. -/
def attackFloodsUptoRow : OpenClaim := { program := "ytdobjbdkfammbaadoor", sum := "66b0f974e7d13be8dd1c076aed09e270a5318e81074773ffba7b00acbb46e287", func := "erewhile/erewhilelaw55.AttackFloods", spec := "attackFloods", unfollowed := true, recurses := true, named := ["erewhile/fs.magic"], apart := false, laid := [("erewhile/fs.magic", laid_erewhile_fs_magic)], narrowed := true }
def AttackFloodsUptoSaid : Prop := attackFloodsUptoRow.holds Tryd.pinned (OpenSpec.upto attackFloodsSpec)

/-- 'erewhilelaw55.AttackRansom', WHERE WHAT IT READS IS OF BULK AT MOST 1048576: true; the input reads as it did. -/
def attackRansomUptoRow : OpenClaim := { program := "ytdobjbdkfammbaadoor", sum := "66b0f974e7d13be8dd1c076aed09e270a5318e81074773ffba7b00acbb46e287", func := "erewhile/erewhilelaw55.AttackRansom", spec := "attackRansom", unfollowed := true, recurses := true, named := ["erewhile/fs.magic"], apart := false, laid := [("erewhile/fs.magic", laid_erewhile_fs_magic)], narrowed := true }
def AttackRansomUptoSaid : Prop := attackRansomUptoRow.holds Tryd.pinned (OpenSpec.upto attackRansomSpec)

/-- 'erewhilelaw55.AttackThief', WHERE WHAT IT READS IS OF BULK AT MOST 1048576: true; the input reads as it did. -/
def attackThiefUptoRow : OpenClaim := { program := "ytdobjbdkfammbaadoor", sum := "66b0f974e7d13be8dd1c076aed09e270a5318e81074773ffba7b00acbb46e287", func := "erewhile/erewhilelaw55.AttackThief", spec := "attackThief", unfollowed := true, recurses := true, named := ["erewhile/fs.magic"], apart := false, laid := [("erewhile/fs.magic", laid_erewhile_fs_magic)], narrowed := true }
def AttackThiefUptoSaid : Prop := attackThiefUptoRow.holds Tryd.pinned (OpenSpec.upto attackThiefSpec)

/-- 'erewhilelaw55.AttackNone', WHERE WHAT IT READS IS OF BULK AT MOST 1048576: true; the input reads as it did. -/
def attackNoneUptoRow : OpenClaim := { program := "ytdobjbdkfammbaadoor", sum := "66b0f974e7d13be8dd1c076aed09e270a5318e81074773ffba7b00acbb46e287", func := "erewhile/erewhilelaw55.AttackNone", spec := "attackNone", unfollowed := true, recurses := true, named := ["erewhile/fs.magic"], apart := false, laid := [("erewhile/fs.magic", laid_erewhile_fs_magic)], narrowed := true }
def AttackNoneUptoSaid : Prop := attackNoneUptoRow.holds Tryd.pinned (OpenSpec.upto attackNoneSpec)

/-- 'erewhilelaw55.AttackLocks', WHERE WHAT IT READS IS OF BULK AT MOST 1048576: true; the input reads as it did. -/
def attackLocksUptoRow : OpenClaim := { program := "ytdobjbdkfammbaadoor", sum := "66b0f974e7d13be8dd1c076aed09e270a5318e81074773ffba7b00acbb46e287", func := "erewhile/erewhilelaw55.AttackLocks", spec := "attackLocks", inPlace := ["internal/bytealg.Count", "internal/bytealg.IndexByte", "internal/bytealg.Index"], unfollowed := true, recurses := true, named := ["erewhile/fs.magic", "internal/bytealg.MaxLen"], apart := false, laid := [("erewhile/fs.magic", laid_erewhile_fs_magic)], narrowed := true }
def AttackLocksUptoSaid : Prop := attackLocksUptoRow.holds Tryd.pinned (OpenSpec.upto attackLocksSpec)

/-- 'erewhilelaw55.AttackSteals', WHERE WHAT IT READS IS OF BULK AT MOST 1048576: true; the input reads as it did. -/
def attackStealsUptoRow : OpenClaim := { program := "ytdobjbdkfammbaadoor", sum := "66b0f974e7d13be8dd1c076aed09e270a5318e81074773ffba7b00acbb46e287", func := "erewhile/erewhilelaw55.AttackSteals", spec := "attackSteals", inPlace := ["internal/bytealg.Count", "internal/bytealg.IndexByte", "internal/bytealg.Index"], unfollowed := true, recurses := true, named := ["erewhile/fs.magic", "internal/bytealg.MaxLen"], apart := false, laid := [("erewhile/fs.magic", laid_erewhile_fs_magic)], narrowed := true }
def AttackStealsUptoSaid : Prop := attackStealsUptoRow.holds Tryd.pinned (OpenSpec.upto attackStealsSpec)

/-- 'erewhilelaw55.AttackRenames', WHERE WHAT IT READS IS OF BULK AT MOST 1048576: true; the input reads as it did. -/
def attackRenamesUptoRow : OpenClaim := { program := "ytdobjbdkfammbaadoor", sum := "66b0f974e7d13be8dd1c076aed09e270a5318e81074773ffba7b00acbb46e287", func := "erewhile/erewhilelaw55.AttackRenames", spec := "attackRenames", inPlace := ["internal/bytealg.Count", "internal/bytealg.IndexByte", "internal/bytealg.Index"], unfollowed := true, recurses := true, named := ["erewhile/fs.magic", "internal/bytealg.MaxLen"], apart := false, laid := [("erewhile/fs.magic", laid_erewhile_fs_magic)], narrowed := true }
def AttackRenamesUptoSaid : Prop := attackRenamesUptoRow.holds Tryd.pinned (OpenSpec.upto attackRenamesSpec)

/-- 'erewhilelaw55.AttackSeen', WHERE WHAT IT READS IS OF BULK AT MOST 1048576: true; the input reads as it did. -/
def attackSeenUptoRow : OpenClaim := { program := "ytdobjbdkfammbaadoor", sum := "66b0f974e7d13be8dd1c076aed09e270a5318e81074773ffba7b00acbb46e287", func := "erewhile/erewhilelaw55.AttackSeen", spec := "attackSeen", inPlace := ["internal/bytealg.Count", "internal/bytealg.IndexByte", "internal/bytealg.Index"], unfollowed := true, recurses := true, named := ["erewhile/fs.magic", "internal/bytealg.MaxLen", "erewhile/probe.endings", "erewhile/probe.numbers"], apart := false, laid := [("erewhile/fs.magic", laid_erewhile_fs_magic), ("erewhile/probe.numbers", laid_erewhile_probe_numbers), ("erewhile/probe.endings", laid_erewhile_probe_endings)], narrowed := true }
def AttackSeenUptoSaid : Prop := attackSeenUptoRow.holds Tryd.pinned (OpenSpec.upto attackSeenSpec)

end Rows
end Go.Proofs.YtdobjbdkfammbaaDoor
