/-
  No cell of these rows narrows 'for every input' (looked for: loops, veiled, ifaces, maps, wideKeys, modest, calm, conditions, laid).
  DERIVED. THE GIVEN ROWS OF THIS SEAT. 8 by the template 'for every input the law returns true; each argument reads behind the call as it read before'; 0 by the template 'total and deterministic' (their statements: YtjogpfijkhhloaaTotals.lean).
  GIVEN WITH THE SEED: the statements are not yours to turn. If you find one false, say at which input.
  Laid BY PROGRAM, IN A SANDBOX (cutbox-rows.mjs): the forced cells as the released guide's own fill.sh prints them over the translation 9e12ea6aba05745b… (all of the seat's roots in one cut). By AI agents, Wed Nov 11 2026. No macro, syntax, notation, axiom, sorry.
-/
import Derived.Test.YtjogpfijkhhloaaChecked
import GoSem.Claim
import GoSem.ClaimJoined
import GoSem.ClaimMapViews
import Derived.JoinedTies
import Derived.KernelRfl
namespace Go.Proofs.Ytjogpfijkhhloaa
/- THE CELL 'sum', in the pinned program and in every row, IS THE sha256 OF THE DUMP (.gsa) THAT YtjogpfijkhhloaaProg.lean LOADS. Nothing in Lean hashes anything: it is a label: what it is worth is what the hold of that sum in a sandbox is worth. -/
noncomputable def Try.pinned : Pinned := { name := "ytjogpfijkhhloaa", sum := "9e12ea6aba05745b127937ecf3f0375f7bbb9c1e61f912dde872fc742b374e5c", checked := Try.checked }
namespace Rows
def none {H : Type} : Left H := { results := [], args := [] }

/-- 'erewhilelaw50.PastOf': WHATEVER THE INPUT: true; the input reads as it did. -/
def pastOfSpec : ChangeSpec := { name := "pastOf", fn := fun _ => fun
  | [d] => { results := [.lit (.bool true)], args := [d] }
  | _ => none }
def pastOfRow : OpenClaim := { program := "ytjogpfijkhhloaa", sum := "9e12ea6aba05745b127937ecf3f0375f7bbb9c1e61f912dde872fc742b374e5c", func := "erewhile/erewhilelaw50.PastOf", spec := "pastOf", unfollowed := true, recurses := true, apart := false }
def PastOfSaid : Prop := pastOfRow.holds Try.pinned (OpenSpec.ofChange pastOfSpec)

/-- ITS FALSE NEIGHBOUR: 'it returns false'. Refute it at one input. -/
def pastOfWrong : ChangeSpec := { name := "pastOf", fn := fun _ => fun
  | [d] => { results := [.lit (.bool false)], args := [d] }
  | _ => none }
def PastOfWrongFalsely : Prop := pastOfRow.holds Try.pinned (OpenSpec.ofChange pastOfWrong)

/-- 'erewhilelaw50.PastReads': WHATEVER THE INPUT: true; the input reads as it did. -/
def pastReadsSpec : ChangeSpec := { name := "pastReads", fn := fun _ => fun
  | [d] => { results := [.lit (.bool true)], args := [d] }
  | _ => none }
def pastReadsRow : OpenClaim := { program := "ytjogpfijkhhloaa", sum := "9e12ea6aba05745b127937ecf3f0375f7bbb9c1e61f912dde872fc742b374e5c", func := "erewhile/erewhilelaw50.PastReads", spec := "pastReads", unfollowed := true, recurses := true, apart := false }
def PastReadsSaid : Prop := pastReadsRow.holds Try.pinned (OpenSpec.ofChange pastReadsSpec)

/-- ITS FALSE NEIGHBOUR: 'it returns false'. Refute it at one input. -/
def pastReadsWrong : ChangeSpec := { name := "pastReads", fn := fun _ => fun
  | [d] => { results := [.lit (.bool false)], args := [d] }
  | _ => none }
def PastReadsWrongFalsely : Prop := pastReadsRow.holds Try.pinned (OpenSpec.ofChange pastReadsWrong)

/-- 'erewhilelaw50.PastChanged': WHATEVER THE INPUT: true; the input reads as it did. -/
def pastChangedSpec : ChangeSpec := { name := "pastChanged", fn := fun _ => fun
  | [d] => { results := [.lit (.bool true)], args := [d] }
  | _ => none }
def pastChangedRow : OpenClaim := { program := "ytjogpfijkhhloaa", sum := "9e12ea6aba05745b127937ecf3f0375f7bbb9c1e61f912dde872fc742b374e5c", func := "erewhile/erewhilelaw50.PastChanged", spec := "pastChanged", unfollowed := true, recurses := true, apart := false }
def PastChangedSaid : Prop := pastChangedRow.holds Try.pinned (OpenSpec.ofChange pastChangedSpec)

/-- ITS FALSE NEIGHBOUR: 'it returns false'. Refute it at one input. -/
def pastChangedWrong : ChangeSpec := { name := "pastChanged", fn := fun _ => fun
  | [d] => { results := [.lit (.bool false)], args := [d] }
  | _ => none }
def PastChangedWrongFalsely : Prop := pastChangedRow.holds Try.pinned (OpenSpec.ofChange pastChangedWrong)

/-- 'erewhilelaw50.PastParts': WHATEVER THE INPUT: true; the input reads as it did. -/
def pastPartsSpec : ChangeSpec := { name := "pastParts", fn := fun _ => fun
  | [d1, d2] => { results := [.lit (.bool true)], args := [d1, d2] }
  | _ => none }
def pastPartsRow : OpenClaim := { program := "ytjogpfijkhhloaa", sum := "9e12ea6aba05745b127937ecf3f0375f7bbb9c1e61f912dde872fc742b374e5c", func := "erewhile/erewhilelaw50.PastParts", spec := "pastParts", unfollowed := true, recurses := true, apart := false }
def PastPartsSaid : Prop := pastPartsRow.holds Try.pinned (OpenSpec.ofChange pastPartsSpec)

/-- ITS FALSE NEIGHBOUR: 'it returns false'. Refute it at one input. -/
def pastPartsWrong : ChangeSpec := { name := "pastParts", fn := fun _ => fun
  | [d1, d2] => { results := [.lit (.bool false)], args := [d1, d2] }
  | _ => none }
def PastPartsWrongFalsely : Prop := pastPartsRow.holds Try.pinned (OpenSpec.ofChange pastPartsWrong)

/-- 'erewhilelaw50.PastNone': WHATEVER THE INPUT: true; the input reads as it did. -/
def pastNoneSpec : ChangeSpec := { name := "pastNone", fn := fun _ => fun
  | [d1, d2] => { results := [.lit (.bool true)], args := [d1, d2] }
  | _ => none }
def pastNoneRow : OpenClaim := { program := "ytjogpfijkhhloaa", sum := "9e12ea6aba05745b127937ecf3f0375f7bbb9c1e61f912dde872fc742b374e5c", func := "erewhile/erewhilelaw50.PastNone", spec := "pastNone", unfollowed := true, recurses := true, apart := false }
def PastNoneSaid : Prop := pastNoneRow.holds Try.pinned (OpenSpec.ofChange pastNoneSpec)

/-- ITS FALSE NEIGHBOUR: 'it returns false'. Refute it at one input. -/
def pastNoneWrong : ChangeSpec := { name := "pastNone", fn := fun _ => fun
  | [d1, d2] => { results := [.lit (.bool false)], args := [d1, d2] }
  | _ => none }
def PastNoneWrongFalsely : Prop := pastNoneRow.holds Try.pinned (OpenSpec.ofChange pastNoneWrong)

/-- 'erewhilelaw50.PastApart': WHATEVER THE INPUT: true; the input reads as it did. -/
def pastApartSpec : ChangeSpec := { name := "pastApart", fn := fun _ => fun
  | [d] => { results := [.lit (.bool true)], args := [d] }
  | _ => none }
def pastApartRow : OpenClaim := { program := "ytjogpfijkhhloaa", sum := "9e12ea6aba05745b127937ecf3f0375f7bbb9c1e61f912dde872fc742b374e5c", func := "erewhile/erewhilelaw50.PastApart", spec := "pastApart", unfollowed := true, recurses := true, apart := false }
def PastApartSaid : Prop := pastApartRow.holds Try.pinned (OpenSpec.ofChange pastApartSpec)

/-- ITS FALSE NEIGHBOUR: 'it returns false'. Refute it at one input. -/
def pastApartWrong : ChangeSpec := { name := "pastApart", fn := fun _ => fun
  | [d] => { results := [.lit (.bool false)], args := [d] }
  | _ => none }
def PastApartWrongFalsely : Prop := pastApartRow.holds Try.pinned (OpenSpec.ofChange pastApartWrong)

/-- 'erewhilelaw50.PastLast': WHATEVER THE INPUT: true; the input reads as it did. -/
def pastLastSpec : ChangeSpec := { name := "pastLast", fn := fun _ => fun
  | [d1, d2] => { results := [.lit (.bool true)], args := [d1, d2] }
  | _ => none }
def pastLastRow : OpenClaim := { program := "ytjogpfijkhhloaa", sum := "9e12ea6aba05745b127937ecf3f0375f7bbb9c1e61f912dde872fc742b374e5c", func := "erewhile/erewhilelaw50.PastLast", spec := "pastLast", unfollowed := true, recurses := true, apart := false }
def PastLastSaid : Prop := pastLastRow.holds Try.pinned (OpenSpec.ofChange pastLastSpec)

/-- ITS FALSE NEIGHBOUR: 'it returns false'. Refute it at one input. -/
def pastLastWrong : ChangeSpec := { name := "pastLast", fn := fun _ => fun
  | [d1, d2] => { results := [.lit (.bool false)], args := [d1, d2] }
  | _ => none }
def PastLastWrongFalsely : Prop := pastLastRow.holds Try.pinned (OpenSpec.ofChange pastLastWrong)

/-- 'erewhilelaw50.PastWhole': WHATEVER THE INPUT: true; the input reads as it did. -/
def pastWholeSpec : ChangeSpec := { name := "pastWhole", fn := fun _ => fun
  | [d1, d2] => { results := [.lit (.bool true)], args := [d1, d2] }
  | _ => none }
def pastWholeRow : OpenClaim := { program := "ytjogpfijkhhloaa", sum := "9e12ea6aba05745b127937ecf3f0375f7bbb9c1e61f912dde872fc742b374e5c", func := "erewhile/erewhilelaw50.PastWhole", spec := "pastWhole", unfollowed := true, recurses := true, apart := false }
def PastWholeSaid : Prop := pastWholeRow.holds Try.pinned (OpenSpec.ofChange pastWholeSpec)

/-- ITS FALSE NEIGHBOUR: 'it returns false'. Refute it at one input. -/
def pastWholeWrong : ChangeSpec := { name := "pastWhole", fn := fun _ => fun
  | [d1, d2] => { results := [.lit (.bool false)], args := [d1, d2] }
  | _ => none }
def PastWholeWrongFalsely : Prop := pastWholeRow.holds Try.pinned (OpenSpec.ofChange pastWholeWrong)

/- THE SECOND FORM. 'bulk': how many values and letters a reading holds, each counted each time it is reached (what is shared counts as often as it is met; a slice's spare places count too). A statement '..UptoSaid' is the law's where the arguments, and the package variables that the reading takes, are together of bulk at most 1048576: NARROWER than '..Said'. Prove '..Said' where nothing that the law and all that it calls make is longer than what came in: it says more and counts as full. Else prove '..UptoSaid'. A law counts once. -/
mutual
def uptoBulk {H : Type} : DataW H → Nat
  | .lit (.string bytes) => bytes.length + 1
  | .lit _ => 1
  | .nil => 1
  | .ptr d => uptoBulk d + 1
  | .slice elems spare => uptoBulkAll elems + uptoBulkAll spare + 1
  | .agg parts => uptoBulkAll parts + 1
  | .iface _ d => uptoBulk d + 1
  | .map entries => uptoBulkEntries entries + 1
  | .held _ => 1
def uptoBulkAll {H : Type} : List (DataW H) → Nat
  | [] => 0
  | d :: r => uptoBulk d + uptoBulkAll r
def uptoBulkEntries {H : Type} : List (Lit × DataW H) → Nat
  | [] => 0
  | x :: r => uptoBulkEntry x + uptoBulkEntries r
def uptoBulkEntry {H : Type} : Lit × DataW H → Nat
  | (.string bytes, d) => bytes.length + uptoBulk d + 1
  | (_, d) => uptoBulk d + 1
 end
def uptoSmall : (H : Type) → List (DataW H) → Bool := fun _ ds => decide (uptoBulkAll ds ≤ 1048576)
def OpenSpec.upto (s : _root_.Go.ChangeSpec) : _root_.Go.OpenSpec := { _root_.Go.OpenSpec.ofChange s with cond := some uptoSmall }

/-- 'erewhilelaw50.PastOf', WHERE WHAT IT READS IS OF BULK AT MOST 1048576: true; the input reads as it did. -/
def pastOfUptoRow : OpenClaim := { program := "ytjogpfijkhhloaa", sum := "9e12ea6aba05745b127937ecf3f0375f7bbb9c1e61f912dde872fc742b374e5c", func := "erewhile/erewhilelaw50.PastOf", spec := "pastOf", unfollowed := true, recurses := true, apart := false, narrowed := true }
def PastOfUptoSaid : Prop := pastOfUptoRow.holds Try.pinned (OpenSpec.upto pastOfSpec)

/-- 'erewhilelaw50.PastReads', WHERE WHAT IT READS IS OF BULK AT MOST 1048576: true; the input reads as it did. -/
def pastReadsUptoRow : OpenClaim := { program := "ytjogpfijkhhloaa", sum := "9e12ea6aba05745b127937ecf3f0375f7bbb9c1e61f912dde872fc742b374e5c", func := "erewhile/erewhilelaw50.PastReads", spec := "pastReads", unfollowed := true, recurses := true, apart := false, narrowed := true }
def PastReadsUptoSaid : Prop := pastReadsUptoRow.holds Try.pinned (OpenSpec.upto pastReadsSpec)

/-- 'erewhilelaw50.PastChanged', WHERE WHAT IT READS IS OF BULK AT MOST 1048576: true; the input reads as it did. -/
def pastChangedUptoRow : OpenClaim := { program := "ytjogpfijkhhloaa", sum := "9e12ea6aba05745b127937ecf3f0375f7bbb9c1e61f912dde872fc742b374e5c", func := "erewhile/erewhilelaw50.PastChanged", spec := "pastChanged", unfollowed := true, recurses := true, apart := false, narrowed := true }
def PastChangedUptoSaid : Prop := pastChangedUptoRow.holds Try.pinned (OpenSpec.upto pastChangedSpec)

/-- 'erewhilelaw50.PastParts', WHERE WHAT IT READS IS OF BULK AT MOST 1048576: true; the input reads as it did. -/
def pastPartsUptoRow : OpenClaim := { program := "ytjogpfijkhhloaa", sum := "9e12ea6aba05745b127937ecf3f0375f7bbb9c1e61f912dde872fc742b374e5c", func := "erewhile/erewhilelaw50.PastParts", spec := "pastParts", unfollowed := true, recurses := true, apart := false, narrowed := true }
def PastPartsUptoSaid : Prop := pastPartsUptoRow.holds Try.pinned (OpenSpec.upto pastPartsSpec)

/-- 'erewhilelaw50.PastNone', WHERE WHAT IT READS IS OF BULK AT MOST 1048576: true; the input reads as it did. -/
def pastNoneUptoRow : OpenClaim := { program := "ytjogpfijkhhloaa", sum := "9e12ea6aba05745b127937ecf3f0375f7bbb9c1e61f912dde872fc742b374e5c", func := "erewhile/erewhilelaw50.PastNone", spec := "pastNone", unfollowed := true, recurses := true, apart := false, narrowed := true }
def PastNoneUptoSaid : Prop := pastNoneUptoRow.holds Try.pinned (OpenSpec.upto pastNoneSpec)

/-- 'erewhilelaw50.PastApart', WHERE WHAT IT READS IS OF BULK AT MOST 1048576: true; the input reads as it did. -/
def pastApartUptoRow : OpenClaim := { program := "ytjogpfijkhhloaa", sum := "9e12ea6aba05745b127937ecf3f0375f7bbb9c1e61f912dde872fc742b374e5c", func := "erewhile/erewhilelaw50.PastApart", spec := "pastApart", unfollowed := true, recurses := true, apart := false, narrowed := true }
def PastApartUptoSaid : Prop := pastApartUptoRow.holds Try.pinned (OpenSpec.upto pastApartSpec)

/-- 'erewhilelaw50.PastLast', WHERE WHAT IT READS IS OF BULK AT MOST 1048576: true; the input reads as it did. -/
def pastLastUptoRow : OpenClaim := { program := "ytjogpfijkhhloaa", sum := "9e12ea6aba05745b127937ecf3f0375f7bbb9c1e61f912dde872fc742b374e5c", func := "erewhile/erewhilelaw50.PastLast", spec := "pastLast", unfollowed := true, recurses := true, apart := false, narrowed := true }
def PastLastUptoSaid : Prop := pastLastUptoRow.holds Try.pinned (OpenSpec.upto pastLastSpec)

/-- 'erewhilelaw50.PastWhole', WHERE WHAT IT READS IS OF BULK AT MOST 1048576: true; the input reads as it did. -/
def pastWholeUptoRow : OpenClaim := { program := "ytjogpfijkhhloaa", sum := "9e12ea6aba05745b127937ecf3f0375f7bbb9c1e61f912dde872fc742b374e5c", func := "erewhile/erewhilelaw50.PastWhole", spec := "pastWhole", unfollowed := true, recurses := true, apart := false, narrowed := true }
def PastWholeUptoSaid : Prop := pastWholeUptoRow.holds Try.pinned (OpenSpec.upto pastWholeSpec)

end Rows
end Go.Proofs.Ytjogpfijkhhloaa
