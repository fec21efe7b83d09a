/-
  Kinds of the Go types that the proofs of this seat use: bytes, what was seen of a file, a version, a file: how their cells read. Plain definitions and lemmas.
-/
import Derived.Test.YtdobjbdkfammbaaDoorProg
import Derived.Below
import Derived.Deep.Draws
import Derived.Deep.AppendLies
import Derived.Maps.AppendAt
import Derived.OwnWalk
import Derived.Laws.BytesArg
import Derived.Laws.MakeOwn
import Derived.Laws.OwnMore
import Derived.Deep.OwnRows
import Derived.Tactics
import Derived.Lib.ConvBytes
import Derived.Laws.Slices
import Derived.WalkKit
import Derived.KernelRfl
import Derived.RowKit3
import Derived.Deep.LoopGhost
import Derived.Deep.QuietTactic
import Derived.BigQuiet
import Derived.WideLaws
import Derived.Deep.DeepCutAuto
import Derived.Deep.CutBlock
import Derived.Deep.RegionHeld3
import Derived.Laws.Rows
import Derived.Lib.AppendStr
import Derived.ArgAppend
import Derived.Laws.IdiomCopy
import Derived.OrdersHeld
import Derived.Laws.BitsLemmas
import Derived.RowKit
import Derived.Lib.Hide
import Derived.WalkSpells
import Derived.WalkLawsBesides
import Derived.Test.YtdobjbdkfammbaaDoorWWords
import Derived.Test.YtdobjbdkfammbaaDoorWLast
import Derived.Test.YtdobjbdkfammbaaDoorWMore
namespace Go.Proofs.YtdobjbdkfammbaaDoor
open Go.RowKit Go.Proofs.YtdobjbdkfammbaaDoorW.PrintWords Go.Proofs.YtdobjbdkfammbaaDoorW.PrintLast Go.Proofs.YtdobjbdkfammbaaDoorW.PrintMore

/-- A byte. -/
def byte : Kd UInt8 := Kd.scalar (fun x => .int .u8 (x.toNat : Int)) (fun _ => rfl)
/-- The element at a place; a default beyond the end. -/
def gt {α : Type} [Inhabited α] (xs : List α) (k : Nat) : α := xs.getD k default
theorem gt_eq {α : Type} [Inhabited α] (xs : List α) (k : Nat) (h : k < xs.length) : gt xs k = xs[k] := by simp [gt, h]
theorem gt_some {α : Type} [Inhabited α] (xs : List α) (k : Nat) (h : k < xs.length) : xs[k]? = some (gt xs k) := by simp [gt, h]

/-- An element of a row that is read, by a natural number. -/
theorem C_at {α : Type} [Inhabited α] {d : Kd α} {w : World} {A : Option Addr} {n : Nat} {xs : List α} (h : d.C w A n xs) {k : Nat} (hk : k < n) :
    ∃ ad cs, A = some ad ∧ d.K w (gt xs k) cs ∧ ∀ j u, cs[j]? = some u → w.cell? (ad.add (k * d.sz + j)) = some u := by
  obtain ⟨ad, c, e, _, hK, hc⟩ := Kd.C_get h default (k : Int) (by omega) (by omega)
  exact ⟨ad, c, e, by simpa [gt] using hK, by simpa using hc⟩

theorem byte_at {w : World} {A : Option Addr} {n : Nat} {xs : List UInt8} (h : byte.C w A n xs) {k : Nat} (hk : k < n) :
    ∃ ad, A = some ad ∧ w.cell? (ad.add k) = some (.int .u8 ((gt xs k).toNat : Int)) := by
  obtain ⟨ad, cs, e, hK, hc⟩ := C_at h hk
  have hK' : cs = [.int .u8 ((gt xs k).toNat : Int)] := hK
  subst hK'
  have h0 : w.cell? (ad.add (k * 1 + 0)) = _ := hc 0 _ rfl
  exact ⟨ad, e, by rwa [Nat.mul_one, Nat.add_zero] at h0⟩
theorem int_at {kd : IntKind} {w : World} {A : Option Addr} {n : Nat} {xs : List Int} (h : (Kd.int kd).C w A n xs) {k : Nat} (hk : k < n) :
    ∃ ad, A = some ad ∧ w.cell? (ad.add k) = some (.int kd (gt xs k)) := by
  obtain ⟨ad, cs, e, hK, hc⟩ := C_at h hk
  have hK' : cs = [.int kd (gt xs k)] := hK
  subst hK'
  have h0 : w.cell? (ad.add (k * 1 + 0)) = _ := hc 0 _ rfl
  exact ⟨ad, e, by rwa [Nat.mul_one, Nat.add_zero] at h0⟩

/-- A block known whole, read as a row. -/
theorem C_block {α : Type} {d : Kd α} {w : World} {g : Nat} {cs : Array Value} {t : TypeId} {fr : Nat × Nat} {xs : List α} (hb : w.heap[g]? = some (.cells cs t fr)) (hr : Reps (d.K w) d.sz xs cs.toList) (hm : xs.length ≤ 9223372036854775807) :
    d.C w (some ⟨g, 0, none⟩) xs.length xs := by
  refine ⟨rfl, hm, fun hn => ⟨_, rfl, fun j p hj => ?_⟩⟩
  have hjl := (List.getElem?_eq_some_iff.1 hj).1
  have h1 : j * d.sz + d.sz ≤ cs.toList.length := by rw [hr.1, ← Nat.succ_mul]; exact Nat.mul_le_mul_right _ hjl
  refine ⟨(cs.toList.drop (j * d.sz)).take d.sz, by rw [List.length_take, List.length_drop]; omega, hr.2 j p hj, fun i u hu => ?_⟩
  rw [add_plain, cell_of_row w g _ cs t fr hb, ← Array.getElem?_toList]
  rw [List.getElem?_take] at hu
  split at hu
  · rwa [List.getElem?_drop] at hu
  · cases hu
/-- A cell of an elder world. -/
theorem cell_old {w w1 : World} (hb : Below w.heap.size w w1) {a : Addr} {v : Value} (h : w.cell? a = some v) : w1.cell? a = some v := pw_cell_below hb h
theorem byte_inj {x y : UInt8} (h : (x.toNat : Int) = (y.toNat : Int)) : x = y := UInt8.toNat_inj.mp (by omega)

/-! ### a file -/
structure File where
  name : ByteArray
  data : List UInt8
  deriving Inhabited
def kFile : Kd File := Kd.iso (Kd.pair Kd.string (Kd.slice 5 byte)) (fun x : File => (x.name, x.data))
theorem kFile_open {w : World} {x : File} {cs : List Value} (h : kFile.K w x cs) : ∃ A c, cs = [.string x.name, .slice A x.data.length c] ∧ x.data.length ≤ c ∧ byte.C w A x.data.length x.data := by
  obtain ⟨_, _, rfl, rfl, ⟨A, c, rfl, l, g⟩⟩ := h
  exact ⟨A, c, rfl, l, g⟩
theorem kFile_mk (w : World) (x : File) {A : Option Addr} {c : Nat} (l : x.data.length ≤ c) (g : byte.C w A x.data.length x.data) : kFile.K w x [.string x.name, .slice A x.data.length c] := ⟨[.string x.name], [.slice A x.data.length c], rfl, rfl, ⟨A, c, rfl, l, g⟩⟩
theorem file_at {w : World} {A : Option Addr} {n : Nat} {xs : List File} (h : kFile.C w A n xs) {k : Nat} (hk : k < n) : ∃ ad A1 c1, A = some ad ∧ w.cell? (ad.add (k * 2)) = some (.string (gt xs k).name) ∧ w.cell? ⟨(ad.add (k * 2)).block, (ad.add (k * 2)).off + 1, none⟩ = some (.slice A1 (gt xs k).data.length c1) ∧ (gt xs k).data.length ≤ c1 ∧ byte.C w A1 (gt xs k).data.length (gt xs k).data := by
  obtain ⟨ad, cs, e, hK, hc0⟩ := C_at h hk
  have hc : ∀ j u, cs[j]? = some u → w.cell? (ad.add (k * 2 + j)) = some u := hc0
  obtain ⟨A1, c1, rfl, l1, g1⟩ := kFile_open hK
  exact ⟨ad, A1, c1, e, hc 0 _ rfl, by rw [← add_field _ _ 1 (by omega)]; exact hc 1 _ rfl, l1, g1⟩
end Go.Proofs.YtdobjbdkfammbaaDoor
