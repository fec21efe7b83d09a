/-
  Chapter 49: what slices.Collect(slices.Chunk(data, 32)) answers, read: the parts of the data.
-/
import Derived.Test.YtnpnpgihbgohgaaDoorProg
import Derived.Below
import Derived.Deep.Draws
import Derived.Deep.AppendLies
import Derived.Maps.AppendAt
import Derived.OwnWalk
import Derived.Laws.BytesArg
import Derived.Laws.MakeOwn
import Derived.Laws.OwnMore
import Derived.Deep.OwnRows
import Derived.Tactics
import Derived.Lib.ConvBytes
import Derived.Laws.Slices
import Derived.WalkKit
import Derived.KernelRfl
import Derived.RowKit3
import Derived.Deep.LoopGhost
import Derived.Deep.QuietTactic
import Derived.BigQuiet
import Derived.WideLaws
import Derived.Deep.DeepCutAuto
import Derived.Deep.CutBlock
import Derived.Deep.RegionHeld3
import Derived.Laws.Rows
import Derived.Lib.AppendStr
import Derived.ArgAppend
import Derived.Laws.IdiomCopy
import Derived.OrdersHeld
import Derived.Laws.BitsLemmas
import Derived.RowKit
import Derived.Lib.Hide
import Derived.WalkSpells
import Derived.WalkLawsBesides
import Derived.Test.YtnpnpgihbgohgaaDoorWWords
import Derived.Test.YtnpnpgihbgohgaaDoorWLast
import Derived.Test.YtnpnpgihbgohgaaDoorWMore
import Derived.Lib.ByteType
import Derived.Test.YtnpnpgihbgohgaaDoorWArr
import Derived.Deep.MidRow
import Derived.Deep.WholeRow
import Derived.Deep.Slices
import Derived.Great.BuildSlice
import Derived.Maps.OwnSet
import Derived.Maps.Views
import Derived.StringKeys
import Derived.RangeFuncGives
import Derived.RangeFuncBound
import Derived.RangeFuncCalls
import Derived.RangeFuncLeaves
import Derived.Shelf.Abstract
import Derived.Shelf.RegionOpen
import Derived.OwnWalkIn
import Derived.TacticsInMore
import Derived.LoopNIn
import Derived.LoopIn
import Derived.Maps.OwnIn
import Derived.Sort.QuietIn
/-
  Kinds of the Go types that the proofs of this seat use: bytes, what was seen of a file, a version, a file: how their cells read. Plain definitions and lemmas.
-/
namespace Go.Proofs.YtnpnpgihbgohgaaDoor
open Go.RowKit Go.Proofs.YtnpnpgihbgohgaaDoorW.PrintWords Go.Proofs.YtnpnpgihbgohgaaDoorW.PrintLast Go.Proofs.YtnpnpgihbgohgaaDoorW.PrintMore

/-- A byte. -/
def byte : Kd UInt8 := Kd.scalar (fun x => .int .u8 (x.toNat : Int)) (fun _ => rfl)
/-- The element at a place; a default beyond the end. -/
def gt {α : Type} [Inhabited α] (xs : List α) (k : Nat) : α := xs.getD k default
theorem gt_eq {α : Type} [Inhabited α] (xs : List α) (k : Nat) (h : k < xs.length) : gt xs k = xs[k] := by simp [gt, h]
theorem gt_some {α : Type} [Inhabited α] (xs : List α) (k : Nat) (h : k < xs.length) : xs[k]? = some (gt xs k) := by simp [gt, h]

/-- An element of a row that is read, by a natural number. -/
theorem C_at {α : Type} [Inhabited α] {d : Kd α} {w : World} {A : Option Addr} {n : Nat} {xs : List α} (h : d.C w A n xs) {k : Nat} (hk : k < n) :
    ∃ ad cs, A = some ad ∧ d.K w (gt xs k) cs ∧ ∀ j u, cs[j]? = some u → w.cell? (ad.add (k * d.sz + j)) = some u := by
  obtain ⟨ad, c, e, _, hK, hc⟩ := Kd.C_get h default (k : Int) (by omega) (by omega)
  exact ⟨ad, c, e, by simpa [gt] using hK, by simpa using hc⟩

theorem byte_at {w : World} {A : Option Addr} {n : Nat} {xs : List UInt8} (h : byte.C w A n xs) {k : Nat} (hk : k < n) :
    ∃ ad, A = some ad ∧ w.cell? (ad.add k) = some (.int .u8 ((gt xs k).toNat : Int)) := by
  obtain ⟨ad, cs, e, hK, hc⟩ := C_at h hk
  have hK' : cs = [.int .u8 ((gt xs k).toNat : Int)] := hK
  subst hK'
  have h0 : w.cell? (ad.add (k * 1 + 0)) = _ := hc 0 _ rfl
  exact ⟨ad, e, by rwa [Nat.mul_one, Nat.add_zero] at h0⟩
theorem int_at {kd : IntKind} {w : World} {A : Option Addr} {n : Nat} {xs : List Int} (h : (Kd.int kd).C w A n xs) {k : Nat} (hk : k < n) :
    ∃ ad, A = some ad ∧ w.cell? (ad.add k) = some (.int kd (gt xs k)) := by
  obtain ⟨ad, cs, e, hK, hc⟩ := C_at h hk
  have hK' : cs = [.int kd (gt xs k)] := hK
  subst hK'
  have h0 : w.cell? (ad.add (k * 1 + 0)) = _ := hc 0 _ rfl
  exact ⟨ad, e, by rwa [Nat.mul_one, Nat.add_zero] at h0⟩

/-- A block known whole, read as a row. -/
theorem C_block {α : Type} {d : Kd α} {w : World} {g : Nat} {cs : Array Value} {t : TypeId} {fr : Nat × Nat} {xs : List α} (hb : w.heap[g]? = some (.cells cs t fr)) (hr : Reps (d.K w) d.sz xs cs.toList) (hm : xs.length ≤ 9223372036854775807) :
    d.C w (some ⟨g, 0, none⟩) xs.length xs := by
  refine ⟨rfl, hm, fun hn => ⟨_, rfl, fun j p hj => ?_⟩⟩
  have hjl := (List.getElem?_eq_some_iff.1 hj).1
  have h1 : j * d.sz + d.sz ≤ cs.toList.length := by rw [hr.1, ← Nat.succ_mul]; exact Nat.mul_le_mul_right _ hjl
  refine ⟨(cs.toList.drop (j * d.sz)).take d.sz, by rw [List.length_take, List.length_drop]; omega, hr.2 j p hj, fun i u hu => ?_⟩
  rw [add_plain, cell_of_row w g _ cs t fr hb, ← Array.getElem?_toList]
  rw [List.getElem?_take] at hu
  split at hu
  · rwa [List.getElem?_drop] at hu
  · cases hu
/-- A cell of an elder world. -/
theorem cell_old {w w1 : World} (hb : Below w.heap.size w w1) {a : Addr} {v : Value} (h : w.cell? a = some v) : w1.cell? a = some v := pw_cell_below hb h
theorem byte_inj {x y : UInt8} (h : (x.toNat : Int) = (y.toNat : Int)) : x = y := UInt8.toNat_inj.mp (by omega)

/-! ### what was seen of a file -/
structure Seen where
  moment : Int
  told : Bool
  there : Bool
  data : List UInt8
  deriving Inhabited
def kSeen : Kd Seen := Kd.iso (Kd.pair (Kd.int .u64) (Kd.pair Kd.bool (Kd.pair Kd.bool (Kd.slice 5 byte)))) (fun x : Seen => (x.moment, x.told, x.there, x.data))
theorem kSeen_open {w : World} {x : Seen} {cs : List Value} (h : kSeen.K w x cs) : ∃ A c, cs = [.int .u64 x.moment, .bool x.told, .bool x.there, .slice A x.data.length c] ∧ x.data.length ≤ c ∧ byte.C w A x.data.length x.data := by
  obtain ⟨_, _, rfl, rfl, ⟨_, _, rfl, rfl, ⟨_, _, rfl, rfl, ⟨A, c, rfl, l, g⟩⟩⟩⟩ := h
  exact ⟨A, c, rfl, l, g⟩
theorem seen_at {w : World} {A : Option Addr} {n : Nat} {xs : List Seen} (h : kSeen.C w A n xs) {k : Nat} (hk : k < n) : ∃ ad A3 c3, A = some ad ∧ w.cell? (ad.add (k * 4)) = some (.int .u64 (gt xs k).moment) ∧ w.cell? ⟨(ad.add (k * 4)).block, (ad.add (k * 4)).off + 1, none⟩ = some (.bool (gt xs k).told) ∧
    w.cell? ⟨(ad.add (k * 4)).block, (ad.add (k * 4)).off + 2, none⟩ = some (.bool (gt xs k).there) ∧ w.cell? ⟨(ad.add (k * 4)).block, (ad.add (k * 4)).off + 3, none⟩ = some (.slice A3 (gt xs k).data.length c3) ∧ (gt xs k).data.length ≤ c3 ∧ byte.C w A3 (gt xs k).data.length (gt xs k).data := by
  obtain ⟨ad, cs, e, hK, hc0⟩ := C_at h hk
  have hc : ∀ j u, cs[j]? = some u → w.cell? (ad.add (k * 4 + j)) = some u := hc0
  obtain ⟨A3, c3, rfl, l3, g3⟩ := kSeen_open hK
  exact ⟨ad, A3, c3, e, hc 0 _ rfl, by rw [← add_field _ _ 1 (by omega)]; exact hc 1 _ rfl, by rw [← add_field _ _ 2 (by omega)]; exact hc 2 _ rfl, by rw [← add_field _ _ 3 (by omega)]; exact hc 3 _ rfl, l3, g3⟩

/-! ### a version -/
structure Vers where
  from_ : Int
  there : Bool
  data : List UInt8
  deriving Inhabited, DecidableEq
def kVers : Kd Vers := Kd.iso (Kd.pair (Kd.int .u64) (Kd.pair Kd.bool (Kd.slice 5 byte))) (fun x : Vers => (x.from_, x.there, x.data))
theorem kVers_open {w : World} {x : Vers} {cs : List Value} (h : kVers.K w x cs) : ∃ A c, cs = [.int .u64 x.from_, .bool x.there, .slice A x.data.length c] ∧ x.data.length ≤ c ∧ byte.C w A x.data.length x.data := by
  obtain ⟨_, _, rfl, rfl, ⟨_, _, rfl, rfl, ⟨A, c, rfl, l, g⟩⟩⟩ := h
  exact ⟨A, c, rfl, l, g⟩
theorem kVers_mkM (w : World) (base : Nat) (ok : Nat → Prop) (x : Vers) {v : Value} (g : byte.R 5 w base ok v x.data) : kVers.M w base ok x [.int .u64 x.from_, .bool x.there, v] := ⟨[.int .u64 x.from_], [.bool x.there, v], rfl, rfl, ⟨[.bool x.there], [v], rfl, rfl, ⟨v, rfl, g⟩⟩⟩
theorem vers_at {w : World} {A : Option Addr} {n : Nat} {xs : List Vers} (h : kVers.C w A n xs) {k : Nat} (hk : k < n) : ∃ ad A2 c2, A = some ad ∧ w.cell? (ad.add (k * 3)) = some (.int .u64 (gt xs k).from_) ∧ w.cell? ⟨(ad.add (k * 3)).block, (ad.add (k * 3)).off + 1, none⟩ = some (.bool (gt xs k).there) ∧
    w.cell? ⟨(ad.add (k * 3)).block, (ad.add (k * 3)).off + 2, none⟩ = some (.slice A2 (gt xs k).data.length c2) ∧ (gt xs k).data.length ≤ c2 ∧ byte.C w A2 (gt xs k).data.length (gt xs k).data := by
  obtain ⟨ad, cs, e, hK, hc0⟩ := C_at h hk
  have hc : ∀ j u, cs[j]? = some u → w.cell? (ad.add (k * 3 + j)) = some u := hc0
  obtain ⟨A2, c2, rfl, l2, g2⟩ := kVers_open hK
  exact ⟨ad, A2, c2, e, hc 0 _ rfl, by rw [← add_field _ _ 1 (by omega)]; exact hc 1 _ rfl, by rw [← add_field _ _ 2 (by omega)]; exact hc 2 _ rfl, l2, g2⟩

/-! ### a file -/
structure File where
  name : ByteArray
  data : List UInt8
  deriving Inhabited
def kFile : Kd File := Kd.iso (Kd.pair Kd.string (Kd.slice 5 byte)) (fun x : File => (x.name, x.data))
theorem kFile_open {w : World} {x : File} {cs : List Value} (h : kFile.K w x cs) : ∃ A c, cs = [.string x.name, .slice A x.data.length c] ∧ x.data.length ≤ c ∧ byte.C w A x.data.length x.data := by
  obtain ⟨_, _, rfl, rfl, ⟨A, c, rfl, l, g⟩⟩ := h
  exact ⟨A, c, rfl, l, g⟩
theorem kFile_mk (w : World) (x : File) {A : Option Addr} {c : Nat} (l : x.data.length ≤ c) (g : byte.C w A x.data.length x.data) : kFile.K w x [.string x.name, .slice A x.data.length c] := ⟨[.string x.name], [.slice A x.data.length c], rfl, rfl, ⟨A, c, rfl, l, g⟩⟩
theorem file_at {w : World} {A : Option Addr} {n : Nat} {xs : List File} (h : kFile.C w A n xs) {k : Nat} (hk : k < n) : ∃ ad A1 c1, A = some ad ∧ w.cell? (ad.add (k * 2)) = some (.string (gt xs k).name) ∧ w.cell? ⟨(ad.add (k * 2)).block, (ad.add (k * 2)).off + 1, none⟩ = some (.slice A1 (gt xs k).data.length c1) ∧ (gt xs k).data.length ≤ c1 ∧ byte.C w A1 (gt xs k).data.length (gt xs k).data := by
  obtain ⟨ad, cs, e, hK, hc0⟩ := C_at h hk
  have hc : ∀ j u, cs[j]? = some u → w.cell? (ad.add (k * 2 + j)) = some u := hc0
  obtain ⟨A1, c1, rfl, l1, g1⟩ := kFile_open hK
  exact ⟨ad, A1, c1, e, hc 0 _ rfl, by rw [← add_field _ _ 1 (by omega)]; exact hc 1 _ rfl, l1, g1⟩
end Go.Proofs.YtnpnpgihbgohgaaDoor
/-
  The comparisons of two slices, walked: true just if they are equal.
-/
namespace Go.Proofs.YtnpnpgihbgohgaaDoor
open Go.RowKit Go.Proofs.YtnpnpgihbgohgaaDoorW.PrintWords Go.Proofs.YtnpnpgihbgohgaaDoorW.PrintLast Go.Proofs.YtnpnpgihbgohgaaDoorW.PrintMore

set_option linter.unusedVariables false
set_option linter.unusedSimpArgs false
theorem take_step {α : Type} [Inhabited α] {xs ys : List α} {k : Nat} (h : xs.take k = ys.take k) (hx : k < xs.length) (hy : k < ys.length) (he : gt xs k = gt ys k) : xs.take (k + 1) = ys.take (k + 1) := by
  rw [List.take_add_one, List.take_add_one, h, gt_some xs k hx, gt_some ys k hy, he]
theorem ne_of_gt {α : Type} [Inhabited α] {xs ys : List α} {k : Nat} (hx : k < xs.length) (hy : k < ys.length) (he : gt xs k ≠ gt ys k) : xs ≠ ys := fun e => he (by rw [e])
theorem ret_bool {a b : Bool} (h : a = b) : Ending.returned (.bool a) = .returned (.bool b) := by rw [h]

set_option maxHeartbeats 400000 in
theorem same50 (A B : Option Addr) (xs ys : List UInt8) (c1 c2 : Nat) (w : World) (h1 : byte.C w A xs.length xs) (h2 : byte.C w B ys.length ys) :
    Calls Tryd.prog 13 #[.slice A xs.length c1, .slice B ys.length c2] w fun e w' => e = .returned (.bool (decide (xs = ys))) ∧ ∃ n, w' = w.drewN n := by
  have hm1 := Kd.C_max h1
  by_cases hl : xs.length = ys.length
  · have hl' : ((xs.length : Int) != (ys.length : Int)) = false := bne_eq_false_iff_eq.mpr (by omega)
    go_enter Tryd.func13, Tryd.ntmps13
    go_wp2
    go_loopw [5] (fun i wr => ∃ k : Nat, k ≤ xs.length ∧ i = .int .i64 k ∧ Aside0 (xs.take k = ys.take k) ∧ ∃ n, wr = w.drewN n) (fun i _ => xs.length - (intOf i).toNat)
    case atStart => exact ⟨0, Nat.zero_le _, rfl, ⟨by simp⟩, 0, rfl⟩
    case round =>
      obtain ⟨k, hk, rfl, ht, n, rfl⟩ := hrel
      by_cases hlt : k < xs.length
      · have hlt2 : k < ys.length := by omega
        obtain ⟨a1, rfl, g1⟩ := byte_at h1 hlt
        obtain ⟨a2, rfl, g2⟩ := byte_at h2 hlt2
        by_cases he : gt xs k = gt ys k
        · have he' : (((gt xs k).toNat : Int) != ((gt ys k).toNat : Int)) = false := by rw [he]; simp
          go_wp2
          go_quiet (fail)
          go_wp2
          go_roundw
          case rel => exact ⟨k + 1, by omega, by go_num, ⟨take_step ht.out hlt hlt2 he⟩, _, by first | rfl | exact World.drewN_drewN ..⟩
          case measure => simp [intOf]; omega
        · have he' : (((gt xs k).toNat : Int) != ((gt ys k).toNat : Int)) = true := by simpa using fun h => he (byte_inj h)
          go_wp2
          go_quiet (fail)
          go_wp2
          go_ret
          exact ⟨ret_bool (by simpa using ne_of_gt hlt hlt2 he), _, by first | rfl | exact World.drewN_drewN ..⟩
      · go_wp2
        go_ret
        refine ⟨ret_bool ?_, n, rfl⟩
        have := ht.out
        rw [List.take_of_length_le (by omega), List.take_of_length_le (by omega)] at this
        simpa using this
  · have hl' : ((xs.length : Int) != (ys.length : Int)) = true := bne_iff_ne.mpr (by omega)
    go_enter Tryd.func13, Tryd.ntmps13
    go_wp2
    go_ret
    exact ⟨ret_bool (by simpa using fun h => hl (by rw [h])), 0, rfl⟩
set_option maxHeartbeats 400000 in
theorem same18 (A B : Option Addr) (xs ys : List Int) (c1 c2 : Nat) (w : World) (h1 : (Kd.int .u64).C w A xs.length xs) (h2 : (Kd.int .u64).C w B ys.length ys) :
    Calls Tryd.prog 14 #[.slice A xs.length c1, .slice B ys.length c2] w fun e w' => e = .returned (.bool (decide (xs = ys))) ∧ ∃ n, w' = w.drewN n := by
  have hm1 := Kd.C_max h1
  by_cases hl : xs.length = ys.length
  · have hl' : ((xs.length : Int) != (ys.length : Int)) = false := bne_eq_false_iff_eq.mpr (by omega)
    go_enter Tryd.func14, Tryd.ntmps14
    go_wp2
    go_loopw [5] (fun i wr => ∃ k : Nat, k ≤ xs.length ∧ i = .int .i64 k ∧ Aside0 (xs.take k = ys.take k) ∧ ∃ n, wr = w.drewN n) (fun i _ => xs.length - (intOf i).toNat)
    case atStart => exact ⟨0, Nat.zero_le _, rfl, ⟨by simp⟩, 0, rfl⟩
    case round =>
      obtain ⟨k, hk, rfl, ht, n, rfl⟩ := hrel
      by_cases hlt : k < xs.length
      · have hlt2 : k < ys.length := by omega
        obtain ⟨a1, rfl, g1⟩ := int_at h1 hlt
        obtain ⟨a2, rfl, g2⟩ := int_at h2 hlt2
        by_cases he : gt xs k = gt ys k
        · have he' : (gt xs k != gt ys k) = false := by rw [he]; simp
          go_wp2
          go_quiet (fail)
          go_wp2
          go_roundw
          case rel => exact ⟨k + 1, by omega, by go_num, ⟨take_step ht.out hlt hlt2 he⟩, _, by first | rfl | exact World.drewN_drewN ..⟩
          case measure => simp [intOf]; omega
        · have he' : (gt xs k != gt ys k) = true := by simpa using he
          go_wp2
          go_quiet (fail)
          go_wp2
          go_ret
          exact ⟨ret_bool (by simpa using ne_of_gt hlt hlt2 he), _, by first | rfl | exact World.drewN_drewN ..⟩
      · go_wp2
        go_ret
        refine ⟨ret_bool ?_, n, rfl⟩
        have := ht.out
        rw [List.take_of_length_le (by omega), List.take_of_length_le (by omega)] at this
        simpa using this
  · have hl' : ((xs.length : Int) != (ys.length : Int)) = true := bne_iff_ne.mpr (by omega)
    go_enter Tryd.func14, Tryd.ntmps14
    go_wp2
    go_ret
    exact ⟨ret_bool (by simpa using fun h => hl (by rw [h])), 0, rfl⟩
end Go.Proofs.YtnpnpgihbgohgaaDoor
/-
  Bytes cloned and compared: what bytes.Clone, slices.Clone and bytes.Equal do to any slice of bytes.
-/
namespace Go.Proofs.YtnpnpgihbgohgaaDoor
open Go.RowKit Go.Proofs.YtnpnpgihbgohgaaDoorW.PrintWords Go.Proofs.YtnpnpgihbgohgaaDoorW.PrintLast Go.Proofs.YtnpnpgihbgohgaaDoorW.PrintMore
set_option linter.unusedVariables false
set_option linter.unusedSimpArgs false

theorem info_byte : (Tryd.prog.info? 5).map (fun i => (i.zero, i.size, i.bytes)) = some (some (.int .u8 0), 1, 1) := by kernel_rfl
theorem reps_nil {α : Type} (R : α → List Value → Prop) (size : Nat) : Reps R size ([] : List α) [] := ⟨by simp, fun j p hj => by simp at hj⟩

set_option maxHeartbeats 400000 in
theorem bclone (A : Option Addr) (xs : List UInt8) (c : Nat) (w : World) (h1 : byte.C w A xs.length xs) (hc : xs.length ≤ c) (hl : xs.length ≤ 140737488355328) :
    Calls Tryd.prog 29 #[.slice A xs.length c] w fun e w' => ∃ v, e = .returned v ∧ byte.R 5 w' w.heap.size (fun _ => True) v xs ∧ Below w.heap.size w w' := by
  have q : ∀ (w : World) (a : Option Addr) (n c n' c' : Nat), (binOp .eql 45 (.slice a n c) (.slice none n' c')).run Tryd.prog w = .ok (.bool a.isNone) w := fun w a n c n' c' => Lib.run_eql_slice_nil w _ _ a n c n' c' Tryd.underlying45
  rcases A with _ | ad
  · have h0 : xs = [] := by
      rcases xs with _ | ⟨x, xs⟩
      · rfl
      · obtain ⟨ad, e, _⟩ := byte_at h1 (k := 0) (by simp)
        cases e
    subst h0
    go_enter Tryd.func29, Tryd.ntmps29
    go_wp2
    go_ret
    exact ⟨_, rfl, Kd.R_nil _ _ _ _ _, Below.refl _ _⟩
  · have HB := Aside0.mk (Below.refl w.heap.size w)
    have H1 := Aside0.mk h1
    clear h1
    go_enter Tryd.func29, Tryd.ntmps29
    go_wp2_with (first | ((with_reducible refine gate_dst (N := 5) rfl ?_); refine Kd.R_lit byte (w0 := w) w.heap.size 5 rfl (N := 5) rfl (xs := []) (inner := []) (ok := fun _ => True) (okp := fun _ => False) ?hr (reps_nil _ _) (fun _ hk => hk.elim) trivial HB.out (Nat.le_refl _) (by simp) ?_; (case hr => first | (go_simp; done) | (go_simp; rfl)); intro v1 w1 ho hb hg hat; have HO := Aside0.mk ho; have HB1 := Aside0.mk hb; have hs1 := hb.size; clear ho hb hg hat) | ((with_reducible refine gate_builtin (b := .append) (xs := #[.tmp 5, .tmp 6]) rfl ?_); at_builtin; refine Kd.R_append_rows byte (Rr := byte.K w1) (w0 := w) w.heap.size rfl (.tmp 5) (.tmp 6) 45 5 (.int .u8 0) 1 rfl Tryd.underlying45 info_byte rfl (by decide) (by omega) _ [] xs (some ad) xs.length c (fun _ => True) (fun _ => False) rfl rfl HO.out (Kd.C_below H1.out HB1.out) (fun _ _ hx => hx) (fun _ hk => hk.elim) (fun _ _ => trivial) HB1.out hs1 (by simp; omega) ?_; intro v2 w2 ho hb hg hat; have HO2 := Aside0.mk ho; have HB2 := Aside0.mk hb; clear ho hb hg hat))
    go_ret
    exact ⟨_, rfl, HO2.out, HB2.out⟩

set_option maxHeartbeats 400000 in
theorem sclone (A : Option Addr) (xs : List UInt8) (c : Nat) (w : World) (h1 : byte.C w A xs.length xs) (hc : xs.length ≤ c) (hl : xs.length ≤ 140737488355328) :
    Calls Tryd.prog 38 #[.slice A xs.length c] w fun e w' => ∃ v, e = .returned v ∧ byte.R 5 w' w.heap.size (fun _ => True) v xs ∧ Below w.heap.size w w' := by
  have q : ∀ (w : World) (a : Option Addr) (n c n' c' : Nat), (binOp .eql 45 (.slice a n c) (.slice none n' c')).run Tryd.prog w = .ok (.bool a.isNone) w := fun w a n c n' c' => Lib.run_eql_slice_nil w _ _ a n c n' c' Tryd.underlying45
  rcases A with _ | ad
  · have h0 : xs = [] := by
      rcases xs with _ | ⟨x, xs⟩
      · rfl
      · obtain ⟨ad, e, _⟩ := byte_at h1 (k := 0) (by simp)
        cases e
    subst h0
    go_enter Tryd.func38, Tryd.ntmps38
    go_wp2
    go_ret
    exact ⟨_, rfl, Kd.R_nil _ _ _ _ _, Below.refl _ _⟩
  · have HB := Aside0.mk (Below.refl w.heap.size w)
    have H1 := Aside0.mk h1
    clear h1
    go_enter Tryd.func38, Tryd.ntmps38
    go_wp2_with (first | ((with_reducible refine gate_dst (N := 5) rfl ?_); refine Kd.R_lit byte (w0 := w) w.heap.size 5 rfl (N := 5) rfl (xs := []) (inner := []) (ok := fun _ => True) (okp := fun _ => False) ?hr (reps_nil _ _) (fun _ hk => hk.elim) trivial HB.out (Nat.le_refl _) (by simp) ?_; (case hr => first | (go_simp; done) | (go_simp; rfl)); intro v1 w1 ho hb hg hat; have HO := Aside0.mk ho; have HB1 := Aside0.mk hb; have hs1 := hb.size; clear ho hb hg hat) | ((with_reducible refine gate_builtin (b := .append) (xs := #[.tmp 5, .tmp 6]) rfl ?_); at_builtin; refine Kd.R_append_rows byte (Rr := byte.K w1) (w0 := w) w.heap.size rfl (.tmp 5) (.tmp 6) 45 5 (.int .u8 0) 1 rfl Tryd.underlying45 info_byte rfl (by decide) (by omega) _ [] xs (some ad) xs.length c (fun _ => True) (fun _ => False) rfl rfl HO.out (Kd.C_below H1.out HB1.out) (fun _ _ hx => hx) (fun _ hk => hk.elim) (fun _ _ => trivial) HB1.out hs1 (by simp; omega) ?_; intro v2 w2 ho hb hg hat; have HO2 := Aside0.mk ho; have HB2 := Aside0.mk hb; clear ho hb hg hat))
    go_ret
    exact ⟨_, rfl, HO2.out, HB2.out⟩

/-- The bytes of a row, as whole numbers. -/
theorem byte_nums {w : World} {A : Option Addr} {n : Nat} {xs : List UInt8} (h : byte.C w A n xs) : (Kd.int .u8).C w A n (xs.map fun x => (x.toNat : Int)) := by
  refine ⟨by simpa using h.1, h.2.1, fun hn => ?_⟩
  obtain ⟨ad, e, hr⟩ := h.2.2 hn
  refine ⟨ad, e, fun j p hj => ?_⟩
  simp only [List.getElem?_map, Option.map_eq_some_iff] at hj
  obtain ⟨x, hx, rfl⟩ := hj
  exact hr j x hx
theorem strOfNums_bytes (xs : List UInt8) : strOfNums (xs.map fun x => (x.toNat : Int)) = ⟨xs.toArray⟩ := by
  simp [strOfNums, Function.comp_def]
theorem conv_bytes {w : World} {A : Option Addr} {n c : Nat} {xs : List UInt8} (h : byte.C w A n xs) : (convert 45 9 (.slice A n c)).run Tryd.prog w = .ok (.string ⟨xs.toArray⟩) w := by
  rw [← strOfNums_bytes]
  exact Kd.C_string Tryd.underlying45 Tryd.underlying5 Tryd.underlying9 (byte_nums h)
set_option maxHeartbeats 400000 in
theorem bequal (A B : Option Addr) (xs ys : List UInt8) (c1 c2 : Nat) (w : World) (h1 : byte.C w A xs.length xs) (h2 : byte.C w B ys.length ys) :
    Calls Tryd.prog 23 #[.slice A xs.length c1, .slice B ys.length c2] w fun e w' => e = .returned (.bool (decide (xs = ys))) ∧ w = w' := by
  have e1 := conv_bytes (c := c1) h1
  have e2 := conv_bytes (c := c2) h2
  go_enter Tryd.func23, Tryd.ntmps23
  go_wp2
  go_ret
  exact ⟨ret_bool (by rw [Bool.eq_iff_iff]; simp), rfl⟩
end Go.Proofs.YtnpnpgihbgohgaaDoor
/-
  Chapter 49, the small functions of fs: whether a name may be, whether a file is right.
-/
namespace Go.Proofs.YtnpnpgihbgohgaaDoor
open Go.RowKit Go.Proofs.YtnpnpgihbgohgaaDoorW.PrintWords Go.Proofs.YtnpnpgihbgohgaaDoorW.PrintLast Go.Proofs.YtnpnpgihbgohgaaDoorW.PrintMore
set_option linter.unusedVariables false
set_option linter.unusedSimpArgs false

/-- A byte that a name may hold. -/
def okC (c : Int) : Bool := c == 46 || (decide (97 ≤ c) && decide (c ≤ 122)) || (decide (48 ≤ c) && decide (c ≤ 57))
def okTo (s : ByteArray) (k : Nat) : Bool := (List.range k).all (fun j => okC (bt s (j : Int)))
theorem okTo_succ (s : ByteArray) (k : Nat) : okTo s (k + 1) = (okTo s k && okC (bt s (k : Int))) := by
  unfold okTo
  rw [List.range_succ, List.all_append]
  simp
theorem okTo_false {s : ByteArray} {j k : Nat} (h : okC (bt s (j : Int)) = false) (hj : j < k) : okTo s k = false := by
  unfold okTo
  rw [Bool.eq_false_iff]
  intro ha
  have := List.all_eq_true.1 ha j (List.mem_range.2 hj)
  rw [h] at this
  cases this
def namedB (s : ByteArray) : Bool := okTo s s.size && decide (1 ≤ s.size) && decide (s.size ≤ 12)
set_option maxHeartbeats 1600000 in
theorem named_any (s : ByteArray) (w : World) (hs : s.size ≤ 9223372036854775807) : Calls Tryd.prog 39 #[.string s] w fun e w' => e = .returned (.bool (namedB s)) ∧ ∃ n, w' = w.drewN n := by
  go_enter Tryd.func39, Tryd.ntmps39
  go_wp2
  go_loopw [3] (fun i wr => ∃ k : Nat, k ≤ s.size ∧ i = .int .i64 k ∧ Aside0 (okTo s k = true) ∧ ∃ n, wr = w.drewN n) (fun i _ => s.size - (intOf i).toNat)
  case atStart => exact ⟨0, Nat.zero_le _, rfl, ⟨rfl⟩, 0, rfl⟩
  case round =>
    obtain ⟨k, hk, rfl, HK, n, rfl⟩ := hrel
    by_cases hlt : k < s.size
    · obtain ⟨c, hc⟩ : ∃ c, bt s (k : Int) = c := ⟨_, rfl⟩
      have hx : ∀ h : k < s.size, ((s[k]'h).toNat : Int) = c := fun h => by have := bt_at s (k : Int) (by simpa using h); rw [← hc, ← this]; rfl
      have HC := Aside0.mk hc
      cases hok : okC c
      · have HBAD : Aside0 (namedB s = false) := ⟨by unfold namedB; rw [okTo_false (by rw [hc]; exact hok) hlt]; rfl⟩
        have c46 : (c == 46) = false := by unfold okC at hok; cases h : (c == 46) <;> simp_all
        have c46' : (c != 46) = true := by simpa using c46
        have hor : (c < 97 ∧ c < 48) ∨ (c < 97 ∧ ¬ c < 48 ∧ 57 < c) ∨ (¬ c < 97 ∧ 122 < c ∧ ¬ c < 48 ∧ 57 < c) := by
          unfold okC at hok
          simp only [Bool.or_eq_false_iff, Bool.and_eq_false_iff, decide_eq_false_iff_not] at hok
          omega
        clear hok hc
        rcases hor with ⟨h1, h2⟩ | ⟨h1, h2, h3⟩ | ⟨h1, h2, h3, h4⟩
        · (go_wp2; go_ret; exact ⟨by rw [HBAD.out]; rfl, n, rfl⟩)
        · (go_wp2; go_ret; exact ⟨by rw [HBAD.out]; rfl, n, rfl⟩)
        · (go_wp2; go_ret; exact ⟨by rw [HBAD.out]; rfl, n, rfl⟩)
      · have HOK : Aside0 ((true && okC (bt s (k : Int))) = true) := ⟨by rw [hc, hok]; rfl⟩
        have hor : c = 46 ∨ (c ≠ 46 ∧ ¬ c < 97 ∧ ¬ 122 < c) ∨ (c ≠ 46 ∧ c < 97 ∧ ¬ c < 48 ∧ ¬ 57 < c) := by
          unfold okC at hok
          simp only [Bool.or_eq_true, Bool.and_eq_true, decide_eq_true_eq, beq_iff_eq] at hok
          omega
        clear hok hc
        rcases hor with h1 | ⟨h1, h2, h3⟩ | ⟨h1, h2, h3, h4⟩
        · subst h1
          (go_wp2; go_roundw; (case rel => exact ⟨k + 1, by omega, by go_num, ⟨by rw [okTo_succ, HK.out]; exact HOK.out⟩, _, rfl⟩); (case measure => (simp [intOf]; omega)))
        · have c46 : (c == 46) = false := beq_eq_false_iff_ne.mpr h1
          have c46' : (c != 46) = true := by simpa using h1
          (go_wp2; go_roundw; (case rel => exact ⟨k + 1, by omega, by go_num, ⟨by rw [okTo_succ, HK.out]; exact HOK.out⟩, _, rfl⟩); (case measure => (simp [intOf]; omega)))
        · have c46 : (c == 46) = false := beq_eq_false_iff_ne.mpr h1
          have c46' : (c != 46) = true := by simpa using h1
          (go_wp2; go_roundw; (case rel => exact ⟨k + 1, by omega, by go_num, ⟨by rw [okTo_succ, HK.out]; exact HOK.out⟩, _, rfl⟩); (case measure => (simp [intOf]; omega)))
    · have hks : k = s.size := by omega
      have HN : Aside0 (namedB s = (decide (1 ≤ s.size) && decide (s.size ≤ 12))) := ⟨by unfold namedB; rw [← hks, HK.out]; simp⟩
      clear hks
      by_cases h1 : 1 ≤ s.size
      · have h2 : (1 : Int) ≤ (s.size : Int) := by omega
        go_wp2
        go_ret
        exact ⟨ret_bool (by rw [HN.out]; simp only [h1, decide_true, Bool.true_and]; exact decide_eq_decide.mpr (by omega)), n, rfl⟩
      · have h2 : ¬ (1 : Int) ≤ (s.size : Int) := by omega
        go_wp2
        go_ret
        exact ⟨ret_bool (by rw [HN.out]; simp [h1]), n, rfl⟩
/-- A file that is right. -/
def rightB (x : File) : Bool := namedB x.name && decide (x.data.length ≤ 256)
set_option maxHeartbeats 400000 in
theorem right_any (s : ByteArray) (A : Option Addr) (xs : List UInt8) (c : Nat) (r : Bool) (hr : (namedB s && decide (xs.length ≤ 256)) = r) (w : World) (hs : s.size ≤ 9223372036854775807) :
    Calls Tryd.prog 31 #[.agg #[.string s, .slice A xs.length c]] w fun e w' => e = .returned (.bool r) ∧ Below w.heap.size w w' := by
  subst hr
  cases hb : namedB s
  all_goals
    have HB := Aside0.mk hb
    clear hb
    go_enter Tryd.func31, Tryd.ntmps31
    go_wp2_with (go_at_call 39; refine (named_any s _ hs).mono ?_; rw [HB.out]; rintro e w1 ⟨rfl, n, hw1⟩; have HB1 : Aside0 (Below w.heap.size w w1) := ⟨by rw [hw1]; exact pw_below_drewN (below_alloc (Below.refl _ _) _) _⟩; have z1 : w1.cell? ⟨w.heap.size, 1, none⟩ = some (.slice A xs.length c) := (by rw [hw1]; exact blk_cell (blk_new w (.cells #[.string s, .slice A xs.length c] 54)) 1); clear hw1)
    go_ret
    exact ⟨ret_bool (by first | rfl | (simp only [Bool.true_and]; exact decide_eq_decide.mpr (by omega))), HB1.out⟩
theorem many_any (n : Nat) (w : World) (hn : n ≤ 1000000000) : Calls Tryd.prog 27 #[.int .i64 n] w fun e w' => e = .returned (.int .i64 ((n + 31) / 32 : Nat)) ∧ w = w' := by
  have i0 : IntKind.i64.wrap ((n : Int) + 32) = (n : Int) + 32 := IntWalk.i64_in _ (by omega)
  have i1 : IntKind.i64.wrap ((n : Int) + 32 - 1) = (n : Int) + 31 := by rw [show (n : Int) + 32 - 1 = (n : Int) + 31 by omega]; exact IntWalk.i64_in _ (by omega)
  have i2 : IntKind.i64.wrap ((n : Int) + 31) = (n : Int) + 31 := IntWalk.i64_in _ (by omega)
  have i3 : ((n : Int) + 31).tdiv 32 = (((n + 31) / 32 : Nat) : Int) := by rw [show (n : Int) + 31 = ((n + 31 : Nat) : Int) by omega]; exact (Int.ofNat_tdiv _ _).symm
  have i4 : IntKind.i64.wrap (((n + 31) / 32 : Nat) : Int) = (((n + 31) / 32 : Nat) : Int) := IntWalk.i64_in _ (by omega)
  go_enter Tryd.func27, Tryd.ntmps27
  go_wp2
  go_ret
  exact ⟨rfl, rfl⟩
/-! ### numbers as two bytes -/
def hi2 (n : Nat) : UInt8 := UInt8.ofNat (n / 256)
def lo2 (n : Nat) : UInt8 := UInt8.ofNat (n % 256)
def stage2 (n : Nat) : Nat → List UInt8 | 0 => [0, 0] | 1 => [hi2 n, 0] | _ => [hi2 n, lo2 n]
set_option maxHeartbeats 1600000 in
theorem put2_any (n : Nat) (w : World) (hn : n ≤ 65535) : Calls Tryd.prog 18 #[.int .u64 n, .int .i64 2] w fun e w' => ∃ v, e = .returned v ∧ byte.R 5 w' w.heap.size (fun _ => True) v [hi2 n, lo2 n] ∧ Below w.heap.size w w' := by
  have HB := Aside0.mk (Below.refl w.heap.size w)
  go_enter Tryd.func18, Tryd.ntmps18
  go_wp2_with (first | ((with_reducible refine gate_dst (N := 14) rfl ?_); refine Kd.R_make byte (w0 := w) w.heap.size 5 rfl (N := 14) rfl 45 _ _ rfl 2 rfl rfl Tryd.underlying45 (.int .u8 0) 1 info_byte rfl (by decide) (by omega) (0 : UInt8) (ok := fun _ => True) (okp := fun _ => True) rfl (fun _ hk => hk) trivial (by omega) (by decide) HB.out (Nat.le_refl _) ?_; intro v1 w1 ho hb hg hnew; clear hg hnew; obtain ⟨g, cap, rfl, hgb, hgl, cs0, hcs0⟩ := Kd.R_form ho (by simp); have HO := Aside0.mk ho; have HB1 := Aside0.mk hb; clear ho hb))
  go_loopw [17, 6] (fun i _ wr => ∃ k : Nat, k ≤ 2 ∧ i = .int .i64 k ∧ Aside0 (byte.R 5 wr w.heap.size (fun _ => True) (.slice (some ⟨g, 0, none⟩) 2 cap) (stage2 n k)) ∧ Aside0 (Below w.heap.size w wr)) (fun i _ _ => 2 - (intOf i).toNat)
  case atStart => exact ⟨0, by omega, rfl, HO, HB1⟩
  case round =>
    obtain ⟨k, hk, rfl, HR, HBr⟩ := hrel
    have hv0 : (n : Int) / 256 = ((hi2 n).toNat : Int) := by simp [hi2]; omega
    have hv1 : (n : Int) % 256 = ((lo2 n).toNat : Int) := by simp [lo2]
    have HV := Aside0.mk (And.intro hv0 hv1)
    clear hv0 hv1
    rcases (show k = 0 ∨ k = 1 ∨ k = 2 by omega) with rfl | rfl | rfl
    · obtain ⟨r0, r1⟩ := Kd.R_cell (g := g) (cap := cap) (0 : UInt8) HR.out 0 (by decide) (by simp [stage2])
      simp [stage2, rdOf] at r0 r1
      go_wp2
      go_roundw
      case rel =>
        have hp := (Kd.R_put (g := g) (cap := cap) HR.out 0 (hi2 n)).1
        refine ⟨1, by omega, rfl, ⟨?_⟩, ⟨HBr.out.setCell hgb _⟩⟩
        rw [HV.out.1]
        exact hp
      case measure => decide
    · obtain ⟨r0, r1⟩ := Kd.R_cell (g := g) (cap := cap) (0 : UInt8) HR.out 1 (by decide) (by simp [stage2])
      simp [stage2, rdOf] at r0 r1
      go_wp2
      go_roundw
      case rel =>
        have hp := (Kd.R_put (g := g) (cap := cap) HR.out 1 (lo2 n)).1
        refine ⟨2, by omega, rfl, ⟨?_⟩, ⟨HBr.out.setCell hgb _⟩⟩
        rw [HV.out.2]
        exact hp
      case measure => decide
    · go_wp2
      go_ret
      exact ⟨_, rfl, HR.out, HBr.out⟩
theorem u64_join (x y : Int) (hx0 : 0 ≤ x) (hx : x < 256) (hy0 : 0 ≤ y) (hy : y < 256) : bits .or .u64 (x * 256) y = x * 256 + y :=
  bits_join .u64 16 (by decide) (fun n h0 h1 => IntWalk.u64_in _ (by omega)) 8 (x * 256) y (by omega) (by omega) (by omega) hy0 (by omega) (by omega)
theorem u64_join0 (y : Int) (hy0 : 0 ≤ y) (hy : y < 256) : bits .or .u64 0 y = y := by
  have := u64_join 0 y (by omega) (by omega) hy0 hy
  simpa using this
set_option maxHeartbeats 1600000 in
theorem get2_any (A : Option Addr) (x y : UInt8) (c : Nat) (w : World) (h : byte.C w A 2 [x, y]) : Calls Tryd.prog 25 #[.slice A 2 c] w fun e w' => e = .returned (.tuple #[.int .u64 ((x.toNat : Int) * 256 + y.toNat), .bool true]) ∧ w = w' := by
  obtain ⟨ad, rfl, g0⟩ := byte_at h (k := 0) (by omega)
  obtain ⟨_, e1, g1⟩ := byte_at h (k := 1) (by omega)
  cases e1
  simp [gt, Addr.add] at g0 g1
  have hx := x.toNat_lt
  have hy := y.toNat_lt
  go_enter Tryd.func25, Tryd.ntmps25
  go_wp2
  go_loopw [17, 4, 6] (fun i v4 _ wr => wr = w ∧ ∃ k : Nat, k ≤ 2 ∧ i = .int .i64 k ∧ v4 = .int .u64 (match k with | 0 => 0 | 1 => (x.toNat : Int) | _ => (x.toNat : Int) * 256 + y.toNat)) (fun i _ _ _ => 2 - (intOf i).toNat)
  case atStart => exact ⟨rfl, 0, by omega, rfl, rfl⟩
  case round =>
    obtain ⟨rfl, k, hk, rfl, rfl⟩ := hrel
    rcases (show k = 0 ∨ k = 1 ∨ k = 2 by omega) with rfl | rfl | rfl
    · go_wp2
      go_roundw
      case rel => exact ⟨trivial, 1, by omega, rfl, by rw [u64_join0 _ (by omega) (by omega)]; rfl⟩
      case measure => decide
    · go_wp2
      go_roundw
      case rel => exact ⟨trivial, 2, by omega, rfl, by rw [u64_join _ _ (by omega) (by omega) (by omega) (by omega)]; rfl⟩
      case measure => decide
    · go_wp2
      go_ret2
      exact ⟨rfl, rfl⟩
/-! ### blocks -/
/-- A block: 32 bytes, by value. -/
def kBlock : Kd (List UInt8) := Kd.arr 32 byte (by decide)
def bytesV (xs : List UInt8) : List Value := xs.map (fun x => Value.int .u8 (x.toNat : Int))
theorem encs_bytes (xs : List UInt8) : encs (fun x : UInt8 => Value.int .u8 (x.toNat : Int)) xs = bytesV xs := by
  simp [encs, bytesV]
theorem block_at {w : World} {A : Option Addr} {n : Nat} {xs : List (List UInt8)} (h : kBlock.C w A n xs) {k : Nat} (hk : k < n) :
    ∃ ad, A = some ad ∧ (gt xs k).length = 32 ∧ ∀ j u, (bytesV (gt xs k))[j]? = some u → w.cell? ((ad.add (k * 32)).add j) = some u := by
  obtain ⟨ad, cs, e, hK, hc0⟩ := C_at h hk
  have hc : ∀ j u, cs[j]? = some u → w.cell? (ad.add (k * 32 + j)) = some u := hc0
  obtain ⟨h1, h2⟩ := Kd.arr_cells hK
  rw [encs_bytes] at h2
  subst h2
  refine ⟨ad, e, h1, fun j u hu => ?_⟩
  rw [Deep.add_add]
  exact hc j u hu
theorem info_block : (Tryd.prog.info? 41).map (·.size) = some 32 := by kernel_rfl
/-- A whole block is read, wherever it lies. -/
theorem run_load_block {w : World} (p : Addr) (xs : List UInt8) (hl : xs.length = 32) (hc : ∀ j u, (bytesV xs)[j]? = some u → w.cell? (p.add j) = some u) : (loadVar 41 p).run Tryd.prog w = .ok (.agg (bytesV xs).toArray) w := by
  have hl2 : (loadCells p (bytesV xs).length).run Tryd.prog w = .ok (bytesV xs).toArray w := run_loadCells_list (P := Tryd.prog) w p (bytesV xs) hc
  have hlen : (bytesV xs).length = 32 := by simp [bytesV, hl]
  have hagg : (isAgg 41).run Tryd.prog w = .ok true w := by
    unfold isAgg
    rw [Sem.run_bind, run_underlying Tryd.underlying41 w]
    simp
  rw [hlen] at hl2
  cases hq : Tryd.prog.info? 41 with
  | none => have := info_block; simp [hq] at this
  | some i =>
    have hs : i.size = 32 := by have := info_block; simpa [hq] using this
    simp [loadVar, Sem.run_bind, hagg, sizeOf, typeInfo, hq, hs, hl2]
theorem load_block {ops : Array Oper} {rest : List Oper} {op : Oper} {a : Act} {w : World} {Q : Exit → Act → World → Prop} (hgd : op.guard = none) (x : Operand) (ho : op.op = .load 41 x)
    (p : Addr) (hx : a.eval x = .pointer (some p)) (xs : List UInt8) (hl : xs.length = 32) (hc : ∀ j u, (bytesV xs)[j]? = some u → w.cell? (p.add j) = some u)
    (h : wpList Tryd.prog ops Q rest (a.put op.dst (.agg (bytesV xs).toArray)) w) : wpList Tryd.prog ops Q (op :: rest) a w := by
  refine wpList_plain hgd fun _ hK => ?_
  unfold Oper.wp execOp
  simp only [ho, hx, Instr.loadAt, Instr.sureAddr, Sem.run_bind, Sem.run_pure, Result.andThen_ok, run_load_block p xs hl hc]
  exact hK _ _ h
theorem wpList_on {P : Program} {ops : Array Oper} {rest : List Oper} {o : Oper} {a : Act} {w : World} {Q : Exit → Act → World → Prop} (hw : Region.wanted o (yielded ops a.tmps) = true)
    (h : ∀ K : Act → World → Prop, (∀ a w, wpList P ops Q rest a w → K a w) → o.wp P a w K Q) : wpList P ops Q (o :: rest) a w :=
  wpList_step fun K hK => by simp only [hw, if_true]; exact h K hK
/-- .. where the operation is guarded, and runs. -/
theorem load_block_on {ops : Array Oper} {rest : List Oper} {op : Oper} {a : Act} {w : World} {Q : Exit → Act → World → Prop} (hw : Region.wanted op (yielded ops a.tmps) = true) (x : Operand) (ho : op.op = .load 41 x)
    (p : Addr) (hx : a.eval x = .pointer (some p)) (xs : List UInt8) (hl : xs.length = 32) (hc : ∀ j u, (bytesV xs)[j]? = some u → w.cell? (p.add j) = some u)
    (h : wpList Tryd.prog ops Q rest (a.put op.dst (.agg (bytesV xs).toArray)) w) : wpList Tryd.prog ops Q (op :: rest) a w := by
  refine wpList_on hw fun _ hK => ?_
  unfold Oper.wp execOp
  simp only [ho, hx, Instr.loadAt, Instr.sureAddr, Sem.run_bind, Sem.run_pure, Result.andThen_ok, run_load_block p xs hl hc]
  exact hK _ _ h
theorem build_on {P : Program} {ops : Array Oper} {rest : List Oper} {o : Oper} {a : Act} {w : World} {Q : Exit → Act → World → Prop} (hw : Region.wanted o (yielded ops a.tmps) = true) (t : TypeId) (parts : Array (Nat × Operand)) (ho : o.op = .build t parts)
    (cells : Array Value) (hf : P.built t (parts.map fun (i, x) => (i, a.eval x)).toList = some cells)
    (h : wpList P ops Q rest (a.put o.dst (.agg cells)) w) : wpList P ops Q (o :: rest) a w := by
  refine wpList_on hw fun _ hK => ?_
  unfold Oper.wp execOp
  simp only [ho, Sem.run_bind, run_build w t _ _ hf, Result.andThen_ok]
  exact hK _ _ h
theorem bytesV_one (xs : List UInt8) : ∀ v ∈ bytesV xs, v.oneCell' = true := by
  intro v hv
  simp only [bytesV, List.mem_map] at hv
  obtain ⟨x, _, rfl⟩ := hv
  rfl
theorem info_blockS (n : Nat) (h : n = 32) : (Tryd.prog.info? 41).map (·.size) = some n := by rw [h]; exact info_block
/-- A whole block is written into the box that was made last. -/
theorem store_block_new {ops : Array Oper} {rest : List Oper} {op : Oper} {a : Act} {W : World} {Q : Exit → Act → World → Prop} (hgd : op.guard = none) (x y : Operand) (ho : op.op = .store 41 x y)
    (c0 : Array Value) (hc0 : c0.size = 32) (hx : a.eval x = .pointer (some ⟨W.heap.size, 0, none⟩)) (xs : List UInt8) (hl : xs.length = 32) (hy : a.eval y = .agg (bytesV xs).toArray)
    (h : wpList Tryd.prog ops Q rest (a.put op.dst undef) (W.alloc (.cells (bytesV xs).toArray 41))) : wpList Tryd.prog ops Q (op :: rest) a (W.alloc (.cells c0 41)) := by
  have hs : (bytesV xs).toArray.size = 32 := by simp [bytesV, hl]
  have hr := run_storeAt_new (P := Tryd.prog) W 41 c0 (bytesV xs).toArray (info_blockS _ hs) (by rw [hc0, hs]) (all_oneCell_toArray (bytesV_one xs))
  refine wpList_plain hgd fun _ hK => ?_
  unfold Oper.wp execOp
  simp only [ho, hx, hy, Sem.run_bind, Sem.run_pure, hr, Result.andThen_ok]
  exact hK _ _ h
theorem info_blockP : (Tryd.prog.info? 41).map (fun i => (i.size, i.zero.isSome)) = some (32, true) := by kernel_rfl
/-- A slice literal of one block, made. -/
theorem build_block {ops : Array Oper} {rest : List Oper} {op : Oper} {a : Act} {W : World} {Q : Exit → Act → World → Prop} (hgd : op.guard = none) (x : Operand) (ho : op.op = .buildSlice 33 1 #[(0, x)])
    (xs : List UInt8) (hl : xs.length = 32) (hx : a.eval x = .agg (bytesV xs).toArray) (h : wpList Tryd.prog ops Q rest (a.put op.dst (.slice (some ⟨W.heap.size, 0, none⟩) 1 1)) (W.alloc (.cells (bytesV xs).toArray 41))) : wpList Tryd.prog ops Q (op :: rest) a W := by
  cases hq : Tryd.prog.info? 41 with
  | none => have := info_blockP; simp [hq] at this
  | some i =>
    have hi : i.size = 32 ∧ i.zero.isSome = true := by have := info_blockP; simpa [hq] using this
    obtain ⟨z, hz⟩ := Option.isSome_iff_exists.1 hi.2
    have hb : (bytesV xs).toArray.size = 32 := by simp [bytesV, hl]
    refine wpList_buildSlice hgd 33 41 1 _ ho (bytesV xs).toArray i z Tryd.underlying33 hq hz (by omega) (by omega) ?_ h
    have := Great.fill_whole (s := 32) (by omega) [Value.agg (bytesV xs).toArray] ((Array.range (1 * i.size)).map (z.cells[· % z.cells.size]!)) (by intro v hv; simp only [List.mem_singleton] at hv; subst hv; exact hb) (by simp [hi.1])
    simp only [hi.1] at this ⊢
    simpa [hx, Value.cells] using this
theorem part_bytes (xs : List UInt8) (i : Nat) (hi : i < xs.length) (w : World) : (part 5 (bytesV xs).toArray i).run Tryd.prog w = .ok (.int .u8 ((gt xs i).toNat : Int)) w := by
  have hagg : (isAgg 5).run Tryd.prog w = .ok false w := by
    unfold isAgg
    rw [Sem.run_bind, run_underlying Tryd.underlying5 w]
    simp
  have hget : (bytesV xs)[i]? = some (.int .u8 ((gt xs i).toNat : Int)) := by simp [bytesV, gt_some xs i hi]
  simp [part, Sem.run_bind, hagg, hget]
theorem eq_all (xs ys : List UInt8) (hx : xs.length = 32) (hy : ys.length = 32) : decide (xs = ys) = (List.range' 0 32).all fun i => gt xs i == gt ys i := by
  rw [Bool.eq_iff_iff]
  simp only [decide_eq_true_eq, List.all_eq_true, List.mem_range'_1, beq_iff_eq]
  constructor
  · rintro rfl i _; rfl
  · intro h
    apply List.ext_getElem (by omega)
    intro i h1 h2
    have := h i (by omega)
    rwa [gt_eq _ _ h1, gt_eq _ _ h2] at this
theorem eqA_block (d : Nat) (xs ys : List UInt8) (hx : xs.length = 32) (hy : ys.length = 32) (w : World) : (Op.equalIn (d + 1 + 1) 41 (.agg (bytesV xs).toArray) (.agg (bytesV ys).toArray)).run Tryd.prog w = .ok (decide (xs = ys)) w := by
  have hsz : (sizeOf 5).run Tryd.prog w = .ok 1 w := by
    cases hq : Tryd.prog.info? 5 with
    | none => have := info_byte; simp [hq] at this
    | some i =>
      have : i.size = 1 := by have := info_byte; simp [hq] at this; exact this.2.1
      simp [sizeOf, typeInfo, Sem.run_bind, hq, this]
  rw [Op.equalIn, eq_all xs ys hx hy]
  simp only [Sem.run_bind, run_underlying Tryd.underlying41 w, Result.andThen_ok, hsz]
  rw [Std.Legacy.Range.forIn_eq_forIn_range']
  have key : ∀ i ∈ List.range' 0 32, i < 32 := by
    intro i hi
    have := List.mem_range'_1.1 hi
    omega
  show ((Sem.run Tryd.prog (forIn (List.range' 0 32) _ _) w).andThen _) = _
  generalize List.range' 0 32 = L at key
  induction L with
  | nil => simp
  | cons i L ih =>
    have hi := key i (by simp)
    have ih' := ih (fun j hj => key j (by simp [hj]))
    simp only [List.forIn_cons, Sem.run_bind, Nat.mul_one, part_bytes xs i (by omega), part_bytes ys i (by omega), Result.andThen_ok, run_equalIn_int w d 5 .u8 .u8 _ _ Tryd.underlying5]
    have e : (((gt xs i).toNat : Int) == ((gt ys i).toNat : Int)) = (gt xs i == gt ys i) := by
      rw [Bool.eq_iff_iff]
      simp only [beq_iff_eq]
      exact ⟨byte_inj, fun h => by rw [h]⟩
    rw [e]
    cases hb : (gt xs i == gt ys i)
    · simp [hb]
    · simp only [List.all_cons, hb, Bool.true_and]
      simpa using ih'
theorem eql_block (xs ys : List UInt8) (hx : xs.length = 32) (hy : ys.length = 32) (b : Bool) (hb : decide (xs = ys) = b) (w : World) : (Op.equalIn 10000 41 (.agg (bytesV xs).toArray) (.agg (bytesV ys).toArray)).run Tryd.prog w = .ok b w := by
  subst hb
  exact eqA_block 9998 xs ys hx hy w
theorem block_cells {W : World} {g : Nat} {xs : List UInt8} (h : W.heap[g]? = some (.cells (bytesV xs).toArray 41 (0, 0))) : ∀ j u, (bytesV xs)[j]? = some u → W.cell? ((⟨g, 0, none⟩ : Addr).add j) = some u := fun j u hu => by
  rw [add_plain, blk_cell h]
  simpa using hu
def sumStep (n : Nat) (x : UInt8) : Nat := (31 * n + x.toNat) % 65536
def sumB (n : Nat) (xs : List UInt8) : Nat := xs.foldl sumStep n
def sumT (t : List (List UInt8)) : Nat := t.foldl sumB 1
theorem sumB_le (n : Nat) (xs : List UInt8) (h : n ≤ 65535) : sumB n xs ≤ 65535 := by
  induction xs generalizing n with
  | nil => exact h
  | cons x xs ih => exact ih _ (by unfold sumStep; omega)
theorem sumT_le (t : List (List UInt8)) : sumT t ≤ 65535 := by
  have : ∀ (t : List (List UInt8)) n, n ≤ 65535 → t.foldl sumB n ≤ 65535 := by
    intro t
    induction t with
    | nil => exact fun n h => h
    | cons x xs ih => exact fun n h => ih _ (sumB_le _ _ h)
  exact this t 1 (by decide)
theorem sumT_succ (l : List (List UInt8)) (k : Nat) (hk : k < l.length) : sumT (l.take (k + 1)) = sumB (sumT (l.take k)) (gt l k) := by
  unfold sumT
  rw [List.take_add_one, gt_some l k hk, List.foldl_append]
  rfl
theorem sumB_succ (n : Nat) (xs : List UInt8) (j : Nat) (hj : j < xs.length) : sumB n (xs.take (j + 1)) = sumStep (sumB n (xs.take j)) (gt xs j) := by
  unfold sumB
  rw [List.take_add_one, gt_some xs j hj, List.foldl_append]
  rfl
theorem index_block (w : World) (xs : List UInt8) (j : Nat) (hl : xs.length = 32) (hj : j < 32) : (Instr.index 41 (.agg (bytesV xs).toArray) (.int .i64 (j : Int))).run Tryd.prog w = .ok (.int .u8 ((gt xs j).toNat : Int)) w := by
  have hu := run_underlying Tryd.underlying41 w
  have hagg : (isAgg 5).run Tryd.prog w = .ok false w := by
    unfold isAgg
    rw [Sem.run_bind, run_underlying Tryd.underlying5 w]
    simp
  have hsz : (sizeOf 5).run Tryd.prog w = .ok 1 w := by
    cases hq : Tryd.prog.info? 5 with
    | none => have := info_byte; simp [hq] at this
    | some i =>
      have : i.size = 1 := by have := info_byte; simp [hq] at this; exact this.2.1
      simp [sizeOf, typeInfo, Sem.run_bind, hq, this]
  have hget : (bytesV xs)[j]? = some (.int .u8 ((gt xs j).toNat : Int)) := by
    simp [bytesV, gt_some xs j (by omega)]
  have hb : (0 : Int) ≤ (j : Int) ∧ (j : Int) < 32 := by omega
  have hb2 : ¬ 32 ≤ j := by omega
  simp [Instr.index, asIntOf, Sem.run_bind, hu, hb, part, hagg, hsz, hget, hb2]
set_option maxHeartbeats 1600000 in
theorem sum_any (A : Option Addr) (l : List (List UInt8)) (c : Nat) (w : World) (h : kBlock.C w A l.length l) :
    Calls Tryd.prog 21 #[.slice A l.length c] w fun e w' => e = .returned (.int .u64 (sumT l)) ∧ Below w.heap.size w w' := by
  have hmx := Kd.C_max h
  go_enter Tryd.func21, Tryd.ntmps21
  go_wp2
  go_loopw [10, 3] (fun i v3 wr => ∃ k : Nat, k ≤ l.length ∧ i = .int .i64 k ∧ v3 = .int .u64 (sumT (l.take k)) ∧ Aside0 (Below w.heap.size w wr)) (fun i _ _ => l.length - (intOf i).toNat)
  case atStart => exact ⟨0, Nat.zero_le _, rfl, rfl, ⟨Below.refl _ _⟩⟩
  case round =>
    obtain ⟨k, hk, rfl, rfl, HB⟩ := hrel
    by_cases hlt : k < l.length
    · obtain ⟨ad, rfl, hl32, hc⟩ := block_at h hlt
      have HC : Aside0 (∀ j u, (bytesV (gt l k))[j]? = some u → wr.cell? ((ad.add (k * 32)).add j) = some u) := ⟨fun j u hu => cell_old HB.out (hc j u hu)⟩
      clear hc
      obtain ⟨xs, hxs⟩ : ∃ xs, xs = gt l k := ⟨_, rfl⟩
      rw [← hxs] at HC hl32
      have HXS := Aside0.mk hxs
      clear hxs
      go_wp2_with (first | ((with_reducible refine gate_dst (N := 13) rfl ?_); refine load_block rfl _ rfl (ad.add (k * 32)) rfl xs hl32 HC.out ?_) | ((with_reducible refine gate_store (t := 41) (p := 5) rfl ?_); refine store_block_new rfl (.tmp 5) (.tmp 13) rfl _ rfl rfl xs hl32 rfl ?_; obtain ⟨W1, hW1⟩ : ∃ W1, wr.alloc (.cells (bytesV xs).toArray 41) = W1 := ⟨_, rfl⟩; have HX1 : Aside0 (W1.heap[wr.heap.size]? = some (.cells (bytesV xs).toArray 41 (0, 0))) := ⟨by rw [← hW1]; exact blk_new wr _⟩; have HB1 : Aside0 (Below w.heap.size w W1) := ⟨by rw [← hW1]; exact below_alloc HB.out _⟩; rw [hW1]; clear hW1) | ((with_reducible refine gate_dst (N := 14) rfl ?_); refine load_block rfl _ rfl ⟨wr.heap.size, 0, none⟩ rfl xs hl32 (block_cells HX1.out) ?_))
      obtain ⟨s0, hs0⟩ : ∃ s0, sumT (l.take k) = s0 := ⟨_, rfl⟩
      have hs0l : s0 ≤ 65535 := by rw [← hs0]; exact sumT_le _
      rw [hs0]
      have HS0 : Aside0 (sumT (l.take (k + 1)) = sumB s0 xs) := ⟨by rw [← hs0, HXS.out]; exact sumT_succ l k hlt⟩
      clear hs0
      go_loopw [15, 7, 3] (fun i _ v3 wz => wz = W1 ∧ ∃ j : Nat, j ≤ 32 ∧ i = .int .i64 j ∧ v3 = .int .u64 (sumB s0 (xs.take j))) (fun i _ _ _ => 32 - (intOf i).toNat)
      case atStart => exact ⟨rfl, 0, by omega, rfl, rfl⟩
      case round =>
        obtain ⟨rfl, j, hj, rfl, rfl⟩ := hrel
        by_cases hjt : j < 32
        · obtain ⟨n, hn⟩ : ∃ n, sumB s0 (xs.take j) = n := ⟨_, rfl⟩
          have hnl : n ≤ 65535 := by rw [← hn]; exact sumB_le _ _ hs0l
          have HN : Aside0 (sumB s0 (xs.take (j + 1)) = sumStep n (gt xs j)) := ⟨by rw [← hn]; exact sumB_succ _ _ _ (by omega)⟩
          rw [hn]
          clear hn
          have hx8 := (gt xs j).toNat_lt
          have hidx : ∀ w, (Instr.index 41 (.agg (bytesV xs).toArray) (.int .i64 (j : Int))).run Tryd.prog w = .ok (.int .u8 ((gt xs j).toNat : Int)) w := fun w => index_block w xs j hl32 hjt
          go_wp2
          go_roundw
          case rel => exact ⟨trivial, j + 1, by omega, by go_num, by rw [HN.out]; unfold sumStep; congr 1⟩
          case measure => simp [intOf]; omega
        · have hjx : j = 32 := by omega
          have hxj : xs.take j = xs := List.take_of_length_le (by omega)
          rw [hxj]
          go_wp2
          go_roundw
          case rel => exact ⟨k + 1, by omega, by go_num, by rw [HS0.out], HB1⟩
          case measure => simp [intOf]; omega
    · have htk : l.take k = l := List.take_of_length_le (by omega)
      rw [htk]
      go_wp2
      go_ret
      exact ⟨rfl, HB.out⟩
end Go.Proofs.YtnpnpgihbgohgaaDoor
/-
  Chapter 49, fs.together: whether files may stand together: each is right, no name twice. A map of names.
-/
namespace Go.Proofs.YtnpnpgihbgohgaaDoor
open Go.RowKit Go.Proofs.YtnpnpgihbgohgaaDoorW.PrintWords Go.Proofs.YtnpnpgihbgohgaaDoorW.PrintLast Go.Proofs.YtnpnpgihbgohgaaDoorW.PrintMore
set_option linter.unusedVariables false
set_option linter.unusedSimpArgs false

/-- A map of the call's own that holds just these names. -/
def Names (w : World) (b n : Nat) (L : List (List UInt8)) : Prop := ∃ D : DataW Unit, w.ownsMap Tryd.prog 9 (plainElem Tryd.prog 4) b n D ∧
  ∀ s : ByteArray, s.size ≤ maxLen → D.atKey (.string s.data.toList) (.lit (.bool false)) = .lit (.bool (decide (s.data.toList ∈ L)))
theorem Names.made (w : World) : Names (w.alloc (.map #[] 0)) w.heap.size 0 [] :=
  ⟨.map [], World.ownsMap_made w _ _ _, fun s _ => by simp [DataW.atKey]⟩
theorem Names.below {w w1 : World} {b n : Nat} {L : List (List UInt8)} (h : Names w b n L) (hb : Below w.heap.size w w1) : Names w1 b n L := by
  obtain ⟨D, ho, hD⟩ := h
  have hlt := ho.lt
  obtain ⟨es, clock, hbk, F, hs, hDe⟩ := ho
  exact ⟨D, ⟨es, clock, (hb.block b hlt).trans hbk, F, hs, hDe⟩, hD⟩
theorem zero_bool (w : World) : (zeroValue 4).run Tryd.prog w = .ok (.bool false) w := by kernel_rfl
theorem Names.look {w : World} {b n : Nat} {L : List (List UInt8)} (h : Names w b n L) (s : ByteArray) (hs : s.size ≤ maxLen) : (Instr.lookup 78 (.map (some b)) (.string s) false).run Tryd.prog w = .ok (.bool (decide (s.data.toList ∈ L))) w := by
  obtain ⟨D, ho, hD⟩ := h
  obtain ⟨v, ps, hrun, hv⟩ := ho.lookup (Maps.string_keyed Tryd.underlying9) Tryd.underlying78 (zero_bool w) (plainElem_bool Tryd.underlying4 false) (WideMaps.keyOf_string_mk Tryd.underlying9 hs)
  rw [hD s hs] at hv
  rw [hrun]
  have : v = .bool (decide (s.data.toList ∈ L)) := by
    have hu := Tryd.underlying4
    unfold plainElem at hv
    cases v <;> simp_all
  rw [this]
theorem Names.put {w : World} {b n : Nat} {L : List (List UInt8)} (h : Names w b n L) (s : ByteArray) (hs : s.size ≤ maxLen) (hn : n < maxLen) :
    ∃ w', (Instr.mapUpdate 78 (.map (some b)) (.string s) (.bool true)).run Tryd.prog w = .ok () w' ∧ Names w' b (n + 1) (s.data.toList :: L) ∧ w.grownBy w' (some b) := by
  obtain ⟨D, ho, hD⟩ := h
  obtain ⟨w', h1, h2, h3⟩ := ho.update (Maps.string_keyed Tryd.underlying9) Tryd.underlying78 hn (WideMaps.keyOf_string_mk Tryd.underlying9 hs) (plainElem_bool Tryd.underlying4 true)
  refine ⟨w', h1, ⟨_, h2, fun s' hs' => ?_⟩, h3⟩
  by_cases he : s'.data.toList = s.data.toList
  · rw [he, Maps.atKey_put_same ho.isMap (by first | trivial | exact ⟨_, rfl⟩ | constructor)]
    simp
  · rw [Maps.atKey_put_other (fun e => he (by injection e)), hD s' hs']
    simp [he]
def nmL (x : File) : List UInt8 := x.name.data.toList
def togTo (l : List File) : Nat → Bool
  | 0 => true
  | k + 1 => togTo l k && (rightB (gt l k) && !(decide (nmL (gt l k) ∈ ((l.take k).map nmL).reverse)))
def togB (l : List File) : Bool := togTo l l.length
theorem togTo_false {l : List File} {k : Nat} (h : togTo l (k + 1) = false) : ∀ j, k < j → togTo l j = false := by
  intro j hj
  induction j with
  | zero => omega
  | succ j ih =>
    by_cases he : j = k
    · subst he; exact h
    · unfold togTo
      rw [ih (by omega)]
      rfl
theorem nm_succ (l : List File) (k : Nat) (hk : k < l.length) : ((l.take (k + 1)).map nmL).reverse = nmL (gt l k) :: ((l.take k).map nmL).reverse := by
  rw [List.take_add_one, gt_some l k hk]
  simp
set_option maxHeartbeats 1600000 in
theorem together_any (A : Option Addr) (l : List File) (c : Nat) (r : Bool) (hr : togB l = r) (w : World) (h : kFile.C w A l.length l) (hs : ∀ k, k < l.length → (gt l k).name.size ≤ 9223372036854775807) (hlen : l.length ≤ 1000000) :
    Calls Tryd.prog 17 #[.slice A l.length c] w fun e w' => e = .returned (.bool r) ∧ Below w.heap.size w w' := by
  have hmx := Kd.C_max h
  have hmm := @run_makeMap Tryd.prog
  have HR := Aside0.mk hr
  have HS := Aside0.mk hs
  clear hr hs
  go_enter Tryd.func17, Tryd.ntmps17
  go_wp2
  go_loopw [9, 5] (fun i _ wr => ∃ k : Nat, k ≤ l.length ∧ i = .int .i64 k ∧ Aside0 (togTo l k = true) ∧ Aside0 (Names wr w.heap.size k ((l.take k).map nmL).reverse) ∧ Aside0 (Below w.heap.size w wr)) (fun i _ _ => l.length - (intOf i).toNat)
  case atStart => exact ⟨0, Nat.zero_le _, rfl, ⟨rfl⟩, ⟨Names.made w⟩, ⟨below_alloc (Below.refl _ _) _⟩⟩
  case round =>
    obtain ⟨k, hk, rfl, HT, HN, HB⟩ := hrel
    by_cases hlt : k < l.length
    · obtain ⟨ad, A3, c3, rfl, g0, g1, hc3, hd⟩ := file_at h hlt
      obtain ⟨x, hx⟩ : ∃ x, x = gt l k := ⟨_, rfl⟩
      have HSX := HS.out k hlt
      have HTS : Aside0 (togTo l (k + 1) = (rightB x && !(decide (nmL x ∈ ((l.take k).map nmL).reverse)))) := ⟨by rw [hx]; show (togTo l k && _) = _; rw [HT.out]; rfl⟩
      have HNS := Aside0.mk (nm_succ l k hlt)
      rw [← hx] at g0 g1 HSX HNS
      replace g0 := cell_old HB.out g0
      replace g1 := cell_old HB.out g1
      have hbad : togTo l (k + 1) = false → togB l = false := fun h => togTo_false h _ (by omega)
      have HBAD := Aside0.mk hbad
      have hwk : w.heap.size ≤ wr.heap.size := HB.out.size
      clear hd hx hbad
      cases hb : rightB x
      · go_wp2_with (go_at_call 31; refine (right_any x.name A3 x.data c3 false hb _ HSX).mono ?_; rintro e w1 ⟨rfl, hb1⟩; have HB1 := Aside0.mk (below_step (below_alloc HB.out _) hb1); clear hb1)
        go_ret
        exact ⟨ret_bool (by rw [← HR.out, HBAD.out (by rw [HTS.out, hb]; rfl)]), HB1.out⟩
      · cases hin : decide (nmL x ∈ ((l.take k).map nmL).reverse)
        · go_wp2_with (go_at_call 31; refine (right_any x.name A3 x.data c3 true hb _ HSX).mono ?_; rintro e w1 ⟨rfl, hb1⟩; have HB1 := Aside0.mk (below_step (below_alloc HB.out _) hb1); have HX1 := Aside0.mk (blk_below (blk_new wr (.cells #[.string x.name, .slice A3 x.data.length c3] 54)) hb1); have z0 := blk_cell HX1.out 0; simp only [List.getElem?_toArray, List.getElem?_cons_zero] at z0; have HN1 := Aside0.mk ((HN.out.below (below_alloc (Below.refl _ _) _)).below hb1); have hlk := HN1.out.look x.name HSX; rw [show decide (x.name.data.toList ∈ ((l.take k).map nmL).reverse) = false from hin] at hlk; obtain ⟨w2, hup, hN2, hg2⟩ := HN1.out.put x.name HSX (by simp [maxLen]; omega); have HN2 := Aside0.mk hN2; have HB2 : Aside0 (Below w.heap.size w w2) := ⟨pw_below_grown HB1.out (some w.heap.size) HB1.out.size hg2 (fun k e => by cases e; exact Nat.le_refl _)⟩; clear hb1 hN2 hg2)
          go_roundw
          case rel => exact ⟨k + 1, by omega, by go_num, ⟨by rw [HTS.out, hb, hin]; rfl⟩, ⟨by rw [HNS.out]; exact HN2.out⟩, HB2⟩
          case measure => simp [intOf]; omega
        · go_wp2_with (go_at_call 31; refine (right_any x.name A3 x.data c3 true hb _ HSX).mono ?_; rintro e w1 ⟨rfl, hb1⟩; have HB1 := Aside0.mk (below_step (below_alloc HB.out _) hb1); have HX1 := Aside0.mk (blk_below (blk_new wr (.cells #[.string x.name, .slice A3 x.data.length c3] 54)) hb1); have z0 := blk_cell HX1.out 0; simp only [List.getElem?_toArray, List.getElem?_cons_zero] at z0; have HN1 := Aside0.mk ((HN.out.below (below_alloc (Below.refl _ _) _)).below hb1); have hlk := HN1.out.look x.name HSX; rw [show decide (x.name.data.toList ∈ ((l.take k).map nmL).reverse) = true from hin] at hlk; clear hb1)
          go_ret
          exact ⟨ret_bool (by rw [← HR.out, HBAD.out (by rw [HTS.out, hb, hin]; rfl)]), HB1.out⟩
    · go_wp2
      go_ret
      exact ⟨ret_bool (by rw [← HR.out]; unfold togB; rw [show l.length = k by omega]; exact HT.out.symm), HB.out⟩
end Go.Proofs.YtnpnpgihbgohgaaDoor
/-
  slices.Collect(slices.Chunk(data, 32)): the parts of any bytes: walked.
-/
namespace Go.Proofs.YtnpnpgihbgohgaaDoor
open Go.RowKit Go.Shelf Go.Proofs.YtnpnpgihbgohgaaDoorW.PrintWords Go.Proofs.YtnpnpgihbgohgaaDoorW.PrintLast Go.Proofs.YtnpnpgihbgohgaaDoorW.PrintMore
set_option linter.unusedVariables false
set_option linter.unusedSimpArgs false
attribute [local go_sem] Oper.semAt_some max2_int min2_int max_two min_two

/-- A part: where it lies, how long it is. -/
abbrev Part := Option Addr × Nat
def encP (p : Part) : Value := .slice p.1 p.2 p.2
/-- The loop's record: AppendSeq's temporaries as they stood at the entering. -/
def apRec (asg bdy : Code) (fn : FuncId) (sv : Value) (Bs D : Nat) (st : LoopState) (pend : Option Code) : Loop :=
  { state := st, pending := pend, fn, tmps := #[.slice none 0 0, sv, .pointer (some ⟨Bs, 0, none⟩), undef, .slice none 0 0, undef, sv, undef, undef, undef, undef, undef, undef], params := #[7], assign := asg, body := bdy, defers := D }
structure ApAt (asg bdy : Code) (w0 : World) (fn : FuncId) (sv : Value) (Bs l D : Nat) (ss : List Part) (W : World) : Prop where
  box : ∃ v, W.heap[Bs]? = some (.cells #[v] 58 (0, 0)) ∧ W.ownsRow w0.heap.size 45 1 v ss.length (ss.map encP) ∧ (v = .slice none 0 0 ↔ ss = [])
  L : W.heap[l]? = some (.loop (apRec asg bdy fn sv Bs D .ready none))
  K : W.heap[D]? = some (.deferred (some []))
  below : Below w0.heap.size w0 W
/-- The iterator's contract, for a caller that keeps all that lay before the loop: its own memory may be read between two rounds. -/
def SeqGivesB {α : Type} (F : Fence) (n : Nat) (P : Program) (g : Nat) (lb : Array Value) (enc : α → Value) (S : List α → Prop) (N : Nat) (w : World) : Prop :=
  ∀ (l : Nat) (J : List α → World → Prop) (W : World), Below w.heap.size w W → AbidesFrom W.heap.size J → (∀ pre W1, J pre W1 → Below w.heap.size w W1) →
    (∀ pre x W1, J pre W1 → pre.length < N → YieldAt F (n - 1) P l #[enc x] W1 fun e W' => e = .returned (.bool true) ∧ J (pre ++ [x]) W' ∧ KeepsWalks W1 W') →
    J [] W →
    CallsIn F n P g (#[.func (.yield l) #[] #[]] ++ lb) W fun e W' => (∃ v, e = .returned v) ∧ ∃ xs, S xs ∧ J xs W'
theorem SeqGivesB.later {α : Type} {F : Fence} {n : Nat} {P : Program} {g : Nat} {lb : Array Value} {enc : α → Value} {S : List α → Prop} {N : Nat} {w w' : World}
    (h : SeqGivesB F n P g lb enc S N w) (hb : Below w.heap.size w w') : SeqGivesB F n P g lb enc S N w' :=
  fun l J W hW hJ hJB hY h0 => h l J W (hb.trans (hW.mono hb.size)) hJ (fun pre W1 h1 => hb.trans ((hJB pre W1 h1).mono hb.size)) hY h0
theorem info_bytes : (Tryd.prog.info? 45).map (fun i => (i.zero, i.size, i.bytes)) = some (some (.slice none 0 0), 1, 24) := by kernel_rfl
/-- A slice's own row is no walk's object: it abides an iterator's step. -/
theorem ownsRow_abides {W W' : World} {row : Option Nat} {base : Nat} {e : TypeId} {size : Nat} {v : Value} {k : Nat} {xs : List Value} (h : W.ownsRow base e size v k xs) (hg : W.grownBy W' row)
    (hrow : ∀ r, row = some r → ∃ o : Obj, W.heap[r]? = some o ∧ o.isWalk = true) : W'.ownsRow base e size v k xs := by
  refine h.kept hg ?_
  rcases h.2 with ⟨rfl, _⟩ | ⟨g, cap, cur, rfl, _, hgb, _⟩
  · exact .inl rfl
  · refine .inr fun e' => ?_
    obtain ⟨o, ho, hw⟩ := hrow g (by simpa [Value.ownBlock] using e'.symm)
    rw [hgb] at ho; cases ho; cases hw

theorem ap_abides (asg bdy : Code) (w0 : World) (fn : FuncId) (sv : Value) (Bs l D B : Nat) (hB : w0.heap.size ≤ B) : AbidesFrom B (ApAt asg bdy w0 fn sv Bs l D) := fun s W W' row h hg hrow => by
  have hrow' : ∀ r, row = some r → ∃ o : Obj, W.heap[r]? = some o ∧ o.isWalk = true := fun r e => (hrow r e).2
  obtain ⟨v, hv, hr, hn⟩ := h.box
  exact ⟨⟨v, (grownBy_keeps hg hrow' hv rfl).trans hv, ownsRow_abides hr hg hrow', hn⟩, (grownBy_keeps hg hrow' h.L rfl).trans h.L, (grownBy_keeps hg hrow' h.K rfl).trans h.K,
    h.below.grown hg h.below.size (fun k e => Nat.le_trans hB (hrow k e).1)⟩

theorem grownBy_putObj (W : World) (l : Nat) (o : Obj) : W.grownBy (W.putObj l o) (some l) :=
  ⟨rfl, rfl, rfl, by simp, fun k _ hk => World.putObj_heap_other (fun e => hk (by rw [e]))⟩
theorem grownBy_setCell0 (W : World) (b : Nat) (v : Value) : W.grownBy (W.setCell ⟨b, 0, none⟩ v) (some b) :=
  ⟨rfl, rfl, rfl, (KeepsWalks.setCell W _ v).size, fun k _ hk => Below.heap_setCell _ _ _ k (fun e => hk (by rw [e]))⟩
/-- A slice's own row is not a block that holds something else than cells of its element's type. -/
theorem ownsRow_ne {W : World} {base : Nat} {e : TypeId} {size : Nat} {v : Value} {k : Nat} {xs : List Value} (h : W.ownsRow base e size v k xs) {j : Nat} {o : Obj} (hj : W.heap[j]? = some o) (hno : ∀ cur, o ≠ .cells cur e (0, 0)) :
    v.ownBlock = none ∨ v.ownBlock ≠ some j := by
  rcases h.2 with ⟨rfl, _⟩ | ⟨g, cap, cur, rfl, _, hgb, _⟩
  · exact .inl rfl
  · refine .inr fun e' => ?_
    have : g = j := by simpa [Value.ownBlock] using e'
    subst this; rw [hgb] at hj; cases hj; exact hno cur rfl
theorem cell_of_box {W : World} {B : Nat} {v : Value} {t : TypeId} (h : W.heap[B]? = some (.cells #[v] t (0, 0))) : W.cell? ⟨B, 0, none⟩ = some v ∧ W.frozen? ⟨B, 0, none⟩ = false := by
  constructor <;> simp [World.cell?, World.frozen?, h]

theorem heap_setCell_box {W : World} {B : Nat} {v : Value} {t : TypeId} (v' : Value) (h : W.heap[B]? = some (.cells #[v] t (0, 0))) : (W.setCell ⟨B, 0, none⟩ v').heap[B]? = some (.cells #[v'] t (0, 0)) := by
  obtain ⟨hlt, hk⟩ := Array.getElem?_eq_some_iff.1 h
  show (W.heap.modify B _)[B]? = _
  rw [Array.getElem?_eq_getElem (by rw [Array.size_modify]; exact hlt), Array.getElem_modify_self, hk]
  rfl
theorem ownsRow_not_walk {W : World} {base : Nat} {e : TypeId} {size : Nat} {v : Value} {k : Nat} {xs : List Value} (h : W.ownsRow base e size v k xs) : ∀ (j : Nat) (o : Obj), v.ownBlock = some j → W.heap[j]? = some o → o.isWalk = false := by
  intro j o hj ho
  rcases h.2 with ⟨rfl, _⟩ | ⟨g, cap, cur, rfl, _, hgb, _⟩
  · simp [Value.ownBlock] at hj
  · have : g = j := by simpa [Value.ownBlock] using hj
    subst this; rw [hgb] at ho; cases ho; rfl


set_option maxRecDepth 100000 in
set_option maxHeartbeats 2000000 in
theorem apYield (asg bdy : Code) (h48 : ∃ r0 r1 r2 n0 t ps, Tryd.f32.body = some (.seq r0 (.seq (.seq r1 (.block n0 (.rangeFunc t ps asg bdy))) r2))) (F : Fence) (m : Nat) (w0 : World) (fn : FuncId) (hfn : F.fn fn) (sv : Value) (Bs l D : Nat) (hBl : Bs ≠ l) (hDl : D ≠ l) (hDB : D ≠ Bs) (h0B : w0.heap.size ≤ Bs) (h0l : w0.heap.size ≤ l)
    (N : Nat) (hN : N ≤ maxLen) (hNb : N * 24 ≤ 140737488355328) (ss : List Part) (x : Part) (W : World) (h : ApAt asg bdy w0 fn sv Bs l D ss W) (hlen : ss.length < N) :
    YieldAt F m Tryd.prog l #[encP x] W fun e W' => e = .returned (.bool true) ∧ ApAt asg bdy w0 fn sv Bs l D (ss ++ [x]) W' ∧ KeepsWalks W W' := by
  obtain ⟨i0, hi, hz0, hz1, hz2⟩ := info_parts info_bytes
  obtain ⟨v, hv, hrow, _⟩ := h.box
  refine ⟨fn, #[.slice none 0 0, sv, .pointer (some ⟨Bs, 0, none⟩), undef, .slice none 0 0, undef, sv, encP x, undef, undef, undef, undef, undef], asg, bdy, by simpa [apRec] using run_yield (P := Tryd.prog) (args := #[encP x]) h.L rfl, roundIn_of_wpIn hfn ?_⟩
  have hl : l < W.heap.size := (Array.getElem?_eq_some_iff.1 h.L).1
  have hbr := run_beginRound (P := Tryd.prog) h.L rfl
  obtain ⟨W2, hW2⟩ : ∃ W2, W.putObj l (.loop { apRec asg bdy fn sv Bs D .ready none with state := .busy }) = W2 := ⟨_, rfl⟩
  rw [hW2] at hbr
  have hg2 : W.grownBy W2 (some l) := by rw [← hW2]; exact grownBy_putObj _ _ _
  have hk2 : KeepsWalks W W2 := by rw [← hW2]; exact KeepsWalks.putObj _ h.L rfl
  have hv2 : W2.heap[Bs]? = some (.cells #[v] 58 (0, 0)) := by rw [← hW2]; exact (World.putObj_heap_other hBl).trans hv
  have hK2 : W2.heap[D]? = some (.deferred (some [])) := by rw [← hW2]; exact (World.putObj_heap_other hDl).trans h.K
  have hL2 : W2.heap[l]? = some (.loop { apRec asg bdy fn sv Bs D .ready none with state := .busy }) := by rw [← hW2]; exact World.putObj_heap_same hl
  have hrow2 : W2.ownsRow w0.heap.size 45 1 v ss.length (ss.map encP) := hrow.kept hg2 (ownsRow_ne hrow h.L (fun cur e => by cases e))
  have hb2 : Below w0.heap.size w0 W2 := h.below.grown hg2 h.below.size (fun k e => by cases e; exact h0l)
  obtain ⟨hc2, hf2⟩ := cell_of_box hv2
  have hBlt : Bs < W2.heap.size := (Array.getElem?_eq_some_iff.1 hv2).1
  have hl2 : l < W2.heap.size := (Array.getElem?_eq_some_iff.1 hL2).1
  have hDlt : D < W2.heap.size := (Array.getElem?_eq_some_iff.1 hK2).1
  have ne_of : ∀ {j : Nat} {o : Obj}, W2.heap[j]? = some o → (∀ cur, o ≠ .cells cur 45 (0, 0)) → some j ≠ v.ownBlock := fun hj hno => by
    rcases ownsRow_ne hrow2 hj hno with e | e
    · rw [e]; simp
    · exact fun e' => e e'.symm
  clear hW2
  have hex : encP x = .slice x.1 x.2 x.2 := rfl
  obtain ⟨r0, r1, r2, n0, t0, ps0, h48⟩ := h48
  unfold Tryd.f32 at h48
  simp only [Option.some.injEq, Code.seq.injEq, Code.block.injEq, Code.rangeFunc.injEq] at h48
  obtain ⟨-, ⟨-, -, -, -, rfl, rfl⟩, -⟩ := h48
  gi_wp2_with (first
    | (gi_at_builtin; refine wpListIn_append_own _ rfl _ _ 58 rfl w0.heap.size 45 i0 (.slice none 0 0) 1 24 Tryd.underlying58 hi hz0 hz1 hz2 rfl (by decide) _ _ _ rfl (hrow2.alloc _) ⟨W2.heap.size, 0, none⟩ 1 1 [encP x] rfl rfl (cell_one_new _ _ _) (by simp [Value.oneCell', encP]) (by omega) (by omega) (by have := hb2.size; simp; omega) ?_; intro v' w3 hown' hg3 hnil3
       have hv3 : w3.heap[Bs]? = some (.cells #[v] 58 (0, 0)) := (hg3.block Bs (by simp; omega) (ne_of hv2 (fun cur e => by cases e))).trans ((Below.heap_alloc _ _ Bs hBlt).trans hv2)
       obtain ⟨hc3, hf3⟩ := cell_of_box hv3
       obtain ⟨g', cap', cur', rfl, hbase', hgb', hr1, hr2, hr3, hr4⟩ : ∃ g' cap' cur', v' = .slice (some ⟨g', 0, none⟩) (ss.length + 1) cap' ∧ w0.heap.size ≤ g' ∧ w3.heap[g']? = some (.cells cur' 45 (0, 0)) ∧ ss.length + 1 ≤ cap' ∧ cap' ≤ maxLen ∧ cur'.size = cap' * 1 ∧ cur'.toList.take ((ss.length + 1) * 1) = ss.map encP ++ [encP x] := by
         rcases hown'.2 with ⟨_, h0⟩ | h'
         · exact absurd h0 (by omega)
         · exact h'
       go_frame))
  have hg3' : (W2.alloc (.cells #[encP x] 45)).grownBy w3 v.ownBlock := hg3
  have hL3 : w3.heap[l]? = some (.loop { apRec _ _ fn sv Bs D .ready none with state := .busy }) := (hg3'.block l (by simp; omega) (ne_of hL2 (fun cur e => by cases e))).trans ((Below.heap_alloc _ _ l hl2).trans hL2)
  have hK3 : w3.heap[D]? = some (.deferred (some [])) := (hg3'.block D (by simp; omega) (ne_of hK2 (fun cur e => by cases e))).trans ((Below.heap_alloc _ _ D hDlt).trans hK2)
  obtain ⟨w4, hw4⟩ : ∃ w4, w3.setCell ⟨Bs, 0, none⟩ (.slice (some ⟨g', 0, none⟩) (ss.length + 1) cap') = w4 := ⟨_, rfl⟩
  rw [hw4]
  have hg4 : w3.grownBy w4 (some Bs) := by rw [← hw4]; exact grownBy_setCell0 _ _ _
  have hv4 : w4.heap[Bs]? = some (.cells #[.slice (some ⟨g', 0, none⟩) (ss.length + 1) cap'] 58 (0, 0)) := by rw [← hw4]; exact heap_setCell_box _ hv3
  have hL4 : w4.heap[l]? = some (.loop { apRec _ _ fn sv Bs D .ready none with state := .busy }) := (hg4.block l (Array.getElem?_eq_some_iff.1 hL3).1 (fun e => hBl (by cases e; rfl))).trans hL3
  have hK4 : w4.heap[D]? = some (.deferred (some [])) := (hg4.block D (Array.getElem?_eq_some_iff.1 hK3).1 (fun e => hDB (by cases e; rfl))).trans hK3
  have hrow4 := hown'.kept hg4 (ownsRow_ne hown' hv3 (fun cur e => by cases e))
  have hl4 : l < w4.heap.size := (Array.getElem?_eq_some_iff.1 hL4).1
  have hb3 : Below w0.heap.size w0 w3 := (hb2.alloc hb2.size _).grown hg3' (by have := hb2.size; simp; omega) (fun k e => (hrow2.lt k e).1)
  have hb4 : Below w0.heap.size w0 w4 := hb3.grown hg4 hb3.size (fun k e => by cases e; exact h0B)
  have hk4 : KeepsWalks W w4 := ((hk2.trans (KeepsWalks.alloc _ _)).trans (KeepsWalks.of_grownBy hg3' (ownsRow_not_walk (hrow2.alloc _)))).trans (by rw [← hw4]; exact KeepsWalks.setCell _ _ _)
  clear hw4
  refine ⟨_, _, run_endRound none hL4, rfl, ⟨⟨_, (World.putObj_heap_other hBl).trans hv4, ?_, by simp⟩, World.putObj_heap_same hl4, (World.putObj_heap_other hDl).trans hK4, hb4.grown (grownBy_putObj _ _ _) hb4.size (fun k e => by cases e; exact h0l)⟩, hk4.trans (KeepsWalks.putObj _ hL4 rfl)⟩
  rw [List.length_append, List.map_append]
  exact hrow4.kept (grownBy_putObj w4 l _) (ownsRow_ne hrow4 hL4 (fun cur e => by cases e))


set_option maxRecDepth 100000 in
set_option maxHeartbeats 2000000 in
/-- **slices.AppendSeq(nil, seq), AGAINST WHATEVER ITERATOR VALUE THAT 'SeqGives'**: it hands back a slice that owns, in a block of the call's own, JUST WHAT THE ITERATOR GAVE, IN THAT ORDER; nil JUST WHERE IT GAVE NOTHING (as Go: 'slices.Collect' of nothing is nil); nothing that lay before the call has turned. -/
theorem appendSeq_in (asg bdy : Code) (h48 : ∃ r0 r1 r2 n0 t ps, Tryd.f32.body = some (.seq r0 (.seq (.seq r1 (.block n0 (.rangeFunc t ps asg bdy))) r2))) (F : Fence) (n : Nat) (h11 : F.fn 32) (hro : F.round = none) (hn : 2 ≤ n) (g : Nat) (lb : Array Value) (hFg : F.fn g) (eg : ∀ args w, (callFunc g args).run Tryd.prog w = .ok (.enter g args) w)
    (S : List Part → Prop) (N : Nat) (hN : N ≤ maxLen) (hNb : N * 24 ≤ 140737488355328) (w : World) (hseq : SeqGivesB F (n - 1) Tryd.prog g lb encP S N w) :
    CallsIn F n Tryd.prog 32 #[.slice none 0 0, .func (.func g) #[] lb] w fun e w' => ∃ (v : Value) (ss : List Part), e = .returned v ∧ S ss ∧ w'.ownsRow w.heap.size 45 1 v ss.length (ss.map encP) ∧ (v = .slice none 0 0 ↔ ss = []) ∧ Below w.heap.size w w' := by
  have h48c := h48
  obtain ⟨r0, r1, r2, n0, t0, ps0, h48⟩ := h48
  unfold Tryd.f32 at h48
  simp only [Option.some.injEq, Code.seq.injEq, Code.block.injEq, Code.rangeFunc.injEq] at h48
  obtain ⟨-, ⟨-, -, -, -, ha, hb⟩, -⟩ := h48
  have HA := Aside0.mk ha
  have HBD := Aside0.mk hb
  clear ha hb
  have h1 : 1 ≤ n := by omega
  refine callsIn_of_wp_marks Tryd.func32 rfl h11 ?_ hro
  simp only [Tryd.ntmps32, List.size_toArray, List.length_cons, List.length_nil, Nat.reduceAdd, Nat.reduceSub, Array.replicate_succ, Array.replicate_zero, List.push_toArray, List.append_toArray, List.nil_append, List.cons_append]
  gi_wp2
  refine wpIn_rangeFunc ?_
  intro fn hfn
  rw [HA.out, HBD.out]
  rw [hro]
  obtain ⟨W0, hW0⟩ : ∃ W0, w.alloc (.cells #[.slice none 0 0] 58) = W0 := ⟨_, rfl⟩
  have hs0 : W0.heap.size = w.heap.size + 1 := by rw [← hW0]; simp
  have hv0 : W0.heap[w.heap.size]? = some (.cells #[.slice none 0 0] 58 (0, 0)) := by rw [← hW0]; exact World.alloc_heap_new w _
  have hb0 : Below w.heap.size w W0 := by rw [← hW0]; exact (Below.refl _ w).alloc (Nat.le_refl _) _
  rw [hW0]
  obtain ⟨W1, hW1⟩ : ∃ W1, (W0.alloc (.deferred (some []))).alloc (.loop (apRec asg bdy fn (.func (.func g) #[] lb) w.heap.size W0.heap.size .ready none)) = W1 := ⟨_, rfl⟩
  have hold : ∀ k, k < W0.heap.size → W1.heap[k]? = W0.heap[k]? := fun k hk => by
    rw [← hW1]; exact (Below.heap_alloc _ _ k (by simp; omega)).trans (Below.heap_alloc _ _ k hk)
  have hb1 : Below w.heap.size w W1 := by rw [← hW1]; exact (hb0.alloc hb0.size _).alloc (by have := hb0.size; simp; omega) _
  have hs1 : W1.heap.size = W0.heap.size + 2 := by rw [← hW1]; simp
  have hM : ApAt asg bdy w fn (.func (.func g) #[] lb) w.heap.size (W0.heap.size + 1) W0.heap.size [] W1 :=
    ⟨⟨_, (hold w.heap.size (by omega)).trans hv0, ⟨rfl, .inl ⟨rfl, rfl⟩⟩, by simp⟩,
     by rw [← hW1]; have := World.alloc_heap_new (W0.alloc (.deferred (some []))) (.loop (apRec asg bdy fn (.func (.func g) #[] lb) w.heap.size W0.heap.size .ready none)); rwa [World.size_alloc] at this,
     by rw [← hW1]; exact (Below.heap_alloc _ _ _ (by simp)).trans (World.alloc_heap_new W0 _), hb1⟩
  refine ⟨W0.heap.size + 1, [{ target := .collected W0.heap.size, args := #[] }], W1, { target := .fn (.func g) lb, args := #[.func (.yield (W0.heap.size + 1)) #[] #[]] }, W1, g,
    #[.func (.yield (W0.heap.size + 1)) #[] #[]] ++ lb, W1, ?_, ?_, ?_, ?_, fun _ => h1, ?_⟩
  · rw [← hW1]; exact run_enterLoop_outer _ _ _ _ _
  · simp [resolve, go_sem]
  · intro f' hf'; simp [Target.leads] at hf'; subst hf'; exact hFg
  · simp [invoke, go_sem, eg]
  · refine (hseq (W0.heap.size + 1) (ApAt asg bdy w fn (.func (.func g) #[] lb) w.heap.size (W0.heap.size + 1) W0.heap.size) W1 hb1 (ap_abides _ _ _ _ _ _ _ _ _ hb1.size) (fun _ _ h => h.below)
      (fun pre x W hJ hl => apYield _ _ h48c F (n - 1 - 1) w fn hfn _ w.heap.size (W0.heap.size + 1) W0.heap.size (by omega) (by omega) (by omega) (Nat.le_refl _) (by omega) N hN hNb pre x W hJ hl) hM).mono ?_
    rintro e W2 ⟨⟨v0, rfl⟩, ss, hS, h2⟩
    obtain ⟨v, hv, hrow, hnil⟩ := h2.box
    have hend := run_endLoop (P := Tryd.prog) h2.L (by simp [apRec])
    obtain ⟨W3, hW3⟩ : ∃ W3, W2.putObj (W0.heap.size + 1) (.loop { apRec asg bdy fn (.func (.func g) #[] lb) w.heap.size W0.heap.size .ready none with state := .exhausted }) = W3 := ⟨_, rfl⟩
    rw [hW3] at hend
    have hg3 : W2.grownBy W3 (some (W0.heap.size + 1)) := by rw [← hW3]; exact grownBy_putObj _ _ _
    have hv3 : W3.heap[w.heap.size]? = some (.cells #[v] 58 (0, 0)) := by rw [← hW3]; exact (World.putObj_heap_other (by omega)).trans hv
    have hK3 : W3.heap[W0.heap.size]? = some (.deferred (some [])) := by rw [← hW3]; exact (World.putObj_heap_other (by omega)).trans h2.K
    have hrow3 := hrow.kept hg3 (ownsRow_ne hrow h2.L (fun cur e => by cases e))
    have hb3 : Below w.heap.size w W3 := h2.below.grown hg3 h2.below.size (fun k e => by cases e; omega)
    obtain ⟨hc3, hf3⟩ := cell_of_box hv3
    clear hW3
    refine ⟨none, W3, hend, ?_⟩
    gi_wp2
    rw [← hs0]
    refine ⟨by simp, .inl ⟨_, _, rfl, run_takeDeferred hK3, ?_⟩⟩
    exact ⟨_, results_tmp rfl _ _ _, v, ss, rfl, hS, hrow3.kept (grownBy_putObj _ _ _) (ownsRow_ne hrow3 hK3 (fun cur e => by cases e)), hnil, hb3.grown (grownBy_putObj _ _ _) hb3.size (fun k e => by cases e; omega)⟩


set_option maxHeartbeats 1000000 in
/-- **slices.Collect(seq), AGAINST WHATEVER ITERATOR VALUE.** -/
theorem collect_in (F : Fence) (n : Nat) (h8 : F.fn 19) (h11 : F.fn 32) (hro : F.round = none) (hn : 3 ≤ n) (g : Nat) (lb : Array Value) (hFg : F.fn g) (eg : ∀ args w, (callFunc g args).run Tryd.prog w = .ok (.enter g args) w)
    (S : List Part → Prop) (N : Nat) (hN : N ≤ maxLen) (hNb : N * 24 ≤ 140737488355328) (w : World) (hseq : SeqGivesB F (n - 1 - 1) Tryd.prog g lb encP S N w) :
    CallsIn F n Tryd.prog 19 #[.func (.func g) #[] lb] w fun e w' => ∃ (v : Value) (ss : List Part), e = .returned v ∧ S ss ∧ w'.ownsRow w.heap.size 45 1 v ss.length (ss.map encP) ∧ (v = .slice none 0 0 ↔ ss = []) ∧ Below w.heap.size w w' := by
  have h1 : 1 ≤ n := by omega
  refine callsIn_of_wp Tryd.func19 rfl h8 ?_ hro
  simp only [Tryd.ntmps19, List.size_toArray, List.length_cons, List.length_nil, Nat.reduceAdd, Nat.reduceSub, Array.replicate_succ, Array.replicate_zero, List.push_toArray, List.append_toArray, List.nil_append, List.cons_append]
  gi_wp2_with (gi_at_call 32; refine (appendSeq_in _ _ ⟨_, _, _, _, _, _, rfl⟩ F (n - 1) h11 hro (by omega) g lb hFg eg S N hN hNb _ hseq).mono ?_; rintro e w' ⟨v, ss, rfl, hS, hrow, hnil, hb⟩)
  go_ret
  exact ⟨v, ss, rfl, hS, hrow, hnil, hb⟩

/-- The parts of n bytes. -/
def partAt (ad : Addr) (n k : Nat) : Part := (some (ad.add (32 * k)), min 32 (n - 32 * k))
def partsTo (ad : Addr) (n k : Nat) : List Part := (List.range k).map (partAt ad n)
theorem partsTo_succ (ad : Addr) (n k : Nat) : partsTo ad n (k + 1) = partsTo ad n k ++ [partAt ad n k] := by
  unfold partsTo
  rw [List.range_succ, List.map_append]
  rfl
set_option maxRecDepth 100000 in
set_option maxHeartbeats 1000000 in
theorem chunk1_gives (F : Fence) (n : Nat) (h10 : F.fn 33) (hro : F.round = none) (hn : 1 ≤ n) (B1 B2 : Nat) (ad : Addr) (m c : Nat) (hmc : m ≤ c) (hm : m ≤ 1000000000) (w : World)
    (hb1 : w.cell? ⟨B1, 0, none⟩ = some (.slice (some ad) m c)) (hb2 : w.cell? ⟨B2, 0, none⟩ = some (.int .i64 32)) :
    SeqGivesB F n Tryd.prog 33 #[.pointer (some ⟨B1, 0, none⟩), .pointer (some ⟨B2, 0, none⟩)] encP (fun ss => ss = partsTo ad m ((m + 31) / 32)) ((m + 31) / 32) w := by
  intro l J W hW hJ hJB hY h0
  refine callsIn_of_wp Tryd.func33 rfl h10 ?_ hro
  simp only [Tryd.ntmps33, List.size_toArray, List.length_cons, List.length_nil, Nat.reduceAdd, Nat.reduceSub, Array.replicate_succ, Array.replicate_zero, List.push_toArray, List.append_toArray, List.nil_append, List.cons_append]
  gi_wp2
  gi_loopw [4] (fun i wr => ∃ k : Nat, k ≤ (m + 31) / 32 ∧ i = .int .i64 (32 * k : Nat) ∧ J (partsTo ad m k) wr) (fun i _ => m + 32 - (intOf i).toNat)
  case atStart => exact ⟨0, Nat.zero_le _, rfl, h0⟩
  case round =>
    obtain ⟨k, hk, rfl, hJk⟩ := hrel
    have c1 := cell_old (hJB _ _ hJk) hb1
    have c2 := cell_old (hJB _ _ hJk) hb2
    by_cases hlt : 32 * k < m
    · have i0 : (0 : Int) ≤ 32 * (k : Int) := by omega
      have i1 : 32 * (k : Int) ≤ (m : Int) := by omega
      have i2 : (m : Int) ≤ (c : Int) := by omega
      have i3 : (32 * (k : Int)).toNat = 32 * k := by omega
      have i4 : (0 : Int) ≤ (m : Int) := by omega
      gi_wp2
      (refine wpIn_region_quiet_lit hro (by kernel_rfl) (by kernel_rfl) ?_; repeat (gi_big_quiet_step (fail)))
      obtain ⟨pn, hpn⟩ : ∃ pn, pn = min 32 (m - 32 * k) := ⟨_, rfl⟩
      have hmin : (if ((m - 32 * k : Nat) : Int) < 32 then ((m - 32 * k : Nat) : Int) else 32) = (pn : Int) := by split <;> omega
      rw [hmin]
      refine wpQuietIn_nil ?_
      intro _ hw'
      obtain ⟨nq, hw''⟩ := hw'
      subst hw''
      have hJ2 : J (partsTo ad m k) (wr.drewN nq) := hJ _ _ _ none hJk (grown_of_below (pw_below_drewN (Below.refl _ _) _) none) (fun r e => by cases e)
      obtain ⟨fn, tmps, assign, body, hy, hR⟩ := hY _ (partAt ad m k) (wr.drewN nq) hJ2 (by simp [partsTo]; omega)
      have hpe : encP (partAt ad m k) = .slice (some (ad.add (32 * k))) pn pn := by simp [encP, partAt, hpn]
      rw [hpe] at hy
      have i5 : 32 * (k : Int) + (pn : Int) ≤ (c : Int) := by omega
      have i6 : 32 * (k : Int) ≤ 32 * (k : Int) + (pn : Int) := by omega
      have i7 : IntKind.i64.wrap (32 * (k : Int) + (pn : Int)) = 32 * (k : Int) + (pn : Int) := IntWalk.i64_in _ (by omega)
      have i8 : (32 * (k : Int) + (pn : Int)).toNat = 32 * k + pn := by omega
      have i9 : 32 * k + pn - 32 * k = pn := by omega
      have i10 : 0 < pn := by omega
      have i11 : ¬ pn = 0 := by omega
      have i12 : (0 : Int) < (pn : Int) := by omega
      have hstep : m + 32 - 32 * (k + 1) < m + 32 - 32 * k := by omega
      clear hmin hpn
      gi_wp2
      refine hR.mono ?_
      rintro e W3 ⟨rfl, hJ3, hk3⟩
      have d1 := cell_old (hJB _ _ hJ3) hb1
      have d2 := cell_old (hJB _ _ hJ3) hb2
      rw [← partsTo_succ] at hJ3
      gi_wp2
      go_roundw
      case rel => exact ⟨k + 1, by omega, (by go_num), hJ3⟩
      case measure => simp [intOf]; omega
    · have hke : k = (m + 31) / 32 := by omega
      gi_wp2
      go_end0
      exact ⟨⟨_, rfl⟩, _, by rw [hke], hJk⟩
theorem chunk_any (v : Value) (w : World) (hv : v.oneCell' = true) :
    Calls Tryd.prog 20 #[v, .int .i64 32] w fun e w' => e = .returned (.func (.func 33) #[] #[.pointer (some ⟨w.heap.size, 0, none⟩), .pointer (some ⟨w.heap.size + 1, 0, none⟩)]) ∧
      (w.alloc (.cells #[v] 45)).alloc (.cells #[.int .i64 32] 3) = w' := by
  go_enter Tryd.func20, Tryd.ntmps20
  go_wp2
  go_ret
  exact ⟨rfl, rfl⟩
/-- slices.Collect over the parts of bytes that are there. -/
theorem collect_parts (B1 B2 : Nat) (ad : Addr) (m c : Nat) (hmc : m ≤ c) (hm : m ≤ 1000000000) (w : World)
    (hb1 : w.cell? ⟨B1, 0, none⟩ = some (.slice (some ad) m c)) (hb2 : w.cell? ⟨B2, 0, none⟩ = some (.int .i64 32)) :
    Calls Tryd.prog 19 #[.func (.func 33) #[] #[.pointer (some ⟨B1, 0, none⟩), .pointer (some ⟨B2, 0, none⟩)]] w fun e w' =>
      ∃ v, e = .returned v ∧ w'.ownsRow w.heap.size 45 1 v ((m + 31) / 32) ((partsTo ad m ((m + 31) / 32)).map encP) ∧ Below w.heap.size w w' := by
  refine callsIn_wide.1 ((collect_in Fence.wide 4 trivial trivial rfl (by omega) 33 _ trivial (enters_of Tryd.func33 (by kernel_rfl) rfl) _ ((m + 31) / 32) (by simp [maxLen]; omega) (by omega) w (chunk1_gives Fence.wide (4 - 1 - 1) trivial rfl (by omega) B1 B2 ad m c hmc hm w hb1 hb2)).mono ?_)
  rintro e w' ⟨v, ss, rfl, hS, hrow, _, hb⟩
  subst hS
  refine ⟨v, rfl, ?_, hb⟩
  have hl : (partsTo ad m ((m + 31) / 32)).length = (m + 31) / 32 := by simp [partsTo]
  rwa [hl] at hrow
set_option maxRecDepth 100000 in
set_option maxHeartbeats 1000000 in
theorem chunk0_gives (F : Fence) (n : Nat) (h10 : F.fn 33) (hro : F.round = none) (hn : 1 ≤ n) (B1 B2 : Nat) (A : Option Addr) (c : Nat) (w : World)
    (hb1 : w.cell? ⟨B1, 0, none⟩ = some (.slice A 0 c)) :
    SeqGivesB F n Tryd.prog 33 #[.pointer (some ⟨B1, 0, none⟩), .pointer (some ⟨B2, 0, none⟩)] encP (fun ss => ss = []) 0 w := by
  intro l J W hW hJ hJB hY h0
  refine callsIn_of_wp Tryd.func33 rfl h10 ?_ hro
  simp only [Tryd.ntmps33, List.size_toArray, List.length_cons, List.length_nil, Nat.reduceAdd, Nat.reduceSub, Array.replicate_succ, Array.replicate_zero, List.push_toArray, List.append_toArray, List.nil_append, List.cons_append]
  gi_wp2
  gi_loopw [4] (fun i wr => i = .int .i64 0 ∧ J [] wr) (fun i _ => 0)
  case atStart => exact ⟨rfl, h0⟩
  case round =>
    obtain ⟨rfl, hJk⟩ := hrel
    have c1 := cell_old (hJB _ _ hJk) hb1
    gi_wp2
    go_end0
    exact ⟨⟨_, rfl⟩, _, rfl, hJk⟩
theorem collect_none (B1 B2 : Nat) (A : Option Addr) (c : Nat) (w : World) (hb1 : w.cell? ⟨B1, 0, none⟩ = some (.slice A 0 c)) :
    Calls Tryd.prog 19 #[.func (.func 33) #[] #[.pointer (some ⟨B1, 0, none⟩), .pointer (some ⟨B2, 0, none⟩)]] w fun e w' => e = .returned (.slice none 0 0) ∧ Below w.heap.size w w' := by
  refine callsIn_wide.1 ((collect_in Fence.wide 4 trivial trivial rfl (by omega) 33 _ trivial (enters_of Tryd.func33 (by kernel_rfl) rfl) _ 0 (by simp [maxLen]) (by omega) w (chunk0_gives Fence.wide (4 - 1 - 1) trivial rfl (by omega) B1 B2 A c w hb1)).mono ?_)
  rintro e w' ⟨v, ss, rfl, hS, hrow, hnil, hb⟩
  exact ⟨by rw [hnil.2 hS], hb⟩
end Go.Proofs.YtnpnpgihbgohgaaDoor
namespace Go.Proofs.YtnpnpgihbgohgaaDoor
open Go.RowKit Go.Proofs.YtnpnpgihbgohgaaDoorW.PrintWords Go.Proofs.YtnpnpgihbgohgaaDoorW.PrintLast Go.Proofs.YtnpnpgihbgohgaaDoorW.PrintMore
set_option linter.unusedVariables false
set_option linter.unusedSimpArgs false

/-- The k-th part of bytes. -/
def chunk (xs : List UInt8) (k : Nat) : List UInt8 := (xs.drop (32 * k)).take 32
theorem chunk_len (xs : List UInt8) (k : Nat) : (chunk xs k).length = min 32 (xs.length - 32 * k) := by
  simp [chunk]
theorem chunk_gt (xs : List UInt8) (k j : Nat) (hj : j < (chunk xs k).length) : gt (chunk xs k) j = gt xs (32 * k + j) := by
  rw [chunk_len] at hj
  rw [gt_eq _ _ (by rw [chunk_len]; exact hj), gt_eq _ _ (by omega)]
  simp [chunk]
theorem chunk_C {w : World} {ad : Addr} {xs : List UInt8} (h : byte.C w (some ad) xs.length xs) (k : Nat) : byte.C w (some (ad.add (32 * k))) (chunk xs k).length (chunk xs k) := by
  refine ⟨rfl, by rw [chunk_len]; omega, fun hn => ⟨_, rfl, fun j p hj => ?_⟩⟩
  obtain ⟨hjl, hp⟩ := List.getElem?_eq_some_iff.1 hj
  have hl := hjl
  rw [chunk_len] at hl
  obtain ⟨_, e, hc⟩ := byte_at h (k := 32 * k + j) (by omega)
  cases e
  rw [← chunk_gt xs k j hjl, gt_eq _ _ hjl, hp] at hc
  refine ⟨[.int .u8 (p.toNat : Int)], rfl, rfl, fun i u hu => ?_⟩
  rcases i with _ | i
  · simp only [List.getElem?_cons_zero, Option.some.injEq] at hu
    subst hu
    rw [Deep.add_add]
    have : j * byte.sz + 0 = j := by show j * 1 + 0 = j; omega
    rw [this]
    exact hc
  · simp at hu
/-- The parts, as the loop over them reads them. -/
theorem part_at {w : World} {base M : Nat} {v : Value} {ad : Addr} {m : Nat} (h : w.ownsRow base 45 1 v M ((partsTo ad m M).map encP)) (hM : 0 < M) : ∃ g cap, v = .slice (some ⟨g, 0, none⟩) M cap ∧ base ≤ g ∧ ∀ k, k < M → w.cell? ((⟨g, 0, none⟩ : Addr).add k) = some (.slice (some (ad.add (32 * k))) (min 32 (m - 32 * k)) (min 32 (m - 32 * k))) := by
  have h' := h
  rcases h.2 with ⟨_, h0⟩ | ⟨g, cap, cur, rfl, hg, _⟩
  · omega
  · refine ⟨g, cap, rfl, hg, fun k hk => ?_⟩
    exact h'.cells (g := g) (by simp [Value.ownBlock]) k _ (by simp [partsTo, partAt, encP, hk])
def manyN (n : Nat) : Nat := (n + 31) / 32
/-- A list of the parts of bytes, in block g2; the bytes lay at w0. -/
def PartsB (w0 w : World) (g2 : Nat) (xs : List UInt8) : Prop := ∀ k, k < manyN xs.length → ∃ Ak ck, w.cell? ⟨g2, k, none⟩ = some (.slice Ak (chunk xs k).length ck) ∧ byte.C w0 Ak (chunk xs k).length (chunk xs k)
theorem PartsB.kept {w0 w w1 : World} {g2 : Nat} {xs : List UInt8} (h : PartsB w0 w g2 xs) (he : w1.heap[g2]? = w.heap[g2]?) : PartsB w0 w1 g2 xs := fun k hk => by
  obtain ⟨Ak, ck, h1, h2⟩ := h k hk
  exact ⟨Ak, ck, (World.cell?_of_block (a := ⟨g2, k, none⟩) he).trans h1, h2⟩
theorem collect_all (w0 : World) (X0 B1 B2 : Nat) (A : Option Addr) (xs : List UInt8) (c : Nat) (hmc : xs.length ≤ c) (hm : xs.length ≤ 1000000000) (hC : byte.C w0 A xs.length xs) (w : World) (hX : X0 < w.heap.size)
    (hb1 : w.cell? ⟨B1, 0, none⟩ = some (.slice A xs.length c)) (hb2 : w.cell? ⟨B2, 0, none⟩ = some (.int .i64 32)) :
    Calls Tryd.prog 19 #[.func (.func 33) #[] #[.pointer (some ⟨B1, 0, none⟩), .pointer (some ⟨B2, 0, none⟩)]] w fun e w' =>
      ∃ Av cv g2, e = .returned (.slice Av (manyN xs.length) cv) ∧ (0 < manyN xs.length → Av = some ⟨g2, 0, none⟩) ∧ (g2 = X0 ∨ w.heap.size ≤ g2) ∧ g2 < w'.heap.size ∧ PartsB w0 w' g2 xs ∧ Below w.heap.size w w' := by
  by_cases h0 : xs.length = 0
  · rw [h0] at hb1
    refine (collect_none B1 B2 A c w hb1).mono ?_
    rintro e w' ⟨rfl, hb⟩
    refine ⟨none, 0, X0, by rw [h0]; rfl, fun hk => ?_, .inl rfl, Nat.lt_of_lt_of_le hX hb.size, fun k hk => ?_, hb⟩
    · rw [h0] at hk
      exact absurd hk (by simp [manyN])
    · rw [h0] at hk
      exact absurd hk (by simp [manyN])
  · obtain ⟨ad, rfl, _⟩ := byte_at hC (k := 0) (by omega)
    refine (collect_parts B1 B2 ad xs.length c hmc hm w hb1 hb2).mono ?_
    rintro e w' ⟨v, rfl, hrow, hb⟩
    have hM : 0 < (xs.length + 31) / 32 := by omega
    obtain ⟨g, cap, rfl, hg, hcell⟩ := part_at hrow hM
    refine ⟨_, _, g, rfl, fun _ => rfl, .inr hg, hrow.lt g (by simp [Value.ownBlock]) |>.2, fun k hk => ⟨some (ad.add (32 * k)), min 32 (xs.length - 32 * k), ?_, chunk_C hC k⟩, hb⟩
    have := hcell k hk
    rw [add_plain] at this
    rw [chunk_len]
    exact this
end Go.Proofs.YtnpnpgihbgohgaaDoor
