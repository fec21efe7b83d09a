/-
  WholeTooLong: the table of moments: a new one, one more.
-/
import Derived.Test.YtjoafafjpmfjbaaGreatDoorProg
import Derived.Below
import Derived.Deep.Draws
import Derived.Deep.AppendLies
import Derived.Maps.AppendAt
import Derived.OwnWalk
import Derived.Laws.BytesArg
import Derived.Laws.MakeOwn
import Derived.Laws.OwnMore
import Derived.Deep.OwnRows
import Derived.Tactics
import Derived.Lib.ConvBytes
import Derived.Laws.Slices
import Derived.WalkKit
import Derived.KernelRfl
import Derived.RowKit3
import Derived.Deep.LoopGhost
import Derived.Deep.QuietTactic
import Derived.BigQuiet
import Derived.WideLaws
import Derived.Deep.DeepCutAuto
import Derived.Deep.CutBlock
import Derived.Deep.RegionHeld3
import Derived.Laws.Rows
import Derived.Lib.AppendStr
import Derived.ArgAppend
import Derived.Laws.IdiomCopy
import Derived.OrdersHeld
import Derived.Laws.BitsLemmas
import Derived.RowKit
import Derived.Lib.Hide
import Derived.WalkSpells
import Derived.WalkLawsBesides
import Derived.Test.YtjoafafjpmfjbaaGreatDoorWWords
import Derived.Test.YtjoafafjpmfjbaaGreatDoorWLast
import Derived.Test.YtjoafafjpmfjbaaGreatDoorWMore
import Derived.RegionTactic
import Derived.BigRegion
import Derived.Deep.RegionWith
import Derived.RangeFuncNested
/-
  Kinds of the Go types that the proofs of this seat use: bytes, what was seen of a file, a version, a file: how their cells read. Plain definitions and lemmas.
-/
namespace Go.Proofs.YtjoafafjpmfjbaaGreatDoor
open Go.RowKit Go.Proofs.YtjoafafjpmfjbaaGreatDoorW.PrintWords Go.Proofs.YtjoafafjpmfjbaaGreatDoorW.PrintLast Go.Proofs.YtjoafafjpmfjbaaGreatDoorW.PrintMore

/-- A byte. -/
def byte : Kd UInt8 := Kd.scalar (fun x => .int .u8 (x.toNat : Int)) (fun _ => rfl)
/-- The element at a place; a default beyond the end. -/
def gt {α : Type} [Inhabited α] (xs : List α) (k : Nat) : α := xs.getD k default
theorem gt_eq {α : Type} [Inhabited α] (xs : List α) (k : Nat) (h : k < xs.length) : gt xs k = xs[k] := by simp [gt, h]
theorem gt_some {α : Type} [Inhabited α] (xs : List α) (k : Nat) (h : k < xs.length) : xs[k]? = some (gt xs k) := by simp [gt, h]

/-- An element of a row that is read, by a natural number. -/
theorem C_at {α : Type} [Inhabited α] {d : Kd α} {w : World} {A : Option Addr} {n : Nat} {xs : List α} (h : d.C w A n xs) {k : Nat} (hk : k < n) :
    ∃ ad cs, A = some ad ∧ d.K w (gt xs k) cs ∧ ∀ j u, cs[j]? = some u → w.cell? (ad.add (k * d.sz + j)) = some u := by
  obtain ⟨ad, c, e, _, hK, hc⟩ := Kd.C_get h default (k : Int) (by omega) (by omega)
  exact ⟨ad, c, e, by simpa [gt] using hK, by simpa using hc⟩

theorem byte_at {w : World} {A : Option Addr} {n : Nat} {xs : List UInt8} (h : byte.C w A n xs) {k : Nat} (hk : k < n) :
    ∃ ad, A = some ad ∧ w.cell? (ad.add k) = some (.int .u8 ((gt xs k).toNat : Int)) := by
  obtain ⟨ad, cs, e, hK, hc⟩ := C_at h hk
  have hK' : cs = [.int .u8 ((gt xs k).toNat : Int)] := hK
  subst hK'
  have h0 : w.cell? (ad.add (k * 1 + 0)) = _ := hc 0 _ rfl
  exact ⟨ad, e, by rwa [Nat.mul_one, Nat.add_zero] at h0⟩
theorem int_at {kd : IntKind} {w : World} {A : Option Addr} {n : Nat} {xs : List Int} (h : (Kd.int kd).C w A n xs) {k : Nat} (hk : k < n) :
    ∃ ad, A = some ad ∧ w.cell? (ad.add k) = some (.int kd (gt xs k)) := by
  obtain ⟨ad, cs, e, hK, hc⟩ := C_at h hk
  have hK' : cs = [.int kd (gt xs k)] := hK
  subst hK'
  have h0 : w.cell? (ad.add (k * 1 + 0)) = _ := hc 0 _ rfl
  exact ⟨ad, e, by rwa [Nat.mul_one, Nat.add_zero] at h0⟩

/-- A block known whole, read as a row. -/
theorem C_block {α : Type} {d : Kd α} {w : World} {g : Nat} {cs : Array Value} {t : TypeId} {fr : Nat × Nat} {xs : List α} (hb : w.heap[g]? = some (.cells cs t fr)) (hr : Reps (d.K w) d.sz xs cs.toList) (hm : xs.length ≤ 9223372036854775807) :
    d.C w (some ⟨g, 0, none⟩) xs.length xs := by
  refine ⟨rfl, hm, fun hn => ⟨_, rfl, fun j p hj => ?_⟩⟩
  have hjl := (List.getElem?_eq_some_iff.1 hj).1
  have h1 : j * d.sz + d.sz ≤ cs.toList.length := by rw [hr.1, ← Nat.succ_mul]; exact Nat.mul_le_mul_right _ hjl
  refine ⟨(cs.toList.drop (j * d.sz)).take d.sz, by rw [List.length_take, List.length_drop]; omega, hr.2 j p hj, fun i u hu => ?_⟩
  rw [add_plain, cell_of_row w g _ cs t fr hb, ← Array.getElem?_toList]
  rw [List.getElem?_take] at hu
  split at hu
  · rwa [List.getElem?_drop] at hu
  · cases hu
/-- A cell of an elder world. -/
theorem cell_old {w w1 : World} (hb : Below w.heap.size w w1) {a : Addr} {v : Value} (h : w.cell? a = some v) : w1.cell? a = some v := pw_cell_below hb h
theorem byte_inj {x y : UInt8} (h : (x.toNat : Int) = (y.toNat : Int)) : x = y := UInt8.toNat_inj.mp (by omega)

end Go.Proofs.YtjoafafjpmfjbaaGreatDoor
/-
  WholeTooLong: the table of moments: kinds, and where a number stands.
-/
namespace Go.Proofs.YtjoafafjpmfjbaaGreatDoor
open Go.RowKit Go.Proofs.YtjoafafjpmfjbaaGreatDoorW.PrintWords Go.Proofs.YtjoafafjpmfjbaaGreatDoorW.PrintLast Go.Proofs.YtjoafafjpmfjbaaGreatDoorW.PrintMore
set_option linter.unusedVariables false
set_option linter.unusedSimpArgs false

/-- A moment: its number, its minute, whether it is out. -/
structure It where
  num : Int
  min : Int
  out : Bool
  deriving Inhabited
def kItem : Kd It := Kd.iso (Kd.pair (Kd.int .u64) (Kd.pair (Kd.int .i64) Kd.bool)) (fun x : It => (x.num, x.min, x.out))
theorem kItem_open {w : World} {x : It} {cs : List Value} (h : kItem.K w x cs) : cs = [.int .u64 x.num, .int .i64 x.min, .bool x.out] := by
  obtain ⟨_, _, rfl, rfl, ⟨_, _, rfl, rfl, rfl⟩⟩ := h
  rfl
theorem kItem_mk (w : World) (base : Nat) (ok : Nat → Prop) (x : It) : kItem.M w base ok x [.int .u64 x.num, .int .i64 x.min, .bool x.out] := ⟨[.int .u64 x.num], [.int .i64 x.min, .bool x.out], rfl, rfl, ⟨[.int .i64 x.min], [.bool x.out], rfl, rfl, rfl⟩⟩
theorem item_at {w : World} {A : Option Addr} {n : Nat} {xs : List It} (h : kItem.C w A n xs) {k : Nat} (hk : k < n) : ∃ ad, A = some ad ∧ w.cell? (ad.add (k * 3)) = some (.int .u64 (gt xs k).num) ∧ w.cell? ⟨(ad.add (k * 3)).block, (ad.add (k * 3)).off + 1, none⟩ = some (.int .i64 (gt xs k).min) ∧
    w.cell? ⟨(ad.add (k * 3)).block, (ad.add (k * 3)).off + 2, none⟩ = some (.bool (gt xs k).out) := by
  obtain ⟨ad, cs, e, hK, hc0⟩ := C_at h hk
  have hc : ∀ j u, cs[j]? = some u → w.cell? (ad.add (k * 3 + j)) = some u := hc0
  have hK' := kItem_open hK
  subst hK'
  exact ⟨ad, e, hc 0 _ rfl, by rw [← add_field _ _ 1 (by omega)]; exact hc 1 _ rfl, by rw [← add_field _ _ 2 (by omega)]; exact hc 2 _ rfl⟩
/-- The moments at these minutes, numbered from 1 on. -/
def items (ms : List Int) : List It := (List.range ms.length).map (fun i : Nat => ⟨(i : Int) + 1, gt ms i, false⟩)
theorem items_len (ms : List Int) : (items ms).length = ms.length := by simp [items]
theorem items_gt (ms : List Int) (k : Nat) (hk : k < ms.length) : gt (items ms) k = ⟨(k : Int) + 1, gt ms k, false⟩ := by
  rw [gt_eq _ _ (by rw [items_len]; exact hk)]
  simp [items]
theorem items_snoc (ms : List Int) (m : Int) : items (ms ++ [m]) = items ms ++ [⟨(ms.length : Int) + 1, m, false⟩] := by
  unfold items
  rw [List.length_append, List.length_singleton, List.range_succ, List.map_append]
  congr 1
  · apply List.map_congr_left
    intro i hi
    rw [List.mem_range] at hi
    rw [gt_eq _ _ (by simp; omega), gt_eq _ _ hi, List.getElem_append_left hi]
  · simp [gt]
/-- A table that lies in memory. -/
structure TabAt (w : World) (g : Nat) (ms : List Int) (A : Option Addr) (n c : Nat) : Prop where
  box : w.heap[g]? = some (.cells #[.slice A n c] 60 (0, 0))
  row : kItem.C w A n (items ms)
  len : ms.length = n
  few : n ≤ 1000
theorem TabAt.below {w w' : World} {g : Nat} {ms : List Int} {A : Option Addr} {n c : Nat} (h : TabAt w g ms A n c) (hb : Below w.heap.size w w') : TabAt w' g ms A n c := ⟨blk_below h.box hb, Kd.C_below h.row hb, h.len, h.few⟩
theorem cmp_any (k m p : Int) (o : Bool) (r : Int) (hr : (if k < p then -1 else if p < k then 1 else 0) = r) (w : World) :
    Calls Tryz.prog 60 #[.agg #[.int .u64 k, .int .i64 m, .bool o], .int .u64 p] w fun e w' => e = .returned (.int .i64 r) ∧ Below w.heap.size w w' := by
  have HB := Aside0.mk (below_alloc (Below.refl w.heap.size w) (.cells #[.int .u64 k, .int .i64 m, .bool o] 62))
  by_cases h1 : k < p
  · rw [if_pos h1] at hr
    subst hr
    go_enter Tryz.func60, Tryz.ntmps60
    go_wp2_with fail
    go_ret
    exact ⟨rfl, HB.out⟩
  · rw [if_neg h1] at hr
    by_cases h2 : p < k
    · rw [if_pos h2] at hr
      subst hr
      go_enter Tryz.func60, Tryz.ntmps60
      go_wp2_with fail
      go_ret
      exact ⟨rfl, HB.out⟩
    · rw [if_neg h2] at hr
      subst hr
      go_enter Tryz.func60, Tryz.ntmps60
      go_wp2_with fail
      go_ret
      exact ⟨rfl, HB.out⟩
set_option maxHeartbeats 1600000 in
theorem bs_any (A : Option Addr) (ms : List Int) (n c p : Nat) (hn : ms.length = n) (hp : p < n) (h1000 : n ≤ 1000) (w : World) (h : kItem.C w A n (items ms)) :
    Calls Tryz.prog 59 #[.slice A n c, .int .u64 ((p : Int) + 1), .func (.func 60) #[] #[]] w fun e w' => e = .returned (.tuple #[.int .i64 p, .bool true]) ∧ Below w.heap.size w w' := by
  have H := Aside0.mk h
  have HN := Aside0.mk hn
  clear h hn
  go_enter Tryz.func59, Tryz.ntmps59
  go_wp2_with fail
  go_loopg [9, 10, 11] n (fun gk i j _ wr => ∃ a b : Nat, a ≤ p ∧ p ≤ b ∧ b ≤ n ∧ Aside0 (gk = b - a) ∧ i = .int .i64 a ∧ j = .int .i64 b ∧ Aside0 (Below w.heap.size w wr))
  case atStart => exact ⟨0, n, Nat.zero_le _, by omega, Nat.le_refl _, ⟨rfl⟩, rfl, rfl, ⟨Below.refl _ _⟩⟩
  case round =>
    obtain ⟨a, b, ha, hb, hbn, HGK, rfl, rfl, HB⟩ := hrel
    by_cases hlt : a < b
    · have hab : (a : Int) < (b : Int) := by omega
      obtain ⟨h, hh⟩ : ∃ h, h = (a + b) / 2 := ⟨_, rfl⟩
      have hhi : ((a : Int) + (b : Int)) / 2 = (h : Int) := by omega
      have hah : a ≤ h := by omega
      have hhb : h < b := by omega
      obtain ⟨ad, hA, q0, q1, q2⟩ := item_at (Kd.C_below H.out HB.out) (k := h) (by omega)
      rw [items_gt ms h (by rw [HN.out]; omega)] at q0 q1 q2
      have hhn : (h : Int) < (n : Int) := by omega
      subst hA
      clear hh
      by_cases hc : h < p
      · go_wp2_with (go_at_call 60; refine (cmp_any ((h : Int) + 1) (gt ms h) ((p : Int) + 1) false (-1) (by rw [if_pos (by omega)]) _).mono ?_; rintro e w1 ⟨rfl, hb1⟩; have HB1 := Aside0.mk (below_step HB.out hb1); clear hb1)
        go_roundg (b - (h + 1))
        case measure => have := HGK.out; omega
        case rel => exact ⟨h + 1, b, by omega, hb, hbn, ⟨rfl⟩, by go_num, rfl, HB1⟩
      · obtain ⟨r, hr⟩ : ∃ r, (if ((h : Int) + 1) < ((p : Int) + 1) then (-1 : Int) else if ((p : Int) + 1) < ((h : Int) + 1) then 1 else 0) = r := ⟨_, rfl⟩
        have hr0 : ¬ r < 0 := by rw [← hr, if_neg (by omega)]; split <;> omega
        go_wp2_with (go_at_call 60; refine (cmp_any ((h : Int) + 1) (gt ms h) ((p : Int) + 1) false r hr _).mono ?_; rintro e w1 ⟨rfl, hb1⟩; have HB1 := Aside0.mk (below_step HB.out hb1); clear hb1)
        go_roundg (h - a)
        case measure => have := HGK.out; omega
        case rel => exact ⟨a, h, ha, by omega, by omega, ⟨rfl⟩, rfl, by go_num, HB1⟩
    · have hab : ¬ (a : Int) < (b : Int) := by omega
      obtain rfl : a = p := by omega
      obtain ⟨ad, hA, q0, q1, q2⟩ := item_at (Kd.C_below H.out HB.out) (k := a) (by omega)
      rw [items_gt ms a (by rw [HN.out]; omega)] at q0 q1 q2
      have hpn : (a : Int) < (n : Int) := by omega
      subst hA
      go_wp2_with (go_at_call 60; refine (cmp_any ((a : Int) + 1) (gt ms a) ((a : Int) + 1) false 0 (by rw [if_neg (by omega), if_neg (by omega)]) _).mono ?_; rintro e w1 ⟨rfl, hb1⟩; have HB1 := Aside0.mk (below_step HB.out hb1); clear hb1)
      go_ret2
      exact ⟨rfl, HB1.out⟩
set_option maxHeartbeats 800000 in
theorem find_tab (g : Nat) (ms : List Int) (A : Option Addr) (n c p : Nat) (hp : p < n) (w : World) (h : TabAt w g ms A n c) :
    Calls Tryz.prog 37 #[.pointer (some ⟨g, 0, none⟩), .int .u64 ((p : Int) + 1)] w fun e w' => e = .returned (.tuple #[.int .i64 p, .bool true]) ∧ Below w.heap.size w w' := by
  have HC := Aside0.mk (bs_any A ms n c p h.len hp h.few w h.row)
  have b0 := blk_cell h.box 0
  simp only [List.getElem?_toArray, List.getElem?_cons_zero] at b0
  clear h
  go_enter Tryz.func37, Tryz.ntmps37
  go_wp2_with (go_at_call 59; refine HC.out.mono ?_; rintro e w1 ⟨rfl, hb⟩; have HB := Aside0.mk hb; clear hb)
  go_ret2
  exact ⟨rfl, HB.out⟩
theorem min_tab (g : Nat) (ms : List Int) (A : Option Addr) (n c p : Nat) (hp : p < n) (w : World) (h : TabAt w g ms A n c) :
    Calls Tryz.prog 17 #[.pointer (some ⟨g, 0, none⟩), .int .u64 ((p : Int) + 1)] w fun e w' => e = .returned (.tuple #[.int .i64 (gt ms p), .bool true]) ∧ Below w.heap.size w w' := by
  have HC := Aside0.mk (find_tab g ms A n c p hp w h)
  have H := Aside0.mk h
  have hpn : (p : Int) < (n : Int) := by omega
  clear h
  go_enter Tryz.func17, Tryz.ntmps17
  go_wp2_with (go_at_call 37; refine HC.out.mono ?_; rintro e w1 ⟨rfl, hb⟩; have HB := Aside0.mk hb; have h1 := H.out.below hb; have b0 := blk_cell h1.box 0; simp only [List.getElem?_toArray, List.getElem?_cons_zero] at b0; obtain ⟨ad, hA, q0, q1, q2⟩ := item_at h1.row hp; rw [items_gt ms p (by rw [H.out.len]; exact hp)] at q0 q1 q2; subst hA; clear hb h1)
  go_ret2
  exact ⟨rfl, HB.out⟩
theorem out_tab (g : Nat) (ms : List Int) (A : Option Addr) (n c p : Nat) (hp : p < n) (w : World) (h : TabAt w g ms A n c) :
    Calls Tryz.prog 18 #[.pointer (some ⟨g, 0, none⟩), .int .u64 ((p : Int) + 1)] w fun e w' => e = .returned (.bool false) ∧ Below w.heap.size w w' := by
  have HC := Aside0.mk (find_tab g ms A n c p hp w h)
  have H := Aside0.mk h
  have hpn : (p : Int) < (n : Int) := by omega
  clear h
  go_enter Tryz.func18, Tryz.ntmps18
  go_wp2_with (go_at_call 37; refine HC.out.mono ?_; rintro e w1 ⟨rfl, hb⟩; have HB := Aside0.mk hb; have h1 := H.out.below hb; have b0 := blk_cell h1.box 0; simp only [List.getElem?_toArray, List.getElem?_cons_zero] at b0; obtain ⟨ad, hA, q0, q1, q2⟩ := item_at h1.row hp; rw [items_gt ms p (by rw [H.out.len]; exact hp)] at q0 q1 q2; subst hA; clear hb h1)
  go_ret
  exact ⟨rfl, HB.out⟩
theorem len_tab (g : Nat) (ms : List Int) (A : Option Addr) (n c : Nat) (w : World) (h : TabAt w g ms A n c) :
    Calls Tryz.prog 38 #[.pointer (some ⟨g, 0, none⟩)] w fun e w' => e = .returned (.int .i64 n) ∧ w = w' := by
  have b0 := blk_cell h.box 0
  simp only [List.getElem?_toArray, List.getElem?_cons_zero] at b0
  go_enter Tryz.func38, Tryz.ntmps38
  go_wp2_with fail
  go_ret
  exact ⟨rfl, rfl⟩
theorem last_tab (g : Nat) (ms : List Int) (A : Option Addr) (n c : Nat) (hn : 0 < n) (w : World) (h : TabAt w g ms A n c) :
    Calls Tryz.prog 19 #[.pointer (some ⟨g, 0, none⟩)] w fun e w' => e = .returned (.tuple #[.int .u64 n, .bool true]) ∧ Below w.heap.size w w' := by
  have HC := Aside0.mk (len_tab g ms A n c w h)
  have b0 := blk_cell h.box 0
  simp only [List.getElem?_toArray, List.getElem?_cons_zero] at b0
  obtain ⟨k, hk⟩ : ∃ k, n = k + 1 := ⟨n - 1, by omega⟩
  obtain ⟨ad, hA, q0, q1, q2⟩ := item_at h.row (k := k) (by omega)
  rw [items_gt ms k (by rw [h.len]; omega)] at q0 q1 q2
  have hn1000 := h.few
  subst hA
  have i0 : (n : Int) - 1 = (k : Int) := by omega
  have i1 : ((n : Int) == 0) = false := by simp; omega
  have i2 : (k : Int) < (n : Int) := by omega
  have hkn : (k : Int) + 1 = (n : Int) := by omega
  simp only [hkn] at q0
  clear h hk
  go_enter Tryz.func19, Tryz.ntmps19
  go_wp2_with (go_at_call 38; refine HC.out.mono ?_; rintro e w1 ⟨rfl, rfl⟩)
  go_quiet (fail)
  go_wp2_with fail
  go_ret2
  exact ⟨rfl, pw_below_drewN (Below.refl _ _) _⟩
end Go.Proofs.YtjoafafjpmfjbaaGreatDoor
/-
  WholeTooLong: the table of moments: the next one, windows and gaps, one more.
-/
namespace Go.Proofs.YtjoafafjpmfjbaaGreatDoor
open Go.RowKit Go.Proofs.YtjoafafjpmfjbaaGreatDoorW.PrintWords Go.Proofs.YtjoafafjpmfjbaaGreatDoorW.PrintLast Go.Proofs.YtjoafafjpmfjbaaGreatDoorW.PrintMore
set_option linter.unusedVariables false
set_option linter.unusedSimpArgs false

theorem results_4 {fn : Func} {t u v x : Tmp} (h : fn.results = #[.tmp t, .tmp u, .tmp v, .tmp x]) (tmps : Array Value) (P : Program) (w : World) :
    (results fn tmps).run P w = .ok (.tuple #[tmps.getD t undef, tmps.getD u undef, tmps.getD v undef, tmps.getD x undef]) w := by
  simp [results, h]
/-- What stands behind the p-th moment: the next one's number. -/
theorem next_tab (g : Nat) (ms : List Int) (A : Option Addr) (n c p : Nat) (hp : p < n) (w : World) (h : TabAt w g ms A n c) :
    Calls Tryz.prog 68 #[.pointer (some ⟨g, 0, none⟩), .int .u64 ((p : Int) + 1)] w fun e w' => e = .returned (if p + 1 < n then .tuple #[.int .u64 ((p : Int) + 1 + 1), .bool true] else .tuple #[.int .u64 0, .bool false]) ∧ Below w.heap.size w w' := by
  have HC := Aside0.mk (find_tab g ms A n c p hp w h)
  have H := Aside0.mk h
  have h1000 := h.few
  clear h
  by_cases hl : p + 1 < n
  · rw [if_pos hl]
    have hpn : (p : Int) + 1 < (n : Int) := by omega
    go_enter Tryz.func68, Tryz.ntmps68
    go_upto_region 2 with (go_at_call 37; refine HC.out.mono ?_; rintro e w1 ⟨rfl, hb⟩; have HB := Aside0.mk hb; clear hb)
    have h1 := H.out.below HB.out
    have b0 := blk_cell h1.box 0
    simp only [List.getElem?_toArray, List.getElem?_cons_zero] at b0
    have H1 := Aside0.mk h1
    obtain ⟨ad, hA, q0, q1, q2⟩ := item_at h1.row hl
    rw [items_gt ms (p + 1) (by rw [H.out.len]; exact hl)] at q0 q1 q2
    have e1 : ((p + 1 : Nat) : Int) = (p : Int) + 1 := by omega
    simp only [e1] at q0
    have hnat : ((p : Int) + 1).toNat = p + 1 := by omega
    subst hA
    clear h1 e1
    go_wp2_with (go_at_call 38; refine (len_tab g ms _ n c _ H1.out).mono ?_; rintro e w2 ⟨rfl, rfl⟩)
    go_ret2
    exact ⟨rfl, HB.out⟩
  · rw [if_neg hl]
    have hpn : (n : Int) ≤ (p : Int) + 1 := by omega
    go_enter Tryz.func68, Tryz.ntmps68
    go_wp2_with (first | (go_at_call 37; refine HC.out.mono ?_; rintro e w1 ⟨rfl, hb⟩; have HB := Aside0.mk hb; have H1 := Aside0.mk (H.out.below hb); clear hb) | (go_at_call 38; refine (len_tab g ms _ n c _ H1.out).mono ?_; rintro e w2 ⟨rfl, rfl⟩))
    go_ret2
    exact ⟨rfl, HB.out⟩
/-- A moment's minute, and the next one's. -/
def aheadV (ms : List Int) (n p : Nat) : Value := if p + 1 < n then .tuple #[.int .i64 (gt ms p), .int .i64 (gt ms (p + 1)), .bool true, .bool false] else .tuple #[.int .i64 (gt ms p), .int .i64 0, .bool true, .bool true]
set_option maxHeartbeats 800000 in
theorem ahead_tab (g : Nat) (ms : List Int) (A : Option Addr) (n c p : Nat) (hp : p < n) (w : World) (h : TabAt w g ms A n c) :
    Calls Tryz.prog 58 #[.pointer (some ⟨g, 0, none⟩), .int .u64 ((p : Int) + 1)] w fun e w' => e = .returned (aheadV ms n p) ∧ Below w.heap.size w w' := by
  have H := Aside0.mk h
  have HM := Aside0.mk (fun (W : World) (hb : Below w.heap.size w W) => min_tab g ms A n c p hp W (h.below hb))
  have HN := Aside0.mk (fun (W : World) (hb : Below w.heap.size w W) => next_tab g ms A n c p hp W (h.below hb))
  unfold aheadV
  by_cases hl : p + 1 < n
  · rw [if_pos hl]
    have HM2 := Aside0.mk (fun (W : World) (hb : Below w.heap.size w W) => min_tab g ms A n c (p + 1) hl W (h.below hb))
    rw [if_pos hl] at HN
    have e1 : ((p + 1 : Nat) : Int) = (p : Int) + 1 := by omega
    simp only [e1] at HM2
    obtain ⟨x, hx⟩ : ∃ x, x = gt ms p := ⟨_, rfl⟩
    obtain ⟨y, hy⟩ : ∃ y, y = gt ms (p + 1) := ⟨_, rfl⟩
    rw [← hx] at HM ⊢
    rw [← hy] at HM2 ⊢
    clear h hx hy e1
    go_enter Tryz.func58, Tryz.ntmps58
    go_wp2_with (first | (go_at_call 68; refine (HN.out _ HB1.out).mono ?_; rintro e w2 ⟨rfl, hb⟩; have HB2 := Aside0.mk (below_step HB1.out hb); clear hb) | (go_at_call 17; with_reducible refine (HM.out w (Below.refl _ _)).mono ?_; rintro e w1 ⟨rfl, hb⟩; have HB1 := Aside0.mk hb; clear hb) | (go_at_call 17; with_reducible refine (HM2.out w2 HB2.out).mono ?_; rintro e w3 ⟨rfl, hb⟩; have HB3 := Aside0.mk (below_step HB2.out hb); clear hb))
    refine bodyPost_ret (results_4 rfl _ _ _) rfl ?_
    exact ⟨rfl, HB3.out⟩
  · rw [if_neg hl]
    rw [if_neg hl] at HN
    obtain ⟨x, hx⟩ : ∃ x, x = gt ms p := ⟨_, rfl⟩
    rw [← hx] at HM ⊢
    clear h hx
    go_enter Tryz.func58, Tryz.ntmps58
    go_wp2_with (first | (go_at_call 68; refine (HN.out _ HB1.out).mono ?_; rintro e w2 ⟨rfl, hb⟩; have HB2 := Aside0.mk (below_step HB1.out hb); clear hb) | (go_at_call 17; with_reducible refine (HM.out w (Below.refl _ _)).mono ?_; rintro e w1 ⟨rfl, hb⟩; have HB1 := Aside0.mk hb; clear hb))
    refine bodyPost_ret (results_4 rfl _ _ _) rfl ?_
    exact ⟨rfl, HB2.out⟩
end Go.Proofs.YtjoafafjpmfjbaaGreatDoor
/-
  WholeTooLong: the table of moments: the last of its window, none soon behind, a new one, one more.
-/
namespace Go.Proofs.YtjoafafjpmfjbaaGreatDoor
open Go.RowKit Go.Proofs.YtjoafafjpmfjbaaGreatDoorW.PrintWords Go.Proofs.YtjoafafjpmfjbaaGreatDoorW.PrintLast Go.Proofs.YtjoafafjpmfjbaaGreatDoorW.PrintMore
set_option linter.unusedVariables false
set_option linter.unusedSimpArgs false

/-- The last one of its window. -/
def clo (ms : List Int) (n p : Nat) (W : Int) : Bool := if p + 1 < n then !((gt ms p).tdiv W == (gt ms (p + 1)).tdiv W) else true
/-- None comes so soon. -/
def qui (ms : List Int) (n p : Nat) (W : Int) : Bool := if p + 1 < n then decide (W < gt ms (p + 1) - gt ms p) else true
theorem gt_mem {ms : List Int} {k : Nat} (h : k < ms.length) : gt ms k ∈ ms := by rw [gt_eq _ _ h]; exact List.getElem_mem h
set_option maxHeartbeats 800000 in
theorem closes_tab (g : Nat) (ms : List Int) (A : Option Addr) (n c p : Nat) (hp : p < n) (W : Int) (hW : 1 ≤ W) (hm : ∀ m ∈ ms, 0 ≤ m ∧ m ≤ 1073741824) (w : World) (h : TabAt w g ms A n c) :
    Calls Tryz.prog 32 #[.pointer (some ⟨g, 0, none⟩), .int .u64 ((p : Int) + 1), .int .i64 W] w fun e w' => e = .returned (.bool (clo ms n p W)) ∧ Below w.heap.size w w' := by
  have HC := Aside0.mk (ahead_tab g ms A n c p hp w h)
  have hlen := h.len
  unfold aheadV at HC
  unfold clo
  by_cases hl : p + 1 < n
  · rw [if_pos hl] at HC ⊢
    have hx := hm _ (gt_mem (ms := ms) (k := p) (by omega))
    have hy := hm _ (gt_mem (ms := ms) (k := p + 1) (by omega))
    generalize gt ms p = x at *
    generalize gt ms (p + 1) = y at *
    obtain ⟨q, hq⟩ : ∃ q, x.tdiv W = q := ⟨_, rfl⟩
    obtain ⟨r, hr⟩ : ∃ r, y.tdiv W = r := ⟨_, rfl⟩
    have hq0 : 0 ≤ q := by rw [← hq]; exact Int.tdiv_nonneg (by omega) (by omega)
    have hr0 : 0 ≤ r := by rw [← hr]; exact Int.tdiv_nonneg (by omega) (by omega)
    have hq1 : q ≤ 1073741824 := by rw [← hq]; exact Int.le_trans (Int.tdiv_le_self _ (by omega)) hx.2
    have hr1 : r ≤ 1073741824 := by rw [← hr]; exact Int.le_trans (Int.tdiv_le_self _ (by omega)) hy.2
    have hW0 : ¬ W = 0 := by omega
    have hW1 : W ≥ 1 := hW
    rw [hq, hr]
    clear h hm
    go_enter Tryz.func32, Tryz.ntmps32
    go_upto_region 2 with (go_at_call 58; refine HC.out.mono ?_; rintro e w1 ⟨rfl, hb⟩; have HB := Aside0.mk hb; clear hb)
    go_quiet (fail)
    go_wp2_with fail
    go_ret
    exact ⟨rfl, pw_below_drewN HB.out _⟩
  · rw [if_neg hl] at HC ⊢
    generalize gt ms p = x at *
    have hW1 : W ≥ 1 := hW
    clear h hm
    go_enter Tryz.func32, Tryz.ntmps32
    go_upto_region 2 with (go_at_call 58; refine HC.out.mono ?_; rintro e w1 ⟨rfl, hb⟩; have HB := Aside0.mk hb; clear hb)
    go_quiet (fail)
    go_wp2_with fail
    go_ret
    exact ⟨rfl, pw_below_drewN HB.out _⟩
set_option maxHeartbeats 800000 in
theorem quiet_tab (g : Nat) (ms : List Int) (A : Option Addr) (n c p : Nat) (hp : p < n) (W : Int) (hW : 0 ≤ W) (hm : ∀ m ∈ ms, 0 ≤ m ∧ m ≤ 1073741824) (w : World) (h : TabAt w g ms A n c) :
    Calls Tryz.prog 34 #[.pointer (some ⟨g, 0, none⟩), .int .u64 ((p : Int) + 1), .int .i64 W] w fun e w' => e = .returned (.bool (qui ms n p W)) ∧ Below w.heap.size w w' := by
  have HC := Aside0.mk (ahead_tab g ms A n c p hp w h)
  have hlen := h.len
  unfold aheadV at HC
  unfold qui
  by_cases hl : p + 1 < n
  · rw [if_pos hl] at HC ⊢
    have hx := hm _ (gt_mem (ms := ms) (k := p) (by omega))
    have hy := hm _ (gt_mem (ms := ms) (k := p + 1) (by omega))
    generalize gt ms p = x at *
    generalize gt ms (p + 1) = y at *
    have hW1 : W ≥ 0 := hW
    clear h hm
    go_enter Tryz.func34, Tryz.ntmps34
    go_wp2_with (go_at_call 58; refine HC.out.mono ?_; rintro e w1 ⟨rfl, hb⟩; have HB := Aside0.mk hb; clear hb)
    go_ret
    exact ⟨rfl, HB.out⟩
  · rw [if_neg hl] at HC ⊢
    generalize gt ms p = x at *
    have hW1 : W ≥ 0 := hW
    clear h hm
    go_enter Tryz.func34, Tryz.ntmps34
    go_wp2_with (go_at_call 58; refine HC.out.mono ?_; rintro e w1 ⟨rfl, hb⟩; have HB := Aside0.mk hb; clear hb)
    go_ret
    exact ⟨rfl, HB.out⟩
end Go.Proofs.YtjoafafjpmfjbaaGreatDoor
namespace Go.Proofs.YtjoafafjpmfjbaaGreatDoor
open Go.RowKit Go.Proofs.YtjoafafjpmfjbaaGreatDoorW.PrintWords Go.Proofs.YtjoafafjpmfjbaaGreatDoorW.PrintLast Go.Proofs.YtjoafafjpmfjbaaGreatDoorW.PrintMore
set_option linter.unusedVariables false
set_option linter.unusedSimpArgs false

/-- A table of one's own. -/
structure TabOwn (w : World) (base : Nat) (ok : Nat → Prop) (g : Nat) (ms : List Int) (v : Value) : Prop where
  box : Boxed w g 60 v
  row : kItem.R 62 w base ok v (items ms)
  le : base ≤ g
theorem TabOwn.at {w : World} {base : Nat} {ok : Nat → Prop} {g : Nat} {ms : List Int} {v : Value} (h : TabOwn w base ok g ms v) (hl : ms.length ≤ 1000) : ∃ A c, v = .slice A ms.length c ∧ TabAt w g ms A ms.length c := by
  obtain ⟨A, c, e, hc, hC⟩ := Kd.R_reads h.row
  rw [items_len] at e hC
  subst e
  exact ⟨A, c, rfl, h.box, hC, rfl, hl⟩
theorem TabOwn.kept {w w' : World} {base : Nat} {ok S : Nat → Prop} {g : Nat} {ms : List Int} {v : Value} (h : TabOwn w base ok g ms v) (hk : Kept w w' S) (hg : ¬ S g) (hS : ∀ k, ok k → ¬ S k) : TabOwn w' base ok g ms v :=
  ⟨blk_kept h.box hk hg, Kd.R_kept h.row hk hS, h.le⟩
theorem kItem_M (w : World) (base : Nat) (ok : Nat → Prop) (k m : Int) (o : Bool) : kItem.M w base ok ⟨k, m, o⟩ [.int .u64 k, .int .i64 m, .bool o] := kItem_mk w base ok ⟨k, m, o⟩
theorem info_item : (Tryz.prog.info? 62).map (fun i => (i.zero, i.size, i.bytes)) = some (some (.agg #[.int .u64 0, .int .i64 0, .bool false]), 3, 24) := by kernel_rfl
set_option maxRecDepth 4000 in
set_option maxHeartbeats 800000 in
theorem add_tab (w0 : World) (base : Nat) (ok : Nat → Prop) (g : Nat) (ms : List Int) (A : Option Addr) (n c : Nat) (hn : ms.length = n) (m : Int) (w : World) (h : TabOwn w base ok g ms (.slice A n c)) (hok : ∀ k, w.heap.size ≤ k → ok k) (hB : Below base w0 w) (hbase : base ≤ w.heap.size)
    (hl : n < 1000) (hm0 : 0 ≤ m) (hm1 : m ≤ 1073741824) (hup : ∀ x ∈ ms, x ≤ m) :
    Calls Tryz.prog 7 #[.pointer (some ⟨g, 0, none⟩), .int .u64 ((n : Int) + 1), .int .i64 m] w fun e w' => e = .returned (.int .i64 0) ∧ ∃ A' c', TabOwn w' base ok g (ms ++ [m]) (.slice A' (n + 1) c') ∧ Kept w w' (fun k => k = g ∨ ok k) ∧ Below base w0 w' := by
  obtain ⟨hll, hle, hC⟩ := Kd.R_reads' h.row
  rw [← hll] at hC
  have b0 := h.box.cell
  have f0 := h.box.frozen
  have H := Aside0.mk h
  have HK := Aside0.mk hok
  have HB := Aside0.mk hB
  have HN := Aside0.mk hn
  obtain ⟨N, hNe⟩ : ∃ N, N = (n : Int) + 1 := ⟨_, rfl⟩
  have n1 : ¬ (N < 1) := by omega
  have n2 : ¬ (N > 65535) := by omega
  rw [← hNe]
  have HNN := Aside0.mk hNe
  have n3 : ¬ (m < 0) := by omega
  have n4 : ¬ (m > 1073741824) := by omega
  have HE : Aside0 (n = 0 ∨ ∃ k, n = k + 1) := ⟨by rcases n with _ | k; exact .inl rfl; exact .inr ⟨k, rfl⟩⟩
  have HC := Aside0.mk hC
  have HUP := Aside0.mk hup
  clear h hok hB hC hup hn hle hll
  rcases HE.out with hn0 | ⟨k, hk⟩
  · have i3 : ¬ ((n : Int) > 0) := by omega
    clear hNe hn0
    (go_enter Tryz.func7, Tryz.ntmps7; go_wp2_with ((with_reducible refine gate_builtin (b := .append) (xs := #[.tmp 63, .tmp 67]) rfl ?_); at_builtin; refine Kd.R_append kItem (w0 := w0) base rfl (.tmp 63) (.tmp 67) 58 62 (.agg #[.int .u64 0, .int .i64 0, .bool false]) 24 rfl Tryz.underlying58 info_item rfl (Nat.succ_pos _) (by omega) (.slice (A) n c) (items ms) ⟨N, m, false⟩ [.int .u64 N, .int .i64 m, .bool false] ok (fun _ => False) rfl rfl (kItem_M _ _ _ _ _ _) (fun _ hk => hk.elim) HK.out H.out.row HB.out hbase (by rw [items_len, HN.out]; omega) ?_; intro v2 w2 ho hb hg hat; obtain ⟨A2, c2, rfl⟩ : ∃ A c, v2 = .slice A (n + 1) c := (by obtain ⟨A, c, e⟩ := Kd.R_slice ho; exact ⟨A, c, by rw [e, List.length_append, List.length_singleton, items_len, HN.out]⟩); have hbx : Boxed w2 g 60 (.slice (A) n c) := H.out.box.kept hg (H.out.box.not_row (by decide) (Kd.R_own H.out.row).choose_spec); have hc2 := hbx.cell; have hf2 := hbx.frozen; have HR2 := Aside0.mk ho; have HB2 := Aside0.mk hb; have HG2 := Aside0.mk hg; have HBX := Aside0.mk hbx; clear ho hb hg hat hbx); have hR := Kd.R_set HR2.out HBX.out (fun q hq e => by have : q ∈ [62] := hq; rw [e] at this; exact absurd this (by decide)) 0 (.slice A2 (n + 1) c2); have hS := HBX.out.set (.slice A2 (n + 1) c2); have hB := HB2.out.setCell (p := ⟨g, 0, none⟩) H.out.le (.slice A2 (n + 1) c2); have e9 : items ms ++ [⟨N, m, false⟩] = items (ms ++ [m]) := (by rw [items_snoc, HN.out, HNN.out]); rw [e9] at hR; go_ret; exact ⟨rfl, ⟨_, _, hS, hR, H.out.le⟩, ((Kept.of_grown HG2.out (Kept.refl _ _) (fun k hk => .inl (.inr (H.out.row.1 k hk)))).setCell (p := ⟨g, 0, none⟩) (.inl (.inl rfl)) _), hB⟩)
  · obtain ⟨ad, hA, q0, q1, q2⟩ := item_at HC.out (k := k) (by omega)
    rw [items_gt ms k (by rw [HN.out]; omega)] at q0 q1 q2
    obtain ⟨x, hxe⟩ : ∃ x, x = gt ms k := ⟨_, rfl⟩
    have hx : x ≤ m := by rw [hxe]; exact HUP.out _ (gt_mem (by rw [HN.out]; omega))
    have i0 : (n : Int) - 1 = (k : Int) := by omega
    have i2 : (k : Int) < (n : Int) := by omega
    have i3 : (n : Int) > 0 := by omega
    obtain ⟨Q, hQ⟩ : ∃ Q, Q = (k : Int) + 1 := ⟨_, rfl⟩
    have i4 : ¬ (Q ≥ N) := by omega
    have i5 : ¬ (x > m) := by omega
    rw [← hxe] at q1
    simp only [← hQ] at q0
    subst hA
    clear hk hxe hNe hQ
    (go_enter Tryz.func7, Tryz.ntmps7; go_wp2_with ((with_reducible refine gate_builtin (b := .append) (xs := #[.tmp 63, .tmp 67]) rfl ?_); at_builtin; refine Kd.R_append kItem (w0 := w0) base rfl (.tmp 63) (.tmp 67) 58 62 (.agg #[.int .u64 0, .int .i64 0, .bool false]) 24 rfl Tryz.underlying58 info_item rfl (Nat.succ_pos _) (by omega) (.slice (some ad) n c) (items ms) ⟨N, m, false⟩ [.int .u64 N, .int .i64 m, .bool false] ok (fun _ => False) rfl rfl (kItem_M _ _ _ _ _ _) (fun _ hk => hk.elim) HK.out H.out.row HB.out hbase (by rw [items_len, HN.out]; omega) ?_; intro v2 w2 ho hb hg hat; obtain ⟨A2, c2, rfl⟩ : ∃ A c, v2 = .slice A (n + 1) c := (by obtain ⟨A, c, e⟩ := Kd.R_slice ho; exact ⟨A, c, by rw [e, List.length_append, List.length_singleton, items_len, HN.out]⟩); have hbx : Boxed w2 g 60 (.slice (some ad) n c) := H.out.box.kept hg (H.out.box.not_row (by decide) (Kd.R_own H.out.row).choose_spec); have hc2 := hbx.cell; have hf2 := hbx.frozen; have HR2 := Aside0.mk ho; have HB2 := Aside0.mk hb; have HG2 := Aside0.mk hg; have HBX := Aside0.mk hbx; clear ho hb hg hat hbx); have hR := Kd.R_set HR2.out HBX.out (fun q hq e => by have : q ∈ [62] := hq; rw [e] at this; exact absurd this (by decide)) 0 (.slice A2 (n + 1) c2); have hS := HBX.out.set (.slice A2 (n + 1) c2); have hB := HB2.out.setCell (p := ⟨g, 0, none⟩) H.out.le (.slice A2 (n + 1) c2); have e9 : items ms ++ [⟨N, m, false⟩] = items (ms ++ [m]) := (by rw [items_snoc, HN.out, HNN.out]); rw [e9] at hR; go_ret; exact ⟨rfl, ⟨_, _, hS, hR, H.out.le⟩, ((Kept.of_grown HG2.out (Kept.refl _ _) (fun k hk => .inl (.inr (H.out.row.1 k hk)))).setCell (p := ⟨g, 0, none⟩) (.inl (.inl rfl)) _), hB⟩)
end Go.Proofs.YtjoafafjpmfjbaaGreatDoor
