/-
  A row of files of one's own: its cells, a name or data written into it.
-/
import Derived.Test.YtdobjbdkfammbaaDoorGb
import Derived.RangeFuncNested
import Derived.RangeFuncBox
import Derived.Laws.BitsAllLaws
import Derived.Test.YtdobjbdkfammbaaDoorGa
/-
  Chapter 55, kinds: a write, a slice that may share its block with others, a deed. Plain.
-/
namespace Go.Proofs.YtdobjbdkfammbaaDoor
open Go.RowKit Go.Proofs.YtdobjbdkfammbaaDoorW.PrintWords Go.Proofs.YtdobjbdkfammbaaDoorW.PrintLast Go.Proofs.YtdobjbdkfammbaaDoorW.PrintMore
set_option linter.unusedVariables false
set_option linter.unusedSimpArgs false

/-- A kind whose cells lead nowhere. -/
def Flat {α : Type} (d : Kd α) : Prop := ∀ w w' x cs, d.K w x cs → d.K w' x cs
theorem cell_same {w w1 : World} {a : Addr} (h : w1.heap[a.block]? = w.heap[a.block]?) : w1.cell? a = w.cell? a := by
  unfold World.cell?
  rw [h]
theorem C_flat {α : Type} {d : Kd α} (hf : Flat d) {w w1 : World} {ad : Addr} {n : Nat} {xs : List α} (h : d.C w (some ad) n xs) (hm : w1.heap[ad.block]? = w.heap[ad.block]?) : d.C w1 (some ad) n xs := by
  refine ⟨h.1, h.2.1, fun hn => ?_⟩
  obtain ⟨ad', e, hc⟩ := h.2.2 hn
  cases e
  refine ⟨ad, rfl, fun j p hj => ?_⟩
  obtain ⟨cs, h1, h2, h3⟩ := hc j p hj
  refine ⟨cs, h1, hf _ _ _ _ h2, fun i u hu => ?_⟩
  exact (cell_same (w := w) (w1 := w1) (a := ad.add (j * d.sz + i)) (by rw [add_block]; exact hm)).trans (h3 i u hu)
/-- A slice of flat elements that lies in a block of elements; others may lie there too. -/
def shr {α : Type} (e : Nat) (d : Kd α) (hf : Flat d) : Kd (List α) where
  sz := 1
  E := [e]
  K := fun w xs cs => ∃ A c, cs = [.slice A xs.length c] ∧ xs.length ≤ c ∧ d.C w A xs.length xs
  M := fun w base ok xs cs => ∃ A c, cs = [.slice A xs.length c] ∧ xs.length ≤ c ∧ d.C w A xs.length xs ∧ ∀ ad, A = some ad → 0 < xs.length → ok ad.block ∧ base ≤ ad.block ∧ ad.block < w.heap.size ∧ ∃ cells, w.heap[ad.block]? = some (.cells cells e (0, 0))
  K_len := by
    rintro w x cs ⟨A, c, rfl, _⟩
    rfl
  K_one := by
    rintro w x cs ⟨A, c, rfl, _⟩ u hu
    rw [List.mem_singleton.1 hu]
    rfl
  K_below := by
    rintro w w1 x cs hb ⟨A, c, rfl, hl, hr⟩
    exact ⟨A, c, rfl, hl, Kd.C_below hr hb⟩
  K_of_M := by
    rintro w base ok x cs ⟨A, c, rfl, hl, hr, _⟩
    exact ⟨A, c, rfl, hl, hr⟩
  M_mono := by
    rintro w base ok ok' x cs hok ⟨A, c, rfl, hl, hr, ho⟩
    exact ⟨A, c, rfl, hl, hr, fun ad e hp => ⟨hok _ (ho ad e hp).1, (ho ad e hp).2⟩⟩
  M_bound := by
    rintro w base ok x cs ⟨A, c, rfl, hl, hr, ho⟩
    exact ⟨A, c, rfl, hl, hr, fun ad ea hp => ⟨⟨(ho ad ea hp).1, (ho ad ea hp).2.1, (ho ad ea hp).2.2.1, e, List.mem_singleton.2 rfl, (ho ad ea hp).2.2.2⟩, (ho ad ea hp).2⟩⟩
  M_move := by
    rintro w w1 base ok x cs hm ⟨A, c, rfl, hl, hr, ho⟩
    refine ⟨A, c, rfl, hl, ?_, fun ad ea hp => ?_⟩
    · rcases Nat.eq_zero_or_pos x.length with h0 | hp
      · exact ⟨hr.1, hr.2.1, fun h => absurd h (by omega)⟩
      · obtain ⟨ad, rfl, _⟩ := hr.2.2 hp
        exact C_flat hf hr (hm _ (ho ad rfl hp).1)
    · obtain ⟨h1, h2, h3, cells, h4⟩ := ho ad ea hp
      have h5 := (hm _ h1).trans h4
      exact ⟨h1, h2, (Array.getElem?_eq_some_iff.1 h5).1, cells, h5⟩
  M_lower := by
    rintro w base base' ok x cs hb ⟨A, c, rfl, hl, hr, ho⟩
    exact ⟨A, c, rfl, hl, hr, fun ad ea hp => ⟨(ho ad ea hp).1, Nat.le_trans hb (ho ad ea hp).2.1, (ho ad ea hp).2.2⟩⟩
theorem flat_scalar {α : Type} (enc : α → Value) (h1 : ∀ x, (enc x).oneCell' = true) : Flat (Kd.scalar enc h1) := fun _ _ _ _ h => h
theorem flat_pair {α β : Type} {a : Kd α} {b : Kd β} (ha : Flat a) (hb : Flat b) : Flat (Kd.pair a b) := by
  rintro w w' x cs ⟨c0, c1, rfl, h0, h1⟩
  exact ⟨c0, c1, rfl, ha _ _ _ _ h0, hb _ _ _ _ h1⟩
theorem flat_iso {α β : Type} {a : Kd α} (ha : Flat a) (f : β → α) : Flat (Kd.iso a f) := fun _ _ _ _ h => ha _ _ _ _ h
theorem flat_arr {α : Type} {n : Nat} {d : Kd α} {hs : 0 < d.sz} (hd : Flat d) : Flat (Kd.arr n d hs) := fun w w' xs cs h => ⟨h.1, h.2.imp_ (fun _ _ hk => hd _ _ _ _ hk)⟩

/-! ### a row of one's own, one element more; a cell behind it -/
section
variable {α : Type} {d : Kd α} {e base g m cap : Nat} {ok okp : Nat → Prop} {W : World} {xs : List α}
/-- One element more stands behind the row. -/
theorem R_extend (h : d.R e W base ok (.slice (some ⟨g, 0, none⟩) m cap) xs) (hm : m + 1 ≤ cap) {x : α} {c : List Value} (hcl : c.length = d.sz) (hcc : ∀ j u, c[j]? = some u → W.cell? ⟨g, m * d.sz + j, none⟩ = some u) (hM : d.M W base okp x c) (hokp : ∀ k, okp k → ok k ∧ k ≠ g) :
    d.R e W base ok (.slice (some ⟨g, 0, none⟩) (m + 1) cap) (xs ++ [x]) := by
  obtain ⟨hn, _, _⟩ := Kd.R_reads' h
  obtain ⟨hok, inner, ho, hr⟩ := h
  obtain ⟨ho1, ho2⟩ := ho
  rcases ho2 with ⟨hv, _⟩ | ⟨g', cap', cur, hv, hb, hh, hnc', hcm, hcs, ht⟩
  · cases hv
  injection hv with ha _ hc
  injection ha with ha
  injection ha with hg
  subst hg; subst hc
  have hlen : (xs ++ [x]).length = m + 1 := by simp [hn]
  have hg2 : (Value.slice (some ⟨g, 0, none⟩) (m + 1) cap).ownBlock = some g := by simp [Value.ownBlock]
  have hg1 : (Value.slice (some ⟨g, 0, none⟩) m cap).ownBlock = some g := by simp [Value.ownBlock]
  refine ⟨fun k hk => hok k (by rw [hg1, ← hg2]; exact hk), inner ++ c, ⟨?_, .inr ⟨g, cap, cur, by rw [hlen], hb, hh, by rw [hlen]; exact hm, hcm, hcs, ?_⟩⟩, ?_⟩
  · rw [List.length_append, ho1, hcl, hlen, ← hn, Nat.succ_mul]
  · rw [hlen, Nat.succ_mul, List.take_add, ← hn] at *
    rw [ht]
    congr 1
    apply List.ext_getElem?
    intro j
    have hfit : (m + 1) * d.sz ≤ cap * d.sz := Nat.mul_le_mul_right _ hm
    rw [Nat.succ_mul] at hfit
    rw [List.getElem?_take]
    by_cases hj : j < d.sz
    · have h6 := hcc j _ (List.getElem?_eq_getElem (by omega))
      rw [cell_of_row W g _ cur e (0, 0) hh] at h6
      rw [if_pos hj, List.getElem?_drop, Array.getElem?_toList, h6, List.getElem?_eq_getElem (by omega)]
    · rw [if_neg hj, List.getElem?_eq_none (by omega)]
  · exact (hr.imp_ (fun p c hp => d.M_mono (fun k hk => ⟨hk.1, by rw [hg2, ← hg1]; exact hk.2⟩) hp)).snoc (d.M_mono (fun k hk => ⟨(hokp k hk).1, fun he => (hokp k hk).2 (by rw [hg2] at he; injection he)⟩) hM) hcl
/-- A cell behind the row is written. -/
theorem R_beyond (h : d.R e W base ok (.slice (some ⟨g, 0, none⟩) m cap) xs) {j : Nat} (hj : m * d.sz ≤ j) (u : Value) : d.R e (W.setCell ⟨g, j, none⟩ u) base ok (.slice (some ⟨g, 0, none⟩) m cap) xs := by
  obtain ⟨hok, inner, ho, hr⟩ := h
  obtain ⟨ho1, ho2⟩ := ho
  have hg1 : (Value.slice (some ⟨g, 0, none⟩) m cap).ownBlock = some g := by simp [Value.ownBlock]
  rcases ho2 with ⟨hv, _⟩ | ⟨g', cap', cur, hv, hb, hh, hnc', hcm, hcs, ht⟩
  · cases hv
  injection hv with ha hl hc
  injection ha with ha
  injection ha with hg
  subst hg; subst hc
  refine ⟨hok, inner, ⟨ho1, .inr ⟨g, cap, cur.setIfInBounds j u, by rw [hl], hb, blk_set hh j u, hnc', hcm, by simp [hcs], ?_⟩⟩, hr.imp_ (fun p c hp => Kd.M_far hp (p := ⟨g, j, none⟩) (fun k hk e => hk.2 (by rw [e, hg1])) u)⟩
  rw [Array.toList_setIfInBounds, List.take_set_of_le (by rw [← hl]; exact hj)]
  exact ht
end
/-! ### a write -/
/-- A write of the trunk: its volume, its block, what is written. -/
structure Wr where
  vol : Int
  blk : Int
  data : List UInt8
  deriving Inhabited, DecidableEq
def kWr : Kd Wr := Kd.iso (Kd.pair (Kd.pair (Kd.int .i64) (Kd.pair (Kd.int .i64) (Kd.int .i64))) kBlock) (fun x : Wr => ((0, x.vol, x.blk), x.data))
theorem kWr_flat : Flat kWr := flat_iso (flat_pair (flat_pair (flat_scalar _ _) (flat_pair (flat_scalar _ _) (flat_scalar _ _))) (flat_arr (flat_scalar _ _))) _
def wrV (x : Wr) : List Value := .int .i64 0 :: .int .i64 x.vol :: .int .i64 x.blk :: bytesV x.data
theorem kWr_cells {w : World} {x : Wr} {cs : List Value} (h : kWr.K w x cs) : x.data.length = 32 ∧ cs = wrV x := by
  obtain ⟨_, c1, rfl, ⟨_, _, rfl, rfl, ⟨_, _, rfl, rfl, rfl⟩⟩, h1⟩ := h
  obtain ⟨h2, h3⟩ := Kd.arr_cells h1
  rw [encs_bytes] at h3
  subst h3
  exact ⟨h2, rfl⟩
theorem kWr_mk (w : World) (base : Nat) (ok : Nat → Prop) (x : Wr) (h : x.data.length = 32) : kWr.M w base ok x (wrV x) := by
  refine ⟨[.int .i64 0, .int .i64 x.vol, .int .i64 x.blk], bytesV x.data, rfl, ⟨[.int .i64 0], [.int .i64 x.vol, .int .i64 x.blk], rfl, rfl, ⟨[.int .i64 x.vol], [.int .i64 x.blk], rfl, rfl, rfl⟩⟩, ?_⟩
  have := Kd.arr_of_cells (n := 32) (w := w) (base := base) (ok := ok) (hs := by decide) (enc := fun x : UInt8 => Value.int .u8 (x.toNat : Int)) (h1 := fun _ => rfl) (xs := x.data) h
  rw [encs_bytes] at this
  exact this
theorem kWr_mkK (w : World) (x : Wr) (h : x.data.length = 32) : kWr.K w x (wrV x) := kWr.K_of_M (kWr_mk w 0 (fun _ => True) x h)
theorem wr_at {w : World} {A : Option Addr} {n : Nat} {xs : List Wr} (h : kWr.C w A n xs) {k : Nat} (hk : k < n) :
    ∃ ad, A = some ad ∧ (gt xs k).data.length = 32 ∧ ∀ j u, (wrV (gt xs k))[j]? = some u → w.cell? ((ad.add (k * 35)).add j) = some u := by
  obtain ⟨ad, cs, e, hK, hc0⟩ := C_at h hk
  have hc : ∀ j u, cs[j]? = some u → w.cell? (ad.add (k * 35 + j)) = some u := hc0
  obtain ⟨h1, h2⟩ := kWr_cells hK
  subst h2
  refine ⟨ad, e, h1, fun j u hu => ?_⟩
  rw [Deep.add_add]
  exact hc j u hu
theorem wrV_one (x : Wr) : ∀ v ∈ wrV x, v.oneCell' = true := by
  intro v hv
  simp only [wrV, List.mem_cons] at hv
  rcases hv with rfl | rfl | rfl | hv
  · rfl
  · rfl
  · rfl
  · exact bytesV_one _ v hv
theorem list32 (b : List UInt8) (h : b.length = 32) : ∃ x0 x1 x2 x3 x4 x5 x6 x7 x8 x9 x10 x11 x12 x13 x14 x15 x16 x17 x18 x19 x20 x21 x22 x23 x24 x25 x26 x27 x28 x29 x30 x31 : UInt8, b = [x0, x1, x2, x3, x4, x5, x6, x7, x8, x9, x10, x11, x12, x13, x14, x15, x16, x17, x18, x19, x20, x21, x22, x23, x24, x25, x26, x27, x28, x29, x30, x31] :=
  match b, h with
  | [x0, x1, x2, x3, x4, x5, x6, x7, x8, x9, x10, x11, x12, x13, x14, x15, x16, x17, x18, x19, x20, x21, x22, x23, x24, x25, x26, x27, x28, x29, x30, x31], _ => ⟨x0, x1, x2, x3, x4, x5, x6, x7, x8, x9, x10, x11, x12, x13, x14, x15, x16, x17, x18, x19, x20, x21, x22, x23, x24, x25, x26, x27, x28, x29, x30, x31, rfl⟩
theorem built_wr (vol blk : Int) (b : List UInt8) (h : b.length = 32) : Tryd.prog.built 39 [(0, .agg #[.int .i64 0, .int .i64 vol, .int .i64 blk]), (1, .agg (bytesV b).toArray)] = some (wrV ⟨vol, blk, b⟩).toArray := by
  obtain ⟨x0, x1, x2, x3, x4, x5, x6, x7, x8, x9, x10, x11, x12, x13, x14, x15, x16, x17, x18, x19, x20, x21, x22, x23, x24, x25, x26, x27, x28, x29, x30, x31, rfl⟩ := list32 b h
  kernel_rfl
theorem info_wr : (Tryd.prog.info? 39).map (fun i => (i.size, i.zero.isSome)) = some (35, true) := by kernel_rfl
theorem wrV_len (x : Wr) (h : x.data.length = 32) : (wrV x).length = 35 := by simp [wrV, bytesV, h]
def zW : Value := .agg (wrV ⟨0, 0, zeroB⟩).toArray
theorem info_wrZ : (Tryd.prog.info? 39).map (fun i => (i.zero, i.size, i.bytes)) = some (some zW, 35, 56) := by kernel_rfl
/-- A slice literal of one write, made. -/
theorem build_write {ops : Array Oper} {rest : List Oper} {op : Oper} {a : Act} {W : World} {Q : Exit → Act → World → Prop} (hgd : op.guard = none) (x : Operand) (ho : op.op = .buildSlice 31 1 #[(0, x)])
    (y : Wr) (hl : y.data.length = 32) (hx : a.eval x = .agg (wrV y).toArray) (h : wpList Tryd.prog ops Q rest (a.put op.dst (.slice (some ⟨W.heap.size, 0, none⟩) 1 1)) (W.alloc (.cells (wrV y).toArray 39))) : wpList Tryd.prog ops Q (op :: rest) a W := by
  cases hq : Tryd.prog.info? 39 with
  | none => have := info_wr; simp [hq] at this
  | some i =>
    have hi : i.size = 35 ∧ i.zero.isSome = true := by have := info_wr; simpa [hq] using this
    obtain ⟨z, hz⟩ := Option.isSome_iff_exists.1 hi.2
    have hb : (wrV y).toArray.size = 35 := by simp [wrV, bytesV, hl]
    refine wpList_buildSlice hgd 31 39 1 _ ho (wrV y).toArray i z Tryd.underlying31 hq hz (by omega) (by omega) ?_ h
    have := Great.fill_whole (s := 35) (by omega) [Value.agg (wrV y).toArray] ((Array.range (1 * i.size)).map (z.cells[· % z.cells.size]!)) (by intro v hv; simp only [List.mem_singleton] at hv; subst hv; exact hb) (by simp [hi.1])
    simp only [hi.1] at this ⊢
    simpa [hx, Value.cells] using this
/-! ### deeds -/
/-- Deeds of the program. -/
structure Dd where
  kind : Int
  ws : List Wr
  min : Int
  deriving Inhabited, DecidableEq
def kDd : Kd Dd := Kd.iso (Kd.pair (Kd.int .i64) (Kd.pair (shr 39 kWr kWr_flat) (Kd.int .i64))) (fun x : Dd => (x.kind, x.ws, x.min))
theorem kDd_open {w : World} {x : Dd} {cs : List Value} (h : kDd.K w x cs) : ∃ A c, cs = [.int .i64 x.kind, .slice A x.ws.length c, .int .i64 x.min] ∧ x.ws.length ≤ c ∧ kWr.C w A x.ws.length x.ws := by
  obtain ⟨_, _, rfl, rfl, ⟨_, _, rfl, ⟨A, c, rfl, l, g⟩, rfl⟩⟩ := h
  exact ⟨A, c, rfl, l, g⟩
theorem kDd_mk (w : World) (base : Nat) (ok : Nat → Prop) (x : Dd) {A : Option Addr} {c n : Nat} (hn : x.ws.length = n) (l : n ≤ c) (g : kWr.C w A n x.ws) (ho : ∀ ad, A = some ad → 0 < n → ok ad.block ∧ base ≤ ad.block ∧ ad.block < w.heap.size ∧ ∃ cells, w.heap[ad.block]? = some (.cells cells 39 (0, 0))) : kDd.M w base ok x [.int .i64 x.kind, .slice A n c, .int .i64 x.min] := by
  subst hn
  exact ⟨[.int .i64 x.kind], [.slice A x.ws.length c, .int .i64 x.min], rfl, rfl, ⟨[.slice A x.ws.length c], [.int .i64 x.min], rfl, ⟨A, c, rfl, l, g, ho⟩, rfl⟩⟩
theorem dd_at {w : World} {A : Option Addr} {n : Nat} {xs : List Dd} (h : kDd.C w A n xs) {k : Nat} (hk : k < n) : ∃ ad A1 c1, A = some ad ∧ w.cell? (ad.add (k * 3)) = some (.int .i64 (gt xs k).kind) ∧ w.cell? ⟨(ad.add (k * 3)).block, (ad.add (k * 3)).off + 1, none⟩ = some (.slice A1 (gt xs k).ws.length c1) ∧ w.cell? ⟨(ad.add (k * 3)).block, (ad.add (k * 3)).off + 2, none⟩ = some (.int .i64 (gt xs k).min) ∧ (gt xs k).ws.length ≤ c1 ∧ kWr.C w A1 (gt xs k).ws.length (gt xs k).ws := by
  obtain ⟨ad, cs, e, hK, hc0⟩ := C_at h hk
  have hc : ∀ j u, cs[j]? = some u → w.cell? (ad.add (k * 3 + j)) = some u := hc0
  obtain ⟨A1, c1, rfl, l1, g1⟩ := kDd_open hK
  exact ⟨ad, A1, c1, e, hc 0 _ rfl, by rw [← add_field _ _ 1 (by omega)]; exact hc 1 _ rfl, by rw [← add_field _ _ 2 (by omega)]; exact hc 2 _ rfl, l1, g1⟩
/-- Deeds of the document. -/
structure Rd where
  ws : List Wr
  min : Int
  deriving Inhabited, DecidableEq
def kRd : Kd Rd := Kd.iso (Kd.pair (shr 39 kWr kWr_flat) (Kd.int .i64)) (fun x : Rd => (x.ws, x.min))
theorem kRd_open {w : World} {x : Rd} {cs : List Value} (h : kRd.K w x cs) : ∃ A c, cs = [.slice A x.ws.length c, .int .i64 x.min] ∧ x.ws.length ≤ c ∧ kWr.C w A x.ws.length x.ws := by
  obtain ⟨_, _, rfl, ⟨A, c, rfl, l, g⟩, rfl⟩ := h
  exact ⟨A, c, rfl, l, g⟩
theorem kRd_mk (w : World) (base : Nat) (ok : Nat → Prop) (x : Rd) {A : Option Addr} {c n : Nat} (hn : x.ws.length = n) (l : n ≤ c) (g : kWr.C w A n x.ws) (ho : ∀ ad, A = some ad → 0 < n → ok ad.block ∧ base ≤ ad.block ∧ ad.block < w.heap.size ∧ ∃ cells, w.heap[ad.block]? = some (.cells cells 39 (0, 0))) : kRd.M w base ok x [.slice A n c, .int .i64 x.min] := by
  subst hn
  exact ⟨[.slice A x.ws.length c], [.int .i64 x.min], rfl, ⟨A, c, rfl, l, g, ho⟩, rfl⟩
theorem rd_at {w : World} {A : Option Addr} {n : Nat} {xs : List Rd} (h : kRd.C w A n xs) {k : Nat} (hk : k < n) : ∃ ad A1 c1, A = some ad ∧ w.cell? (ad.add (k * 2)) = some (.slice A1 (gt xs k).ws.length c1) ∧ w.cell? ⟨(ad.add (k * 2)).block, (ad.add (k * 2)).off + 1, none⟩ = some (.int .i64 (gt xs k).min) ∧ (gt xs k).ws.length ≤ c1 ∧ kWr.C w A1 (gt xs k).ws.length (gt xs k).ws := by
  obtain ⟨ad, cs, e, hK, hc0⟩ := C_at h hk
  have hc : ∀ j u, cs[j]? = some u → w.cell? (ad.add (k * 2 + j)) = some u := hc0
  obtain ⟨A1, c1, rfl, l1, g1⟩ := kRd_open hK
  exact ⟨ad, A1, c1, e, hc 0 _ rfl, by rw [← add_field _ _ 1 (by omega)]; exact hc 1 _ rfl, l1, g1⟩
end Go.Proofs.YtdobjbdkfammbaaDoor
/-
  Chapter 55: attack.rows, its first part: the writes of a disk; the parts that slices.Chunk hands out.
-/
namespace Go.Proofs.YtdobjbdkfammbaaDoor
open Go.RowKit Go.Shelf Go.Proofs.YtdobjbdkfammbaaDoorW.PrintWords Go.Proofs.YtdobjbdkfammbaaDoorW.PrintLast Go.Proofs.YtdobjbdkfammbaaDoorW.PrintMore
set_option linter.unusedVariables false
set_option linter.unusedSimpArgs false
attribute [local go_sem] Oper.semAt_some max2_int min2_int max_two min_two

/-- The writes of a disk. -/
def wrs (vol : Int) (B : List (List UInt8)) : List Wr := (List.range B.length).map (fun i : Nat => ⟨vol, (i : Int), gt B i⟩)
theorem wrs_len (vol : Int) (B : List (List UInt8)) : (wrs vol B).length = B.length := by simp [wrs]
theorem wrs_gt (vol : Int) (B : List (List UInt8)) (k : Nat) (hk : k < B.length) : gt (wrs vol B) k = ⟨vol, (k : Int), gt B k⟩ := by
  rw [gt_eq _ _ (by rw [wrs_len]; exact hk)]
  simp [wrs]
theorem wrs_succ (vol : Int) (B : List (List UInt8)) (k : Nat) (hk : k < B.length) : (wrs vol B).take (k + 1) = (wrs vol B).take k ++ [⟨vol, (k : Int), gt B k⟩] := by
  rw [List.take_add_one, gt_some _ _ (by rw [wrs_len]; exact hk), wrs_gt vol B k hk]
  rfl
/-- A list in parts of eight. -/
def cut8 {α : Type} (l : List α) : List (List α) := (List.range ((l.length + 7) / 8)).map (fun k => (l.drop (8 * k)).take 8)
theorem cut8_len {α : Type} (l : List α) : (cut8 l).length = (l.length + 7) / 8 := by simp [cut8]
/-- The deeds by which a disk is written. -/
def rowsD (vol : Int) (B : List (List UInt8)) : List Dd := (cut8 (wrs vol B)).map (fun c => ⟨1, c, 0⟩)
theorem rowsD_len (vol : Int) (B : List (List UInt8)) : (rowsD vol B).length = (B.length + 7) / 8 := by simp [rowsD, cut8_len, wrs_len]
/-! ### the parts that slices.Chunk hands out -/
def partW (ad : Addr) (n k : Nat) : Part := (some (ad.add (8 * k * 35)), min 8 (n - 8 * k))
def partsW (ad : Addr) (n k : Nat) : List Part := (List.range k).map (partW ad n)
theorem partsW_succ (ad : Addr) (n k : Nat) : partsW ad n (k + 1) = partsW ad n k ++ [partW ad n k] := by
  unfold partsW
  rw [List.range_succ, List.map_append]
  rfl
def KpC (B1 B2 : Nat) (W W' : World) : Prop := W'.heap[B1]? = W.heap[B1]? ∧ W'.heap[B2]? = W.heap[B2]?
theorem info_wrsz : (Tryd.prog.info? 39).map (·.size) = some 35 := by kernel_rfl
set_option maxRecDepth 100000 in
set_option maxHeartbeats 1000000 in
theorem chunkW_stops (F : Fence) (n : Nat) (h10 : F.fn 79) (hro : F.round = none) (hn : 1 ≤ n) (B1 B2 : Nat) (ad : Addr) (m c : Nat) (hmc : m ≤ c) (hm : m ≤ 1000000000) (w : World) (hB1 : B1 < w.heap.size) (hB2 : B2 < w.heap.size)
    (hb1 : w.heap[B1]? = some (.cells #[.slice (some ad) m c] 31 (0, 0))) (hb2 : w.heap[B2]? = some (.cells #[.int .i64 8] 3 (0, 0))) :
    SeqStopsK F n Tryd.prog 79 #[.pointer (some ⟨B1, 0, none⟩), .pointer (some ⟨B2, 0, none⟩)] (fun p => #[encP p]) (KpC B1 B2) (fun ss => ss = partsW ad m ((m + 7) / 8)) (fun _ => True) ((m + 7) / 8) w := by
  intro l J Jx W hW hJ hJx hY h0
  refine callsIn_of_wp Tryd.func79 rfl h10 ?_ hro
  simp only [Tryd.ntmps79, List.size_toArray, List.length_cons, List.length_nil, Nat.reduceAdd, Nat.reduceSub, Array.replicate_succ, Array.replicate_zero, List.push_toArray, List.append_toArray, List.nil_append, List.cons_append]
  gi_wp2
  gi_loopw [4] (fun i wr => ∃ k : Nat, k ≤ (m + 7) / 8 ∧ i = .int .i64 (8 * k : Nat) ∧ J (partsW ad m k) wr ∧ KpC B1 B2 W wr) (fun i _ => m + 8 - (intOf i).toNat)
  case atStart => exact ⟨0, Nat.zero_le _, rfl, h0, rfl, rfl⟩
  case round =>
    obtain ⟨k, hk, rfl, hJk, hKk⟩ := hrel
    have hb1' := (hKk.1.trans (hW.block B1 hB1)).trans hb1
    have hb2' := (hKk.2.trans (hW.block B2 hB2)).trans hb2
    have c1 := (cell_of_box hb1').1
    have c2 := (cell_of_box hb2').1
    by_cases hlt : 8 * k < m
    · have i0 : (0 : Int) ≤ 8 * (k : Int) := by omega
      have i1 : 8 * (k : Int) ≤ (m : Int) := by omega
      have i2 : (m : Int) ≤ (c : Int) := by omega
      have i3 : (8 * (k : Int)).toNat = 8 * k := by omega
      have i4 : (0 : Int) ≤ (m : Int) := by omega
      gi_wp2
      (refine wpIn_region_quiet_lit hro (by kernel_rfl) (by kernel_rfl) ?_; repeat (gi_big_quiet_step (fail)))
      obtain ⟨pn, hpn⟩ : ∃ pn, pn = min 8 (m - 8 * k) := ⟨_, rfl⟩
      have hmin : (if ((m - 8 * k : Nat) : Int) < 8 then ((m - 8 * k : Nat) : Int) else 8) = (pn : Int) := by split <;> omega
      rw [hmin]
      refine wpQuietIn_nil ?_
      intro _ hw'
      obtain ⟨nq, hw''⟩ := hw'
      subst hw''
      have hJ2 : J (partsW ad m k) (wr.drewN nq) := hJ _ _ _ none hJk (grown_of_below (pw_below_drewN (Below.refl _ _) _) none) (fun r e => by cases e)
      obtain ⟨fn, tmps, assign, body, hy, hR⟩ := hY _ (partW ad m k) (wr.drewN nq) hJ2 (by simp [partsW]; omega)
      have hpe : #[encP (partW ad m k)] = #[.slice (some (ad.add (8 * k * 35))) pn pn] := by simp [encP, partW, hpn]
      rw [hpe] at hy
      have i5 : 8 * (k : Int) + (pn : Int) ≤ (c : Int) := by omega
      have i6 : 8 * (k : Int) ≤ 8 * (k : Int) + (pn : Int) := by omega
      have i7 : IntKind.i64.wrap (8 * (k : Int) + (pn : Int)) = 8 * (k : Int) + (pn : Int) := IntWalk.i64_in _ (by omega)
      have i8 : (8 * (k : Int) + (pn : Int)).toNat = 8 * k + pn := by omega
      have i9 : 8 * k + pn - 8 * k = pn := by omega
      have i10 : 0 < pn := by omega
      have i11 : ¬ pn = 0 := by omega
      have i12 : (0 : Int) < (pn : Int) := by omega
      have hstep : m + 8 - 8 * (k + 1) < m + 8 - 8 * k := by omega
      clear hmin hpn
      gi_wp2
      refine hR.mono ?_
      rintro e W3 (⟨rfl, hJ3, hk3⟩ | ⟨rfl, hx⟩)
      · have e1 := (cell_of_box (hk3.1.trans hb1')).1
        have e2 := (cell_of_box (hk3.2.trans hb2')).1
        rw [← partsW_succ] at hJ3
        gi_wp2
        go_roundw
        case rel => exact ⟨k + 1, by omega, (by go_num), hJ3, hk3.1.trans hKk.1, hk3.2.trans hKk.2⟩
        case measure => simp [intOf]; omega
      · gi_wp2
        exact bodyPost_ret (results_none rfl _ _ _) rfl ⟨⟨_, rfl⟩, .inr ⟨_, trivial, hx⟩⟩
    · have hke : k = (m + 7) / 8 := by omega
      gi_wp2
      go_end0
      exact ⟨⟨_, rfl⟩, .inl ⟨_, by rw [hke], hJk⟩⟩
theorem chunkW_any (v : Value) (w : World) (hv : v.oneCell' = true) :
    Calls Tryd.prog 61 #[v, .int .i64 8] w fun e w' => e = .returned (.func (.func 79) #[] #[.pointer (some ⟨w.heap.size, 0, none⟩), .pointer (some ⟨w.heap.size + 1, 0, none⟩)]) ∧
      (w.alloc (.cells #[v] 31)).alloc (.cells #[.int .i64 8] 3) = w' := by
  go_enter Tryd.func61, Tryd.ntmps61
  go_wp2
  go_ret
  exact ⟨rfl, rfl⟩
end Go.Proofs.YtdobjbdkfammbaaDoor
/-
  Chapter 55: attack.rows, walked: the deeds by which a disk is written.
-/
namespace Go.Proofs.YtdobjbdkfammbaaDoor
open Go.RowKit Go.Shelf Go.Proofs.YtdobjbdkfammbaaDoorW.PrintWords Go.Proofs.YtdobjbdkfammbaaDoorW.PrintLast Go.Proofs.YtdobjbdkfammbaaDoorW.PrintMore
set_option linter.unusedVariables false
set_option linter.unusedSimpArgs false
attribute [local go_sem] Oper.semAt_some

theorem info_dd : (Tryd.prog.info? 33).map (fun i => (i.zero, i.size, i.bytes)) = some (some (.agg #[.int .i64 0, .slice none 0 0, .int .i64 0]), 3, 40) := by kernel_rfl
/-- A deed's cells. -/
def encD (p : Part) : List Value := [.int .i64 1, encP p, .int .i64 0]
theorem cells_own {β : Type} (g : Nat) (cs : Array Value) (t : TypeId) (fr : Nat × Nat) : Own (fun (_ : β) W => W.heap[g]? = some (.cells cs t fr)) := by
  rintro s X Y row h hg hrow
  refine (hg.block g (blk_lt h) (fun e => ?_)).trans h
  obtain ⟨o, ho, hc⟩ := hrow g e.symm
  rw [h] at ho; cases ho; cases hc
/-- What stands between two rounds of rows' loop over the parts. -/
def RwI (w : World) (g B1 B2 : Nat) (cg c1 c2 : Array Value) (pre : List Part) (W : World) : Prop :=
  (∃ v, Boxed W w.heap.size 25 v ∧ W.ownsRow w.heap.size 33 3 v pre.length ((pre.map encD).flatten) ∧ True) ∧
  ((W.heap[g]? = some (.cells cg 39 (0, 0)) ∧ W.heap[B1]? = some (.cells c1 31 (0, 0)) ∧ W.heap[B2]? = some (.cells c2 3 (0, 0))) ∧ Below w.heap.size w W)
theorem rwI_own (w : World) (g B1 B2 : Nat) (cg c1 c2 : Array Value) (N : Nat) (hN : w.heap.size ≤ N) : OwnFrom N (RwI w g B1 B2 cg c1 c2) :=
  OwnFrom.and (Own.from (holdsRow_own w.heap.size w.heap.size 25 33 3 (fun pre : List Part => pre.length) (fun pre => (pre.map encD).flatten) (fun _ _ => True)) N)
    (OwnFrom.and (OwnFrom.and (Own.from (cells_own g cg _ _) N) (OwnFrom.and (Own.from (cells_own B1 c1 _ _) N) (Own.from (cells_own B2 c2 _ _) N))) (ownFrom_below (Nat.le_refl _) hN))
theorem cells_new (W : World) (cs : List Value) (t : TypeId) : ∀ j u, cs[j]? = some u → (W.alloc (.cells cs.toArray t)).cell? ((⟨W.heap.size, 0, none⟩ : Addr).add j) = some u := fun j u hu => by
  rw [Go.Proofs.YtdobjbdkfammbaaDoorW.PrintWords.add_plain, blk_cell (blk_new W _)]
  simpa using hu
theorem encD_one (x : Part) : ∀ u ∈ encD x, u.oneCell' = true := by
  intro u hu
  simp only [encD, encP, List.mem_cons, List.not_mem_nil, or_false] at hu
  rcases hu with rfl | rfl | rfl <;> rfl
theorem kept_far {W w1 : World} {tmp : Obj} {v v' : Value} {base e size n g Bx : Nat} {xs : List Value} {cs : Array Value} {t : TypeId} (h : W.heap[g]? = some (.cells cs t (0, 0))) (hrow : W.ownsRow base e size v n xs) (ht : e ≠ t) (hgrow : (W.alloc tmp).grownBy w1 v.ownBlock) (hne : g ≠ Bx) :
    (w1.setCell ⟨Bx, 0, none⟩ v').heap[g]? = some (.cells cs t (0, 0)) :=
  blk_far (blk_grown (blk_alloc h tmp) hgrow (own_ne hrow h ht)) (p := ⟨Bx, 0, none⟩) hne _
theorem C_part {W : World} {ad : Addr} {L : List Wr} (h : kWr.C W (some ad) L.length L) (j : Nat) (hj : 8 * j ≤ L.length) : kWr.C W (some (ad.add (8 * j * 35))) ((L.drop (8 * j)).take 8).length ((L.drop (8 * j)).take 8) := by
  have h1 := Kd.C_drop h hj (Nat.le_succ L.length)
  rw [if_neg (by omega)] at h1
  have h2 := Kd.C_take h1 (m := min 8 (L.drop (8 * j)).length) (Nat.min_le_right _ _)
  rw [← List.take_eq_take_min] at h2
  exact h2
theorem flat3_get (ps : List Part) : ∀ j (p : Part), ps[j]? = some p → (((ps.map encD).flatten).drop (j * 3)).take 3 = encD p := by
  induction ps with
  | nil => intro j p h; simp at h
  | cons q ps ih =>
    intro j p h
    rcases j with _ | j
    · simp only [List.getElem?_cons_zero, Option.some.injEq] at h
      subst h
      simp [encD]
    · simp only [List.getElem?_cons_succ] at h
      rw [← ih j p h, List.map_cons, List.flatten_cons]
      show List.take 3 (List.drop ((j + 1) * 3) ([_, _, _] ++ _)) = _
      rw [Nat.succ_mul, Nat.add_comm, ← List.drop_drop]
      rfl
theorem flat3_len (ps : List Part) : ((ps.map encD).flatten).length = ps.length * 3 := by
  induction ps with
  | nil => rfl
  | cons q ps ih => rw [List.map_cons, List.flatten_cons, List.length_append, ih, List.length_cons, Nat.succ_mul, Nat.add_comm]; rfl
theorem rows_own {W : World} {base g : Nat} {v : Value} {L : List Wr} {cells : Array Value} (hrow : W.ownsRow base 33 3 v (partsW ⟨g, 0, none⟩ L.length ((L.length + 7) / 8)).length (((partsW ⟨g, 0, none⟩ L.length ((L.length + 7) / 8)).map encD).flatten)) (hC : kWr.C W (some ⟨g, 0, none⟩) L.length L) (hg : W.heap[g]? = some (.cells cells 39 (0, 0))) (hb : base ≤ g) :
    kDd.R 33 W base (fun _ => True) v ((cut8 L).map (fun c => ⟨1, c, 0⟩)) := by
  have hlen : (partsW ⟨g, 0, none⟩ L.length ((L.length + 7) / 8)).length = ((cut8 L).map (fun c => (⟨1, c, 0⟩ : Dd))).length := by simp [partsW, cut8]
  refine ⟨fun _ _ => trivial, _, by rw [hlen] at hrow; exact hrow, ?_, fun j p hj => ?_⟩
  · rw [flat3_len, hlen]; rfl
  · have hjl : j < (L.length + 7) / 8 := by have := (List.getElem?_eq_some_iff.1 hj).1; simpa [cut8] using this
    have hp : p = ⟨1, (L.drop (8 * j)).take 8, 0⟩ := by
      have := hj
      rw [List.getElem?_map] at this
      simp [cut8, hjl] at this
      exact this.symm
    have hq : (partsW ⟨g, 0, none⟩ L.length ((L.length + 7) / 8))[j]? = some (partW ⟨g, 0, none⟩ L.length j) := by simp [partsW, hjl]
    have h3 := flat3_get _ j _ hq
    show kDd.M W base _ p ((((partsW ⟨g, 0, none⟩ L.length ((L.length + 7) / 8)).map encD).flatten.drop (j * 3)).take 3)
    rw [h3, hp]
    have hl : ((L.drop (8 * j)).take 8).length = min 8 (L.length - 8 * j) := by simp
    have hC2 := C_part hC j (by omega)
    have hv : v.ownBlock ≠ some g := fun e => own_ne hrow hg (by decide) e.symm
    refine kDd_mk W base _ ⟨1, (L.drop (8 * j)).take 8, 0⟩ (A := some ((⟨g, 0, none⟩ : Addr).add (8 * j * 35))) hl (Nat.le_refl _) (by show kWr.C W _ (min 8 (L.length - 8 * j)) _; rw [← hl]; exact hC2) (fun ad e hp => ?_)
    cases e
    rw [add_block]
    exact ⟨⟨trivial, fun e => hv e.symm⟩, hb, blk_lt hg, cells, hg⟩
set_option maxRecDepth 100000 in
set_option maxHeartbeats 3200000 in
theorem rows_any (A : Option Addr) (B : List (List UInt8)) (c : Nat) (vol : Int) (w : World) (h : kBlock.C w A B.length B) (h1 : 1 ≤ B.length) (hl : B.length ≤ 1000) :
    Calls Tryd.prog 36 #[.slice A B.length c, .int .i64 vol] w fun e w' => ∃ v, e = .returned v ∧ kDd.R 33 w' w.heap.size (fun _ => True) v (rowsD vol B) ∧ Below w.heap.size w w' := by
  have hmx := Kd.C_max h
  have H := Aside0.mk h
  clear h
  refine (callsIn_wide (n := 6)).1 ?_
  refine callsIn_of_wp_marks Tryd.func36 rfl trivial ?_ rfl
  simp only [Tryd.ntmps36, List.size_toArray, List.length_cons, List.length_nil, Nat.reduceAdd, Nat.reduceSub, Array.replicate_succ, Array.replicate_zero, List.push_toArray, List.append_toArray, List.nil_append, List.cons_append]
  refine wpIn_wide.2 ?_
  go_wp2_with fail
  obtain ⟨W0, hW0⟩ : ∃ W0, w.alloc (.cells #[.slice none 0 0] 25) = W0 := ⟨_, rfl⟩
  have hs0 : W0.heap.size = w.heap.size + 1 := by rw [← hW0]; simp
  have HBX : Aside0 (Boxed W0 w.heap.size 25 (.slice none 0 0)) := ⟨by rw [← hW0]; exact Boxed.new w _ _⟩
  have HB0 : Aside0 (Below w.heap.size w W0) := ⟨by rw [← hW0]; exact below_alloc (Below.refl _ _) _⟩
  have HS0 := Aside0.mk hs0
  rw [hW0]
  clear hW0 hs0
  go_loopg [12, 6, 7, 8] B.length (fun gk i v6 _ _ wr => ∃ k : Nat, k ≤ B.length ∧ Aside0 (gk = B.length - k) ∧ i = .int .i64 k ∧ Aside0 (kWr.R 39 wr W0.heap.size (fun _ => True) v6 ((wrs vol B).take k)) ∧ Aside0 (Below W0.heap.size W0 wr))
  case atStart => exact ⟨0, Nat.zero_le _, ⟨rfl⟩, rfl, ⟨Kd.R_nil _ _ _ _ _⟩, ⟨Below.refl _ _⟩⟩
  case round =>
    obtain ⟨k, hk, HGK, rfl, HR, HB⟩ := hrel
    by_cases hlt : k < B.length
    · obtain ⟨ad, rfl, hl32, hc⟩ := block_at H.out hlt
      have hkl : (k : Int) < (B.length : Int) := by omega
      obtain ⟨xs, hxs⟩ : ∃ xs, xs = gt B k := ⟨_, rfl⟩
      rw [← hxs] at hl32 hc
      have HC : Aside0 (∀ j u, (bytesV xs)[j]? = some u → wr.cell? ((ad.add (k * 32)).add j) = some u) := ⟨fun j u hu => cell_old HB.out (cell_old HB0.out (hc j u hu))⟩
      have HX : Aside0 ((wrs vol B).take (k + 1) = (wrs vol B).take k ++ [⟨vol, (k : Int), xs⟩]) := ⟨by rw [wrs_succ vol B k hlt, hxs]⟩
      have HLEN : Aside0 ((((wrs vol B).take k).length + 1) * 56 ≤ 140737488355328) := ⟨by have : ((wrs vol B).take k).length ≤ k := List.length_take_le _ _; omega⟩
      have HBT := Aside0.mk (built_wr vol (k : Int) xs hl32)
      clear hc hxs
      go_wp2_with (first | ((with_reducible refine gate_dst (N := 16) rfl ?_); refine load_block rfl _ rfl (ad.add (k * 32)) rfl xs hl32 HC.out ?_) | ((with_reducible refine gate_store (t := 37) (p := 8) rfl ?_); refine store_block_new rfl (.tmp 8) (.tmp 16) rfl _ rfl rfl xs hl32 rfl ?_; obtain ⟨W1, hW1⟩ : ∃ W1, wr.alloc (.cells (bytesV xs).toArray 37) = W1 := ⟨_, rfl⟩; have HX1 : Aside0 (W1.heap[wr.heap.size]? = some (.cells (bytesV xs).toArray 37 (0, 0))) := ⟨by rw [← hW1]; exact blk_new wr _⟩; have HB1 : Aside0 (Below W0.heap.size W0 W1) := ⟨by rw [← hW1]; exact below_alloc HB.out _⟩; have HR1 : Aside0 (kWr.R 39 W1 W0.heap.size (fun _ => True) u6 ((wrs vol B).take k)) := ⟨by rw [← hW1]; exact Kd.R_alloc HR.out _⟩; rw [hW1]; clear hW1) | ((with_reducible refine gate_dst (N := 21) rfl ?_); refine load_block rfl _ rfl ⟨wr.heap.size, 0, none⟩ rfl xs hl32 (block_cells HX1.out) ?_) | ((with_reducible refine gate_dst (N := 22) rfl ?_); refine build_on rfl 39 _ rfl (wrV ⟨vol, (k : Int), xs⟩).toArray (Eq.trans (by kernel_rfl) HBT.out) ?_) | ((with_reducible refine gate_dst (N := 23) rfl ?_); refine build_write rfl (.tmp 22) rfl ⟨vol, (k : Int), xs⟩ hl32 rfl ?_) | ((with_reducible refine gate_builtin (b := .append) (xs := #[.tmp 17, .tmp 23]) rfl ?_); at_builtin; refine Kd.R_append kWr (w0 := W0) W0.heap.size rfl (.tmp 17) (.tmp 23) 31 39 zW 56 rfl Tryd.underlying31 info_wrZ rfl (by decide) (by omega) _ ((wrs vol B).take k) ⟨vol, (k : Int), xs⟩ (wrV ⟨vol, (k : Int), xs⟩) (fun _ => True) (fun _ => False) rfl rfl (kWr_mk _ _ _ _ hl32) (fun _ hk => hk.elim) (fun _ _ => trivial) HR1.out HB1.out HB1.out.size HLEN.out ?_; intro v9 w9 ho9 hb9 hg9 hat9; rw [← HX.out] at ho9; have HR9 := Aside0.mk ho9; have HB9 := Aside0.mk hb9; clear ho9 hb9 hg9 hat9))
      go_roundg (B.length - (k + 1))
      case measure => have := HGK.out; omega
      case rel => exact ⟨k + 1, by omega, ⟨rfl⟩, by go_num, HR9, HB9⟩
    · have hkl : ¬ (k : Int) < (B.length : Int) := by omega
      obtain ⟨L, hL⟩ : ∃ L, L = wrs vol B := ⟨_, rfl⟩
      have hLl : L.length = B.length := by rw [hL, wrs_len]
      have hR : kWr.R 39 wr W0.heap.size (fun _ => True) u6 L := by
        have := HR.out
        rwa [show k = B.length by omega, ← hL, List.take_of_length_le (by omega)] at this
      obtain ⟨g, cap, rfl, hg1, hg2, cells, hcells⟩ := Kd.R_form hR (by omega)
      rw [hLl] at hR
      have hmc := (Kd.R_reads' hR).2.1
      have HR2 := Aside0.mk hR
      have HCL := Aside0.mk hcells
      have HL := Aside0.mk hL
      have HLL := Aside0.mk hLl
      rw [hLl]
      clear hcells hR hL hLl HR
      go_wp2_with (first | (go_at_call 61; refine (chunkW_any _ _ rfl).mono ?_; rintro e w5 ⟨rfl, hw5⟩))
      refine (wpIn_wide (n := 6)).1 ?_
      obtain ⟨i0, hi, hz0, hz1, hz2⟩ := info_parts info_dd
      obtain ⟨W4, hW4⟩ : ∃ W4, wr.alloc (.cells #[.slice (some ⟨g, 0, none⟩) B.length cap] 31) = W4 := ⟨_, rfl⟩
      have hs4 : W4.heap.size = wr.heap.size + 1 := by rw [← hW4]; simp
      rw [hW4] at hw5
      have hb5 : Below wr.heap.size wr w5 := by rw [← hw5, ← hW4]; exact below_alloc (below_alloc (Below.refl _ _) _) _
      have hk1 : w5.heap[wr.heap.size]? = some (.cells #[.slice (some ⟨g, 0, none⟩) B.length cap] 31 (0, 0)) := by rw [← hw5]; exact blk_alloc (by rw [← hW4]; exact blk_new wr _) _
      have hk2 : w5.heap[wr.heap.size + 1]? = some (.cells #[.int .i64 8] 3 (0, 0)) := by rw [← hw5, ← hs4]; exact blk_new W4 _
      have hkg : w5.heap[g]? = some (.cells cells 39 (0, 0)) := blk_below HCL.out hb5
      have hbx : Boxed w5 w.heap.size 25 (.slice none 0 0) := blk_below (blk_below HBX.out HB.out) hb5
      have hB5 : Below w.heap.size w w5 := below_step (below_step HB0.out HB.out) hb5
      have hsz5 : wr.heap.size + 2 = w5.heap.size := by rw [← hw5]; simp [hs4]
      have hle0 := HB.out.size
      have hle1 := HS0.out
      clear hW4 hs4 hw5
      refine wpIn_rangeFunc_ownF rfl (by omega) (gf := 79) (lb := #[.pointer (some ⟨wr.heap.size, 0, none⟩), .pointer (some ⟨wr.heap.size + 1, 0, none⟩)]) rfl trivial (enters_of Tryd.func79 (by kernel_rfl) rfl) (chunkW_stops Fence.wide (6 - 1) trivial rfl (by omega) wr.heap.size (wr.heap.size + 1) ⟨g, 0, none⟩ B.length cap hmc (by omega) w5 (by omega) (by omega) hk1 hk2) (fun h1 h2 => ⟨h2.1.trans h1.1, h2.2.trans h1.2⟩) (fun W l o o' hl _ _ _ => ⟨World.putObj_heap_other (by omega), World.putObj_heap_other (by omega)⟩) (Below.refl _ _) (fun _ => rfl)
        (RwI w g wr.heap.size (wr.heap.size + 1) cells #[.slice (some ⟨g, 0, none⟩) B.length cap] #[.int .i64 8]) (fun _ _ _ => False) (rwI_own _ _ _ _ _ _ _ _ hB5.size) (fun _ _ _ _ _ h => h.elim)
        ⟨⟨_, hbx, own_nil _ _ _ _, trivial⟩, ⟨hkg, hk1, hk2⟩, hB5⟩
        (fun x => { tmps := #[.slice A B.length c, .int .i64 vol, undef, undef, .slice none 0 0, .pointer (some ⟨w.heap.size, 0, none⟩), .slice (some ⟨g, 0, none⟩) B.length cap, u7, u8, encP x, .slice A B.length c, .int .i64 B.length, .int .i64 k, .bool false, u14, u15, u16, u17, u18, u19, u20, u21, u22, u23, u24, u25, .slice (some ⟨g, 0, none⟩) B.length cap, .func (.func 79) #[] #[.pointer (some ⟨wr.heap.size, 0, none⟩), .pointer (some ⟨wr.heap.size + 1, 0, none⟩)], encP x, undef, undef, undef, undef, undef, undef], defers := [] }) ?assign ?body ?done ?stop
      case assign =>
        intro l x W K hK
        gi_wp2
        exact hK
      case body =>
        rintro l pre x W ⟨⟨v, hv, hrow, _⟩, ⟨hg, hB1, hB2⟩, hB⟩ hlen
        have hvc := hv.cell
        have hvf := hv.frozen
        have hex : encP x = .slice x.1 x.2 x.2 := rfl
        gi_wp2_with (gi_at_builtin; refine wpListIn_append_own _ rfl (.tmp 29) (.tmp 32) 25 rfl w.heap.size 33 i0 _ 3 40 Tryd.underlying25 hi hz0 hz1 hz2 rfl (by decide) _ _ _ rfl (hrow.alloc _) ⟨W.heap.size, 0, none⟩ 1 1 (encD x) rfl rfl (cells_new W (encD x) _) (encD_one x) (by simp only [maxLen]; omega) (by omega) (by have := hB.size; simp; omega) ?_; intro v' w1 hown' hgrow _; obtain ⟨g', cap', rfl⟩ := ownsRow_succ hown'; obtain ⟨hv1, hv2, hr2, hkk, hb2⟩ := hv.appended (by decide) hrow hB.size (Nat.le_refl _) hown' hgrow; have hc1 := hv1.cell; have hf1 := hv1.frozen)
        have q1 := kept_far (v' := .slice (some ⟨g', 0, none⟩) (pre.length + 1) cap') (Bx := w.heap.size) hg hrow (by decide) hgrow (by omega)
        have q2 := kept_far (v' := .slice (some ⟨g', 0, none⟩) (pre.length + 1) cap') (Bx := w.heap.size) hB1 hrow (by decide) hgrow (by omega)
        have q3 := kept_far (v' := .slice (some ⟨g', 0, none⟩) (pre.length + 1) cap') (Bx := w.heap.size) hB2 hrow (by decide) hgrow (by omega)
        refine ⟨hkk, ⟨q2.trans hB1.symm, q3.trans hB2.symm⟩, ⟨_, hv2, ?_, trivial⟩, ⟨q1, q2, q3⟩, hB.trans hb2⟩
        rw [List.length_append, List.map_append, List.flatten_append]
        simpa using hr2
      case done =>
        rintro D ps W hD rfl ⟨⟨v, hv, hrow, _⟩, ⟨hg, hB1, hB2⟩, hB⟩ hK
        have hvc := hv.cell
        go_wp2_with fail
        refine ⟨by simp, .inl ⟨_, _, rfl, run_takeDeferred hK, ?_⟩⟩
        refine ⟨_, results_tmp rfl _ _ _, v, rfl, ?_, hB.grown (grownBy_putObj' _ _ _) hB.size (fun k e => by cases e; omega)⟩
        have hg' : (W.putObj D (.deferred none)).heap[g]? = some (.cells cells 39 (0, 0)) := by
          rw [World.putObj_heap_other (fun e => by rw [e, hK] at hg; cases hg)]
          exact hg
        have hC := (Kd.R_reads' HR2.out).2.2
        have hC2 : kWr.C (W.putObj D (.deferred none)) (some ⟨g, 0, none⟩) L.length L := C_flat kWr_flat hC (hg'.trans HCL.out.symm)
        have hrow2 := ownsRow_putObj hrow (.deferred none) hK rfl
        rw [← HLL.out] at hrow2
        unfold rowsD
        rw [← HL.out]
        exact rows_own hrow2 hC2 hg' (by omega)
      case stop =>
        rintro D c pre W _ _ h _
        exact h.elim
end Go.Proofs.YtdobjbdkfammbaaDoor
/-
  Chapter 55: attack.locked, slices.Clone of files, walked.
-/
namespace Go.Proofs.YtdobjbdkfammbaaDoor
open Go.RowKit Go.Shelf Go.Proofs.YtdobjbdkfammbaaDoorW.PrintWords Go.Proofs.YtdobjbdkfammbaaDoorW.PrintLast Go.Proofs.YtdobjbdkfammbaaDoorW.PrintMore
set_option linter.unusedVariables false
set_option linter.unusedSimpArgs false

/-- The byte at a place, locked. -/
def lockAt (key : UInt8) (xs : List UInt8) (j : Nat) : UInt8 := gt xs j ^^^ (key + UInt8.ofNat (37 * j))
/-- Data of which the first k bytes are locked. -/
def lockTo (key : UInt8) (xs : List UInt8) (k : Nat) : List UInt8 := (List.range xs.length).map (fun j => if j < k then lockAt key xs j else gt xs j)
def lockB (key : UInt8) (xs : List UInt8) : List UInt8 := (List.range xs.length).map (lockAt key xs)
theorem lockTo_len (key : UInt8) (xs : List UInt8) (k : Nat) : (lockTo key xs k).length = xs.length := by simp [lockTo]
theorem lockB_len (key : UInt8) (xs : List UInt8) : (lockB key xs).length = xs.length := by simp [lockB]
theorem lockTo_zero (key : UInt8) (xs : List UInt8) : lockTo key xs 0 = xs := by
  apply List.ext_getElem (by simp [lockTo])
  intro j h1 h2
  simp [lockTo, gt_eq xs j h2]
theorem lockTo_full (key : UInt8) (xs : List UInt8) (k : Nat) (hk : xs.length ≤ k) : lockTo key xs k = lockB key xs := by
  apply List.ext_getElem (by simp [lockTo, lockB])
  intro j h1 h2
  rw [lockTo_len] at h1
  have : j < k := by omega
  simp [lockTo, lockB, this]
theorem lockTo_gt (key : UInt8) (xs : List UInt8) (k : Nat) (hk : k < xs.length) : gt (lockTo key xs k) k = gt xs k := by
  rw [gt_eq _ _ (by rw [lockTo_len]; exact hk)]
  simp [lockTo]
theorem lockTo_set (key : UInt8) (xs : List UInt8) (k : Nat) (hk : k < xs.length) : (lockTo key xs k).set k (lockAt key xs k) = lockTo key xs (k + 1) := by
  apply List.ext_getElem (by simp [lockTo])
  intro j h1 h2
  rw [lockTo_len] at h2
  rw [List.getElem_set]
  by_cases hj : k = j
  · subst hj
    simp [lockTo]
  · rw [if_neg hj]
    simp only [lockTo, List.getElem_map, List.getElem_range]
    by_cases hl : j < k
    · rw [if_pos hl, if_pos (by omega)]
    · rw [if_neg hl, if_neg (by omega)]
theorem lock_num (key x : UInt8) (k : Nat) : bits .xor .u8 (x.toNat : Int) (((key.toNat : Int) + 37 * (k : Int)) % 256) = ((x ^^^ (key + UInt8.ofNat (37 * k))).toNat : Int) := by
  have h : ((key.toNat : Int) + 37 * (k : Int)) % 256 = ((key + UInt8.ofNat (37 * k)).toNat : Int) := by
    rw [UInt8.toNat_add, UInt8.toNat_ofNat']
    omega
  rw [h, u8_xor_nat _ _ (UInt8.toNat_lt _) (UInt8.toNat_lt _), UInt8.toNat_xor]
set_option maxHeartbeats 1600000 in
theorem locked_any (A : Option Addr) (xs : List UInt8) (c : Nat) (key : UInt8) (w : World) (h : byte.C w A xs.length xs) (hc : xs.length ≤ c) (hl : xs.length ≤ 256) :
    Calls Tryd.prog 34 #[.slice A xs.length c, .int .u8 (key.toNat : Int)] w fun e w' => ∃ v, e = .returned v ∧ byte.R 5 w' w.heap.size (fun _ => True) v (lockB key xs) ∧ Below w.heap.size w w' := by
  have HC := Aside0.mk (sclone A xs c w h hc (by omega))
  have hk8 := key.toNat_lt
  clear h
  go_enter Tryd.func34, Tryd.ntmps34
  go_wp2_with (first | (go_at_call 55; refine HC.out.mono ?_; rintro e w1 ⟨v, rfl, ho, hb⟩; obtain ⟨A1, c1, rfl⟩ := Kd.R_slice ho; have HO := Aside0.mk ho; have HB := Aside0.mk hb; clear ho hb))
  go_loopg [11, 6] xs.length (fun gk i _ wr => ∃ k : Nat, k ≤ xs.length ∧ Aside0 (gk = xs.length - k) ∧ i = .int .i64 k ∧ Aside0 (byte.R 5 wr w.heap.size (fun _ => True) (.slice A1 xs.length c1) (lockTo key xs k)) ∧ Aside0 (Below w.heap.size w wr))
  case atStart => exact ⟨0, Nat.zero_le _, ⟨rfl⟩, rfl, ⟨by rw [lockTo_zero]; exact HO.out⟩, HB⟩
  case round =>
    obtain ⟨k, hk, HGK, rfl, HR, HBr⟩ := hrel
    by_cases hlt : k < xs.length
    · obtain ⟨g, cap, he, hg1, hg2, _⟩ := Kd.R_form HR.out (by rw [lockTo_len]; omega)
      injection he with he1 _ he3
      subst he1 he3
      obtain ⟨r0, r1⟩ := Kd.R_celln (0 : UInt8) HR.out (k : Int) (by omega) (by omega)
      have hr : rdOf (0 : UInt8) (lockTo key xs k) (k : Int) = gt xs k := by
        rw [← lockTo_gt key xs k hlt]
        rfl
      rw [hr] at r0
      simp only [Int.toNat_natCast] at r0 r1
      have hp := Kd.R_putn HR.out (k : Int) (lockAt key xs k)
      simp only [Int.toNat_natCast] at hp
      rw [lockTo_set key xs k hlt] at hp
      have hx8 := (gt xs k).toNat_lt
      obtain ⟨x, hx⟩ : ∃ x, x = gt xs k := ⟨_, rfl⟩
      have hla : lockAt key xs k = x ^^^ (key + UInt8.ofNat (37 * k)) := by rw [hx]; rfl
      rw [hla] at hp
      rw [← hx] at r0 hx8
      have HNM := Aside0.mk (lock_num key x k)
      have hkn : (k : Int) < (xs.length : Int) := by omega
      have hk255 : (k : Int) ≤ 255 := by omega
      have HP := Aside0.mk hp
      have HBn := Aside0.mk (HBr.out.setCell (p := ⟨g, k, none⟩) hg1 (.int .u8 ((x ^^^ (key + UInt8.ofNat (37 * k))).toNat : Int)))
      clear hx hla hp hr
      go_wp2_with fail
      go_roundg (xs.length - (k + 1))
      case measure => have := HGK.out; omega
      case rel => exact ⟨k + 1, by omega, ⟨rfl⟩, by go_num, ⟨by rw [HNM.out]; exact HP.out⟩, ⟨by rw [HNM.out]; exact HBn.out⟩⟩
    · have hR := HR.out
      rw [lockTo_full key xs k (by omega)] at hR
      have HF := Aside0.mk hR
      have hkn : ¬ (k : Int) < (xs.length : Int) := by omega
      clear hR
      go_wp2_with fail
      go_ret
      exact ⟨_, rfl, HF.out, HBr.out⟩
/-- A file whose bytes came in with w0, or are the call's own. -/
def kFileX (w0 : World) : Kd File := Kd.iso (Kd.pair Kd.string (Kd.mix 5 byte byte w0)) (fun x : File => (x.name, x.data))
theorem kFileX_came {w0 w : World} {base : Nat} {ok : Nat → Prop} {x : File} {cs : List Value} (h : kFile.K w0 x cs) : (kFileX w0).M w base ok x cs := by
  obtain ⟨A, c, rfl, hl, hg⟩ := kFile_open h
  exact ⟨[.string x.name], [.slice A x.data.length c], rfl, rfl, Kd.mix_came hl hg⟩
theorem kFileX_made {w0 w : World} {base : Nat} {ok : Nat → Prop} {x : File} {v : Value} (h : byte.R 5 w base ok v x.data) : (kFileX w0).M w base ok x [.string x.name, v] := ⟨[.string x.name], [v], rfl, rfl, Kd.mix_made h⟩
theorem kFileX_open {w0 w : World} (hb : Below w0.heap.size w0 w) {x : File} {cs : List Value} (h : (kFileX w0).K w x cs) : ∃ A c, cs = [.string x.name, .slice A x.data.length c] ∧ x.data.length ≤ c ∧ byte.C w A x.data.length x.data := by
  obtain ⟨_, _, rfl, rfl, h2⟩ := h
  obtain ⟨A, c, rfl, hl, hg⟩ := Kd.mix_read rfl (fun _ _ hk => hk) hb h2
  exact ⟨A, c, rfl, hl, hg⟩
theorem fileX_read {w0 w : World} (hb : Below w0.heap.size w0 w) {A : Option Addr} {n : Nat} {xs : List File} (h : (kFileX w0).C w A n xs) : kFile.C w A n xs :=
  Kd.C_read (d := kFile) (dm := kFileX w0) rfl (fun x cs hk => by
    obtain ⟨A, c, rfl, hl, hg⟩ := kFileX_open hb hk
    exact kFile_mk w x hl hg) h
theorem info_file55 : (Tryd.prog.info? 56).map (fun i => (i.zero, i.size, i.bytes)) = some (some (.agg #[.string ByteArray.empty, .slice none 0 0]), 2, 40) := by kernel_rfl
set_option maxHeartbeats 800000 in
theorem fclone (A : Option Addr) (l : List File) (c : Nat) (w0 w : World) (hb0 : Below w0.heap.size w0 w) (h1 : kFile.C w0 A l.length l) (hc : l.length ≤ c) (hl : l.length ≤ 1000000) :
    Calls Tryd.prog 31 #[.slice A l.length c] w fun e w' => ∃ v, e = .returned v ∧ (kFileX w0).R 56 w' w.heap.size (fun _ => True) v l ∧ Below w.heap.size w w' := by
  have q : ∀ (w : World) (a : Option Addr) (n c n' c' : Nat), (binOp .eql 43 (.slice a n c) (.slice none n' c')).run Tryd.prog w = .ok (.bool a.isNone) w := fun w a n c n' c' => Lib.run_eql_slice_nil w _ _ a n c n' c' Tryd.underlying43
  rcases A with _ | ad
  · have h0 : l = [] := by
      rcases l with _ | ⟨x, xs⟩
      · rfl
      · obtain ⟨ad, _, e, _⟩ := C_at h1 (k := 0) (by simp)
        cases e
    subst h0
    go_enter Tryd.func31, Tryd.ntmps31
    go_wp2
    go_ret
    exact ⟨_, rfl, Kd.R_nil _ _ _ _ _, Below.refl _ _⟩
  · have HB := Aside0.mk (Below.refl w.heap.size w)
    have H1 := Aside0.mk h1
    have HB0 := Aside0.mk hb0
    clear h1 hb0
    go_enter Tryd.func31, Tryd.ntmps31
    go_wp2_with (first | ((with_reducible refine gate_dst (N := 5) rfl ?_); refine Kd.R_lit (kFileX w0) (w0 := w) w.heap.size 56 rfl (N := 5) rfl (xs := []) (inner := []) (ok := fun _ => True) (okp := fun _ => False) ?hr (reps_nil _ _) (fun _ hk => hk.elim) trivial HB.out (Nat.le_refl _) (by simp) ?_; (case hr => first | (go_simp; done) | (go_simp; rfl)); intro v1 w1 ho hb hg hat; have HO := Aside0.mk ho; have HB1 := Aside0.mk hb; have hs1 := hb.size; clear ho hb hg hat) | ((with_reducible refine gate_builtin (b := .append) (xs := #[.tmp 5, .tmp 6]) rfl ?_); at_builtin; refine Kd.R_append_rows (kFileX w0) (Rr := kFile.K w0) (w0 := w) w.heap.size rfl (.tmp 5) (.tmp 6) 43 56 (.agg #[.string ByteArray.empty, .slice none 0 0]) 40 rfl Tryd.underlying43 info_file55 rfl (Nat.succ_pos _) (by omega) _ [] l (some ad) l.length c (fun _ => True) (fun _ => False) rfl rfl HO.out (ReadsRow.imp_ H1.out (below_step HB0.out HB1.out) (fun _ _ hp => hp)) (fun _ _ hx => kFileX_came hx) (fun _ hk => hk.elim) (fun _ _ => trivial) HB1.out hs1 (by simp; omega) ?_; intro v2 w2 ho hb hg hat; have HO2 := Aside0.mk ho; have HB2 := Aside0.mk hb; clear ho hb hg hat))
    go_ret
    exact ⟨_, rfl, HO2.out, HB2.out⟩
end Go.Proofs.YtdobjbdkfammbaaDoor
/-
  Chapter 55: attack.host and what it hands to its caller, walked.
-/
namespace Go.Proofs.YtdobjbdkfammbaaDoor
open Go.RowKit Go.Shelf Go.Proofs.YtdobjbdkfammbaaDoorW.PrintWords Go.Proofs.YtdobjbdkfammbaaDoorW.PrintLast Go.Proofs.YtdobjbdkfammbaaDoorW.PrintMore
set_option linter.unusedVariables false
set_option linter.unusedSimpArgs false

/-- Blocks of cells of other types than T lie as they lay. -/
structure KeepT (T : List TypeId) (W W' : World) : Prop where
  size : W.heap.size ≤ W'.heap.size
  same : ∀ (k : Nat) (cs : Array Value) (t : TypeId), W.heap[k]? = some (.cells cs t (0, 0)) → t ∉ T → W'.heap[k]? = some (.cells cs t (0, 0))
theorem KeepT.refl (T : List TypeId) (W : World) : KeepT T W W := ⟨Nat.le_refl _, fun _ _ _ h _ => h⟩
theorem KeepT.trans {T : List TypeId} {A B C : World} (h : KeepT T A B) (k : KeepT T B C) : KeepT T A C := ⟨Nat.le_trans h.size k.size, fun i cs t hi ht => k.same i cs t (h.same i cs t hi ht) ht⟩
theorem KeepT.of_below {T : List TypeId} {W W' : World} (h : Below W.heap.size W W') : KeepT T W W' := ⟨h.size, fun _ _ _ hk _ => blk_below hk h⟩
theorem KeepT.mono {T T' : List TypeId} {W W' : World} (h : KeepT T W W') (hT : ∀ t, t ∈ T → t ∈ T') : KeepT T' W W' := ⟨h.size, fun k cs t hk ht => h.same k cs t hk (fun hm => ht (hT t hm))⟩
theorem KeepT.grown {T : List TypeId} {W W' : World} {row : Option Nat} (hg : W.grownBy W' row) (hr : ∀ k, row = some k → ∃ cs t, t ∈ T ∧ W.heap[k]? = some (.cells cs t (0, 0))) : KeepT T W W' := by
  refine ⟨hg.size, fun k cs t hk ht => (hg.block k (blk_lt hk) (fun e => ?_)).trans hk⟩
  obtain ⟨cs', t', ht', hk'⟩ := hr k e.symm
  rw [hk] at hk'
  injection hk' with hk'
  injection hk' with _ h2
  exact ht (h2 ▸ ht')
theorem KeepT.set {T : List TypeId} {W : World} {p : Addr} {cs : Array Value} {t : TypeId} (hp : W.heap[p.block]? = some (.cells cs t (0, 0))) (ht : t ∈ T) (v : Value) : KeepT T W (W.setCell p v) := by
  refine ⟨by simp [World.setCell], fun k cs' t' hk ht' => (Below.heap_setCell W p v k (fun e => ?_)).trans hk⟩
  rw [e, hp] at hk
  injection hk with hk
  injection hk with _ h2
  exact ht' (h2 ▸ ht)
theorem R_keepT {α : Type} {d : Kd α} {e base : Nat} {ok : Nat → Prop} {W W' : World} {v : Value} {xs : List α} {T : List TypeId} (h : d.R e W base ok v xs) (hk : KeepT T W W') (ht : ∀ q, q ∈ e :: d.E → q ∉ T) : d.R e W' base ok v xs :=
  Kd.R_mono (Kd.R_move (Kd.R_bound h) (fun k hk' => by
    obtain ⟨_, _, _, q, hq, cells, hc⟩ := hk'
    rw [hk.same k cells q hc (ht q hq), hc])) (fun k hk' => hk'.1)
theorem boxed_keepT {W W' : World} {B : Nat} {t : TypeId} {v : Value} {T : List TypeId} (h : Boxed W B t v) (hk : KeepT T W W') (ht : t ∉ T) : Boxed W' B t v := hk.same B _ t h ht

/-- The deeds that host has heard so far, in their box. -/
structure OutAt (w0 : World) (Bo : Nat) (v : Value) (ds : List Dd) (W : World) : Prop where
  box : Boxed W Bo 25 v
  row : kDd.R 33 W w0.heap.size (fun _ => True) v ds
  le : w0.heap.size ≤ Bo
  out : Below w0.heap.size w0 W
theorem OutAt.keep {w0 W W' : World} {Bo : Nat} {v : Value} {ds : List Dd} {T : List TypeId} (h : OutAt w0 Bo v ds W) (hk : KeepT T W W') (ht : ∀ q, q ∈ [33, 39, 25] → q ∉ T) (hb : Below w0.heap.size w0 W') : OutAt w0 Bo v ds W' :=
  ⟨boxed_keepT h.box hk (ht _ (by decide)), R_keepT h.row hk (fun q hq => ht q (by
    have : q ∈ [33, 39] := hq
    simp only [List.mem_cons, List.not_mem_nil, or_false] at this ⊢
    rcases this with h | h
    · exact .inl h
    · exact .inr (.inl h))), h.le, hb⟩
theorem OutAt.below {w0 W W' : World} {Bo : Nat} {v : Value} {ds : List Dd} (h : OutAt w0 Bo v ds W) (hb : Below W.heap.size W W') : OutAt w0 Bo v ds W' := h.keep (T := []) (KeepT.of_below hb) (fun q _ h => by simp at h) (below_step h.out hb)
/-- Deeds that are made, as they are appended to others. -/
theorem dd_rows {W : World} {base : Nat} {v : Value} {ds : List Dd} {A : Option Addr} {m c : Nat} {xs : List Dd} (ho : kDd.R 33 W base (fun _ => True) v ds) (hx : kDd.R 33 W base (fun _ => True) (.slice A m c) xs) : ReadsRow (kDd.M W base (fun k => some k ≠ v.ownBlock)) kDd.sz W A m xs := by
  obtain ⟨A', c', he, _, hr⟩ := OwnRow.reads hx.2
  cases he
  refine hr.imp_ (Below.refl _ _) (fun p cs hp => ?_)
  cases hv : v.ownBlock with
  | none => exact kDd.M_mono (fun k _ => by simp) hp
  | some g =>
    obtain ⟨cells, hc⟩ := Kd.R_typed ho g hv
    refine kDd.M_mono (fun k hk e => ?_) (Kd.M_types hp hc (fun q hq e => ?_))
    · injection e with e
      exact hk.2 e
    · have : q ∈ [39] := hq
      rw [List.mem_singleton] at this
      rw [this] at e
      exact absurd e (by decide)
set_option maxHeartbeats 800000 in
/-- .. hears more deeds. -/
theorem say_any (w0 : World) (Bo : Nat) (v : Value) (ds : List Dd) (W : World) (hO : OutAt w0 Bo v ds W) (A : Option Addr) (m c : Nat) (xs : List Dd) (hx : kDd.R 33 W w0.heap.size (fun _ => True) (.slice A m c) xs) (hl : (ds.length + m) * 40 ≤ 140737488355328) :
    Calls Tryd.prog 54 #[.slice A m c, .pointer (some ⟨Bo, 0, none⟩)] W fun e W' => (∃ u, e = .returned u) ∧ ∃ v', OutAt w0 Bo v' (ds ++ xs) W' ∧ KeepT [33, 25] W W' := by
  have hc0 := hO.box.cell
  have HO := Aside0.mk hO
  have HX := Aside0.mk hx
  have HL := Aside0.mk hl
  clear hO hx hl
  go_enter Tryd.func54, Tryd.ntmps54
  go_wp2_with ((with_reducible refine gate_builtin (b := .append) (xs := #[.tmp 3, .tmp 4]) rfl ?_); at_builtin; refine Kd.R_append_rows kDd (Rr := kDd.M W w0.heap.size (fun k => some k ≠ v.ownBlock)) (w0 := w0) w0.heap.size rfl (.tmp 3) (.tmp 4) 25 33 (.agg #[.int .i64 0, .slice none 0 0, .int .i64 0]) 40 rfl Tryd.underlying25 info_dd rfl (Nat.succ_pos _) (by omega) v ds xs A m c (fun _ => True) (fun k => some k ≠ v.ownBlock) rfl rfl HO.out.row (dd_rows HO.out.row HX.out) (fun _ _ h => h) (fun k hk => ⟨trivial, hk⟩) (fun _ _ => trivial) HO.out.out HO.out.out.size HL.out ?_; intro v2 w2 ho hb hg hat; obtain ⟨A2, c2, rfl⟩ := Kd.R_slice ho; have hbx : Boxed w2 Bo 25 v := HO.out.box.kept hg (HO.out.box.not_row (by decide) (Kd.R_own HO.out.row).choose_spec); have hc2 := hbx.cell; have hf2 := hbx.frozen; have HR2 := Aside0.mk ho; have HB2 := Aside0.mk hb; have HG2 := Aside0.mk hg; have HBX := Aside0.mk hbx; clear ho hb hg hat hbx)
  have hk1 : KeepT [33, 25] W w2 := KeepT.grown HG2.out (fun k hk => by
    obtain ⟨cells, hc⟩ := Kd.R_typed HO.out.row k hk
    exact ⟨cells, _, by decide, hc⟩)
  have hR := Kd.R_set HR2.out HBX.out (fun q hq e => by
    have : q ∈ [33, 39] := hq
    rw [e] at this
    exact absurd this (by decide)) 0 (.slice A2 (ds ++ xs).length c2)
  have hS := HBX.out.set (.slice A2 (ds ++ xs).length c2)
  have hk2 := KeepT.set (T := [33, 25]) (p := ⟨Bo, 0, none⟩) HBX.out (by decide) (.slice A2 (ds ++ xs).length c2)
  have hB := HB2.out.setCell (p := ⟨Bo, 0, none⟩) HO.out.le (.slice A2 (ds ++ xs).length c2)
  rw [List.length_append] at hR hS hk2 hB
  go_end0
  exact ⟨⟨_, rfl⟩, _, ⟨hS, hR, HO.out.le, hB⟩, hk1.trans hk2⟩
theorem makeV_le (l : List File) (h : makeE l = 0) : l.length ≤ 8 ∧ togB l = true ∧ makeV l = makeB l ∧ 1 ≤ (makeV l).length ∧ (makeV l).length ≤ 100 := by
  unfold makeE at h
  split at h
  · cases h
  · next h8 =>
    split at h
    · next ht =>
      have e : makeV l = makeB l := by unfold makeV; rw [if_neg h8, if_pos ht]
      have h2 := blocksTo_le ht l.length (Nat.le_refl _)
      have h3 := outTo_len l l.length (Nat.le_refl _)
      have h4 : (makeB l).length = (outTo l l.length).length := by
        unfold makeB outTo
        simp [tableB]
      exact ⟨by omega, ht, e, by rw [e]; omega, by rw [e]; omega⟩
    · cases h
/-- The deeds that host hands back. -/
def hostD (vol : Int) (l : List File) (D : Nat → List Dd) (k : Nat) : List Dd := rowsD vol (makeV l) ++ ((List.range k).map D).flatten
theorem hostD_succ (vol : Int) (l : List File) (D : Nat → List Dd) (k : Nat) : hostD vol l D (k + 1) = hostD vol l D k ++ D k := by
  unfold hostD
  rw [List.range_succ, List.map_append, List.flatten_append, List.append_assoc]
  simp
theorem hostD_le (vol : Int) (l : List File) (D : Nat → List Dd) (hl : (makeV l).length ≤ 100) (hD : ∀ i, (D i).length ≤ 40) (k : Nat) : (hostD vol l D k).length ≤ 20 + 40 * k := by
  induction k with
  | zero =>
    unfold hostD
    simp [rowsD_len]
    omega
  | succ k ih =>
    rw [hostD_succ, List.length_append]
    have := hD k
    omega
theorem rows_as (A : Option Addr) (B : List (List UInt8)) (n : Nat) (hn : B.length = n) (c : Nat) (vol : Int) (w : World) (h : kBlock.C w A n B) (h1 : 1 ≤ n) (hl : n ≤ 1000) :
    Calls Tryd.prog 36 #[.slice A n c, .int .i64 vol] w fun e w' => ∃ A2 c2, e = .returned (.slice A2 ((n + 7) / 8) c2) ∧ kDd.R 33 w' w.heap.size (fun _ => True) (.slice A2 ((n + 7) / 8) c2) (rowsD vol B) ∧ Below w.heap.size w w' := by
  subst hn
  refine (rows_any A B c vol w h h1 hl).mono ?_
  rintro e w' ⟨v, rfl, ho, hb⟩
  obtain ⟨A2, c2, rfl⟩ := Kd.R_slice ho
  rw [rowsD_len] at ho
  exact ⟨A2, c2, by rw [rowsD_len], ho, hb⟩
/-- What a caller of host hands it: called at a file, it tells its deeds. -/
structure Next (w0 : World) (g : FuncId) (bnd : Array Value) (n : Nat) (E : Nat → World → Prop) (D : Nat → List Dd) : Prop where
  call : ∀ i W Bo v ds, i < n → E i W → OutAt w0 Bo v ds W → ds.length ≤ 1000 → Calls Tryd.prog g (#[.int .i64 (i : Int), .func (.func 54) #[] #[.pointer (some ⟨Bo, 0, none⟩)]] ++ bnd) W fun e W' => (∃ u, e = .returned u) ∧ E (i + 1) W' ∧ ∃ v', OutAt w0 Bo v' (ds ++ D i) W'
  keep : ∀ i W W', E i W → Below W.heap.size W W' → E i W'
  few : ∀ i, (D i).length ≤ 40
  enters : ∀ args w, (callFunc g args).run Tryd.prog w = .ok (.enter g args) w
set_option maxHeartbeats 3200000 in
theorem host_none (g : FuncId) (bnd : Array Value) (A : Option Addr) (l : List File) (c : Nat) (vol : Int) (w : World) (h : kFile.C w A l.length l) (hs : ∀ k, k < l.length → (gt l k).name.size ≤ 9223372036854775807) (hmg : MagicAt w) (hE : makeE l ≠ 0) :
    Calls Tryd.prog 32 #[.slice A l.length c, .int .i64 vol, .func (.func g) #[] bnd] w fun e w' => e = .returned (.slice none 0 0) ∧ Below w.heap.size w w' := by
  obtain ⟨n, hn⟩ : ∃ n, (makeV l).length = n := ⟨_, rfl⟩
  obtain ⟨E, hEe⟩ : ∃ E, makeE l = E := ⟨_, rfl⟩
  rw [hEe] at hE
  have HM := Aside0.mk (make_as A l c w h hs hmg n hn E hEe)
  have hE' : (E != 0) = true := by simpa using hE
  clear h hs hmg hn hEe
  go_enter Tryd.func32, Tryd.ntmps32
  go_wp2_with (go_at_call 35; refine HM.out.mono ?_; rintro e w1 ⟨Aa, ca, rfl, ho, hb⟩; have HB := Aside0.mk hb; clear ho hb)
  go_ret
  exact ⟨rfl, HB.out⟩
set_option maxHeartbeats 3200000 in
theorem host_any (w0 : World) (g : FuncId) (bnd : Array Value) (A : Option Addr) (l : List File) (c : Nat) (vol : Int) (Es : Nat → World → Prop) (D : Nat → List Dd) (hN : Next w0 g bnd l.length Es D) (w : World) (hb0 : Below w0.heap.size w0 w) (hE0 : Es 0 w) (h : kFile.C w A l.length l) (hs : ∀ k, k < l.length → (gt l k).name.size ≤ 9223372036854775807) (hmg : MagicAt w) (hE : makeE l = 0) :
    Calls Tryd.prog 32 #[.slice A l.length c, .int .i64 vol, .func (.func g) #[] bnd] w fun e w' => ∃ v, e = .returned v ∧ kDd.R 33 w' w0.heap.size (fun _ => True) v (hostD vol l D l.length) ∧ Below w0.heap.size w0 w' := by
  obtain ⟨hl8, -, -, hv1, hv100⟩ := makeV_le l hE
  obtain ⟨n, hn⟩ : ∃ n, (makeV l).length = n := ⟨_, rfl⟩
  have HM := Aside0.mk (make_as A l c w h hs hmg n hn 0 hE)
  have HDL := Aside0.mk (hostD_le vol l D hv100 hN.few)
  rw [hn] at hv1 hv100
  have HN := Aside0.mk hN
  have HE0 := Aside0.mk hE0
  have HB0 := Aside0.mk hb0
  have HNV := Aside0.mk hn
  have he := hN.enters
  clear h hs hmg hn hE hN hE0 hb0
  go_enter Tryd.func32, Tryd.ntmps32
  go_wp2_with (first | (go_at_call 35; refine HM.out.mono ?_; rintro e w1 ⟨Aa, ca, rfl, ho, hb⟩; have HB1 := Aside0.mk hb; have hc := (Kd.R_reads' ho).2.2; rw [HNV.out] at hc; have HC1 := Aside0.mk hc; clear ho hb hc) | (go_at_call 36; refine (rows_as Aa (makeV l) n HNV.out ca vol _ HC1.out hv1 (by omega)).mono ?_; rintro e w2 ⟨A2, c2, rfl, ho, hb⟩; have HB2 := Aside0.mk hb; have HO2 := Aside0.mk ho; clear ho hb))
  obtain ⟨W3, hW3⟩ : ∃ W3, w2.alloc (.cells #[.slice A2 ((n + 7) / 8) c2] 25) = W3 := ⟨_, rfl⟩
  have hb3 : Below w2.heap.size w2 W3 := by rw [← hW3]; exact below_alloc (Below.refl _ _) _
  have hb03 : Below w0.heap.size w0 W3 := below_step (below_step (below_step HB0.out HB1.out) HB2.out) hb3
  have HO3 : Aside0 (∃ v, OutAt w0 w2.heap.size v (hostD vol l D 0) W3) := ⟨_, by rw [← hW3]; exact Boxed.new w2 _ _, by
    have := Kd.R_lower (Kd.R_below HO2.out hb3) (below_step HB0.out HB1.out).size
    unfold hostD
    simpa using this, (below_step (below_step HB0.out HB1.out) HB2.out).size, hb03⟩
  have HE3 : Aside0 (Es 0 W3) := ⟨HN.out.keep 0 _ _ HE0.out (below_step (below_step HB1.out HB2.out) hb3)⟩
  obtain ⟨N2, hN2⟩ : ∃ N2, N2 = w2.heap.size := ⟨_, rfl⟩
  rw [hW3]
  rw [← hN2] at HO3 ⊢
  clear hW3 hb3 hb03 hN2
  go_loopg [23, 10] l.length (fun gk i _ wr => ∃ k : Nat, k ≤ l.length ∧ Aside0 (gk = l.length - k) ∧ i = .int .i64 k ∧ Aside0 (Es k wr) ∧ Aside0 (∃ v, OutAt w0 N2 v (hostD vol l D k) wr))
  case atStart => exact ⟨0, Nat.zero_le _, ⟨rfl⟩, rfl, HE3, HO3⟩
  case round =>
    obtain ⟨k, hk, HGK, rfl, HEk, HOk⟩ := hrel
    by_cases hlt : k < l.length
    · have hkl : (k : Int) < (l.length : Int) := by omega
      obtain ⟨v, hv⟩ := HOk.out
      have HC := Aside0.mk (HN.out.call k wr N2 v _ hlt HEk.out hv (by have := HDL.out k; omega))
      clear hv
      go_wp2_with fail
      refine HC.out.mono ?_
      rintro e W4 ⟨⟨u, rfl⟩, hE4, v4, hO4⟩
      rw [← hostD_succ] at hO4
      have HE4 := Aside0.mk hE4
      have HO4 : Aside0 (∃ v, OutAt w0 N2 v (hostD vol l D (k + 1)) W4) := ⟨_, hO4⟩
      clear hE4 hO4
      go_wp2_with fail
      go_roundg (l.length - (k + 1))
      case measure => have := HGK.out; omega
      case rel => exact ⟨k + 1, by omega, ⟨rfl⟩, by go_num, HE4, HO4⟩
    · have hkl : ¬ (k : Int) < (l.length : Int) := by omega
      obtain ⟨v, hv⟩ := HOk.out
      have hc := hv.box.cell
      rw [show k = l.length by omega] at hv
      have HV := Aside0.mk hv
      clear hv
      go_wp2_with fail
      go_ret
      exact ⟨v, rfl, HV.out.row, HV.out.out⟩
end Go.Proofs.YtdobjbdkfammbaaDoor
namespace Go.Proofs.YtdobjbdkfammbaaDoor
open Go.RowKit Go.Proofs.YtdobjbdkfammbaaDoorW.PrintWords Go.Proofs.YtdobjbdkfammbaaDoorW.PrintLast Go.Proofs.YtdobjbdkfammbaaDoorW.PrintMore
set_option linter.unusedVariables false
set_option linter.unusedSimpArgs false

theorem kFile_mkM0 (w : World) (base : Nat) (ok : Nat → Prop) (x : File) {v : Value} (g : byte.R 5 w base ok v x.data) : kFile.M w base ok x [.string x.name, v] := ⟨[.string x.name], [v], rfl, rfl, ⟨v, rfl, g⟩⟩
theorem kFile_opM {w : World} {base : Nat} {ok : Nat → Prop} {x : File} {cs : List Value} (h : kFile.M w base ok x cs) : ∃ v, cs = [.string x.name, v] ∧ byte.R 5 w base ok v x.data := by
  obtain ⟨_, _, rfl, rfl, ⟨v, rfl, g⟩⟩ := h
  exact ⟨v, rfl, g⟩
theorem R_formF {α : Type} {d : Kd α} {e base n c : Nat} {W : World} {ok : Nat → Prop} {A : Option Addr} {xs : List α} (h : d.R e W base ok (.slice A n c) xs) (hn : 0 < n) : ∃ g, A = some ⟨g, 0, none⟩ ∧ base ≤ g ∧ g < W.heap.size := by
  obtain ⟨A', c', he, _, _⟩ := Kd.R_reads h
  cases he
  obtain ⟨g, cap, he, h1, h2, _⟩ := Kd.R_form h hn
  cases he
  exact ⟨g, rfl, h1, h2⟩
theorem frozen_R {α : Type} {d : Kd α} {e base n c g : Nat} {W : World} {ok : Nat → Prop} {xs : List α} (h : d.R e W base ok (.slice (some ⟨g, 0, none⟩) n c) xs) (j : Nat) : W.frozen? ⟨g, j, none⟩ = false := by
  obtain ⟨cells, hb⟩ := Kd.R_typed h g (by simp [Value.ownBlock])
  exact blk_frozen hb j
/-- The k-th file of an own row: its cells, its own data. -/
theorem file_own {W : World} {base g n c : Nat} {ok : Nat → Prop} {xs : List File} (h : kFile.R 56 W base ok (.slice (some ⟨g, 0, none⟩) n c) xs) {k : Nat} (hk : k < n) :
    ∃ A1 d1, W.cell? ⟨g, k * 2, none⟩ = some (.string (gt xs k).name) ∧ W.cell? ⟨g, k * 2 + 1, none⟩ = some (.slice A1 (gt xs k).data.length d1) ∧ byte.R 5 W base (fun q => ok q ∧ q ≠ g) (.slice A1 (gt xs k).data.length d1) (gt xs k).data := by
  obtain ⟨A', c', he, _, hr⟩ := OwnRow.reads h.2
  have hn : xs.length = n := (Kd.R_reads' h).1.symm
  cases he
  obtain ⟨ad, cs, ea, _, hM, hc⟩ := hr.get_ default (k : Int) (by omega) (by omega)
  cases ea
  obtain ⟨v, rfl, hv⟩ := kFile_opM hM
  have hv2 : byte.R 5 W base (fun q => ok q ∧ q ≠ g) v (gt xs k).data := by
    have := Kd.R_mono hv (ok' := fun q => ok q ∧ q ≠ g) (fun q hq => ⟨hq.1, fun e => hq.2 (by rw [e]; simp [Value.ownBlock])⟩)
    simpa [gt] using this
  obtain ⟨A1, d1, rfl⟩ := Kd.R_slice hv2
  have c0 := hc 0 _ rfl
  have c1 := hc 1 _ rfl
  rw [Go.Proofs.YtdobjbdkfammbaaDoorW.PrintWords.add_plain] at c0 c1
  refine ⟨A1, d1, ?_, ?_, hv2⟩
  · simpa [gt, kFile, Kd.iso, Kd.pair, Kd.string, Kd.slice, Kd.scalar] using c0
  · simpa [gt, kFile, Kd.iso, Kd.pair, Kd.string, Kd.slice, Kd.scalar] using c1
/-- .. with another name. -/
theorem name_put {W : World} {base g n c : Nat} {ok : Nat → Prop} {xs : List File} (h : kFile.R 56 W base ok (.slice (some ⟨g, 0, none⟩) n c) xs) {k : Nat} (hk : k < n) (s : ByteArray) :
    kFile.R 56 (W.setCell ⟨g, k * 2, none⟩ (.string s)) base ok (.slice (some ⟨g, 0, none⟩) n c) (xs.set k ⟨s, (gt xs k).data⟩) := by
  obtain ⟨A1, d1, c0, c1, hv⟩ := file_own h hk
  have := (Kd.R_seg (j := 0) (seg := [.string s]) (c := [.string (gt xs k).name, .slice A1 (gt xs k).data.length d1]) (x' := ⟨s, (gt xs k).data⟩) (okp := fun q => ok q ∧ q ≠ g) h (k : Int) (by omega) (by omega) rfl (fun j u hu => by
    rcases j with _ | _ | j
    · simp only [List.getElem?_cons_zero, Option.some.injEq] at hu; subst hu; exact c0
    · simp only [List.getElem?_cons_succ, List.getElem?_cons_zero, Option.some.injEq] at hu; subst hu; exact c1
    · simp at hu) (by show 0 + 1 ≤ 2; omega) (kFile_mkM0 W base _ ⟨s, (gt xs k).data⟩ hv) (fun q hq => hq)).1
  exact this
/-- .. with other data. -/
theorem data_put {W : World} {base g n c : Nat} {ok okp : Nat → Prop} {xs : List File} (h : kFile.R 56 W base ok (.slice (some ⟨g, 0, none⟩) n c) xs) {k : Nat} (hk : k < n) {v : Value} (D : List UInt8) (hv : byte.R 5 W base okp v D) (hokp : ∀ q, okp q → ok q ∧ q ≠ g) :
    kFile.R 56 (W.setCell ⟨g, k * 2 + 1, none⟩ v) base ok (.slice (some ⟨g, 0, none⟩) n c) (xs.set k ⟨(gt xs k).name, D⟩) := by
  obtain ⟨A1, d1, c0, c1, _⟩ := file_own h hk
  have := (Kd.R_seg (j := 1) (seg := [v]) (c := [.string (gt xs k).name, .slice A1 (gt xs k).data.length d1]) (x' := ⟨(gt xs k).name, D⟩) (okp := okp) h (k : Int) (by omega) (by omega) rfl (fun j u hu => by
    rcases j with _ | _ | j
    · simp only [List.getElem?_cons_zero, Option.some.injEq] at hu; subst hu; exact c0
    · simp only [List.getElem?_cons_succ, List.getElem?_cons_zero, Option.some.injEq] at hu; subst hu; exact c1
    · simp at hu) (by show 1 + 1 ≤ 2; omega) (kFile_mkM0 W base _ ⟨(gt xs k).name, D⟩ hv) hokp).1
  exact this
end Go.Proofs.YtdobjbdkfammbaaDoor
