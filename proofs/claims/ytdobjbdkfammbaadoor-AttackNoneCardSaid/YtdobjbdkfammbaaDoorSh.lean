/-
  Chapter 55, kinds: a write, a slice that may share its block with others, a deed. Plain.
-/
import Derived.Test.YtdobjbdkfammbaaDoorFs8
namespace Go.Proofs.YtdobjbdkfammbaaDoor
open Go.RowKit Go.Proofs.YtdobjbdkfammbaaDoorW.PrintWords Go.Proofs.YtdobjbdkfammbaaDoorW.PrintLast Go.Proofs.YtdobjbdkfammbaaDoorW.PrintMore
set_option linter.unusedVariables false
set_option linter.unusedSimpArgs false

/-- A kind whose cells lead nowhere. -/
def Flat {α : Type} (d : Kd α) : Prop := ∀ w w' x cs, d.K w x cs → d.K w' x cs
theorem cell_same {w w1 : World} {a : Addr} (h : w1.heap[a.block]? = w.heap[a.block]?) : w1.cell? a = w.cell? a := by
  unfold World.cell?
  rw [h]
theorem C_flat {α : Type} {d : Kd α} (hf : Flat d) {w w1 : World} {ad : Addr} {n : Nat} {xs : List α} (h : d.C w (some ad) n xs) (hm : w1.heap[ad.block]? = w.heap[ad.block]?) : d.C w1 (some ad) n xs := by
  refine ⟨h.1, h.2.1, fun hn => ?_⟩
  obtain ⟨ad', e, hc⟩ := h.2.2 hn
  cases e
  refine ⟨ad, rfl, fun j p hj => ?_⟩
  obtain ⟨cs, h1, h2, h3⟩ := hc j p hj
  refine ⟨cs, h1, hf _ _ _ _ h2, fun i u hu => ?_⟩
  exact (cell_same (w := w) (w1 := w1) (a := ad.add (j * d.sz + i)) (by rw [add_block]; exact hm)).trans (h3 i u hu)
/-- A slice of flat elements that lies in a block of elements; others may lie there too. -/
def shr {α : Type} (e : Nat) (d : Kd α) (hf : Flat d) : Kd (List α) where
  sz := 1
  E := [e]
  K := fun w xs cs => ∃ A c, cs = [.slice A xs.length c] ∧ xs.length ≤ c ∧ d.C w A xs.length xs
  M := fun w base ok xs cs => ∃ A c, cs = [.slice A xs.length c] ∧ xs.length ≤ c ∧ d.C w A xs.length xs ∧ ∀ ad, A = some ad → 0 < xs.length → ok ad.block ∧ base ≤ ad.block ∧ ad.block < w.heap.size ∧ ∃ cells, w.heap[ad.block]? = some (.cells cells e (0, 0))
  K_len := by
    rintro w x cs ⟨A, c, rfl, _⟩
    rfl
  K_one := by
    rintro w x cs ⟨A, c, rfl, _⟩ u hu
    rw [List.mem_singleton.1 hu]
    rfl
  K_below := by
    rintro w w1 x cs hb ⟨A, c, rfl, hl, hr⟩
    exact ⟨A, c, rfl, hl, Kd.C_below hr hb⟩
  K_of_M := by
    rintro w base ok x cs ⟨A, c, rfl, hl, hr, _⟩
    exact ⟨A, c, rfl, hl, hr⟩
  M_mono := by
    rintro w base ok ok' x cs hok ⟨A, c, rfl, hl, hr, ho⟩
    exact ⟨A, c, rfl, hl, hr, fun ad e hp => ⟨hok _ (ho ad e hp).1, (ho ad e hp).2⟩⟩
  M_bound := by
    rintro w base ok x cs ⟨A, c, rfl, hl, hr, ho⟩
    exact ⟨A, c, rfl, hl, hr, fun ad ea hp => ⟨⟨(ho ad ea hp).1, (ho ad ea hp).2.1, (ho ad ea hp).2.2.1, e, List.mem_singleton.2 rfl, (ho ad ea hp).2.2.2⟩, (ho ad ea hp).2⟩⟩
  M_move := by
    rintro w w1 base ok x cs hm ⟨A, c, rfl, hl, hr, ho⟩
    refine ⟨A, c, rfl, hl, ?_, fun ad ea hp => ?_⟩
    · rcases Nat.eq_zero_or_pos x.length with h0 | hp
      · exact ⟨hr.1, hr.2.1, fun h => absurd h (by omega)⟩
      · obtain ⟨ad, rfl, _⟩ := hr.2.2 hp
        exact C_flat hf hr (hm _ (ho ad rfl hp).1)
    · obtain ⟨h1, h2, h3, cells, h4⟩ := ho ad ea hp
      have h5 := (hm _ h1).trans h4
      exact ⟨h1, h2, (Array.getElem?_eq_some_iff.1 h5).1, cells, h5⟩
  M_lower := by
    rintro w base base' ok x cs hb ⟨A, c, rfl, hl, hr, ho⟩
    exact ⟨A, c, rfl, hl, hr, fun ad ea hp => ⟨(ho ad ea hp).1, Nat.le_trans hb (ho ad ea hp).2.1, (ho ad ea hp).2.2⟩⟩
theorem flat_scalar {α : Type} (enc : α → Value) (h1 : ∀ x, (enc x).oneCell' = true) : Flat (Kd.scalar enc h1) := fun _ _ _ _ h => h
theorem flat_pair {α β : Type} {a : Kd α} {b : Kd β} (ha : Flat a) (hb : Flat b) : Flat (Kd.pair a b) := by
  rintro w w' x cs ⟨c0, c1, rfl, h0, h1⟩
  exact ⟨c0, c1, rfl, ha _ _ _ _ h0, hb _ _ _ _ h1⟩
theorem flat_iso {α β : Type} {a : Kd α} (ha : Flat a) (f : β → α) : Flat (Kd.iso a f) := fun _ _ _ _ h => ha _ _ _ _ h
theorem flat_arr {α : Type} {n : Nat} {d : Kd α} {hs : 0 < d.sz} (hd : Flat d) : Flat (Kd.arr n d hs) := fun w w' xs cs h => ⟨h.1, h.2.imp_ (fun _ _ hk => hd _ _ _ _ hk)⟩

/-! ### a row of one's own, one element more; a cell behind it -/
section
variable {α : Type} {d : Kd α} {e base g m cap : Nat} {ok okp : Nat → Prop} {W : World} {xs : List α}
/-- One element more stands behind the row. -/
theorem R_extend (h : d.R e W base ok (.slice (some ⟨g, 0, none⟩) m cap) xs) (hm : m + 1 ≤ cap) {x : α} {c : List Value} (hcl : c.length = d.sz) (hcc : ∀ j u, c[j]? = some u → W.cell? ⟨g, m * d.sz + j, none⟩ = some u) (hM : d.M W base okp x c) (hokp : ∀ k, okp k → ok k ∧ k ≠ g) :
    d.R e W base ok (.slice (some ⟨g, 0, none⟩) (m + 1) cap) (xs ++ [x]) := by
  obtain ⟨hn, _, _⟩ := Kd.R_reads' h
  obtain ⟨hok, inner, ho, hr⟩ := h
  obtain ⟨ho1, ho2⟩ := ho
  rcases ho2 with ⟨hv, _⟩ | ⟨g', cap', cur, hv, hb, hh, hnc', hcm, hcs, ht⟩
  · cases hv
  injection hv with ha _ hc
  injection ha with ha
  injection ha with hg
  subst hg; subst hc
  have hlen : (xs ++ [x]).length = m + 1 := by simp [hn]
  have hg2 : (Value.slice (some ⟨g, 0, none⟩) (m + 1) cap).ownBlock = some g := by simp [Value.ownBlock]
  have hg1 : (Value.slice (some ⟨g, 0, none⟩) m cap).ownBlock = some g := by simp [Value.ownBlock]
  refine ⟨fun k hk => hok k (by rw [hg1, ← hg2]; exact hk), inner ++ c, ⟨?_, .inr ⟨g, cap, cur, by rw [hlen], hb, hh, by rw [hlen]; exact hm, hcm, hcs, ?_⟩⟩, ?_⟩
  · rw [List.length_append, ho1, hcl, hlen, ← hn, Nat.succ_mul]
  · rw [hlen, Nat.succ_mul, List.take_add, ← hn] at *
    rw [ht]
    congr 1
    apply List.ext_getElem?
    intro j
    have hfit : (m + 1) * d.sz ≤ cap * d.sz := Nat.mul_le_mul_right _ hm
    rw [Nat.succ_mul] at hfit
    rw [List.getElem?_take]
    by_cases hj : j < d.sz
    · have h6 := hcc j _ (List.getElem?_eq_getElem (by omega))
      rw [cell_of_row W g _ cur e (0, 0) hh] at h6
      rw [if_pos hj, List.getElem?_drop, Array.getElem?_toList, h6, List.getElem?_eq_getElem (by omega)]
    · rw [if_neg hj, List.getElem?_eq_none (by omega)]
  · exact (hr.imp_ (fun p c hp => d.M_mono (fun k hk => ⟨hk.1, by rw [hg2, ← hg1]; exact hk.2⟩) hp)).snoc (d.M_mono (fun k hk => ⟨(hokp k hk).1, fun he => (hokp k hk).2 (by rw [hg2] at he; injection he)⟩) hM) hcl
/-- A cell behind the row is written. -/
theorem R_beyond (h : d.R e W base ok (.slice (some ⟨g, 0, none⟩) m cap) xs) {j : Nat} (hj : m * d.sz ≤ j) (u : Value) : d.R e (W.setCell ⟨g, j, none⟩ u) base ok (.slice (some ⟨g, 0, none⟩) m cap) xs := by
  obtain ⟨hok, inner, ho, hr⟩ := h
  obtain ⟨ho1, ho2⟩ := ho
  have hg1 : (Value.slice (some ⟨g, 0, none⟩) m cap).ownBlock = some g := by simp [Value.ownBlock]
  rcases ho2 with ⟨hv, _⟩ | ⟨g', cap', cur, hv, hb, hh, hnc', hcm, hcs, ht⟩
  · cases hv
  injection hv with ha hl hc
  injection ha with ha
  injection ha with hg
  subst hg; subst hc
  refine ⟨hok, inner, ⟨ho1, .inr ⟨g, cap, cur.setIfInBounds j u, by rw [hl], hb, blk_set hh j u, hnc', hcm, by simp [hcs], ?_⟩⟩, hr.imp_ (fun p c hp => Kd.M_far hp (p := ⟨g, j, none⟩) (fun k hk e => hk.2 (by rw [e, hg1])) u)⟩
  rw [Array.toList_setIfInBounds, List.take_set_of_le (by rw [← hl]; exact hj)]
  exact ht
end
/-! ### a write -/
/-- A write of the trunk: its volume, its block, what is written. -/
structure Wr where
  vol : Int
  blk : Int
  data : List UInt8
  deriving Inhabited, DecidableEq
def kWr : Kd Wr := Kd.iso (Kd.pair (Kd.pair (Kd.int .i64) (Kd.pair (Kd.int .i64) (Kd.int .i64))) kBlock) (fun x : Wr => ((0, x.vol, x.blk), x.data))
theorem kWr_flat : Flat kWr := flat_iso (flat_pair (flat_pair (flat_scalar _ _) (flat_pair (flat_scalar _ _) (flat_scalar _ _))) (flat_arr (flat_scalar _ _))) _
def wrV (x : Wr) : List Value := .int .i64 0 :: .int .i64 x.vol :: .int .i64 x.blk :: bytesV x.data
theorem kWr_cells {w : World} {x : Wr} {cs : List Value} (h : kWr.K w x cs) : x.data.length = 32 ∧ cs = wrV x := by
  obtain ⟨_, c1, rfl, ⟨_, _, rfl, rfl, ⟨_, _, rfl, rfl, rfl⟩⟩, h1⟩ := h
  obtain ⟨h2, h3⟩ := Kd.arr_cells h1
  rw [encs_bytes] at h3
  subst h3
  exact ⟨h2, rfl⟩
theorem kWr_mk (w : World) (base : Nat) (ok : Nat → Prop) (x : Wr) (h : x.data.length = 32) : kWr.M w base ok x (wrV x) := by
  refine ⟨[.int .i64 0, .int .i64 x.vol, .int .i64 x.blk], bytesV x.data, rfl, ⟨[.int .i64 0], [.int .i64 x.vol, .int .i64 x.blk], rfl, rfl, ⟨[.int .i64 x.vol], [.int .i64 x.blk], rfl, rfl, rfl⟩⟩, ?_⟩
  have := Kd.arr_of_cells (n := 32) (w := w) (base := base) (ok := ok) (hs := by decide) (enc := fun x : UInt8 => Value.int .u8 (x.toNat : Int)) (h1 := fun _ => rfl) (xs := x.data) h
  rw [encs_bytes] at this
  exact this
theorem kWr_mkK (w : World) (x : Wr) (h : x.data.length = 32) : kWr.K w x (wrV x) := kWr.K_of_M (kWr_mk w 0 (fun _ => True) x h)
theorem wr_at {w : World} {A : Option Addr} {n : Nat} {xs : List Wr} (h : kWr.C w A n xs) {k : Nat} (hk : k < n) :
    ∃ ad, A = some ad ∧ (gt xs k).data.length = 32 ∧ ∀ j u, (wrV (gt xs k))[j]? = some u → w.cell? ((ad.add (k * 35)).add j) = some u := by
  obtain ⟨ad, cs, e, hK, hc0⟩ := C_at h hk
  have hc : ∀ j u, cs[j]? = some u → w.cell? (ad.add (k * 35 + j)) = some u := hc0
  obtain ⟨h1, h2⟩ := kWr_cells hK
  subst h2
  refine ⟨ad, e, h1, fun j u hu => ?_⟩
  rw [Deep.add_add]
  exact hc j u hu
theorem wrV_one (x : Wr) : ∀ v ∈ wrV x, v.oneCell' = true := by
  intro v hv
  simp only [wrV, List.mem_cons] at hv
  rcases hv with rfl | rfl | rfl | hv
  · rfl
  · rfl
  · rfl
  · exact bytesV_one _ v hv
theorem list32 (b : List UInt8) (h : b.length = 32) : ∃ x0 x1 x2 x3 x4 x5 x6 x7 x8 x9 x10 x11 x12 x13 x14 x15 x16 x17 x18 x19 x20 x21 x22 x23 x24 x25 x26 x27 x28 x29 x30 x31 : UInt8, b = [x0, x1, x2, x3, x4, x5, x6, x7, x8, x9, x10, x11, x12, x13, x14, x15, x16, x17, x18, x19, x20, x21, x22, x23, x24, x25, x26, x27, x28, x29, x30, x31] :=
  match b, h with
  | [x0, x1, x2, x3, x4, x5, x6, x7, x8, x9, x10, x11, x12, x13, x14, x15, x16, x17, x18, x19, x20, x21, x22, x23, x24, x25, x26, x27, x28, x29, x30, x31], _ => ⟨x0, x1, x2, x3, x4, x5, x6, x7, x8, x9, x10, x11, x12, x13, x14, x15, x16, x17, x18, x19, x20, x21, x22, x23, x24, x25, x26, x27, x28, x29, x30, x31, rfl⟩
theorem built_wr (vol blk : Int) (b : List UInt8) (h : b.length = 32) : Tryd.prog.built 39 [(0, .agg #[.int .i64 0, .int .i64 vol, .int .i64 blk]), (1, .agg (bytesV b).toArray)] = some (wrV ⟨vol, blk, b⟩).toArray := by
  obtain ⟨x0, x1, x2, x3, x4, x5, x6, x7, x8, x9, x10, x11, x12, x13, x14, x15, x16, x17, x18, x19, x20, x21, x22, x23, x24, x25, x26, x27, x28, x29, x30, x31, rfl⟩ := list32 b h
  kernel_rfl
theorem info_wr : (Tryd.prog.info? 39).map (fun i => (i.size, i.zero.isSome)) = some (35, true) := by kernel_rfl
theorem wrV_len (x : Wr) (h : x.data.length = 32) : (wrV x).length = 35 := by simp [wrV, bytesV, h]
def zW : Value := .agg (wrV ⟨0, 0, zeroB⟩).toArray
theorem info_wrZ : (Tryd.prog.info? 39).map (fun i => (i.zero, i.size, i.bytes)) = some (some zW, 35, 56) := by kernel_rfl
/-- A slice literal of one write, made. -/
theorem build_write {ops : Array Oper} {rest : List Oper} {op : Oper} {a : Act} {W : World} {Q : Exit → Act → World → Prop} (hgd : op.guard = none) (x : Operand) (ho : op.op = .buildSlice 31 1 #[(0, x)])
    (y : Wr) (hl : y.data.length = 32) (hx : a.eval x = .agg (wrV y).toArray) (h : wpList Tryd.prog ops Q rest (a.put op.dst (.slice (some ⟨W.heap.size, 0, none⟩) 1 1)) (W.alloc (.cells (wrV y).toArray 39))) : wpList Tryd.prog ops Q (op :: rest) a W := by
  cases hq : Tryd.prog.info? 39 with
  | none => have := info_wr; simp [hq] at this
  | some i =>
    have hi : i.size = 35 ∧ i.zero.isSome = true := by have := info_wr; simpa [hq] using this
    obtain ⟨z, hz⟩ := Option.isSome_iff_exists.1 hi.2
    have hb : (wrV y).toArray.size = 35 := by simp [wrV, bytesV, hl]
    refine wpList_buildSlice hgd 31 39 1 _ ho (wrV y).toArray i z Tryd.underlying31 hq hz (by omega) (by omega) ?_ h
    have := Great.fill_whole (s := 35) (by omega) [Value.agg (wrV y).toArray] ((Array.range (1 * i.size)).map (z.cells[· % z.cells.size]!)) (by intro v hv; simp only [List.mem_singleton] at hv; subst hv; exact hb) (by simp [hi.1])
    simp only [hi.1] at this ⊢
    simpa [hx, Value.cells] using this
/-! ### deeds -/
/-- Deeds of the program. -/
structure Dd where
  kind : Int
  ws : List Wr
  min : Int
  deriving Inhabited, DecidableEq
def kDd : Kd Dd := Kd.iso (Kd.pair (Kd.int .i64) (Kd.pair (shr 39 kWr kWr_flat) (Kd.int .i64))) (fun x : Dd => (x.kind, x.ws, x.min))
theorem kDd_open {w : World} {x : Dd} {cs : List Value} (h : kDd.K w x cs) : ∃ A c, cs = [.int .i64 x.kind, .slice A x.ws.length c, .int .i64 x.min] ∧ x.ws.length ≤ c ∧ kWr.C w A x.ws.length x.ws := by
  obtain ⟨_, _, rfl, rfl, ⟨_, _, rfl, ⟨A, c, rfl, l, g⟩, rfl⟩⟩ := h
  exact ⟨A, c, rfl, l, g⟩
theorem kDd_mk (w : World) (base : Nat) (ok : Nat → Prop) (x : Dd) {A : Option Addr} {c n : Nat} (hn : x.ws.length = n) (l : n ≤ c) (g : kWr.C w A n x.ws) (ho : ∀ ad, A = some ad → 0 < n → ok ad.block ∧ base ≤ ad.block ∧ ad.block < w.heap.size ∧ ∃ cells, w.heap[ad.block]? = some (.cells cells 39 (0, 0))) : kDd.M w base ok x [.int .i64 x.kind, .slice A n c, .int .i64 x.min] := by
  subst hn
  exact ⟨[.int .i64 x.kind], [.slice A x.ws.length c, .int .i64 x.min], rfl, rfl, ⟨[.slice A x.ws.length c], [.int .i64 x.min], rfl, ⟨A, c, rfl, l, g, ho⟩, rfl⟩⟩
theorem dd_at {w : World} {A : Option Addr} {n : Nat} {xs : List Dd} (h : kDd.C w A n xs) {k : Nat} (hk : k < n) : ∃ ad A1 c1, A = some ad ∧ w.cell? (ad.add (k * 3)) = some (.int .i64 (gt xs k).kind) ∧ w.cell? ⟨(ad.add (k * 3)).block, (ad.add (k * 3)).off + 1, none⟩ = some (.slice A1 (gt xs k).ws.length c1) ∧ w.cell? ⟨(ad.add (k * 3)).block, (ad.add (k * 3)).off + 2, none⟩ = some (.int .i64 (gt xs k).min) ∧ (gt xs k).ws.length ≤ c1 ∧ kWr.C w A1 (gt xs k).ws.length (gt xs k).ws := by
  obtain ⟨ad, cs, e, hK, hc0⟩ := C_at h hk
  have hc : ∀ j u, cs[j]? = some u → w.cell? (ad.add (k * 3 + j)) = some u := hc0
  obtain ⟨A1, c1, rfl, l1, g1⟩ := kDd_open hK
  exact ⟨ad, A1, c1, e, hc 0 _ rfl, by rw [← add_field _ _ 1 (by omega)]; exact hc 1 _ rfl, by rw [← add_field _ _ 2 (by omega)]; exact hc 2 _ rfl, l1, g1⟩
/-- Deeds of the document. -/
structure Rd where
  ws : List Wr
  min : Int
  deriving Inhabited, DecidableEq
def kRd : Kd Rd := Kd.iso (Kd.pair (shr 39 kWr kWr_flat) (Kd.int .i64)) (fun x : Rd => (x.ws, x.min))
theorem kRd_open {w : World} {x : Rd} {cs : List Value} (h : kRd.K w x cs) : ∃ A c, cs = [.slice A x.ws.length c, .int .i64 x.min] ∧ x.ws.length ≤ c ∧ kWr.C w A x.ws.length x.ws := by
  obtain ⟨_, _, rfl, ⟨A, c, rfl, l, g⟩, rfl⟩ := h
  exact ⟨A, c, rfl, l, g⟩
theorem kRd_mk (w : World) (base : Nat) (ok : Nat → Prop) (x : Rd) {A : Option Addr} {c n : Nat} (hn : x.ws.length = n) (l : n ≤ c) (g : kWr.C w A n x.ws) (ho : ∀ ad, A = some ad → 0 < n → ok ad.block ∧ base ≤ ad.block ∧ ad.block < w.heap.size ∧ ∃ cells, w.heap[ad.block]? = some (.cells cells 39 (0, 0))) : kRd.M w base ok x [.slice A n c, .int .i64 x.min] := by
  subst hn
  exact ⟨[.slice A x.ws.length c], [.int .i64 x.min], rfl, ⟨A, c, rfl, l, g, ho⟩, rfl⟩
theorem rd_at {w : World} {A : Option Addr} {n : Nat} {xs : List Rd} (h : kRd.C w A n xs) {k : Nat} (hk : k < n) : ∃ ad A1 c1, A = some ad ∧ w.cell? (ad.add (k * 2)) = some (.slice A1 (gt xs k).ws.length c1) ∧ w.cell? ⟨(ad.add (k * 2)).block, (ad.add (k * 2)).off + 1, none⟩ = some (.int .i64 (gt xs k).min) ∧ (gt xs k).ws.length ≤ c1 ∧ kWr.C w A1 (gt xs k).ws.length (gt xs k).ws := by
  obtain ⟨ad, cs, e, hK, hc0⟩ := C_at h hk
  have hc : ∀ j u, cs[j]? = some u → w.cell? (ad.add (k * 2 + j)) = some u := hc0
  obtain ⟨A1, c1, rfl, l1, g1⟩ := kRd_open hK
  exact ⟨ad, A1, c1, e, hc 0 _ rfl, by rw [← add_field _ _ 1 (by omega)]; exact hc 1 _ rfl, l1, g1⟩
end Go.Proofs.YtdobjbdkfammbaaDoor
