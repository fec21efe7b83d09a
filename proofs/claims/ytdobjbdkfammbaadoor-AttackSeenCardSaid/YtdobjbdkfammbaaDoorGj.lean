/-
  Chapter 55, the document: disk.
-/
import Derived.Test.YtdobjbdkfammbaaDoorGg
import Derived.Deep.RegionLaw
import Derived.Test.YtdobjbdkfammbaaDoorGi
/-
  Chapter 55, the document: Locked.
-/
namespace Go.Proofs.YtdobjbdkfammbaaDoor
open Go.RowKit Go.Shelf Go.Proofs.YtdobjbdkfammbaaDoorW.PrintWords Go.Proofs.YtdobjbdkfammbaaDoorW.PrintLast Go.Proofs.YtdobjbdkfammbaaDoorW.PrintMore
set_option linter.unusedVariables false
set_option linter.unusedSimpArgs false

theorem bempty (W : World) (base : Nat) (h : base ≤ W.heap.size) : byte.R 5 (W.alloc (.cells #[] 5)) base (fun _ => True) (.slice (some ⟨W.heap.size, 0, none⟩) 0 0) [] := byteS_lit' W base (fun _ => True) [] h (by decide) trivial
theorem lockB_take (key : UInt8) (xs : List UInt8) (k : Nat) (hk : k < xs.length) : (lockB key xs).take (k + 1) = (lockB key xs).take k ++ [gt xs k ^^^ (key + UInt8.ofNat (37 * k))] := by
  rw [List.take_add_one, List.getElem?_eq_getElem (by rw [lockB_len]; exact hk)]
  simp [lockB, lockAt]
theorem info_byte55 : (Tryd.prog.info? 5).map (fun i => (i.zero, i.size, i.bytes)) = some (some (.int .u8 0), 1, 1) := by kernel_rfl
set_option maxRecDepth 4000 in
set_option maxHeartbeats 1600000 in
theorem rlocked_any (A : Option Addr) (xs : List UInt8) (n : Nat) (hn : xs.length = n) (c : Nat) (key : UInt8) (w : World) (h : byte.C w A n xs) (hl : n ≤ 256) :
    Calls Tryd.prog 39 #[.slice A n c, .int .u8 (key.toNat : Int)] w fun e w' => ∃ A2 c2, e = .returned (.slice A2 n c2) ∧ byte.R 5 w' w.heap.size (fun _ => True) (.slice A2 n c2) (lockB key xs) ∧ Below w.heap.size w w' := by
  have HH := Aside0.mk h
  have HN := Aside0.mk hn
  have hk8 := key.toNat_lt
  clear h hn
  go_enter Tryd.func39, Tryd.ntmps39
  go_wp2_with fail
  go_loopg [6, 5] n (fun gk i v5 wr => ∃ k : Nat, k ≤ n ∧ Aside0 (gk = n - k) ∧ i = .int .i64 k ∧ Aside0 (byte.R 5 wr w.heap.size (fun _ => True) v5 ((lockB key xs).take k)) ∧ Aside0 (Below w.heap.size w wr))
  case atStart => exact ⟨0, Nat.zero_le _, ⟨rfl⟩, rfl, ⟨bempty w w.heap.size (Nat.le_refl _)⟩, ⟨below_alloc (Below.refl _ _) _⟩⟩
  case round =>
    obtain ⟨k, hk, HGK, rfl, HR, HB⟩ := hrel
    by_cases hlt : k < n
    · obtain ⟨ad, rfl, g0⟩ := byte_at (Kd.C_below HH.out HB.out) hlt
      have hx8 := (gt xs k).toNat_lt
      have HTK := Aside0.mk (lockB_take key xs k (by rw [HN.out]; exact hlt))
      obtain ⟨x, hx⟩ : ∃ x, x = gt xs k := ⟨_, rfl⟩
      rw [← hx] at g0 hx8 HTK
      have HNM := Aside0.mk (lock_num key x k)
      have hkn : (k : Int) < (n : Int) := by omega
      have hk255 : (k : Int) ≤ 255 := by omega
      have HLN : Aside0 ((((lockB key xs).take k).length + 1) * 1 ≤ 140737488355328) := ⟨by rw [List.length_take]; omega⟩
      clear hx
      go_wp2_with ((with_reducible refine gate_builtin (b := .append) (xs := #[.tmp 14, .tmp 26]) rfl ?_); at_builtin; rw [HNM.out]; refine Kd.R_append byte (w0 := w) w.heap.size rfl (.tmp 14) (.tmp 26) 54 5 (.int .u8 0) 1 rfl Tryd.underlying54 info_byte55 rfl (by decide) (by omega) u5 ((lockB key xs).take k) (x ^^^ (key + UInt8.ofNat (37 * k))) [.int .u8 ((x ^^^ (key + UInt8.ofNat (37 * k))).toNat : Int)] (fun _ => True) (fun _ => False) rfl rfl rfl (fun _ hk => hk.elim) (fun _ _ => trivial) HR.out HB.out HB.out.size HLN.out ?_; intro v7 w7 ho hb hg hat; rw [← HTK.out] at ho; have HO7 := Aside0.mk ho; have HB7 := Aside0.mk hb; clear ho hb hg hat)
      go_roundg (n - (k + 1))
      case measure => have := HGK.out; omega
      case rel => exact ⟨k + 1, by omega, ⟨rfl⟩, by go_num, HO7, HB7⟩
    · have hkn : ¬ (k : Int) < (n : Int) := by omega
      have hR := HR.out
      rw [List.take_of_length_le (by rw [lockB_len, HN.out]; omega)] at hR
      obtain ⟨A2, c2, rfl⟩ : ∃ A c, u5 = .slice A n c := by
        obtain ⟨A, c, e⟩ := Kd.R_slice hR
        exact ⟨A, c, by rw [e, lockB_len, HN.out]⟩
      have HF := Aside0.mk hR
      clear hR HR
      go_wp2_with fail
      go_ret
      exact ⟨A2, c2, rfl, HF.out, HB.out⟩
end Go.Proofs.YtdobjbdkfammbaaDoor
/-
  Chapter 55, the document: put: plain parts.
-/
namespace Go.Proofs.YtdobjbdkfammbaaDoor
open Go.RowKit Go.Shelf Go.Proofs.YtdobjbdkfammbaaDoorW.PrintWords Go.Proofs.YtdobjbdkfammbaaDoorW.PrintLast Go.Proofs.YtdobjbdkfammbaaDoorW.PrintMore
set_option linter.unusedVariables false
set_option linter.unusedSimpArgs false

/-- The first m parts of eight. -/
def pre8 {α : Type} (m : Nat) (l : List α) : List (List α) := (List.range m).map (fun j => (l.drop (8 * j)).take 8)
theorem cut8_split {α : Type} (l : List α) (m : Nat) (h1 : 8 * m < l.length) (h2 : l.length ≤ 8 * m + 8) : cut8 l = pre8 m l ++ [l.drop (8 * m)] := by
  unfold cut8 pre8
  rw [show (l.length + 7) / 8 = m + 1 by omega, List.range_succ, List.map_append, List.map_singleton, List.take_of_length_le (by rw [List.length_drop]; omega)]
theorem cut8_full {α : Type} (l : List α) (m : Nat) (h : l.length = 8 * m) : cut8 l = pre8 m l := by
  unfold cut8 pre8
  rw [show (l.length + 7) / 8 = m by omega]
theorem pre8_app {α : Type} (l : List α) (x : α) (m : Nat) (h : 8 * m ≤ l.length) : pre8 m (l ++ [x]) = pre8 m l := by
  unfold pre8
  apply List.map_congr_left
  intro j hj
  have hj := List.mem_range.1 hj
  rw [List.drop_append_of_le_length (by omega), List.take_append_of_le_length (by rw [List.length_drop]; omega)]
theorem pre8_len {α : Type} (l : List α) (m : Nat) : (pre8 m l).length = m := by simp [pre8]
/-- The document's deeds of some writes. -/
def rdOfP (c : List Wr) : Rd := ⟨c, 0⟩
def preR (m : Nat) (l : List Wr) : List Rd := (pre8 m l).map rdOfP
def rowsR (l : List Wr) : List Rd := (cut8 l).map rdOfP
theorem preR_len (m : Nat) (l : List Wr) : (preR m l).length = m := by simp [preR, pre8_len]
theorem rowsR_split (l : List Wr) (m : Nat) (h1 : 8 * m < l.length) (h2 : l.length ≤ 8 * m + 8) : rowsR l = preR m l ++ [⟨l.drop (8 * m), 0⟩] := by
  unfold rowsR preR
  rw [cut8_split l m h1 h2, List.map_append]
  rfl
theorem rowsR_full (l : List Wr) (m : Nat) (h : l.length = 8 * m) : rowsR l = preR m l := by
  unfold rowsR preR
  rw [cut8_full l m h]
theorem preR_app (l : List Wr) (x : Wr) (m : Nat) (h : 8 * m ≤ l.length) : preR m (l ++ [x]) = preR m l := by
  unfold preR
  rw [pre8_app l x m h]
/-- The program's deeds of a disk are the document's. -/
theorem rows_dd (vol : Int) (B : List (List UInt8)) : (rowsR (wrs vol B)).map ddOf = rowsD vol B := by
  unfold rowsR rowsD
  rw [List.map_map]
  apply List.map_congr_left
  intro c hc
  unfold cut8 at hc
  obtain ⟨k, hk, rfl⟩ := List.mem_map.1 hc
  have hk := List.mem_range.1 hk
  show ddOf ⟨_, 0⟩ = _
  unfold ddOf
  have hne : ((wrs vol B).drop (8 * k)).take 8 ≠ [] := by
    intro e
    have := congrArg List.length e
    simp only [List.length_take, List.length_drop, List.length_nil] at this
    omega
  simp only [if_neg hne]
/-- While the last deed grows: the deeds ahead of it, its cells, its writes. -/
structure PutS (w W : World) (m g5 c5 : Nat) (vl : Value) (l ws : List Wr) : Prop where
  pre : kRd.R 73 W w.heap.size (fun q => some q ≠ vl.ownBlock) (.slice (some ⟨g5, 0, none⟩) m c5) (preR m l)
  cap : m + 1 ≤ c5
  blk : ∃ cur, W.heap[g5]? = some (.cells cur 73 (0, 0)) ∧ cur[m * 2]? = some vl ∧ cur[m * 2 + 1]? = some (.int .i64 0)
  row : kWr.R 39 W w.heap.size (fun q => q ≠ g5) vl ws
  out : Below w.heap.size w W
  hg : w.heap.size ≤ g5
theorem PutS.c0 {w W : World} {m g5 c5 : Nat} {vl : Value} {l ws : List Wr} (h : PutS w W m g5 c5 vl l ws) : W.cell? ⟨g5, m * 2, none⟩ = some vl := by
  obtain ⟨cur, h1, h2, _⟩ := h.blk
  rw [blk_cell h1]; exact h2
theorem PutS.c1 {w W : World} {m g5 c5 : Nat} {vl : Value} {l ws : List Wr} (h : PutS w W m g5 c5 vl l ws) : W.cell? ⟨g5, m * 2 + 1, none⟩ = some (.int .i64 0) := by
  obtain ⟨cur, h1, _, h2⟩ := h.blk
  rw [blk_cell h1]; exact h2
theorem PutS.fz {w W : World} {m g5 c5 : Nat} {vl : Value} {l ws : List Wr} (h : PutS w W m g5 c5 vl l ws) : W.frozen? ⟨g5, m * 2, none⟩ = false := by
  obtain ⟨cur, h1, _⟩ := h.blk
  exact blk_frozen h1 _
theorem PutS.below {w W W' : World} {m g5 c5 : Nat} {vl : Value} {l ws : List Wr} (h : PutS w W m g5 c5 vl l ws) (hb : Below W.heap.size W W') : PutS w W' m g5 c5 vl l ws := by
  obtain ⟨cur, h1, h2⟩ := h.blk
  exact ⟨Kd.R_below h.pre hb, h.cap, ⟨cur, blk_below h1 hb, h2⟩, Kd.R_below h.row hb, below_step h.out hb, h.hg⟩
/-- One write more in the last deed. -/
theorem PutS.push {w W w9 : World} {m g5 c5 : Nat} {vl v9 : Value} {l ws ws9 : List Wr} (x : Wr) (h : PutS w W m g5 c5 vl l ws) (hr : kWr.R 39 w9 w.heap.size (fun q => q ≠ g5) v9 ws9) (hb : Below w.heap.size w w9) (hg : W.grownBy w9 vl.ownBlock) (hat : v9.ownBlock = vl.ownBlock ∨ ∃ b, v9.ownBlock = some b ∧ W.heap.size ≤ b) (hl : 8 * m ≤ l.length) :
    PutS w (w9.setCell ⟨g5, m * 2, none⟩ v9) m g5 c5 v9 (l ++ [x]) ws9 := by
  obtain ⟨cur, h1, h2, h3⟩ := h.blk
  have hne : some g5 ≠ vl.ownBlock := Kd.R_away h.row (g := g5) (fun _ hk => hk)
  have hblk := blk_grown h1 hg hne
  have hpre : kRd.R 73 w9 w.heap.size (fun q => some q ≠ v9.ownBlock) (.slice (some ⟨g5, 0, none⟩) m c5) (preR m l) := by
    have ha := Kd.R_after (v := vl) (v1 := v9) (ok := fun _ => True) (Kd.R_mono h.pre (fun k hk => ⟨trivial, hk⟩)) hg hat
    exact Kd.R_mono ha (fun k hk => hk.2)
  refine ⟨by rw [preR_app l x m hl]; exact R_beyond hpre (Nat.le_refl _) v9, h.cap, ⟨_, blk_set hblk _ _, ?_, ?_⟩, Kd.R_far hr (p := ⟨g5, m * 2, none⟩) (fun k hk => hk) _, hb.setCell (p := ⟨g5, m * 2, none⟩) h.hg _, h.hg⟩
  · have hlt : m * 2 < cur.size := (Array.getElem?_eq_some_iff.1 h2).1
    simp [hlt]
  · have : m * 2 ≠ m * 2 + 1 := by omega
    simp [Array.getElem?_setIfInBounds, h3]
theorem PutS.grown {w W w9 : World} {m g5 c5 : Nat} {vl : Value} {l ws : List Wr} (h : PutS w W m g5 c5 vl l ws) (hg : W.grownBy w9 vl.ownBlock) : w9.cell? ⟨g5, m * 2, none⟩ = some vl ∧ w9.frozen? ⟨g5, m * 2, none⟩ = false := by
  obtain ⟨cur, h1, h2, h3⟩ := h.blk
  have hblk := blk_grown h1 hg (Kd.R_away h.row (g := g5) (fun _ hk => hk))
  exact ⟨by rw [blk_cell hblk]; exact h2, blk_frozen hblk _⟩
/-- A write is loaded, a slice of one write is made: steps of a region that draws. -/
theorem step_load_write {ops : Array Oper} {o : Oper} {a : Act} {W : World} {K : Act → World → Prop} {Q : Exit → Act → World → Prop} {E : Prop} (hgd : o.guard = none) (x : Operand) (ho : o.op = .load 39 x)
    (p : Addr) (hx : a.eval x = .pointer (some p)) (y : Wr) (hl : y.data.length = 32) (hc : ∀ j u, (wrV y)[j]? = some u → W.cell? (p.add j) = some u) (h : K (a.put o.dst (.agg (wrV y).toArray)) W) :
    if Region.wanted o (yielded ops a.tmps) = true then Oper.wp Tryd.prog o a W K Q else E := by
  rw [if_pos (by simp [Region.wanted, hgd])]
  unfold Oper.wp execOp
  simp only [ho, hx, Instr.loadAt, Instr.sureAddr, Sem.run_bind, Sem.run_pure, Result.andThen_ok, run_load_write p y hl hc]
  exact h
theorem step_build_write {ops : Array Oper} {o : Oper} {a : Act} {W : World} {K : Act → World → Prop} {Q : Exit → Act → World → Prop} {E : Prop} (hgd : o.guard = none) (x : Operand) (ho : o.op = .buildSlice 31 1 #[(0, x)])
    (y : Wr) (hl : y.data.length = 32) (hx : a.eval x = .agg (wrV y).toArray) (h : K (a.put o.dst (.slice (some ⟨W.heap.size, 0, none⟩) 1 1)) (W.alloc (.cells (wrV y).toArray 39))) :
    if Region.wanted o (yielded ops a.tmps) = true then Oper.wp Tryd.prog o a W K Q else E := by
  rw [if_pos (by simp [Region.wanted, hgd])]
  cases hq : Tryd.prog.info? 39 with
  | none => have := info_wr; simp [hq] at this
  | some i =>
    have hi : i.size = 35 ∧ i.zero.isSome = true := by have := info_wr; simpa [hq] using this
    obtain ⟨z, hz⟩ := Option.isSome_iff_exists.1 hi.2
    have hb : (wrV y).toArray.size = 35 := by simp [wrV, bytesV, hl]
    refine wp_buildSlice 31 39 1 _ ho (wrV y).toArray i z Tryd.underlying31 hq hz (by omega) (by omega) ?_ h
    have := Great.fill_whole (s := 35) (by omega) [Value.agg (wrV y).toArray] ((Array.range (1 * i.size)).map (z.cells[· % z.cells.size]!)) (by intro v hv; simp only [List.mem_singleton] at hv; subst hv; exact hb) (by simp [hi.1])
    simp only [hi.1] at this ⊢
    simpa [hx, Value.cells] using this
/-- The whole row again. -/
theorem PutS.whole {w W : World} {m g5 c5 : Nat} {vl : Value} {l ws : List Wr} (h : PutS w W m g5 c5 vl l ws) : kRd.R 73 W w.heap.size (fun _ => True) (.slice (some ⟨g5, 0, none⟩) (m + 1) c5) (preR m l ++ [⟨ws, 0⟩]) := by
  obtain ⟨A, c, rfl⟩ := Kd.R_slice h.row
  have hr := Kd.R_reads' h.row
  have h1 := Kd.R_mono h.pre (ok' := fun _ => True) (fun _ _ => trivial)
  refine R_extend h1 h.cap (okp := fun q => q ≠ g5) (c := [.slice A ws.length c, .int .i64 0]) rfl ?_ (kRd_mk W w.heap.size _ ⟨ws, 0⟩ rfl hr.2.1 hr.2.2 ?_) (fun q hq => ⟨trivial, hq⟩)
  · intro j u hu
    rcases j with _ | _ | j
    · simp at hu; subst hu; exact h.c0
    · simp at hu; subst hu; exact h.c1
    · simp at hu
  · intro ad ea hp
    subst ea
    obtain ⟨g, cap, he, hb, hl, cells, hc⟩ := Kd.R_form h.row hp
    injection he with e1
    injection e1 with e1
    subst e1
    exact ⟨h.row.1 g (by simp [Value.ownBlock]), hb, hl, cells, hc⟩
end Go.Proofs.YtdobjbdkfammbaaDoor
/-
  Chapter 55, the document: put: a deed is begun.
-/
namespace Go.Proofs.YtdobjbdkfammbaaDoor
open Go.RowKit Go.Shelf Go.Proofs.YtdobjbdkfammbaaDoorW.PrintWords Go.Proofs.YtdobjbdkfammbaaDoorW.PrintLast Go.Proofs.YtdobjbdkfammbaaDoorW.PrintMore
set_option linter.unusedVariables false
set_option linter.unusedSimpArgs false

/-- A deed of the document; one of no writes holds no slice. -/
def kRdN : Kd Rd where
  sz := 2
  E := kRd.E
  K := fun w x cs => kRd.K w x cs ∧ (x.ws = [] → cs = [.slice none 0 0, .int .i64 x.min])
  M := fun w base ok x cs => kRd.M w base ok x cs ∧ (x.ws = [] → cs = [.slice none 0 0, .int .i64 x.min])
  K_len := fun h => kRd.K_len h.1
  K_one := fun h => kRd.K_one h.1
  K_below := fun hb h => ⟨kRd.K_below hb h.1, h.2⟩
  K_of_M := fun h => ⟨kRd.K_of_M h.1, h.2⟩
  M_mono := fun hok h => ⟨kRd.M_mono hok h.1, h.2⟩
  M_bound := fun h => ⟨kRd.M_bound h.1, h.2⟩
  M_move := fun hm h => ⟨kRd.M_move hm h.1, h.2⟩
  M_lower := fun hb h => ⟨kRd.M_lower hb h.1, h.2⟩
theorem rdN_of {W : World} {base : Nat} {ok : Nat → Prop} {v : Value} {xs : List Rd} (h : kRd.R 73 W base ok v xs) (hne : ∀ x ∈ xs, x.ws ≠ []) : kRdN.R 73 W base ok v xs := by
  obtain ⟨h0, inner, ho, hr⟩ := h
  exact ⟨h0, inner, ho, hr.1, fun j p hj => ⟨hr.2 j p hj, fun e => absurd e (hne p (List.mem_of_getElem? hj))⟩⟩
theorem rdN_to {W : World} {base : Nat} {ok : Nat → Prop} {v : Value} {xs : List Rd} (h : kRdN.R 73 W base ok v xs) : kRd.R 73 W base ok v xs := by
  obtain ⟨h0, inner, ho, hr⟩ := h
  exact ⟨h0, inner, ho, hr.imp_ (fun _ _ hp => hp.1)⟩
theorem preR_ne (m : Nat) (l : List Wr) (h : 8 * m ≤ l.length) : ∀ x ∈ preR m l, x.ws ≠ [] := by
  intro x hx e
  unfold preR pre8 at hx
  rw [List.map_map] at hx
  obtain ⟨j, hj, rfl⟩ := List.mem_map.1 hx
  have hj := List.mem_range.1 hj
  have := congrArg List.length e
  simp only [Function.comp, rdOfP, List.length_take, List.length_drop, List.length_nil] at this
  omega
theorem rdN_nil (w : World) (base : Nat) (ok : Nat → Prop) : kRdN.M w base ok ⟨[], 0⟩ [.slice none 0 0, .int .i64 0] := ⟨kRd_mk _ _ _ ⟨[], 0⟩ (A := none) rfl (Nat.le_refl 0) (Kd.C_nil _ _) (fun _ e => by cases e), fun _ => rfl⟩
/-- A deed of no writes stands behind the others. -/
theorem PutS.fresh {w W : World} {m : Nat} {v : Value} {l : List Wr} (hl : l.length = 8 * m) (h : kRdN.R 73 W w.heap.size (fun _ => True) v (preR m l ++ [⟨[], 0⟩])) (hb : Below w.heap.size w W) :
    ∃ g5 c5, v = .slice (some ⟨g5, 0, none⟩) (m + 1) c5 ∧ PutS w W m g5 c5 (.slice none 0 0) l (l.drop (8 * m)) := by
  have hlen : (preR m l ++ [(⟨[], 0⟩ : Rd)]).length = m + 1 := by simp [preR_len]
  obtain ⟨g, cap, rfl, h1, h2, cells, h3⟩ := Kd.R_form h (by omega)
  obtain ⟨_, hc, hC⟩ := Kd.R_reads' h
  rw [hlen] at h hc hC ⊢
  obtain ⟨ad, cs, e, hK, hcs⟩ := C_at hC (k := m) (by omega)
  cases e
  have hg : gt (preR m l ++ [(⟨[], 0⟩ : Rd)]) m = ⟨[], 0⟩ := by
    rw [gt_eq _ _ (by omega)]
    have : m = (preR m l).length := (preR_len m l).symm
    simp [List.getElem_append, preR_len]
  rw [hg] at hK
  obtain rfl := hK.2 rfl
  refine ⟨g, cap, rfl, ?_, hc, ⟨cells, h3, ?_, ?_⟩, ?_, hb, h1⟩
  · have ht := Kd.R_take (m := m) h (by omega)
    rw [List.take_append_of_le_length (by rw [preR_len]; omega), List.take_of_length_le (by rw [preR_len]; omega)] at ht
    exact Kd.R_mono (rdN_to ht) (fun k _ => by simp [Value.ownBlock])
  · have := hcs 0 (.slice none 0 0) rfl
    rw [Go.Proofs.YtdobjbdkfammbaaDoorW.PrintWords.add_plain, blk_cell h3] at this
    exact this
  · have := hcs 1 (.int .i64 0) rfl
    rw [Go.Proofs.YtdobjbdkfammbaaDoorW.PrintWords.add_plain, blk_cell h3] at this
    exact this
  · rw [List.drop_of_length_le (by omega)]
    exact Kd.R_nil _ _ _ _ _
end Go.Proofs.YtdobjbdkfammbaaDoor
/-
  Chapter 55, the document: put, walked.
-/
namespace Go.Proofs.YtdobjbdkfammbaaDoor
open Go.RowKit Go.Shelf Go.Proofs.YtdobjbdkfammbaaDoorW.PrintWords Go.Proofs.YtdobjbdkfammbaaDoorW.PrintLast Go.Proofs.YtdobjbdkfammbaaDoorW.PrintMore
set_option linter.unusedVariables false
set_option linter.unusedSimpArgs false

/-- What stands at the head of put's loop. -/
def PutI (w wr : World) (l : List Wr) (v5 : Value) : Prop :=
  (l = [] ∧ kRd.R 73 wr w.heap.size (fun _ => True) v5 [] ∧ Below w.heap.size w wr) ∨
  (0 < l.length ∧ ∃ g5 c5 vl, v5 = .slice (some ⟨g5, 0, none⟩) ((l.length - 1) / 8 + 1) c5 ∧ PutS w wr ((l.length - 1) / 8) g5 c5 vl l (l.drop (8 * ((l.length - 1) / 8))))
theorem PutI.out {w wr : World} {l : List Wr} {v5 : Value} (h : PutI w wr l v5) : Below w.heap.size w wr := by
  rcases h with ⟨_, _, h⟩ | ⟨_, _, _, _, _, h⟩
  · exact h
  · exact h.out
theorem PutI.whole {w wr : World} {l : List Wr} {v5 : Value} (h : PutI w wr l v5) : kRd.R 73 wr w.heap.size (fun _ => True) v5 (rowsR l) := by
  rcases h with ⟨rfl, h, _⟩ | ⟨hp, g5, c5, vl, rfl, h⟩
  · exact h
  · rw [rowsR_split l ((l.length - 1) / 8) (by omega) (by omega)]
    exact h.whole
theorem norm_any {P : Program} {md : Region.Mode} {ops : Array Oper} {Q : Exit → Act → World → Prop} {fuel : Nat} {listed : Array Bool} {a : Act} {w : World} (h : ∀ K : Act → World → Prop, (∀ a w, wpAny P md ops Q fuel listed a w → K a w) → K a w) : wpAny P md ops Q fuel listed a w := h _ (fun _ _ h => h)
set_option maxRecDepth 8000 in
set_option maxHeartbeats 3200000 in
theorem put_any (A : Option Addr) (B : List (List UInt8)) (n : Nat) (hn : B.length = n) (c : Nat) (vol : Int) (w : World) (h : kBlock.C w A n B) (hl : n ≤ 1000) :
    Calls Tryd.prog 38 #[.slice A n c, .int .i64 vol] w fun e w' => ∃ v, e = .returned v ∧ kRd.R 73 w' w.heap.size (fun _ => True) v (rowsR (wrs vol B)) ∧ Below w.heap.size w w' := by
  have H := Aside0.mk h
  have HN := Aside0.mk hn
  clear h hn
  go_enter Tryd.func38, Tryd.ntmps38
  go_wp2_with fail
  go_loopg [6, 5, 7, 8] n (fun gk i v5 _ _ wr => ∃ k : Nat, k ≤ n ∧ Aside0 (gk = n - k) ∧ i = .int .i64 k ∧ Aside0 (PutI w wr ((wrs vol B).take k) v5))
  case atStart => exact ⟨0, Nat.zero_le _, ⟨rfl⟩, rfl, ⟨.inl ⟨rfl, ⟨fun _ _ => trivial, OwnRow.lit w w.heap.size (inner := []) (reps_nil _ _) (Nat.le_refl _) (by simp)⟩, below_alloc (Below.refl _ _) _⟩⟩⟩
  case round =>
    obtain ⟨k, hk, HGK, rfl, HP⟩ := hrel
    by_cases hlt : k < n
    · obtain ⟨ad, rfl, hl32, hc⟩ := block_at H.out hlt
      have hkl : (k : Int) < (n : Int) := by omega
      obtain ⟨xs, hxs⟩ : ∃ xs, xs = gt B k := ⟨_, rfl⟩
      rw [← hxs] at hl32 hc
      obtain ⟨l, hl0⟩ : ∃ l, l = (wrs vol B).take k := ⟨_, rfl⟩
      have hll : l.length = k := by rw [hl0, List.length_take, wrs_len, HN.out]; omega
      have HLL := Aside0.mk hll
      have HX : Aside0 ((wrs vol B).take (k + 1) = l ++ [⟨vol, (k : Int), xs⟩]) := ⟨by rw [hl0, wrs_succ vol B k (by rw [HN.out]; exact hlt), hxs]⟩
      rw [← hl0] at HP
      have HC : Aside0 (∀ j u, (bytesV xs)[j]? = some u → wr.cell? ((ad.add (k * 32)).add j) = some u) := ⟨fun j u hu => cell_old HP.out.out (hc j u hu)⟩
      have HBT := Aside0.mk (built_wr vol (k : Int) xs hl32)
      have hmod : (k : Int).tmod 8 = ((k % 8 : Nat) : Int) := (Int.ofNat_tmod _ _).symm
      obtain ⟨r, hr⟩ : ∃ r, r = k % 8 := ⟨_, rfl⟩
      rw [← hr] at hmod
      have hmod2 : (k : Int) % 8 = (r : Int) := by omega
      have HR8 := Aside0.mk hr
      clear hc hxs hl0 hll hr
      by_cases h8 : r = 0
      · have h8' : (r : Int) = 0 := by omega
        obtain ⟨m, hm⟩ : ∃ m, m = k / 8 := ⟨_, rfl⟩
        have HM8 := Aside0.mk hm
        have hl8 : l.length = 8 * m := by have := HR8.out; rw [HLL.out]; omega
        have HL88 := Aside0.mk hl8
        have hw := HP.out.whole
        rw [rowsR_full l m hl8] at hw
        have HRN := Aside0.mk (rdN_of hw (preR_ne m l (by omega)))
        have HOW := Aside0.mk HP.out.out
        have HL7 : Aside0 (((preR m l).length + 1) * 32 ≤ 140737488355328) := ⟨by rw [preR_len]; omega⟩
        clear hm hl8 hw
        go_upto_region 7 with (first | ((with_reducible refine gate_dst (N := 22) rfl ?_); refine load_block rfl _ rfl (ad.add (k * 32)) rfl xs hl32 HC.out ?_) | ((with_reducible refine gate_dst (N := 23) rfl ?_); refine build_on rfl 39 _ rfl (wrV ⟨vol, (k : Int), xs⟩).toArray (Eq.trans (by kernel_rfl) HBT.out) ?_) | ((with_reducible refine gate_store (t := 39) (p := 7) rfl ?_); refine store_write_new rfl (.tmp 7) (.tmp 23) rfl _ rfl rfl ⟨vol, (k : Int), xs⟩ hl32 rfl ?_))
        obtain ⟨V0, hV0⟩ : ∃ V0, wr.alloc (.cells (wrV ⟨vol, (k : Int), xs⟩).toArray 39) = V0 := ⟨_, rfl⟩
        obtain ⟨Bx, hBx⟩ : ∃ Bx, Bx = wr.heap.size := ⟨_, rfl⟩
        have HRV : Aside0 (kRdN.R 73 V0 w.heap.size (fun _ => True) u5 (preR m l)) := ⟨by rw [← hV0]; exact Kd.R_alloc HRN.out _⟩
        have HBV0 : Aside0 (V0.heap[Bx]? = some (.cells (wrV ⟨vol, (k : Int), xs⟩).toArray 39 (0, 0))) := ⟨by rw [hBx, ← hV0]; exact blk_new wr _⟩
        have HOV : Aside0 (Below w.heap.size w V0) := ⟨by rw [← hV0]; exact below_alloc HOW.out _⟩
        have HNO : Aside0 (∀ q, u5.ownBlock = some q → q < Bx) := ⟨fun q hq => by rw [hBx]; exact Kd.R_lt HRN.out q hq⟩
        rw [hV0, ← hBx]
        clear hV0 hBx
        go_upto_region 8 with ((with_reducible refine gate_builtin (b := .append) (xs := #[.tmp 27, .tmp 29]) rfl ?_); at_builtin; refine Kd.R_append kRdN (w0 := w) w.heap.size rfl (.tmp 27) (.tmp 29) 27 73 (.agg #[.slice none 0 0, .int .i64 0]) 32 rfl Tryd.underlying27 info_rd rfl (Nat.succ_pos _) (by omega) u5 (preR m l) ⟨[], 0⟩ [.slice none 0 0, .int .i64 0] (fun _ => True) (fun _ => False) rfl rfl (rdN_nil _ _ _) (fun _ hk => hk.elim) (fun _ _ => trivial) HRV.out HOV.out HOV.out.size HL7.out ?_; intro v7 V ho hb hg hat; obtain ⟨g5, c5, rfl, hS⟩ := PutS.fresh HL88.out ho hb; have HSV0 := Aside0.mk hS; have HBV := Aside0.mk (blk_grown HBV0.out hg (fun e => by have := HNO.out Bx e.symm; omega)); clear ho hb hg hat hS)
        obtain ⟨vl, hvl⟩ : ∃ vl, vl = Value.slice none 0 0 := ⟨_, rfl⟩
        have HSV := HSV0
        rw [← hvl] at HSV
        clear hvl HSV0
        (have hm1000 : m ≤ 1000 := (by have := HM8.out; omega); have hm64 : (m : Int) ≤ 9223372036854775807 := (by omega); have hmp : (m : Int) < (m : Int) + 1 := (by omega); have q0 := HSV.out.c0; have q1 := HSV.out.fz; have qa : ∀ o, (V.alloc o).cell? ⟨g5, m * 2, none⟩ = some vl := fun o => cell_old (below_alloc (Below.refl _ _) o) q0; go_upto_region 9 with fail; have HCD : Aside0 (∀ j u, (wrV ⟨vol, (k : Int), xs⟩)[j]? = some u → V.drew.cell? ((⟨Bx, 0, none⟩ : Addr).add j) = some u) := ⟨wr_cells (blk_drew HBV.out)⟩; have HSD : Aside0 (PutS w V.drew m g5 c5 vl l (l.drop (8 * m))) := ⟨HSV.out.below (below_drew1 (Below.refl _ _))⟩; have HLN : Aside0 (((l.drop (8 * m)).length + 1) * 56 ≤ 140737488355328) := ⟨by rw [List.length_drop, HLL.out]; omega⟩; have HL8 : Aside0 (8 * m ≤ l.length) := ⟨by rw [HLL.out]; have := HM8.out; omega⟩; have HFR : Aside0 (∀ q, V.drew.heap.size ≤ q → q ≠ g5) := ⟨fun q hq e => by obtain ⟨cur, hb5, _⟩ := HSD.out.blk; have := blk_lt hb5; omega⟩; obtain ⟨n9, hn9⟩ : ∃ n9, (l.drop (8 * m)).length + 1 = n9 := ⟨_, rfl⟩; have HN9 := Aside0.mk hn9; clear hn9; (refine wp_region_any (by kernel_rfl) ?_; change wpAny _ _ _ _ _ _ _ (World.drew _); (refine wpAny_take (i := 0) (v := ?_) rfl (by kernel_rfl) (by kernel_rfl) (by kernel_rfl) (fun _ _ _ h => h) (Or.inl ⟨by rfl, ?_⟩) ?_; rotate_left; (focus (intro w; go_simp; first | done | with_reducible rfl)); (refine norm_any (fun K hK => ?_); go_simp; refine hK _ _ ?_; clear hK K)); (refine wpAny_take (i := 1) (v := ?_) rfl (by kernel_rfl) (by kernel_rfl) (by kernel_rfl) (fun _ _ _ h => h) (Or.inl ⟨by rfl, ?_⟩) ?_; rotate_left; (focus (intro w; go_simp; first | done | with_reducible rfl)); (refine norm_any (fun K hK => ?_); go_simp; refine hK _ _ ?_; clear hK K)); (refine wpAny_take (i := 2) (v := ?_) rfl (by kernel_rfl) (by kernel_rfl) (by kernel_rfl) (fun _ _ _ h => h) (Or.inl ⟨by rfl, ?_⟩) ?_; rotate_left; (focus (intro w; go_simp; first | done | with_reducible rfl)); (refine norm_any (fun K hK => ?_); go_simp; refine hK _ _ ?_; clear hK K)); (refine wpAny_take (i := 3) (v := ?_) rfl (by kernel_rfl) (by kernel_rfl) (by kernel_rfl) (fun _ _ _ h => h) (Or.inl ⟨by rfl, ?_⟩) ?_; rotate_left; (focus (intro w; go_simp; first | done | with_reducible rfl)); (refine norm_any (fun K hK => ?_); go_simp; refine hK _ _ ?_; clear hK K)); (refine wpAny_take (i := 4) (v := ?_) rfl (by kernel_rfl) (by kernel_rfl) (by kernel_rfl) (fun _ _ _ h => h) (Or.inl ⟨by rfl, ?_⟩) ?_; rotate_left; (focus (intro w; go_simp; first | done | with_reducible rfl)); (refine norm_any (fun K hK => ?_); go_simp; refine hK _ _ ?_; clear hK K)); (refine wpAny_take (i := 5) (v := ?_) rfl (by kernel_rfl) (by kernel_rfl) (by kernel_rfl) (fun _ _ _ h => h) (Or.inl ⟨by rfl, ?_⟩) ?_; rotate_left; (focus (intro w; go_simp; first | done | with_reducible rfl)); (refine norm_any (fun K hK => ?_); go_simp; refine hK _ _ ?_; clear hK K)); refine wpAny_ready (rs := [6, 7]) (by kernel_rfl) (by simp) (AllReady.cons rfl (fun K hK => ?_) (AllReady.cons rfl (fun K hK => ?_) AllReady.nil)); (focus ((go_simp; refine hK _ _ ?_; clear hK K); (refine wpAny_ready (rs := [7]) (by kernel_rfl) (by simp) (AllReady.cons rfl (fun K hK => ?_) AllReady.nil)); (refine step_load_write rfl (.tmp 7) rfl ⟨Bx, 0, none⟩ rfl ⟨vol, (k : Int), xs⟩ hl32 HCD.out ?_; go_simp; refine hK _ _ ?_; clear hK K); (refine wpAny_ready (rs := [8]) (by kernel_rfl) (by simp) (AllReady.cons rfl (fun K hK => ?_) AllReady.nil)); (refine step_build_write rfl (.tmp 41) rfl ⟨vol, (k : Int), xs⟩ hl32 rfl ?_; go_simp; refine hK _ _ ?_; clear hK K); ((refine wpAny_ready (rs := [9]) (by kernel_rfl) (by simp) (AllReady.cons rfl (fun K hK => ?_) AllReady.nil)); refine Kd.R_append_step kWr (w0 := w) (W := V.drew) w.heap.size rfl (.tmp 40) (.tmp 42) 31 39 zW 56 rfl Tryd.underlying31 info_wrZ rfl (by decide) (by omega) vl (l.drop (8 * m)) ⟨vol, (k : Int), xs⟩ (wrV ⟨vol, (k : Int), xs⟩) (fun q => q ≠ g5) (fun _ => False) rfl rfl (kWr_mk _ _ _ _ hl32) (fun _ hk => hk.elim) HFR.out HSD.out.row HSD.out.out HSD.out.out.size HLN.out ?_; intro v9 w9 ho hb hg hat; obtain ⟨A9, c9, rfl⟩ : ∃ A c, v9 = .slice A n9 c := (by obtain ⟨A, c, e⟩ := Kd.R_slice ho; exact ⟨A, c, by rw [e, List.length_append, List.length_singleton, HN9.out]⟩); have k9 := HSD.out.grown hg; have HP9 := Aside0.mk (HSD.out.push ⟨vol, (k : Int), xs⟩ ho hb hg hat HL8.out); clear ho hb hg hat; go_simp; refine hK _ _ ?_; clear hK K; (refine wpAny_take (i := 10) (v := ?_) rfl (by kernel_rfl) (by kernel_rfl) (by kernel_rfl) (fun _ _ _ h => h) (Or.inl ⟨by rfl, ?_⟩) ?_; rotate_left; (focus (intro w; go_simp; first | done | with_reducible rfl)); (refine norm_any (fun K hK => ?_); go_simp; refine hK _ _ ?_; clear hK K)); (refine wpAny_take (i := 11) (v := ?_) rfl (by kernel_rfl) (by kernel_rfl) (by kernel_rfl) (fun _ _ _ h => h) (Or.inl ⟨by rfl, ?_⟩) ?_; rotate_left; (focus (intro w; go_simp; first | done | with_reducible rfl)); (refine norm_any (fun K hK => ?_); go_simp; refine hK _ _ ?_; clear hK K)); (refine wpAny_ready (rs := [12]) (by kernel_rfl) (by simp) (AllReady.cons rfl (fun K hK => ?_) AllReady.nil)); go_simp; refine hK _ _ ?_; clear hK K; refine wpAny_done (by kernel_rfl) ?_ _; (obtain ⟨l2, hl2⟩ : ∃ l2, l2 = (wrs vol B).take (k + 1) := ⟨_, rfl⟩; have HL2 := Aside0.mk hl2; clear hl2; go_wp2_with fail; go_roundg (n - (k + 1)); (case measure => (have := HGK.out; omega)); (case rel => (refine ⟨k + 1, by omega, ⟨rfl⟩, by go_num, ⟨.inr ?_⟩⟩; rw [HX.out]; have e1 := HLL.out; have e2 := HM8.out; have e3 := HR8.out; rw [List.length_append, List.length_singleton, show (l.length + 1 - 1) / 8 = m by omega]; refine ⟨by omega, g5, c5, .slice A9 n9 c9, rfl, ?_⟩; rw [List.drop_append_of_le_length (by omega)]; exact HP9.out)))))); (focus ((refine step_load_write rfl (.tmp 7) rfl ⟨Bx, 0, none⟩ rfl ⟨vol, (k : Int), xs⟩ hl32 HCD.out ?_; go_simp; refine hK _ _ ?_; clear hK K); refine wpAny_ready (rs := [6, 8]) (by kernel_rfl) (by simp) (AllReady.cons rfl (fun K hK => ?_) (AllReady.cons rfl (fun K hK => ?_) AllReady.nil)); (focus ((go_simp; refine hK _ _ ?_; clear hK K); (refine wpAny_ready (rs := [8]) (by kernel_rfl) (by simp) (AllReady.cons rfl (fun K hK => ?_) AllReady.nil)); (refine step_build_write rfl (.tmp 41) rfl ⟨vol, (k : Int), xs⟩ hl32 rfl ?_; go_simp; refine hK _ _ ?_; clear hK K); ((refine wpAny_ready (rs := [9]) (by kernel_rfl) (by simp) (AllReady.cons rfl (fun K hK => ?_) AllReady.nil)); refine Kd.R_append_step kWr (w0 := w) (W := V.drew) w.heap.size rfl (.tmp 40) (.tmp 42) 31 39 zW 56 rfl Tryd.underlying31 info_wrZ rfl (by decide) (by omega) vl (l.drop (8 * m)) ⟨vol, (k : Int), xs⟩ (wrV ⟨vol, (k : Int), xs⟩) (fun q => q ≠ g5) (fun _ => False) rfl rfl (kWr_mk _ _ _ _ hl32) (fun _ hk => hk.elim) HFR.out HSD.out.row HSD.out.out HSD.out.out.size HLN.out ?_; intro v9 w9 ho hb hg hat; obtain ⟨A9, c9, rfl⟩ : ∃ A c, v9 = .slice A n9 c := (by obtain ⟨A, c, e⟩ := Kd.R_slice ho; exact ⟨A, c, by rw [e, List.length_append, List.length_singleton, HN9.out]⟩); have k9 := HSD.out.grown hg; have HP9 := Aside0.mk (HSD.out.push ⟨vol, (k : Int), xs⟩ ho hb hg hat HL8.out); clear ho hb hg hat; go_simp; refine hK _ _ ?_; clear hK K; (refine wpAny_take (i := 10) (v := ?_) rfl (by kernel_rfl) (by kernel_rfl) (by kernel_rfl) (fun _ _ _ h => h) (Or.inl ⟨by rfl, ?_⟩) ?_; rotate_left; (focus (intro w; go_simp; first | done | with_reducible rfl)); (refine norm_any (fun K hK => ?_); go_simp; refine hK _ _ ?_; clear hK K)); (refine wpAny_take (i := 11) (v := ?_) rfl (by kernel_rfl) (by kernel_rfl) (by kernel_rfl) (fun _ _ _ h => h) (Or.inl ⟨by rfl, ?_⟩) ?_; rotate_left; (focus (intro w; go_simp; first | done | with_reducible rfl)); (refine norm_any (fun K hK => ?_); go_simp; refine hK _ _ ?_; clear hK K)); (refine wpAny_ready (rs := [12]) (by kernel_rfl) (by simp) (AllReady.cons rfl (fun K hK => ?_) AllReady.nil)); go_simp; refine hK _ _ ?_; clear hK K; refine wpAny_done (by kernel_rfl) ?_ _; (obtain ⟨l2, hl2⟩ : ∃ l2, l2 = (wrs vol B).take (k + 1) := ⟨_, rfl⟩; have HL2 := Aside0.mk hl2; clear hl2; go_wp2_with fail; go_roundg (n - (k + 1)); (case measure => (have := HGK.out; omega)); (case rel => (refine ⟨k + 1, by omega, ⟨rfl⟩, by go_num, ⟨.inr ?_⟩⟩; rw [HX.out]; have e1 := HLL.out; have e2 := HM8.out; have e3 := HR8.out; rw [List.length_append, List.length_singleton, show (l.length + 1 - 1) / 8 = m by omega]; refine ⟨by omega, g5, c5, .slice A9 n9 c9, rfl, ?_⟩; rw [List.drop_append_of_le_length (by omega)]; exact HP9.out)))))); (focus ((refine step_build_write rfl (.tmp 41) rfl ⟨vol, (k : Int), xs⟩ hl32 rfl ?_; go_simp; refine hK _ _ ?_; clear hK K); (refine wpAny_ready (rs := [6]) (by kernel_rfl) (by simp) (AllReady.cons rfl (fun K hK => ?_) AllReady.nil)); (go_simp; refine hK _ _ ?_; clear hK K); ((refine wpAny_ready (rs := [9]) (by kernel_rfl) (by simp) (AllReady.cons rfl (fun K hK => ?_) AllReady.nil)); refine Kd.R_append_step kWr (w0 := w) (W := V.drew) w.heap.size rfl (.tmp 40) (.tmp 42) 31 39 zW 56 rfl Tryd.underlying31 info_wrZ rfl (by decide) (by omega) vl (l.drop (8 * m)) ⟨vol, (k : Int), xs⟩ (wrV ⟨vol, (k : Int), xs⟩) (fun q => q ≠ g5) (fun _ => False) rfl rfl (kWr_mk _ _ _ _ hl32) (fun _ hk => hk.elim) HFR.out HSD.out.row HSD.out.out HSD.out.out.size HLN.out ?_; intro v9 w9 ho hb hg hat; obtain ⟨A9, c9, rfl⟩ : ∃ A c, v9 = .slice A n9 c := (by obtain ⟨A, c, e⟩ := Kd.R_slice ho; exact ⟨A, c, by rw [e, List.length_append, List.length_singleton, HN9.out]⟩); have k9 := HSD.out.grown hg; have HP9 := Aside0.mk (HSD.out.push ⟨vol, (k : Int), xs⟩ ho hb hg hat HL8.out); clear ho hb hg hat; go_simp; refine hK _ _ ?_; clear hK K; (refine wpAny_take (i := 10) (v := ?_) rfl (by kernel_rfl) (by kernel_rfl) (by kernel_rfl) (fun _ _ _ h => h) (Or.inl ⟨by rfl, ?_⟩) ?_; rotate_left; (focus (intro w; go_simp; first | done | with_reducible rfl)); (refine norm_any (fun K hK => ?_); go_simp; refine hK _ _ ?_; clear hK K)); (refine wpAny_take (i := 11) (v := ?_) rfl (by kernel_rfl) (by kernel_rfl) (by kernel_rfl) (fun _ _ _ h => h) (Or.inl ⟨by rfl, ?_⟩) ?_; rotate_left; (focus (intro w; go_simp; first | done | with_reducible rfl)); (refine norm_any (fun K hK => ?_); go_simp; refine hK _ _ ?_; clear hK K)); (refine wpAny_ready (rs := [12]) (by kernel_rfl) (by simp) (AllReady.cons rfl (fun K hK => ?_) AllReady.nil)); go_simp; refine hK _ _ ?_; clear hK K; refine wpAny_done (by kernel_rfl) ?_ _; (obtain ⟨l2, hl2⟩ : ∃ l2, l2 = (wrs vol B).take (k + 1) := ⟨_, rfl⟩; have HL2 := Aside0.mk hl2; clear hl2; go_wp2_with fail; go_roundg (n - (k + 1)); (case measure => (have := HGK.out; omega)); (case rel => (refine ⟨k + 1, by omega, ⟨rfl⟩, by go_num, ⟨.inr ?_⟩⟩; rw [HX.out]; have e1 := HLL.out; have e2 := HM8.out; have e3 := HR8.out; rw [List.length_append, List.length_singleton, show (l.length + 1 - 1) / 8 = m by omega]; refine ⟨by omega, g5, c5, .slice A9 n9 c9, rfl, ?_⟩; rw [List.drop_append_of_le_length (by omega)]; exact HP9.out))))))))))
      · have h8' : ¬ (r : Int) = 0 := by omega
        obtain ⟨hp0, g5, c5, vl, rfl, hS⟩ : 0 < k ∧ ∃ g5 c5 vl, u5 = .slice (some ⟨g5, 0, none⟩) (k / 8 + 1) c5 ∧ PutS w wr (k / 8) g5 c5 vl l (l.drop (8 * (k / 8))) := by
          rcases HP.out with ⟨h1, _⟩ | ⟨h1, h2⟩
          · have := HLL.out; rw [h1] at this; simp at this; omega
          · rw [HLL.out, show (k - 1) / 8 = k / 8 by omega] at h2
            exact ⟨by omega, h2⟩
        obtain ⟨m, hm⟩ : ∃ m, m = k / 8 := ⟨_, rfl⟩
        rw [← hm] at hS ⊢
        have HS := Aside0.mk hS
        have HM8 := Aside0.mk hm
        clear hS hm
        go_upto_region 8 with (first | ((with_reducible refine gate_dst (N := 22) rfl ?_); refine load_block rfl _ rfl (ad.add (k * 32)) rfl xs hl32 HC.out ?_) | ((with_reducible refine gate_dst (N := 23) rfl ?_); refine build_on rfl 39 _ rfl (wrV ⟨vol, (k : Int), xs⟩).toArray (Eq.trans (by kernel_rfl) HBT.out) ?_) | ((with_reducible refine gate_store (t := 39) (p := 7) rfl ?_); refine store_write_new rfl (.tmp 7) (.tmp 23) rfl _ rfl rfl ⟨vol, (k : Int), xs⟩ hl32 rfl ?_))
        obtain ⟨V, hV⟩ : ∃ V, wr.alloc (.cells (wrV ⟨vol, (k : Int), xs⟩).toArray 39) = V := ⟨_, rfl⟩
        obtain ⟨Bx, hBx⟩ : ∃ Bx, Bx = wr.heap.size := ⟨_, rfl⟩
        have HSV : Aside0 (PutS w V m g5 c5 vl l (l.drop (8 * m))) := ⟨by rw [← hV]; exact HS.out.below (below_alloc (Below.refl _ _) _)⟩
        have HBV : Aside0 (V.heap[Bx]? = some (.cells (wrV ⟨vol, (k : Int), xs⟩).toArray 39 (0, 0))) := ⟨by rw [hBx, ← hV]; exact blk_new wr _⟩
        rw [hV, ← hBx]
        clear hV hBx
        (have hm1000 : m ≤ 1000 := (by have := HM8.out; omega); have hm64 : (m : Int) ≤ 9223372036854775807 := (by omega); have hmp : (m : Int) < (m : Int) + 1 := (by omega); have q0 := HSV.out.c0; have q1 := HSV.out.fz; have qa : ∀ o, (V.alloc o).cell? ⟨g5, m * 2, none⟩ = some vl := fun o => cell_old (below_alloc (Below.refl _ _) o) q0; go_upto_region 9 with fail; have HCD : Aside0 (∀ j u, (wrV ⟨vol, (k : Int), xs⟩)[j]? = some u → V.drew.cell? ((⟨Bx, 0, none⟩ : Addr).add j) = some u) := ⟨wr_cells (blk_drew HBV.out)⟩; have HSD : Aside0 (PutS w V.drew m g5 c5 vl l (l.drop (8 * m))) := ⟨HSV.out.below (below_drew1 (Below.refl _ _))⟩; have HLN : Aside0 (((l.drop (8 * m)).length + 1) * 56 ≤ 140737488355328) := ⟨by rw [List.length_drop, HLL.out]; omega⟩; have HL8 : Aside0 (8 * m ≤ l.length) := ⟨by rw [HLL.out]; have := HM8.out; omega⟩; have HFR : Aside0 (∀ q, V.drew.heap.size ≤ q → q ≠ g5) := ⟨fun q hq e => by obtain ⟨cur, hb5, _⟩ := HSD.out.blk; have := blk_lt hb5; omega⟩; obtain ⟨n9, hn9⟩ : ∃ n9, (l.drop (8 * m)).length + 1 = n9 := ⟨_, rfl⟩; have HN9 := Aside0.mk hn9; clear hn9; (refine wp_region_any (by kernel_rfl) ?_; change wpAny _ _ _ _ _ _ _ (World.drew _); (refine wpAny_take (i := 0) (v := ?_) rfl (by kernel_rfl) (by kernel_rfl) (by kernel_rfl) (fun _ _ _ h => h) (Or.inl ⟨by rfl, ?_⟩) ?_; rotate_left; (focus (intro w; go_simp; first | done | with_reducible rfl)); (refine norm_any (fun K hK => ?_); go_simp; refine hK _ _ ?_; clear hK K)); (refine wpAny_take (i := 1) (v := ?_) rfl (by kernel_rfl) (by kernel_rfl) (by kernel_rfl) (fun _ _ _ h => h) (Or.inl ⟨by rfl, ?_⟩) ?_; rotate_left; (focus (intro w; go_simp; first | done | with_reducible rfl)); (refine norm_any (fun K hK => ?_); go_simp; refine hK _ _ ?_; clear hK K)); (refine wpAny_take (i := 2) (v := ?_) rfl (by kernel_rfl) (by kernel_rfl) (by kernel_rfl) (fun _ _ _ h => h) (Or.inl ⟨by rfl, ?_⟩) ?_; rotate_left; (focus (intro w; go_simp; first | done | with_reducible rfl)); (refine norm_any (fun K hK => ?_); go_simp; refine hK _ _ ?_; clear hK K)); (refine wpAny_take (i := 3) (v := ?_) rfl (by kernel_rfl) (by kernel_rfl) (by kernel_rfl) (fun _ _ _ h => h) (Or.inl ⟨by rfl, ?_⟩) ?_; rotate_left; (focus (intro w; go_simp; first | done | with_reducible rfl)); (refine norm_any (fun K hK => ?_); go_simp; refine hK _ _ ?_; clear hK K)); (refine wpAny_take (i := 4) (v := ?_) rfl (by kernel_rfl) (by kernel_rfl) (by kernel_rfl) (fun _ _ _ h => h) (Or.inl ⟨by rfl, ?_⟩) ?_; rotate_left; (focus (intro w; go_simp; first | done | with_reducible rfl)); (refine norm_any (fun K hK => ?_); go_simp; refine hK _ _ ?_; clear hK K)); (refine wpAny_take (i := 5) (v := ?_) rfl (by kernel_rfl) (by kernel_rfl) (by kernel_rfl) (fun _ _ _ h => h) (Or.inl ⟨by rfl, ?_⟩) ?_; rotate_left; (focus (intro w; go_simp; first | done | with_reducible rfl)); (refine norm_any (fun K hK => ?_); go_simp; refine hK _ _ ?_; clear hK K)); refine wpAny_ready (rs := [6, 7]) (by kernel_rfl) (by simp) (AllReady.cons rfl (fun K hK => ?_) (AllReady.cons rfl (fun K hK => ?_) AllReady.nil)); (focus ((go_simp; refine hK _ _ ?_; clear hK K); (refine wpAny_ready (rs := [7]) (by kernel_rfl) (by simp) (AllReady.cons rfl (fun K hK => ?_) AllReady.nil)); (refine step_load_write rfl (.tmp 7) rfl ⟨Bx, 0, none⟩ rfl ⟨vol, (k : Int), xs⟩ hl32 HCD.out ?_; go_simp; refine hK _ _ ?_; clear hK K); (refine wpAny_ready (rs := [8]) (by kernel_rfl) (by simp) (AllReady.cons rfl (fun K hK => ?_) AllReady.nil)); (refine step_build_write rfl (.tmp 41) rfl ⟨vol, (k : Int), xs⟩ hl32 rfl ?_; go_simp; refine hK _ _ ?_; clear hK K); ((refine wpAny_ready (rs := [9]) (by kernel_rfl) (by simp) (AllReady.cons rfl (fun K hK => ?_) AllReady.nil)); refine Kd.R_append_step kWr (w0 := w) (W := V.drew) w.heap.size rfl (.tmp 40) (.tmp 42) 31 39 zW 56 rfl Tryd.underlying31 info_wrZ rfl (by decide) (by omega) vl (l.drop (8 * m)) ⟨vol, (k : Int), xs⟩ (wrV ⟨vol, (k : Int), xs⟩) (fun q => q ≠ g5) (fun _ => False) rfl rfl (kWr_mk _ _ _ _ hl32) (fun _ hk => hk.elim) HFR.out HSD.out.row HSD.out.out HSD.out.out.size HLN.out ?_; intro v9 w9 ho hb hg hat; obtain ⟨A9, c9, rfl⟩ : ∃ A c, v9 = .slice A n9 c := (by obtain ⟨A, c, e⟩ := Kd.R_slice ho; exact ⟨A, c, by rw [e, List.length_append, List.length_singleton, HN9.out]⟩); have k9 := HSD.out.grown hg; have HP9 := Aside0.mk (HSD.out.push ⟨vol, (k : Int), xs⟩ ho hb hg hat HL8.out); clear ho hb hg hat; go_simp; refine hK _ _ ?_; clear hK K; (refine wpAny_take (i := 10) (v := ?_) rfl (by kernel_rfl) (by kernel_rfl) (by kernel_rfl) (fun _ _ _ h => h) (Or.inl ⟨by rfl, ?_⟩) ?_; rotate_left; (focus (intro w; go_simp; first | done | with_reducible rfl)); (refine norm_any (fun K hK => ?_); go_simp; refine hK _ _ ?_; clear hK K)); (refine wpAny_take (i := 11) (v := ?_) rfl (by kernel_rfl) (by kernel_rfl) (by kernel_rfl) (fun _ _ _ h => h) (Or.inl ⟨by rfl, ?_⟩) ?_; rotate_left; (focus (intro w; go_simp; first | done | with_reducible rfl)); (refine norm_any (fun K hK => ?_); go_simp; refine hK _ _ ?_; clear hK K)); (refine wpAny_ready (rs := [12]) (by kernel_rfl) (by simp) (AllReady.cons rfl (fun K hK => ?_) AllReady.nil)); go_simp; refine hK _ _ ?_; clear hK K; refine wpAny_done (by kernel_rfl) ?_ _; (obtain ⟨l2, hl2⟩ : ∃ l2, l2 = (wrs vol B).take (k + 1) := ⟨_, rfl⟩; have HL2 := Aside0.mk hl2; clear hl2; go_wp2_with fail; go_roundg (n - (k + 1)); (case measure => (have := HGK.out; omega)); (case rel => (refine ⟨k + 1, by omega, ⟨rfl⟩, by go_num, ⟨.inr ?_⟩⟩; rw [HX.out]; have e1 := HLL.out; have e2 := HM8.out; have e3 := HR8.out; rw [List.length_append, List.length_singleton, show (l.length + 1 - 1) / 8 = m by omega]; refine ⟨by omega, g5, c5, .slice A9 n9 c9, rfl, ?_⟩; rw [List.drop_append_of_le_length (by omega)]; exact HP9.out)))))); (focus ((refine step_load_write rfl (.tmp 7) rfl ⟨Bx, 0, none⟩ rfl ⟨vol, (k : Int), xs⟩ hl32 HCD.out ?_; go_simp; refine hK _ _ ?_; clear hK K); refine wpAny_ready (rs := [6, 8]) (by kernel_rfl) (by simp) (AllReady.cons rfl (fun K hK => ?_) (AllReady.cons rfl (fun K hK => ?_) AllReady.nil)); (focus ((go_simp; refine hK _ _ ?_; clear hK K); (refine wpAny_ready (rs := [8]) (by kernel_rfl) (by simp) (AllReady.cons rfl (fun K hK => ?_) AllReady.nil)); (refine step_build_write rfl (.tmp 41) rfl ⟨vol, (k : Int), xs⟩ hl32 rfl ?_; go_simp; refine hK _ _ ?_; clear hK K); ((refine wpAny_ready (rs := [9]) (by kernel_rfl) (by simp) (AllReady.cons rfl (fun K hK => ?_) AllReady.nil)); refine Kd.R_append_step kWr (w0 := w) (W := V.drew) w.heap.size rfl (.tmp 40) (.tmp 42) 31 39 zW 56 rfl Tryd.underlying31 info_wrZ rfl (by decide) (by omega) vl (l.drop (8 * m)) ⟨vol, (k : Int), xs⟩ (wrV ⟨vol, (k : Int), xs⟩) (fun q => q ≠ g5) (fun _ => False) rfl rfl (kWr_mk _ _ _ _ hl32) (fun _ hk => hk.elim) HFR.out HSD.out.row HSD.out.out HSD.out.out.size HLN.out ?_; intro v9 w9 ho hb hg hat; obtain ⟨A9, c9, rfl⟩ : ∃ A c, v9 = .slice A n9 c := (by obtain ⟨A, c, e⟩ := Kd.R_slice ho; exact ⟨A, c, by rw [e, List.length_append, List.length_singleton, HN9.out]⟩); have k9 := HSD.out.grown hg; have HP9 := Aside0.mk (HSD.out.push ⟨vol, (k : Int), xs⟩ ho hb hg hat HL8.out); clear ho hb hg hat; go_simp; refine hK _ _ ?_; clear hK K; (refine wpAny_take (i := 10) (v := ?_) rfl (by kernel_rfl) (by kernel_rfl) (by kernel_rfl) (fun _ _ _ h => h) (Or.inl ⟨by rfl, ?_⟩) ?_; rotate_left; (focus (intro w; go_simp; first | done | with_reducible rfl)); (refine norm_any (fun K hK => ?_); go_simp; refine hK _ _ ?_; clear hK K)); (refine wpAny_take (i := 11) (v := ?_) rfl (by kernel_rfl) (by kernel_rfl) (by kernel_rfl) (fun _ _ _ h => h) (Or.inl ⟨by rfl, ?_⟩) ?_; rotate_left; (focus (intro w; go_simp; first | done | with_reducible rfl)); (refine norm_any (fun K hK => ?_); go_simp; refine hK _ _ ?_; clear hK K)); (refine wpAny_ready (rs := [12]) (by kernel_rfl) (by simp) (AllReady.cons rfl (fun K hK => ?_) AllReady.nil)); go_simp; refine hK _ _ ?_; clear hK K; refine wpAny_done (by kernel_rfl) ?_ _; (obtain ⟨l2, hl2⟩ : ∃ l2, l2 = (wrs vol B).take (k + 1) := ⟨_, rfl⟩; have HL2 := Aside0.mk hl2; clear hl2; go_wp2_with fail; go_roundg (n - (k + 1)); (case measure => (have := HGK.out; omega)); (case rel => (refine ⟨k + 1, by omega, ⟨rfl⟩, by go_num, ⟨.inr ?_⟩⟩; rw [HX.out]; have e1 := HLL.out; have e2 := HM8.out; have e3 := HR8.out; rw [List.length_append, List.length_singleton, show (l.length + 1 - 1) / 8 = m by omega]; refine ⟨by omega, g5, c5, .slice A9 n9 c9, rfl, ?_⟩; rw [List.drop_append_of_le_length (by omega)]; exact HP9.out)))))); (focus ((refine step_build_write rfl (.tmp 41) rfl ⟨vol, (k : Int), xs⟩ hl32 rfl ?_; go_simp; refine hK _ _ ?_; clear hK K); (refine wpAny_ready (rs := [6]) (by kernel_rfl) (by simp) (AllReady.cons rfl (fun K hK => ?_) AllReady.nil)); (go_simp; refine hK _ _ ?_; clear hK K); ((refine wpAny_ready (rs := [9]) (by kernel_rfl) (by simp) (AllReady.cons rfl (fun K hK => ?_) AllReady.nil)); refine Kd.R_append_step kWr (w0 := w) (W := V.drew) w.heap.size rfl (.tmp 40) (.tmp 42) 31 39 zW 56 rfl Tryd.underlying31 info_wrZ rfl (by decide) (by omega) vl (l.drop (8 * m)) ⟨vol, (k : Int), xs⟩ (wrV ⟨vol, (k : Int), xs⟩) (fun q => q ≠ g5) (fun _ => False) rfl rfl (kWr_mk _ _ _ _ hl32) (fun _ hk => hk.elim) HFR.out HSD.out.row HSD.out.out HSD.out.out.size HLN.out ?_; intro v9 w9 ho hb hg hat; obtain ⟨A9, c9, rfl⟩ : ∃ A c, v9 = .slice A n9 c := (by obtain ⟨A, c, e⟩ := Kd.R_slice ho; exact ⟨A, c, by rw [e, List.length_append, List.length_singleton, HN9.out]⟩); have k9 := HSD.out.grown hg; have HP9 := Aside0.mk (HSD.out.push ⟨vol, (k : Int), xs⟩ ho hb hg hat HL8.out); clear ho hb hg hat; go_simp; refine hK _ _ ?_; clear hK K; (refine wpAny_take (i := 10) (v := ?_) rfl (by kernel_rfl) (by kernel_rfl) (by kernel_rfl) (fun _ _ _ h => h) (Or.inl ⟨by rfl, ?_⟩) ?_; rotate_left; (focus (intro w; go_simp; first | done | with_reducible rfl)); (refine norm_any (fun K hK => ?_); go_simp; refine hK _ _ ?_; clear hK K)); (refine wpAny_take (i := 11) (v := ?_) rfl (by kernel_rfl) (by kernel_rfl) (by kernel_rfl) (fun _ _ _ h => h) (Or.inl ⟨by rfl, ?_⟩) ?_; rotate_left; (focus (intro w; go_simp; first | done | with_reducible rfl)); (refine norm_any (fun K hK => ?_); go_simp; refine hK _ _ ?_; clear hK K)); (refine wpAny_ready (rs := [12]) (by kernel_rfl) (by simp) (AllReady.cons rfl (fun K hK => ?_) AllReady.nil)); go_simp; refine hK _ _ ?_; clear hK K; refine wpAny_done (by kernel_rfl) ?_ _; (obtain ⟨l2, hl2⟩ : ∃ l2, l2 = (wrs vol B).take (k + 1) := ⟨_, rfl⟩; have HL2 := Aside0.mk hl2; clear hl2; go_wp2_with fail; go_roundg (n - (k + 1)); (case measure => (have := HGK.out; omega)); (case rel => (refine ⟨k + 1, by omega, ⟨rfl⟩, by go_num, ⟨.inr ?_⟩⟩; rw [HX.out]; have e1 := HLL.out; have e2 := HM8.out; have e3 := HR8.out; rw [List.length_append, List.length_singleton, show (l.length + 1 - 1) / 8 = m by omega]; refine ⟨by omega, g5, c5, .slice A9 n9 c9, rfl, ?_⟩; rw [List.drop_append_of_le_length (by omega)]; exact HP9.out))))))))))
    · have hkl : ¬ (k : Int) < (n : Int) := by omega
      have hw := HP.out.whole
      rw [List.take_of_length_le (by rw [wrs_len, HN.out]; omega)] at hw
      have HW := Aside0.mk hw
      clear hw
      go_wp2_with fail
      go_ret
      exact ⟨_, rfl, HW.out, HP.out.out⟩
end Go.Proofs.YtdobjbdkfammbaaDoor
namespace Go.Proofs.YtdobjbdkfammbaaDoor
open Go.RowKit Go.Shelf Go.Proofs.YtdobjbdkfammbaaDoorW.PrintWords Go.Proofs.YtdobjbdkfammbaaDoorW.PrintLast Go.Proofs.YtdobjbdkfammbaaDoorW.PrintMore
set_option linter.unusedVariables false
set_option linter.unusedSimpArgs false

theorem makeV_ok {l : List File} (h : makeE l = 0) : l.length ≤ 8 ∧ togB l = true ∧ makeV l = makeB l := by
  unfold makeE at h
  unfold makeV
  split at h
  · cases h
  · next h8 =>
    rw [if_neg h8]
    split at h
    · next ht => exact ⟨by omega, ht, by rw [if_pos ht]⟩
    · cases h
theorem makeV_no {l : List File} (h : makeE l ≠ 0) : makeV l = [] := by
  unfold makeE at h
  unfold makeV
  split
  · rfl
  · next h8 =>
    rw [if_neg h8] at h
    split
    · next ht => rw [if_pos ht] at h; exact absurd rfl h
    · rfl
set_option maxHeartbeats 1600000 in
theorem rdisk_any (A : Option Addr) (l : List File) (n : Nat) (hn : l.length = n) (c : Nat) (b : Bool) (hb : decide (makeE l = 0) = b) (m : Nat) (hm : (makeV l).length = m) (w : World) (h : kFile.C w A n l) (hs : ∀ k, k < l.length → (gt l k).name.size ≤ 9223372036854775807) :
    Calls Tryd.prog 37 #[.slice A n c] w fun e w' => ∃ A2 c2, e = .returned (.tuple #[.slice A2 m c2, .bool b]) ∧ kBlock.R 37 w' w.heap.size (fun _ => True) (.slice A2 m c2) (makeV l) ∧ Below w.heap.size w w' := by
  subst hn
  obtain ⟨E, hE⟩ : ∃ E, makeE l = E := ⟨_, rfl⟩
  have HC := Aside0.mk (refCheck_any A l c E hE w h hs)
  by_cases h0 : makeE l = 0
  · obtain ⟨h8, ht, hv⟩ := makeV_ok h0
    obtain rfl : b = true := by rw [← hb]; exact decide_eq_true h0
    obtain rfl : E = 0 := by rw [← hE]; exact h0
    have H := Aside0.mk h
    have HT := Aside0.mk ht
    have HV := Aside0.mk hv
    have HM := Aside0.mk hm
    clear hb hE h0 h ht hv hm hs
    go_enter Tryd.func37, Tryd.ntmps37
    go_wp2_with (first | (go_at_call 25; refine HC.out.mono ?_; rintro e w1 ⟨rfl, hb⟩; have HB1 := Aside0.mk hb; clear hb) | (go_at_call 62; refine (refMake_any A l c _ (Kd.C_below H.out HB1.out) h8 HT.out).mono ?_; rintro e w2 ⟨v2, rfl, ho, hb⟩; rw [← HV.out] at ho; obtain ⟨A2, c2, rfl⟩ : ∃ A c, v2 = .slice A m c := (by obtain ⟨A, c, e⟩ := Kd.R_slice ho; exact ⟨A, c, by rw [e, HM.out]⟩); have HO2 := Aside0.mk (Kd.R_lower ho HB1.out.size); have HB2 := Aside0.mk (below_step HB1.out hb); clear ho hb))
    go_ret2
    exact ⟨A2, c2, rfl, HO2.out, HB2.out⟩
  · obtain rfl : b = false := by rw [← hb]; exact decide_eq_false h0
    have hv := makeV_no h0
    obtain rfl : m = 0 := by rw [← hm, hv]; rfl
    have hE' : (E != 0) = true := by simpa [hE] using h0
    have HV := Aside0.mk hv
    clear hb hE h0 h hv hm hs
    go_enter Tryd.func37, Tryd.ntmps37
    go_wp2_with (go_at_call 25; refine HC.out.mono ?_; rintro e w1 ⟨rfl, hb⟩; have HB1 := Aside0.mk hb; clear hb)
    go_ret2
    exact ⟨none, 0, rfl, by rw [HV.out]; exact Kd.R_nil _ _ _ _ _, HB1.out⟩
end Go.Proofs.YtdobjbdkfammbaaDoor
