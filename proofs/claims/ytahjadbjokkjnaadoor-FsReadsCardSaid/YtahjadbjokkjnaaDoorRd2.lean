/-
  Chapter 49, fs.Read: what tells a disk's blocks; the closure that takes the next one.
-/
import Derived.Test.YtahjadbjokkjnaaDoorRd1
namespace Go.Proofs.YtahjadbjokkjnaaDoor
open Go.RowKit Go.Proofs.YtahjadbjokkjnaaDoorW.PrintWords Go.Proofs.YtahjadbjokkjnaaDoorW.PrintLast Go.Proofs.YtahjadbjokkjnaaDoorW.PrintMore
set_option linter.unusedVariables false
set_option linter.unusedSimpArgs false

/-- From block B on, but for X, all stands as it stood. -/
structure KeptX (B : Nat) (X : Nat → Prop) (W W' : World) : Prop where
  os : W'.os = W.os
  tape : W'.tape = W.tape
  output : W'.output = W.output
  size : W.heap.size ≤ W'.heap.size
  block : ∀ k, B ≤ k → k < W.heap.size → ¬ X k → W'.heap[k]? = W.heap[k]?
theorem KeptX.refl (B : Nat) (X : Nat → Prop) (W : World) : KeptX B X W W := ⟨rfl, rfl, rfl, Nat.le_refl _, fun _ _ _ _ => rfl⟩
theorem KeptX.of_below {B : Nat} {X : Nat → Prop} {W W' : World} (h : Below W.heap.size W W') : KeptX B X W W' := ⟨h.os, h.tape, h.output, h.size, fun k _ hk _ => h.block k hk⟩
theorem KeptX.trans {B : Nat} {X : Nat → Prop} {W W1 W2 : World} (h : KeptX B X W W1) (k : KeptX B X W1 W2) : KeptX B X W W2 :=
  ⟨k.os.trans h.os, k.tape.trans h.tape, k.output.trans h.output, Nat.le_trans h.size k.size, fun q h1 h2 h3 => (k.block q h1 (Nat.lt_of_lt_of_le h2 h.size) h3).trans (h.block q h1 h2 h3)⟩
theorem KeptX.imp {B : Nat} {X Y : Nat → Prop} {W W1 : World} (h : KeptX B X W W1) (hXY : ∀ k, X k → Y k) : KeptX B Y W W1 := ⟨h.os, h.tape, h.output, h.size, fun k h1 h2 h3 => h.block k h1 h2 (fun hx => h3 (hXY k hx))⟩
theorem KeptX.blk {B : Nat} {X : Nat → Prop} {W W1 : World} (h : KeptX B X W W1) {k : Nat} {o : Obj} (hb : W.heap[k]? = some o) (hB : B ≤ k) (hX : ¬ X k) : W1.heap[k]? = some o := (h.block k hB (blk_lt hb) hX).trans hb
/-- A row of one's own is kept. -/
theorem KeptX.row {α : Type} {d : Kd α} {e B : Nat} {X : Nat → Prop} {W W1 : World} {ok : Nat → Prop} {v : Value} {xs : List α} (h : KeptX B X W W1) (hr : d.R e W B ok v xs) (hX : ∀ k, ok k → ¬ X k) : d.R e W1 B ok v xs :=
  Kd.R_mono (Kd.R_move (Kd.R_bound hr) (fun k hk => h.block k hk.2.1 hk.2.2.1 (hX k hk.1))) (fun _ hk => hk.1)
/-- What tells the blocks of a disk, one after the other: J n: what stands when n of them have been asked for. -/
structure Tells (g : FuncId) (bnd : Array Value) (B0 : Nat) (J : Nat → World → Prop) (tell : Nat → List UInt8) : Prop where
  call : ∀ n W, J n W → B0 ≤ W.heap.size → n ≤ 1000 → Calls Tryd.prog g (#[.int .i64 (n : Int)] ++ bnd) W fun e W' => ∃ b ok, e = .returned (.tuple #[.agg (bytesV b).toArray, .bool ok]) ∧ b.length = 32 ∧ (if ok = true then b else zeroB) = tell n ∧ J (n + 1) W' ∧ KeptX B0 (fun _ => False) W W'
  keep : ∀ n W W', J n W → Below B0 W W' → J n W'
  enters : ∀ args w, (callFunc g args).run Tryd.prog w = .ok (.enter g args) w
theorem Tells.len {g : FuncId} {bnd : Array Value} {B0 : Nat} {J : Nat → World → Prop} {tell : Nat → List UInt8} (hl : ∀ n, (tell n).length = 32) (n : Nat) : (tell n).length = 32 := hl n
theorem setCells_other (b : Nat) : ∀ (vs : List Value) (o : Nat) (W : World) (k : Nat), k ≠ b → (W.setCells b o vs).heap[k]? = W.heap[k]?
  | [], _, _, _, _ => rfl
  | v :: vs, o, W, k, hk => by
    simp only [World.setCells]
    rw [setCells_other b vs (o + 1) _ k hk]
    exact Below.heap_setCell _ _ _ k hk
theorem setCells_same (b : Nat) : ∀ (vs : List Value) (o : Nat) (W : World), (W.setCells b o vs).os = W.os ∧ (W.setCells b o vs).tape = W.tape ∧ (W.setCells b o vs).output = W.output
  | [], _, _ => ⟨rfl, rfl, rfl⟩
  | v :: vs, o, W => by
    simp only [World.setCells]
    exact setCells_same b vs (o + 1) _
theorem setCells_grown (b o : Nat) (vs : List Value) (W : World) : W.grownBy (W.setCells b o vs) (some b) := by
  obtain ⟨h1, h2, h3⟩ := setCells_same b vs o W
  exact ⟨h1, h2, h3, by rw [setCells_size]; exact Nat.le_refl _, fun k _ hk => setCells_other b vs o W k (fun e => hk (by rw [e]))⟩
/-- A whole block is written into a box that holds one. -/
theorem store_block_blk {ops : Array Oper} {rest : List Oper} {op : Oper} {a : Act} {W : World} {Q : Exit → Act → World → Prop} (hgd : op.guard = none) (x y : Operand) (ho : op.op = .store 40 x y)
    (g : Nat) (ys : List UInt8) (hys : ys.length = 32) (hb : W.heap[g]? = some (.cells (bytesV ys).toArray 40 (0, 0))) (hx : a.eval x = .pointer (some ⟨g, 0, none⟩)) (xs : List UInt8) (hl : xs.length = 32) (hy : a.eval y = .agg (bytesV xs).toArray)
    (h : ∀ W', W'.heap[g]? = some (.cells (bytesV xs).toArray 40 (0, 0)) → W.grownBy W' (some g) → wpList Tryd.prog ops Q rest (a.put op.dst undef) W') : wpList Tryd.prog ops Q (op :: rest) a W := by
  have hs : (bytesV xs).toArray.size = 32 := by simp [bytesV, hl]
  refine wpList_store_mid hgd 40 x y ho g 0 (bytesV xs).toArray hx hy (fun j hj => ?_) (info_blockS _ hs) (all_oneCell_toArray (bytesV_one xs)) (h _ ?_ (setCells_grown _ _ _ _))
  · rw [hs] at hj
    rw [Nat.zero_add]
    refine ⟨?_, by simp [World.frozen?, hb]⟩
    rw [blk_cell hb]
    simp [bytesV_len, hys, hj]
  · rw [heap_setCells g _ _ 0 W _ hb (by simp [bytesV_len, hl, hys])]
    simp [bytesV_len, hl, hys, List.drop_of_length_le]
theorem results_c {fn : Func} {p : Tmp} (h : fn.results = #[.cell p 40]) (tmps : Array Value) (w : World) (g : Nat) (xs : List UInt8) (hl : xs.length = 32)
    (hp : tmps.getD p undef = .pointer (some ⟨g, 0, none⟩)) (hg : w.heap[g]? = some (.cells (bytesV xs).toArray 40 (0, 0))) : (results fn tmps).run Tryd.prog w = .ok (.agg (bytesV xs).toArray) w := by
  have hp' : tmps[p]?.getD undef = .pointer (some ⟨g, 0, none⟩) := by simpa using hp
  simp [results, h, hp', asAddr, run_load_block (⟨g, 0, none⟩ : Addr) xs hl (block_cells hg)]
theorem build_zero : Tryd.prog.built 40 [] = some (bytesV zeroB).toArray := by kernel_rfl
set_option maxHeartbeats 3200000 in
theorem takeB_any (g : FuncId) (bnd : Array Value) (B0 : Nat) (J : Nat → World → Prop) (tell : Nat → List UInt8) (hT : Tells g bnd B0 J tell) (G X n : Nat) (hn : n ≤ 1000) (W : World) (hJ : J n W) (hG0 : B0 ≤ G) (hX0 : B0 ≤ X) (hGX : G ≠ X)
    (hG : W.heap[G]? = some (.cells #[.func (.func g) #[] bnd] 45 (0, 0))) (hX : W.heap[X]? = some (.cells #[.int .i64 (n : Int)] 3 (0, 0))) :
    Calls Tryd.prog 38 #[.pointer (some ⟨G, 0, none⟩), .pointer (some ⟨X, 0, none⟩)] W fun e W' => e = .returned (.agg (bytesV (tell n)).toArray) ∧ J (n + 1) W' ∧ W'.heap[X]? = some (.cells #[.int .i64 ((n + 1 : Nat) : Int)] 3 (0, 0)) ∧ KeptX B0 (fun k => k = X) W W' := by
  have hbs : B0 ≤ W.heap.size := Nat.le_of_lt (Nat.lt_of_le_of_lt hG0 (blk_lt hG))
  have hb1 := below_alloc (Below.refl W.heap.size W) (.cells (bytesV zeroB).toArray 40)
  obtain ⟨W1, hW1⟩ : ∃ W1, W1 = W.alloc (.cells (bytesV zeroB).toArray 40) := ⟨_, rfl⟩
  rw [← hW1] at hb1
  have hz := blk_new W (.cells (bytesV zeroB).toArray 40)
  rw [← hW1] at hz
  have hJ1 : J n W1 := hT.keep n W W1 hJ (hb1.mono hbs)
  have hG1 := blk_below hG hb1
  have hX1 := blk_below hX hb1
  have hc := hT.call n W1 hJ1 (Nat.le_trans hbs hb1.size) hn
  have he := hT.enters
  obtain ⟨R, hR⟩ : ∃ R, R = W.heap.size := ⟨_, rfl⟩
  rw [← hR] at hz
  have HW1 := Aside0.mk hW1
  have HR := Aside0.mk hR
  have HC := Aside0.mk hc
  have HG1 := Aside0.mk hG1
  have HX1 := Aside0.mk hX1
  have HZ := Aside0.mk hz
  have HB1 := Aside0.mk hb1
  have HT := Aside0.mk hT
  have HBS := Aside0.mk hbs
  clear hW1 hR hc hG1 hX1 hz hb1 hJ1 hJ hG hX hT hbs
  go_enter Tryd.func38, Tryd.ntmps38
  go_upto_region 0 with fail
  go_cut [2] (fun v2 wd => v2 = .pointer (some ⟨R, 0, none⟩) ∧ Aside0 (wd = W1))
  case first =>
    go_wp2_with fail
    go_meet
    case rel => exact ⟨by rw [HR.out], ⟨HW1.out.symm⟩⟩
  obtain ⟨rfl, HWC⟩ := hcut
  rw [HWC.out]
  have y0 := blk_cell HG1.out 0
  have y1 := blk_cell HX1.out 0
  simp only [List.getElem?_toArray, List.getElem?_cons_zero] at y0 y1
  go_upto_region 1 with fail
  go_wp2_with fail
  refine HC.out.mono ?_
  rintro e W2 ⟨b, ok, rfl, hb32, htell, hJ2, hk2⟩
  have hX2 := hk2.blk HX1.out hX0 (fun h => h)
  have hZ2 := hk2.blk HZ.out (by have := HR.out; have := HBS.out; omega) (fun h => h)
  have hb3 := below_alloc (Below.refl W2.heap.size W2) (.cells (bytesV b).toArray 40)
  obtain ⟨W3, hW3⟩ : ∃ W3, W3 = W2.alloc (.cells (bytesV b).toArray 40) := ⟨_, rfl⟩
  obtain ⟨N3, hN3⟩ : ∃ N3, N3 = W2.heap.size := ⟨_, rfl⟩
  have hn3 := blk_new W2 (.cells (bytesV b).toArray 40)
  rw [← hW3] at hb3 hn3
  rw [← hN3] at hn3
  have hX3 := blk_below hX2 hb3
  have HZ3 := Aside0.mk (blk_below hZ2 hb3)
  have HX3 := Aside0.mk hX3
  have HN3 := Aside0.mk hn3
  have HB3 := Aside0.mk hb3
  have HW3 := Aside0.mk hW3
  have HNN := Aside0.mk hN3
  have HT2 := Aside0.mk htell
  have HJ2 := Aside0.mk hJ2
  have HK2 := Aside0.mk hk2
  have hXN : X < N3 := by rw [hN3]; exact blk_lt hX2
  have hRN : R < N3 := by rw [hN3]; exact blk_lt hZ2
  have hRX : R ≠ X := by have := HR.out; have := blk_lt HX1.out; intro e; subst e; have h1 := HX1.out; rw [HZ.out] at h1; cases h1
  clear hX2 hZ2 hb3 hn3 hX3 hW3 hN3 htell hJ2 hk2
  go_upto_region 2 with ((with_reducible refine gate_store (t := 40) (p := 3) rfl ?_); refine store_block_new rfl (.tmp 3) (.tmp 9) rfl _ rfl rfl b hb32 rfl ?_)
  rw [← HW3.out, ← HNN.out]
  have y3 := blk_cell HX3.out 0
  simp only [List.getElem?_toArray, List.getElem?_cons_zero] at y3
  have y4 : W3.frozen? ⟨X, 0, none⟩ = false := by simp [World.frozen?, HX3.out]
  have i1 : IntKind.i64.wrap ((n : Int) + 1) = (n : Int) + 1 := IntWalk.i64_in _ (by omega)
  have hX4 := blk_set HX3.out 0 (.int .i64 ((n : Int) + 1))
  have hZ4 := blk_far HZ3.out (p := ⟨X, 0, none⟩) hRX (.int .i64 ((n : Int) + 1))
  have hN4 := blk_far HN3.out (p := ⟨X, 0, none⟩) (by show N3 ≠ X; omega) (.int .i64 ((n : Int) + 1))
  obtain ⟨W4, hW4⟩ : ∃ W4, W4 = W3.setCell ⟨X, 0, none⟩ (.int .i64 ((n : Int) + 1)) := ⟨_, rfl⟩
  rw [← hW4] at hX4 hZ4 hN4
  have hB0 : B0 ≤ W3.heap.size := by have := HK2.out.size; have := HB1.out.size; have := HB3.out.size; have := HBS.out; omega
  have HK4 : Aside0 (KeptX B0 (fun k => k = X) W W4) := ⟨(((KeptX.of_below HB1.out).trans (HK2.out.imp (fun _ h => h.elim))).trans (KeptX.of_below HB3.out)).trans (by
    rw [hW4]
    exact ⟨rfl, rfl, rfl, by simp [World.setCell], fun k _ _ hk => Below.heap_setCell _ _ _ k hk⟩)⟩
  have HJ4 : Aside0 (J (n + 1) W4) := ⟨HT.out.keep _ _ _ HJ2.out (by rw [hW4]; exact (HB3.out.mono (by have := HK2.out.size; have := HB1.out.size; have := HBS.out; omega)).setCell hX0 _)⟩
  have HX4 : Aside0 (W4.heap[X]? = some (.cells #[.int .i64 ((n + 1 : Nat) : Int)] 3 (0, 0))) := ⟨by rw [hX4]; simp⟩
  have HZ4 := Aside0.mk hZ4
  have HN4 := Aside0.mk hN4
  have HW4 := Aside0.mk hW4
  clear hX4 hZ4 hN4 hW4
  go_upto_region 3 with fail
  rw [← HW4.out]
  clear y3 y4 i1
  have hR0 : B0 ≤ R := by have := HR.out; have := HBS.out; omega
  cases ok
  · go_wp2_with (first | ((with_reducible refine gate_dst (N := 15) rfl ?_); refine build_on rfl 40 _ rfl (bytesV zeroB).toArray (by exact build_zero) ?_) | ((with_reducible refine gate_store (t := 40) (p := 2) rfl ?_); refine store_block_blk rfl (.tmp 2) (.tmp 15) rfl R zeroB rfl HZ4.out rfl zeroB rfl rfl ?_; intro W5 hb5 hg5; have HB5 := Aside0.mk hb5; have HG5 := Aside0.mk hg5; clear hb5 hg5))
    have hsz : W.heap.size ≤ W4.heap.size := HK4.out.size
    have hB04 : B0 ≤ W4.heap.size := Nat.le_trans HBS.out hsz
    refine bodyPost_ret (results_c rfl _ _ R zeroB rfl rfl HB5.out) rfl ?_
    refine ⟨by rw [← HT2.out]; rfl, HT.out.keep _ _ _ HJ4.out (pw_below_grown (Below.refl B0 W4) (some R) hB04 HG5.out (fun k e => by cases e; exact hR0)), ?_, ?_⟩
    · exact (HG5.out.block X (blk_lt HX4.out) (by intro e; injection e with e; exact hRX e.symm)).trans HX4.out
    · exact ⟨HG5.out.os.trans HK4.out.os, HG5.out.tape.trans HK4.out.tape, HG5.out.output.trans HK4.out.output, Nat.le_trans hsz HG5.out.size, fun k h1 h2 h3 =>
        (HG5.out.block k (Nat.lt_of_lt_of_le h2 hsz) (by intro e; injection e with e; have := HR.out; omega)).trans (HK4.out.block k h1 h2 h3)⟩
  · go_wp2_with (first | ((with_reducible refine gate_dst (N := 16) rfl ?_); refine load_block rfl _ rfl ⟨N3, 0, none⟩ rfl b hb32 (block_cells HN4.out) ?_) | ((with_reducible refine gate_store (t := 40) (p := 2) rfl ?_); refine store_block_blk rfl (.tmp 2) (.tmp 16) rfl R zeroB rfl HZ4.out rfl b hb32 rfl ?_; intro W5 hb5 hg5; have HB5 := Aside0.mk hb5; have HG5 := Aside0.mk hg5; clear hb5 hg5))
    have hsz : W.heap.size ≤ W4.heap.size := HK4.out.size
    have hB04 : B0 ≤ W4.heap.size := Nat.le_trans HBS.out hsz
    refine bodyPost_ret (results_c rfl _ _ R b hb32 rfl HB5.out) rfl ?_
    refine ⟨by rw [← HT2.out]; rfl, HT.out.keep _ _ _ HJ4.out (pw_below_grown (Below.refl B0 W4) (some R) hB04 HG5.out (fun k e => by cases e; exact hR0)), ?_, ?_⟩
    · exact (HG5.out.block X (blk_lt HX4.out) (by intro e; injection e with e; exact hRX e.symm)).trans HX4.out
    · exact ⟨HG5.out.os.trans HK4.out.os, HG5.out.tape.trans HK4.out.tape, HG5.out.output.trans HK4.out.output, Nat.le_trans hsz HG5.out.size, fun k h1 h2 h3 =>
        (HG5.out.block k (Nat.lt_of_lt_of_le h2 hsz) (by intro e; injection e with e; have := HR.out; omega)).trans (HK4.out.block k h1 h2 h3)⟩
end Go.Proofs.YtahjadbjokkjnaaDoor
