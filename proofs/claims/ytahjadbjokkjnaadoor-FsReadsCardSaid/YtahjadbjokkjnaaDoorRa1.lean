/-
  Chapter 49, FsReads: the law's disk that counts, walked.
-/
import Derived.Test.YtahjadbjokkjnaaDoorRa0
namespace Go.Proofs.YtahjadbjokkjnaaDoor
open Go.RowKit Go.Proofs.YtahjadbjokkjnaaDoorW.PrintWords Go.Proofs.YtahjadbjokkjnaaDoorW.PrintLast Go.Proofs.YtahjadbjokkjnaaDoorW.PrintMore
set_option linter.unusedVariables false
set_option linter.unusedSimpArgs false

theorem results_ct2 {fn : Func} {p u : Tmp} (h : fn.results = #[.cell p 40, .tmp u]) (tmps : Array Value) (w : World) (g : Nat) (xs : List UInt8) (hl : xs.length = 32)
    (hp : tmps.getD p undef = .pointer (some ⟨g, 0, none⟩)) (hg : w.heap[g]? = some (.cells (bytesV xs).toArray 40 (0, 0))) : (results fn tmps).run Tryd.prog w = .ok (.tuple #[.agg (bytesV xs).toArray, tmps.getD u undef]) w := by
  have hp' : tmps[p]?.getD undef = .pointer (some ⟨g, 0, none⟩) := by simpa using hp
  simp [results, h, hp', asAddr, run_load_block (⟨g, 0, none⟩ : Addr) xs hl (block_cells hg)]
/-- The boxes of the law's disk, and its map. -/
structure GetAt (w0 : World) (AB LB mb : Nat) (L : List (List UInt8)) (A : Option Addr) (N c : Nat) : Prop where
  len : L.length = N
  acell : w0.cell? ⟨AB, 0, none⟩ = some (.map (some mb))
  lcell : w0.cell? ⟨LB, 0, none⟩ = some (.slice A N c)
  row : kBlock.C w0 A N L
  mob : Cnt w0 mb 0
theorem Cnt.lt {w : World} {b n : Nat} (h : Cnt w b n) : b < w.heap.size := by
  obtain ⟨D, ho, _⟩ := h
  exact ho.lt
theorem map_cell {w0 W : World} {mb n : Nat} (hm : Cnt w0 mb n) (hg : w0.grownBy W (some mb)) {a : Addr} {v : Value} (h : w0.cell? a = some v) : W.cell? a = some v := by
  refine cell_grown hg h (fun e => ?_)
  obtain ⟨D, ⟨es, clock, hb, _⟩, _⟩ := hm
  injection e with e
  simp [World.cell?, e, hb] at h
def JC (w0 : World) (mb n : Nat) (W : World) : Prop := w0.grownBy W (some mb) ∧ Cnt W mb n
theorem JC.keep {w0 W W' : World} {mb n : Nat} (hlt : mb < w0.heap.size) (h : JC w0 mb n W) (hb : Below w0.heap.size W W') : JC w0 mb n W' :=
  ⟨⟨hb.os.trans h.1.os, hb.tape.trans h.1.tape, hb.output.trans h.1.output, Nat.le_trans h.1.size hb.size, fun k hk hne => (hb.block k hk).trans (h.1.block k hk hne)⟩, h.2.below hlt hb⟩
def GetPost (w0 : World) (mb : Nat) (L : List (List UInt8)) (n : Nat) (W : World) (e : Ending) (W' : World) : Prop := ∃ b ok, e = .returned (.tuple #[.agg (bytesV b).toArray, .bool ok]) ∧ b.length = 32 ∧ (if ok = true then b else zeroB) = tellR L n ∧ JC w0 mb (n + 1) W' ∧ KeptX w0.heap.size (fun _ => False) W W'
set_option maxRecDepth 8000 in
set_option maxHeartbeats 3200000 in
theorem get_any (w0 : World) (AB LB mb n : Nat) (L : List (List UInt8)) (A : Option Addr) (N c : Nat) (h : GetAt w0 AB LB mb L A N c) (W : World) (hJ : JC w0 mb n W) (hn : n ≤ 1000) :
    Calls Tryd.prog 21 #[.int .i64 (n : Int), .pointer (some ⟨AB, 0, none⟩), .pointer (some ⟨LB, 0, none⟩)] W (GetPost w0 mb L n W) := by
  have hmx := Kd.C_max h.row
  have hmlt := h.mob.lt
  have hs0 := hJ.1.size
  have hb1 := below_alloc (Below.refl W.heap.size W) (.cells (bytesV zeroB).toArray 40)
  have hz := blk_new W (.cells (bytesV zeroB).toArray 40)
  obtain ⟨W1, hW1⟩ : ∃ W1, W1 = W.alloc (.cells (bytesV zeroB).toArray 40) := ⟨_, rfl⟩
  rw [← hW1] at hb1 hz
  obtain ⟨R, hR⟩ : ∃ R, R = W.heap.size := ⟨_, rfl⟩
  rw [← hR] at hz
  have hJ1 := JC.keep hmlt hJ (hb1.mono hs0)
  obtain ⟨hlk, W2, hup, hc2, hg2⟩ := hJ1.2.put hn
  have hg02 : w0.grownBy W2 (some mb) := ⟨hg2.os.trans hJ1.1.os, hg2.tape.trans hJ1.1.tape, hg2.output.trans hJ1.1.output, Nat.le_trans hJ1.1.size hg2.size, fun k hk hne => (hg2.block k (Nat.lt_of_lt_of_le hk hJ1.1.size) hne).trans (hJ1.1.block k hk hne)⟩
  have hz2 := blk_grown hz hg2 (fun e => by injection e with e; omega)
  have hJ2 : JC w0 mb (n + 1) W2 := ⟨hg02, hc2⟩
  have a1 := map_cell h.mob hJ1.1 h.acell
  have l2 := map_cell h.mob hg02 h.lcell
  have HW1 := Aside0.mk hW1
  have HR := Aside0.mk hR
  have HZ := Aside0.mk hz2
  have HH := Aside0.mk h
  have HG02 := Aside0.mk hg02
  have HFIN : Aside0 (∀ W5, W2.grownBy W5 (some R) → JC w0 mb (n + 1) W5 ∧ KeptX w0.heap.size (fun _ => False) W W5) := ⟨fun W5 hg => ⟨JC.keep hmlt hJ2 (pw_below_grown (Below.refl w0.heap.size W2) (some R) hg02.size hg (fun k e => by cases e; omega)),
    ⟨(hg.os.trans hg2.os).trans hb1.os, (hg.tape.trans hg2.tape).trans hb1.tape, (hg.output.trans hg2.output).trans hb1.output, Nat.le_trans hb1.size (Nat.le_trans hg2.size hg.size), fun k hk hkW _ =>
      (hg.block k (Nat.lt_of_lt_of_le hkW (Nat.le_trans hb1.size hg2.size)) (fun e => by injection e with e; omega)).trans ((hg2.block k (Nat.lt_of_lt_of_le hkW hb1.size) (fun e => by injection e with e; omega)).trans (hb1.block k hkW))⟩⟩⟩
  clear hb1 hz hJ1 hJ2 hz2 hg2 hg02 hc2 h hJ hs0 hmlt
  go_enter Tryd.func21, Tryd.ntmps21
  go_upto_region 0 with fail
  go_cut [4, 5] (fun v4 v5 wd => v4 = .pointer (some ⟨R, 0, none⟩) ∧ Aside0 (wd = W1))
  case first =>
    go_wp2_with fail
    go_meet
    case rel => exact ⟨by rw [HR.out], ⟨HW1.out.symm⟩⟩
  obtain ⟨rfl, HWC⟩ := hcut
  rw [HWC.out]
  clear HWC hW1 hR
  go_upto_region 2 with fail
  clear hlk hup a1
  have h0 : ¬ ((n : Int) < 0) := by omega
  by_cases hlt : n < N
  · have hge : ¬ ((N : Int) ≤ (n : Int)) := by omega
    obtain ⟨ad, hA, h32, hcl⟩ := block_at HH.out.row hlt
    subst hA
    obtain ⟨b, hb⟩ : ∃ b, b = gt L n := ⟨_, rfl⟩
    rw [← hb] at h32 hcl
    have HC : Aside0 (∀ j u, (bytesV b)[j]? = some u → W2.cell? ((ad.add (n * 32)).add j) = some u) := ⟨fun j u hu => map_cell HH.out.mob HG02.out (hcl j u hu)⟩
    have HTB : Aside0 (tellR L n = b) := ⟨by unfold tellR; rw [if_pos (by rw [HH.out.len]; exact hlt), hb]⟩
    obtain ⟨zz, hzz⟩ : ∃ z, z = zeroB := ⟨_, rfl⟩
    obtain ⟨dd, hdd⟩ : ∃ dd, decide (b = zz) = dd := ⟨_, rfl⟩
    have he : ∀ w, (Op.equalIn 10000 40 (.agg (bytesV b).toArray) (.agg (bytesV zz).toArray)).run Tryd.prog w = .ok dd w := eql_block b zz h32 (by rw [hzz]; rfl) dd hdd
    have HZZ := Aside0.mk hzz
    have HDD := Aside0.mk hdd
    clear hb hcl hdd hzz
    cases dd
    · go_wp2_with (first | ((with_reducible refine gate_dst (N := 22) rfl ?_); refine load_block_on rfl _ rfl (ad.add (n * 32)) rfl b h32 HC.out ?_) | ((with_reducible refine gate_dst (N := 23) rfl ?_); refine build_on rfl 40 _ rfl (bytesV zz).toArray (by rw [HZZ.out]; simp only [Array.map_empty]; exact build_zero) ?_) | ((with_reducible refine gate_dst (N := 30) rfl ?_); refine load_block rfl _ rfl (ad.add (n * 32)) rfl b h32 HC.out ?_) | ((with_reducible refine gate_store (t := 40) (p := 4) rfl ?_); refine store_block_blk rfl (.tmp 4) (.tmp 30) rfl R zeroB rfl HZ.out rfl b h32 rfl ?_; intro W5 hb5 hg5; have HB5 := Aside0.mk hb5; have HG5 := Aside0.mk hg5; clear hb5 hg5))
      refine bodyPost_ret (results_ct2 rfl _ _ R b h32 rfl HB5.out) rfl ?_
      exact Exists.intro b (Exists.intro true ⟨rfl, h32, HTB.out.symm, HFIN.out _ HG5.out⟩)
    · have HBZ : Aside0 (zeroB = tellR L n) := ⟨by rw [HTB.out, ← HZZ.out]; exact (of_decide_eq_true HDD.out).symm⟩
      go_wp2_with (first | ((with_reducible refine gate_dst (N := 22) rfl ?_); refine load_block_on rfl _ rfl (ad.add (n * 32)) rfl b h32 HC.out ?_) | ((with_reducible refine gate_dst (N := 23) rfl ?_); refine build_on rfl 40 _ rfl (bytesV zz).toArray (by rw [HZZ.out]; simp only [Array.map_empty]; exact build_zero) ?_) | ((with_reducible refine gate_dst (N := 26) rfl ?_); refine build_on rfl 40 _ rfl (bytesV zeroB).toArray (by exact build_zero) ?_) | ((with_reducible refine gate_store (t := 40) (p := 4) rfl ?_); refine store_block_blk rfl (.tmp 4) (.tmp 26) rfl R zeroB rfl HZ.out rfl zeroB rfl rfl ?_; intro W5 hb5 hg5; have HB5 := Aside0.mk hb5; have HG5 := Aside0.mk hg5; clear hb5 hg5))
      refine bodyPost_ret (results_ct2 rfl _ _ R zeroB rfl rfl HB5.out) rfl ?_
      exact Exists.intro zeroB (Exists.intro false ⟨rfl, rfl, HBZ.out, HFIN.out _ HG5.out⟩)
  · have hge : (N : Int) ≤ (n : Int) := by omega
    have HBZ : Aside0 (zeroB = tellR L n) := ⟨by unfold tellR; rw [if_neg]; rw [HH.out.len]; exact hlt⟩
    go_wp2_with (first | ((with_reducible refine gate_dst (N := 26) rfl ?_); refine build_on rfl 40 _ rfl (bytesV zeroB).toArray (by exact build_zero) ?_) | ((with_reducible refine gate_store (t := 40) (p := 4) rfl ?_); refine store_block_blk rfl (.tmp 4) (.tmp 26) rfl R zeroB rfl HZ.out rfl zeroB rfl rfl ?_; intro W5 hb5 hg5; have HB5 := Aside0.mk hb5; have HG5 := Aside0.mk hg5; clear hb5 hg5))
    refine bodyPost_ret (results_ct2 rfl _ _ R zeroB rfl rfl HB5.out) rfl ?_
    exact Exists.intro zeroB (Exists.intro false ⟨rfl, rfl, HBZ.out, HFIN.out _ HG5.out⟩)
theorem get_tells {w0 : World} {AB LB mb : Nat} {L : List (List UInt8)} {A : Option Addr} {N c : Nat} (h : GetAt w0 AB LB mb L A N c) :
    Tells 21 #[.pointer (some ⟨AB, 0, none⟩), .pointer (some ⟨LB, 0, none⟩)] w0.heap.size (JC w0 mb) (tellR L) where
  call := fun n W hJ _ hn => get_any w0 AB LB mb n L A N c h W hJ hn
  keep := fun n W W' hJ hb => JC.keep h.mob.lt hJ hb
  enters := fun args w => by rfl
end Go.Proofs.YtahjadbjokkjnaaDoor
