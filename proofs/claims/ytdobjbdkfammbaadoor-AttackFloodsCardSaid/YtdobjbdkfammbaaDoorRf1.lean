/-
  Chapter 55: erewhileref55.Flood, walked.
-/
import Derived.Test.YtdobjbdkfammbaaDoorFl2
namespace Go.Proofs.YtdobjbdkfammbaaDoor
open Go.RowKit Go.Shelf Go.Proofs.YtdobjbdkfammbaaDoorW.PrintWords Go.Proofs.YtdobjbdkfammbaaDoorW.PrintLast Go.Proofs.YtdobjbdkfammbaaDoorW.PrintMore
set_option linter.unusedVariables false
set_option linter.unusedSimpArgs false

/-- The document's deeds of a flood. -/
def floodR (vol blocks x : Int) (n : Nat) : List Rd := (List.range n).map (fun k => ⟨[floodW vol blocks (floodX x k)], 0⟩)
theorem floodR_succ (vol blocks x : Int) (n : Nat) : floodR vol blocks x (n + 1) = floodR vol blocks x n ++ [⟨[floodW vol blocks (floodX x n)], 0⟩] := by
  unfold floodR
  rw [List.range_succ, List.map_append]
  rfl
theorem floodR_len (vol blocks x : Int) (n : Nat) : (floodR vol blocks x n).length = n := by simp [floodR]
theorem info_rd : (Tryd.prog.info? 73).map (fun i => (i.zero, i.size, i.bytes)) = some (some (.agg #[.slice none 0 0, .int .i64 0]), 2, 32) := by kernel_rfl
/-- What stands while a write is filled. -/
structure RlIn (w W : World) (Bw : Nat) (v : Value) (ds : List Rd) (y : Wr) : Prop where
  wr : W.heap[Bw]? = some (.cells (wrV y).toArray 39 (0, 0))
  row : kRd.R 73 W w.heap.size (fun k => k ≠ Bw) v ds
  out : Below w.heap.size w W
  hw : w.heap.size ≤ Bw
theorem RlIn.byte {w W : World} {Bw : Nat} {v : Value} {ds : List Rd} {y : Wr} (h : RlIn w W Bw v ds y) (j : Nat) (b : UInt8) : RlIn w (W.setCell ⟨Bw, 3 + j, none⟩ (.int .u8 (b.toNat : Int))) Bw v ds ⟨y.vol, y.blk, y.data.set j b⟩ := by
  refine ⟨?_, Kd.R_far h.row (p := ⟨Bw, 3 + j, none⟩) (fun k hk => hk) _, h.out.setCell (p := ⟨Bw, 3 + j, none⟩) h.hw _, h.hw⟩
  have := blk_set h.wr (3 + j) (.int .u8 (b.toNat : Int))
  rw [this, ← wrV_set]
  simp
theorem RlIn.cell {w W : World} {Bw : Nat} {v : Value} {ds : List Rd} {y : Wr} (h : RlIn w W Bw v ds y) (hl : y.data.length = 32) (j : Nat) (hj : j < 32) : W.cell? ⟨Bw, 3 + j, none⟩ = some (.int .u8 ((gt y.data j).toNat : Int)) ∧ W.frozen? ⟨Bw, 3 + j, none⟩ = false := by
  refine ⟨?_, blk_frozen h.wr (3 + j)⟩
  rw [blk_cell h.wr (3 + j), Nat.add_comm 3 j]
  simp [wrV, bytesV, gt_some y.data j (by omega)]
theorem C_one_wr {W : World} {B : Nat} {y : Wr} (hn : W.heap[B]? = some (.cells (wrV y).toArray 39 (0, 0))) (hyl : y.data.length = 32) : kWr.C W (some ⟨B, 0, none⟩) 1 [y] := C_block (d := kWr) (xs := [y]) hn ⟨by simp [wrV_len y hyl]; rfl, fun j p hj => by
  rcases j with _ | j
  · simp only [List.getElem?_cons_zero, Option.some.injEq] at hj
    subst hj
    have : (((wrV y).toArray.toList).drop (0 * kWr.sz)).take kWr.sz = wrV y := by
      rw [Nat.zero_mul, List.drop_zero]
      exact List.take_of_length_le (by rw [show (wrV y).toArray.toList = wrV y by simp, wrV_len y hyl]; exact Nat.le_refl _)
    rw [this]
    exact kWr_mkK _ _ hyl
  · simp at hj⟩ (by simp)
theorem rflood_none (vol blocks many seed : Int) (w : World) (hb1 : blocks < 1) :
    Calls Tryd.prog 15 #[.int .i64 vol, .int .i64 blocks, .int .i64 many, .int .u64 seed] w fun e w' => ∃ A c, e = .returned (.slice A 0 c) ∧ Below w.heap.size w w' := by
  go_enter Tryd.func15, Tryd.ntmps15
  go_wp2_with fail
  go_ret
  exact ⟨_, _, rfl, below_alloc (Below.refl _ _) _⟩
set_option maxRecDepth 4000 in
set_option maxHeartbeats 3200000 in
theorem rflood_any (vol blocks many seed : Int) (w : World) (hb1 : 1 ≤ blocks) (hb2 : blocks ≤ 9223372036854775807) (hx : U64 seed) (n : Nat) (hn : n = (if many < 1000 then many else 1000).toNat) :
    Calls Tryd.prog 15 #[.int .i64 vol, .int .i64 blocks, .int .i64 many, .int .u64 seed] w fun e w' => ∃ v, e = .returned v ∧ kRd.R 73 w' w.heap.size (fun _ => True) v (floodR vol blocks seed n) ∧ Below w.heap.size w w' := by
  have HX := Aside0.mk hx
  have HB2 := Aside0.mk hb2
  have hbl : ¬ blocks < 1 := by omega
  have hbl0 : (0 : Int) ≤ blocks := by omega
  have hn1000 : n ≤ 1000 := by split at hn <;> omega
  have HN : Aside0 (∀ k : Nat, k < n ↔ ((k : Int) < many ∧ (k : Int) < 1000)) := ⟨fun k => by split at hn <;> omega⟩
  have HB := Aside0.mk (Below.refl w.heap.size w)
  clear hx hb2 hn
  go_enter Tryd.func15, Tryd.ntmps15
  go_wp2_with ((with_reducible refine gate_dst (N := 14) rfl ?_); refine Kd.R_lit kRd (w0 := w) w.heap.size 73 rfl (N := 14) rfl (xs := []) (inner := []) (ok := fun _ => True) (okp := fun _ => False) ?hr (reps_nil _ _) (fun _ hk => hk.elim) trivial HB.out (Nat.le_refl _) (by simp) ?_; (case hr => first | (go_simp; done) | (go_simp; rfl)); intro v1 w1 ho hb hg hat; have HO := Aside0.mk ho; have HB1 := Aside0.mk hb; clear ho hb hg hat)
  go_loopg [11, 10, 9, 12, 13] n (fun gk i v10 v9 _ _ wr => ∃ k : Nat, k ≤ n ∧ Aside0 (gk = n - k) ∧ i = .int .i64 k ∧ v10 = .int .u64 (floodX seed k) ∧ Aside0 (kRd.R 73 wr w.heap.size (fun _ => True) v9 (floodR vol blocks seed k)) ∧ Aside0 (Below w.heap.size w wr))
  case atStart => exact ⟨0, Nat.zero_le _, ⟨rfl⟩, rfl, rfl, HO, HB1⟩
  case round =>
    obtain ⟨k, hk, HGK, rfl, rfl, HR, HB⟩ := hrel
    obtain ⟨V, rfl⟩ : ∃ V, V = wr := ⟨_, rfl⟩
    by_cases hlt : k < n
    · obtain ⟨hk1, hk2⟩ := (HN.out k).1 hlt
      have hx0 := floodX_range seed HX.out k
      obtain ⟨x, hx⟩ : ∃ x, x = floodX seed k := ⟨_, rfl⟩
      rw [← hx] at hx0 ⊢
      have HSX : Aside0 (floodX seed (k + 1) = lcgN x 33) := ⟨by rw [hx]; rfl⟩
      have HSD : Aside0 (floodR vol blocks seed (k + 1) = floodR vol blocks seed k ++ [⟨[floodW vol blocks x], 0⟩]) := ⟨by rw [floodR_succ, hx]⟩
      obtain ⟨x1, hx1⟩ : ∃ x1, x1 = lcg x := ⟨_, rfl⟩
      have hl1 : IntKind.u64.wrap (IntKind.u64.wrap (x * 6364136223846793005) + 1442695040888963407) = x1 := by rw [hx1]; rfl
      obtain ⟨q, hq⟩ : ∃ q, q = hiN x1 := ⟨_, rfl⟩
      have hqr := hi_range x1 (by rw [hx1]; exact lcg_range x)
      have hx1r : 0 ≤ x1 ∧ x1 ≤ 18446744073709551615 := by rw [hx1]; exact lcg_range x
      rw [← hq] at hqr
      have hqd : x1 / 8589934592 = q := by rw [hq]; rfl
      have hq0 := hqr.1
      have hq1 := hqr.2
      have hx10 := hx1r.1
      have hx11 := hx1r.2
      obtain ⟨r, hr⟩ : ∃ r, r = q % blocks := ⟨_, rfl⟩
      have hr0 : 0 ≤ r := by rw [hr]; exact Int.emod_nonneg _ (by omega)
      have hr1 : r ≤ 2147483647 := by
        have h1 := emod_le q blocks hq0 (by omega)
        omega
      have HBW := Aside0.mk (built_wr0 vol r)
      have HY0 : Aside0 ((⟨vol, r, zeroB⟩ : Wr) = floodTo vol blocks x 0) := ⟨by rw [floodTo_zero, ← hx1, ← hq, hr]⟩
      have hbb := HB2.out
      have hrem : q.tmod blocks = r := by rw [hr]; exact Int.tmod_eq_emod_of_nonneg hq0
      have HX1 : Aside0 (x1 = lcgN x 1) := ⟨hx1⟩
      clear hx hq hqr hr hx0 hx1r hx1
      go_upto_region 10 with (first | ((with_reducible refine gate_dst (N := 39) rfl ?_); refine build_on rfl 39 _ rfl (wrV ⟨vol, r, zeroB⟩).toArray (Eq.trans (by kernel_rfl) HBW.out) ?_) | ((with_reducible refine gate_store (t := 39) (p := 12) rfl ?_); refine store_write_new rfl (.tmp 12) (.tmp 39) rfl _ rfl rfl ⟨vol, r, zeroB⟩ (by simp [zeroB]) rfl ?_))
      obtain ⟨W2, hW2⟩ : ∃ W2, V.alloc (.cells (wrV ⟨vol, r, zeroB⟩).toArray 39) = W2 := ⟨_, rfl⟩
      obtain ⟨Bw, hBw⟩ : ∃ Bw, Bw = V.heap.size := ⟨_, rfl⟩
      have HF0 : Aside0 (RlIn w W2 Bw u9 (floodR vol blocks seed k) (floodTo vol blocks x 0)) := ⟨by
        have hn := blk_new V (.cells (wrV ⟨vol, r, zeroB⟩).toArray 39)
        rw [← hBw, HY0.out] at hn
        rw [← hW2, HY0.out]
        refine ⟨hn, Kd.R_alloc (Kd.R_mono (Kd.R_bound HR.out) (fun k hk => by have := hk.2.2.1; omega)) _, below_alloc HB.out _, by rw [hBw]; exact HB.out.size⟩⟩
      have hx1 := HX1.out
      rw [hW2, ← hBw]
      clear hW2 hBw hl1 hqd hrem HBW hq0 hq1
      go_wp2_with fail
      go_loopg [13, 10] 32 (fun gj i v10 wz => ∃ j : Nat, j ≤ 32 ∧ Aside0 (gj = 32 - j) ∧ i = .int .i64 j ∧ v10 = .int .u64 (lcgN x (j + 1)) ∧ Aside0 (RlIn w wz Bw u9 (floodR vol blocks seed k) (floodTo vol blocks x j)))
      case atStart => exact ⟨0, by omega, ⟨rfl⟩, rfl, rfl, HF0⟩
      case round =>
        obtain ⟨j, hj, HGJ, rfl, rfl, HF⟩ := hrel
        clear hx1 hx10 hx11
        by_cases hjt : j < 32
        · have hj32 : (j : Int) < 32 := by omega
          obtain ⟨y0, hy0⟩ : ∃ y0, y0 = lcgN x (j + 1) := ⟨_, rfl⟩
          obtain ⟨y1, hy1⟩ : ∃ y1, y1 = lcgN x (j + 2) := ⟨_, rfl⟩
          have hl1 : IntKind.u64.wrap (IntKind.u64.wrap (y0 * 6364136223846793005) + 1442695040888963407) = y1 := by rw [hy1, hy0]; rfl
          obtain ⟨z, hz⟩ : ∃ z, z = hiN y1 := ⟨_, rfl⟩
          have hy1r : 0 ≤ y1 ∧ y1 ≤ 18446744073709551615 := by rw [hy1]; exact lcg_range _
          have hzr := hi_range y1 hy1r
          rw [← hz] at hzr
          have hqd : y1 / 8589934592 = z := by rw [hz]; rfl
          have hz0 := hzr.1
          have hz1 := hzr.2
          have hy10 := hy1r.1
          have hy11 := hy1r.2
          have hzm : z.tmod 256 = ((floodB x j).toNat : Int) := by
            rw [Int.tmod_eq_emod_of_nonneg hz0]
            unfold floodB
            rw [← hy1, ← hz, UInt8.toNat_ofNat']
            omega
          have hzm2 : z % 256 = ((floodB x j).toNat : Int) := by rw [← hzm, Int.tmod_eq_emod_of_nonneg hz0]
          have hfb := (floodB x j).toNat_lt
          obtain ⟨b0, b1⟩ := HF.out.cell (floodTo_len vol blocks x j) j hjt
          have HFb := Aside0.mk (HF.out.byte j (floodB x j))
          have HST : Aside0 ((⟨(floodTo vol blocks x j).vol, (floodTo vol blocks x j).blk, (floodTo vol blocks x j).data.set j (floodB x j)⟩ : Wr) = floodTo vol blocks x (j + 1)) := ⟨floodTo_set vol blocks x j hjt⟩
          rw [HST.out] at HFb
          obtain ⟨fb, hfbe⟩ : ∃ fb, fb = floodB x j := ⟨_, rfl⟩
          rw [← hfbe] at hzm hzm2 hfb HFb
          rw [← hy0]
          have HY1 := Aside0.mk hy1
          clear hz hzr hy0 hy1 hy1r hfbe
          go_wp2_with fail
          go_roundg (32 - (j + 1))
          case measure => have := HGJ.out; omega
          case rel => exact ⟨j + 1, by omega, ⟨rfl⟩, by go_num, by rw [HY1.out], HFb⟩
        · have hj32 : ¬ (j : Int) < 32 := by omega
          have HF9 : Aside0 (RlIn w wr Bw u9 (floodR vol blocks seed k) (floodW vol blocks x)) := ⟨by rw [← floodTo_full, show (32 : Nat) = j by omega]; exact HF.out⟩
          have HJ : Aside0 (lcgN x (j + 1) = floodX seed (k + 1)) := ⟨by rw [HSX.out, show j = 32 by omega]⟩
          obtain ⟨y, hy⟩ : ∃ y, y = floodW vol blocks x := ⟨_, rfl⟩
          have hyl : y.data.length = 32 := by rw [hy]; simp [floodW]
          rw [← hy] at HF9 HSD
          obtain ⟨W8, hW8⟩ : ∃ W8, wr.alloc (.cells (wrV y).toArray 39) = W8 := ⟨_, rfl⟩
          obtain ⟨B8, hB8⟩ : ∃ B8, B8 = wr.heap.size := ⟨_, rfl⟩
          have hn8 := blk_new wr (.cells (wrV y).toArray 39)
          rw [hW8, ← hB8] at hn8
          have hr8 := Kd.R_alloc HF9.out.row (.cells (wrV y).toArray 39)
          rw [hW8] at hr8
          have hb8 := below_alloc HF9.out.out (.cells (wrV y).toArray 39)
          rw [hW8] at hb8
          have HR8 : Aside0 (kRd.R 73 W8 w.heap.size (fun _ => True) u9 (floodR vol blocks seed k)) := ⟨Kd.R_mono hr8 (fun _ _ => trivial)⟩
          have HB8 := Aside0.mk hb8
          have HNE : Aside0 (some B8 ≠ u9.ownBlock) := ⟨fun e => by have := Kd.R_lt HF9.out.row B8 e.symm; omega⟩
          have hC8 : kWr.C W8 (some ⟨B8, 0, none⟩) 1 [y] := C_one_wr hn8 hyl
          have HM8 : Aside0 (kRd.M W8 w.heap.size (fun q => q = B8) ⟨[y], 0⟩ [.slice (some ⟨B8, 0, none⟩) 1 1, .int .i64 0]) := ⟨kRd_mk W8 _ _ ⟨[y], 0⟩ rfl (Nat.le_refl 1) hC8 (fun ad e _ => by
            cases e
            exact ⟨rfl, by rw [hB8]; exact HF9.out.out.size, blk_lt hn8, _, hn8⟩)⟩
          have HLEN : Aside0 (((floodR vol blocks seed k).length + 1) * 32 ≤ 140737488355328) := ⟨by rw [floodR_len]; omega⟩
          have HWR9 := Aside0.mk HF9.out.wr
          have HW8 := Aside0.mk hW8
          have HB8e := Aside0.mk hB8
          clear hy hn8 hr8 hb8 hC8 hW8 hB8
          go_wp2_with (first | ((with_reducible refine gate_dst (N := 55) rfl ?_); refine load_write rfl _ rfl ⟨Bw, 0, none⟩ rfl y hyl (wr_cells HWR9.out) ?_) | ((with_reducible refine gate_dst (N := 56) rfl ?_); refine build_write rfl (.tmp 55) rfl y hyl rfl ?_; rw [HW8.out, ← HB8e.out]) | ((with_reducible refine gate_builtin (b := .append) (xs := #[.tmp 54, .tmp 58]) rfl ?_); at_builtin; refine Kd.R_append kRd (w0 := w) w.heap.size rfl (.tmp 54) (.tmp 58) 27 73 (.agg #[.slice none 0 0, .int .i64 0]) 32 rfl Tryd.underlying27 info_rd rfl (Nat.succ_pos _) (by omega) u9 (floodR vol blocks seed k) ⟨[y], 0⟩ _ (fun _ => True) (fun q => q = B8) rfl rfl HM8.out (fun q hq => ⟨trivial, by rw [hq]; exact HNE.out⟩) (fun _ _ => trivial) HR8.out HB8.out HB8.out.size HLEN.out ?_; intro v9 w9 ho9 hb9 hg9 hat9; rw [← HSD.out] at ho9; have HR9 := Aside0.mk ho9; have HB9 := Aside0.mk hb9; clear ho9 hb9 hg9 hat9))
          go_roundg (n - (k + 1))
          case measure => have := HGK.out; omega
          case rel => exact ⟨k + 1, by omega, ⟨rfl⟩, by go_num, by rw [HJ.out], HR9, HB9⟩
    · have HKN : Aside0 (k = n) := ⟨by omega⟩
      have hor : ¬ (k : Int) < many ∨ ((k : Int) < many ∧ ¬ (k : Int) < 1000) := by have := HN.out k; omega
      rcases hor with hk1 | ⟨hk1, hk2⟩
      · go_wp2_with fail
        go_ret
        exact ⟨_, rfl, by rw [← HKN.out]; exact HR.out, HB.out⟩
      · go_wp2_with fail
        go_ret
        exact ⟨_, rfl, by rw [← HKN.out]; exact HR.out, HB.out⟩
end Go.Proofs.YtdobjbdkfammbaaDoor
