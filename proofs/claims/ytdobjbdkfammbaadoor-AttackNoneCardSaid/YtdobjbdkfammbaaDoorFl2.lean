/-
  Chapter 55: attack.Flood, walked.
-/
import Derived.Test.YtdobjbdkfammbaaDoorFl1
namespace Go.Proofs.YtdobjbdkfammbaaDoor
open Go.RowKit Go.Shelf Go.Proofs.YtdobjbdkfammbaaDoorW.PrintWords Go.Proofs.YtdobjbdkfammbaaDoorW.PrintLast Go.Proofs.YtdobjbdkfammbaaDoorW.PrintMore
set_option linter.unusedVariables false
set_option linter.unusedSimpArgs false
attribute [local go_sem] max2_int min2_int max_two min_two

/-- The j-th byte of a flood's write, from the number that stood ahead of it. -/
def floodB (x : Int) (j : Nat) : UInt8 := UInt8.ofNat (hiN (lcgN x (j + 2))).toNat
/-- A flood's write of which j bytes are there. -/
def floodTo (vol blocks x : Int) (j : Nat) : Wr := ⟨vol, hiN (lcg x) % blocks, (List.range 32).map (fun i => if i < j then floodB x i else 0)⟩
def floodW (vol blocks x : Int) : Wr := ⟨vol, hiN (lcg x) % blocks, (List.range 32).map (floodB x)⟩
theorem floodTo_len (vol blocks x : Int) (j : Nat) : (floodTo vol blocks x j).data.length = 32 := by simp [floodTo]
theorem floodTo_full (vol blocks x : Int) : floodTo vol blocks x 32 = floodW vol blocks x := by
  have : (List.range 32).map (fun i => if i < 32 then floodB x i else 0) = (List.range 32).map (floodB x) := by
    apply List.map_congr_left
    intro i hi
    rw [if_pos (List.mem_range.1 hi)]
  unfold floodTo floodW
  rw [this]
theorem floodTo_zero (vol blocks x : Int) : floodTo vol blocks x 0 = ⟨vol, hiN (lcg x) % blocks, zeroB⟩ := by
  unfold floodTo zeroB
  rfl
theorem floodTo_set (vol blocks x : Int) (j : Nat) (hj : j < 32) : (⟨vol, hiN (lcg x) % blocks, (floodTo vol blocks x j).data.set j (floodB x j)⟩ : Wr) = floodTo vol blocks x (j + 1) := by
  unfold floodTo
  congr 1
  apply List.ext_getElem (by simp)
  intro i h1 h2
  simp at h2
  rw [List.getElem_set]
  by_cases hi : j = i
  · subst hi
    simp
  · rw [if_neg hi]
    simp only [List.getElem_map, List.getElem_range]
    by_cases hl : i < j
    · rw [if_pos hl, if_pos (by omega)]
    · rw [if_neg hl, if_neg (by omega)]
/-- The number ahead of the k-th deed. -/
def floodX (x : Int) : Nat → Int
  | 0 => x
  | k + 1 => lcgN (floodX x k) 33
def floodD (vol blocks x : Int) (n : Nat) : List Dd := (List.range n).map (fun k => ⟨1, [floodW vol blocks (floodX x k)], 0⟩)
theorem floodD_succ (vol blocks x : Int) (n : Nat) : floodD vol blocks x (n + 1) = floodD vol blocks x n ++ [⟨1, [floodW vol blocks (floodX x n)], 0⟩] := by
  unfold floodD
  rw [List.range_succ, List.map_append]
  rfl
theorem floodD_len (vol blocks x : Int) (n : Nat) : (floodD vol blocks x n).length = n := by simp [floodD]
theorem emod_le (q b : Int) (hq : 0 ≤ q) (hb : 0 ≤ b) : q % b ≤ q := by
  obtain ⟨n, rfl⟩ := Int.eq_ofNat_of_zero_le hq
  obtain ⟨m, rfl⟩ := Int.eq_ofNat_of_zero_le hb
  have := Nat.mod_le n m
  omega
def U64 (x : Int) : Prop := 0 ≤ x ∧ x ≤ 18446744073709551615
theorem lcgN_range (x : Int) (h : U64 x) : ∀ n, U64 (lcgN x n)
  | 0 => h
  | n + 1 => lcg_range _
theorem floodX_range (x : Int) (h : U64 x) : ∀ n, U64 (floodX x n)
  | 0 => h
  | n + 1 => lcgN_range _ (floodX_range x h n) 33
theorem built_wr0 (vol blk : Int) : Tryd.prog.built 39 [(0, .agg #[.int .i64 0, .int .i64 vol, .int .i64 blk])] = some (wrV ⟨vol, blk, zeroB⟩).toArray := by kernel_rfl
/-- What stands while a flood's write is filled. -/
structure FlIn (w W : World) (Bx Bw : Nat) (x : Int) (v : Value) (ds : List Dd) (y : Wr) : Prop where
  box : Boxed W Bx 22 (.int .u64 x)
  wr : W.heap[Bw]? = some (.cells (wrV y).toArray 39 (0, 0))
  row : kDd.R 33 W w.heap.size (fun k => k ≠ Bw) v ds
  out : Below w.heap.size w W
  hx : w.heap.size ≤ Bx
  hw : w.heap.size ≤ Bw
theorem FlIn.rand {w W : World} {Bx Bw : Nat} {x : Int} {v : Value} {ds : List Dd} {y : Wr} (h : FlIn w W Bx Bw x v ds y) (x' : Int) : FlIn w (W.setCell ⟨Bx, 0, none⟩ (.int .u64 x')) Bx Bw x' v ds y :=
  ⟨h.box.set _, blk_far h.wr (p := ⟨Bx, 0, none⟩) (blk_ne h.wr h.box (by decide)) _, Kd.R_set h.row h.box (fun q hq e => by
    have : q ∈ [33, 39] := hq
    rw [e] at this
    exact absurd this (by decide)) 0 _, h.out.setCell (p := ⟨Bx, 0, none⟩) h.hx _, h.hx, h.hw⟩
theorem wrV_set (y : Wr) (j : Nat) (b : UInt8) : (wrV y).set (3 + j) (.int .u8 (b.toNat : Int)) = wrV ⟨y.vol, y.blk, y.data.set j b⟩ := by
  unfold wrV bytesV
  rw [Nat.add_comm 3 j]
  simp [List.map_set]
theorem FlIn.byte {w W : World} {Bx Bw : Nat} {x : Int} {v : Value} {ds : List Dd} {y : Wr} (h : FlIn w W Bx Bw x v ds y) (j : Nat) (b : UInt8) : FlIn w (W.setCell ⟨Bw, 3 + j, none⟩ (.int .u8 (b.toNat : Int))) Bx Bw x v ds ⟨y.vol, y.blk, y.data.set j b⟩ := by
  refine ⟨blk_far h.box (p := ⟨Bw, 3 + j, none⟩) (blk_ne h.box h.wr (by decide)) _, ?_, Kd.R_far h.row (p := ⟨Bw, 3 + j, none⟩) (fun k hk => hk) _, h.out.setCell (p := ⟨Bw, 3 + j, none⟩) h.hw _, h.hx, h.hw⟩
  have := blk_set h.wr (3 + j) (.int .u8 (b.toNat : Int))
  rw [this, ← wrV_set]
  simp
theorem FlIn.cell {w W : World} {Bx Bw : Nat} {x : Int} {v : Value} {ds : List Dd} {y : Wr} (h : FlIn w W Bx Bw x v ds y) (hl : y.data.length = 32) (j : Nat) (hj : j < 32) : W.cell? ⟨Bw, 3 + j, none⟩ = some (.int .u8 ((gt y.data j).toNat : Int)) ∧ W.frozen? ⟨Bw, 3 + j, none⟩ = false := by
  refine ⟨?_, blk_frozen h.wr (3 + j)⟩
  rw [blk_cell h.wr (3 + j), Nat.add_comm 3 j]
  simp [wrV, bytesV, gt_some y.data j (by omega)]
set_option maxRecDepth 4000 in
set_option maxHeartbeats 3200000 in
theorem flood_any (vol blocks many seed : Int) (w : World) (hb1 : 1 ≤ blocks) (hb2 : blocks ≤ 9223372036854775807) (hx : U64 seed) (n : Nat) (hn : n = (if many < 1000 then many else 1000).toNat) :
    Calls Tryd.prog 14 #[.int .i64 vol, .int .i64 blocks, .int .i64 many, .int .u64 seed] w fun e w' => ∃ v, e = .returned v ∧ kDd.R 33 w' w.heap.size (fun _ => True) v (floodD vol blocks seed n) ∧ Below w.heap.size w w' := by
  have HX := Aside0.mk hx
  have HB2 := Aside0.mk hb2
  have hbl : ¬ blocks < 1 := by omega
  clear hx hb2
  have hn1000 : n ≤ 1000 := by split at hn <;> omega
  by_cases hm : many ≤ 1000
  · replace hn : n = many.toNat := by split at hn <;> omega
    have HN := Aside0.mk hn
    clear hn
    go_enter Tryd.func14, Tryd.ntmps14
    go_wp2_with fail
    obtain ⟨W0, hW0⟩ : ∃ W0, w.alloc (.cells #[.int .u64 seed] 22) = W0 := ⟨_, rfl⟩
    have HB0 : Aside0 (Below w.heap.size w W0) := ⟨by rw [← hW0]; exact below_alloc (Below.refl _ _) _⟩
    have HX0 : Aside0 (Boxed W0 w.heap.size 22 (.int .u64 seed)) := ⟨by rw [← hW0]; exact Boxed.new w _ _⟩
    obtain ⟨Bx, hBx⟩ : ∃ Bx, Bx = w.heap.size := ⟨_, rfl⟩
    have HBX : Aside0 (w.heap.size ≤ Bx) := ⟨by omega⟩
    rw [hW0]
    rw [← hBx] at HX0 ⊢
    clear hW0 hBx
    go_loopg [20, 11, 12, 13] n (fun gk i v11 _ _ wr => ∃ k : Nat, k ≤ n ∧ Aside0 (gk = n - k) ∧ i = .int .i64 k ∧ Aside0 (Boxed wr Bx 22 (.int .u64 (floodX seed k))) ∧ Aside0 (kDd.R 33 wr w.heap.size (fun _ => True) v11 (floodD vol blocks seed k)) ∧ Aside0 (Below w.heap.size w wr))
    case atStart => exact ⟨0, Nat.zero_le _, ⟨rfl⟩, rfl, HX0, ⟨Kd.R_nil _ _ _ _ _⟩, HB0⟩
    case round =>
      obtain ⟨k, hk, HGK, rfl, HXk, HR, HB⟩ := hrel
      obtain ⟨V, rfl⟩ : ∃ V, V = wr := ⟨_, rfl⟩
      by_cases hlt : k < n
      · have hkt : (k : Int) < many := by have := HN.out; omega
        obtain ⟨x, hx⟩ : ∃ x, x = floodX seed k := ⟨_, rfl⟩
        rw [← hx] at HXk
        have HXR : Aside0 (U64 x) := ⟨by rw [hx]; exact floodX_range _ HX.out _⟩
        have HSX : Aside0 (floodX seed (k + 1) = lcgN x 33) := ⟨by rw [hx]; rfl⟩
        have HSD : Aside0 (floodD vol blocks seed (k + 1) = floodD vol blocks seed k ++ [⟨1, [floodW vol blocks x], 0⟩]) := ⟨by rw [floodD_succ, hx]⟩
        have HRA := Aside0.mk (random_any Bx x HXR.out V HXk.out)
        obtain ⟨q, hq⟩ : ∃ q, q = hiN (lcg x) := ⟨_, rfl⟩
        have hqr := hi_range (lcg x) (lcg_range x)
        rw [← hq] at HRA hqr
        have hq0 := hqr.1
        have hq1 := hqr.2
        obtain ⟨r, hr⟩ : ∃ r, r = q % blocks := ⟨_, rfl⟩
        have hr0 : 0 ≤ r := by rw [hr]; exact Int.emod_nonneg _ (by omega)
        have hr1 : r ≤ 2147483647 := by
          have h1 := emod_le q blocks hq0 (by omega)
          omega
        have HBW := Aside0.mk (built_wr0 vol r)
        have HY0 : Aside0 ((⟨vol, r, zeroB⟩ : Wr) = floodTo vol blocks x 0) := ⟨by rw [floodTo_zero, ← hq, hr]⟩
        have hbb := HB2.out
        have hbl0 : (0 : Int) ≤ blocks := by omega
        have hrem : q.tmod blocks = r := by rw [hr]; exact Int.tmod_eq_emod_of_nonneg hq0
        clear hx hq hqr hr
        go_upto_region 9 with (first | (refine HRA.out.mono ?_; rintro e w1 ⟨rfl, hw1⟩; have HW1 := Aside0.mk hw1; clear hw1) | ((with_reducible refine gate_dst (N := 30) rfl ?_); refine build_on rfl 39 _ rfl (wrV ⟨vol, r, zeroB⟩).toArray (Eq.trans (by kernel_rfl) HBW.out) ?_) | ((with_reducible refine gate_store (t := 39) (p := 12) rfl ?_); refine store_write_new rfl (.tmp 12) (.tmp 30) rfl _ rfl rfl ⟨vol, r, zeroB⟩ (by simp [zeroB]) rfl ?_))
        obtain ⟨W1, rfl⟩ : ∃ W1, W1 = w1 := ⟨_, rfl⟩
        obtain ⟨W2, hW2⟩ : ∃ W2, W1.alloc (.cells (wrV ⟨vol, r, zeroB⟩).toArray 39) = W2 := ⟨_, rfl⟩
        obtain ⟨Bw, hBw⟩ : ∃ Bw, Bw = W1.heap.size := ⟨_, rfl⟩
        have hbk : W1.heap.size = V.heap.size := by rw [HW1.out]; simp [World.setCell]
        have HF0 : Aside0 (FlIn w W2 Bx Bw (lcgN x (0 + 1)) u11 (floodD vol blocks seed k) (floodTo vol blocks x 0)) := ⟨by
          have h1 : Boxed W1 Bx 22 (.int .u64 (lcg x)) := by rw [HW1.out]; exact HXk.out.set _
          have h2 : kDd.R 33 W1 w.heap.size (fun _ => True) u11 (floodD vol blocks seed k) := by
            rw [HW1.out]
            exact Kd.R_set HR.out HXk.out (fun q hq e => by
              have : q ∈ [33, 39] := hq
              rw [e] at this
              exact absurd this (by decide)) 0 _
          have h3 : Below w.heap.size w W1 := by rw [HW1.out]; exact HB.out.setCell (p := ⟨Bx, 0, none⟩) HBX.out _
          have hn := blk_new W1 (.cells (wrV ⟨vol, r, zeroB⟩).toArray 39)
          rw [← hBw, HY0.out] at hn
          rw [← hW2, HY0.out]
          refine ⟨h1.alloc _, hn, Kd.R_alloc (Kd.R_mono (Kd.R_bound h2) (fun k hk => by have := hk.2.2.1; omega)) _, below_alloc h3 _, HBX.out, by rw [hBw]; exact h3.size⟩⟩
        rw [hW2, ← hBw]
        clear hW2 hBw hbk hbb hrem HRA HBW HW1 hq0 hq1
        go_wp2_with fail
        go_loopg [31, 13] 32 (fun gj i _ wz => ∃ j : Nat, j ≤ 32 ∧ Aside0 (gj = 32 - j) ∧ i = .int .i64 j ∧ Aside0 (FlIn w wz Bx Bw (lcgN x (j + 1)) u11 (floodD vol blocks seed k) (floodTo vol blocks x j)))
        case atStart => exact ⟨0, by omega, ⟨rfl⟩, rfl, HF0⟩
        case round =>
          obtain ⟨j, hj, HGJ, rfl, HF⟩ := hrel
          by_cases hjt : j < 32
          · have hj32 : (j : Int) < 32 := by omega
            have HRJ := Aside0.mk (random_any Bx _ (lcgN_range x HXR.out (j + 1)) wr HF.out.box)
            obtain ⟨z, hz⟩ : ∃ z, z = hiN (lcg (lcgN x (j + 1))) := ⟨_, rfl⟩
            have hzr := hi_range (lcg (lcgN x (j + 1))) (lcg_range _)
            rw [← hz] at HRJ hzr
            have hz0 := hzr.1
            have hz1 := hzr.2
            have HZV : Aside0 (z % 256 = ((floodB x j).toNat : Int)) := ⟨by
              unfold floodB
              have : hiN (lcgN x (j + 2)) = z := by rw [hz]; rfl
              rw [this, UInt8.toNat_ofNat']
              omega⟩
            have HFr := Aside0.mk (HF.out.rand (lcg (lcgN x (j + 1))))
            obtain ⟨b0, b1⟩ := HFr.out.cell (floodTo_len vol blocks x j) j hjt
            have HFb := Aside0.mk (HFr.out.byte j (floodB x j))
            have HST : Aside0 ((⟨(floodTo vol blocks x j).vol, (floodTo vol blocks x j).blk, (floodTo vol blocks x j).data.set j (floodB x j)⟩ : Wr) = floodTo vol blocks x (j + 1)) := ⟨floodTo_set vol blocks x j hjt⟩
            rw [HST.out] at HFb
            obtain ⟨Wr1, hWr1⟩ : ∃ Wr1, Wr1 = wr.setCell ⟨Bx, 0, none⟩ (.int .u64 (lcg (lcgN x (j + 1)))) := ⟨_, rfl⟩
            rw [← hWr1] at HRJ HFr b0 b1 HFb
            clear hz hzr hWr1
            go_wp2_with (first | (refine HRJ.out.mono ?_; rintro e w1 ⟨rfl, rfl⟩))
            go_roundg (32 - (j + 1))
            case measure => have := HGJ.out; omega
            case rel => exact ⟨j + 1, by omega, ⟨rfl⟩, by go_num, ⟨by rw [HZV.out]; exact HFb.out⟩⟩
          · have hj32 : ¬ (j : Int) < 32 := by omega
            have HF9 : Aside0 (FlIn w wr Bx Bw (lcgN x 33) u11 (floodD vol blocks seed k) (floodW vol blocks x)) := ⟨by rw [← floodTo_full, show (33 : Nat) = j + 1 by omega, show (32 : Nat) = j by omega]; exact HF.out⟩
            obtain ⟨y, hy⟩ : ∃ y, y = floodW vol blocks x := ⟨_, rfl⟩
            have hyl : y.data.length = 32 := by rw [hy]; simp [floodW]
            rw [← hy] at HF9 HSD
            obtain ⟨W8, hW8⟩ : ∃ W8, wr.alloc (.cells (wrV y).toArray 39) = W8 := ⟨_, rfl⟩
            obtain ⟨B8, hB8⟩ : ∃ B8, B8 = wr.heap.size := ⟨_, rfl⟩
            have hn8 := blk_new wr (.cells (wrV y).toArray 39)
            rw [hW8, ← hB8] at hn8
            have hr8 := Kd.R_alloc HF9.out.row (.cells (wrV y).toArray 39)
            rw [hW8] at hr8
            have hb8 := below_alloc HF9.out.out (.cells (wrV y).toArray 39)
            rw [hW8] at hb8
            have HR8 : Aside0 (kDd.R 33 W8 w.heap.size (fun _ => True) u11 (floodD vol blocks seed k)) := ⟨Kd.R_mono hr8 (fun _ _ => trivial)⟩
            have HX8 : Aside0 (Boxed W8 Bx 22 (.int .u64 (lcgN x 33))) := ⟨by rw [← hW8]; exact HF9.out.box.alloc _⟩
            have HB8 := Aside0.mk hb8
            have HNE : Aside0 (some B8 ≠ u11.ownBlock) := ⟨fun e => by have := Kd.R_lt HF9.out.row B8 e.symm; omega⟩
            have hC8 : kWr.C W8 (some ⟨B8, 0, none⟩) 1 [y] := C_block (d := kWr) (xs := [y]) hn8 ⟨by simp [wrV_len y hyl]; rfl, fun j p hj => by
              rcases j with _ | j
              · simp only [List.getElem?_cons_zero, Option.some.injEq] at hj
                subst hj
                have : (((wrV y).toArray.toList).drop (0 * kWr.sz)).take kWr.sz = wrV y := by
                  rw [Nat.zero_mul, List.drop_zero]
                  exact List.take_of_length_le (by rw [show (wrV y).toArray.toList = wrV y by simp, wrV_len y hyl]; exact Nat.le_refl _)
                rw [this]
                exact kWr_mkK _ _ hyl
              · simp at hj⟩ (by simp)
            have HM8 : Aside0 (kDd.M W8 w.heap.size (fun q => q = B8) ⟨1, [y], 0⟩ [.int .i64 1, .slice (some ⟨B8, 0, none⟩) 1 1, .int .i64 0]) := ⟨kDd_mk W8 _ _ ⟨1, [y], 0⟩ rfl (Nat.le_refl 1) hC8 (fun ad e _ => by
              cases e
              exact ⟨rfl, by rw [hB8]; exact HF9.out.out.size, blk_lt hn8, _, hn8⟩)⟩
            have HLEN : Aside0 (((floodD vol blocks seed k).length + 1) * 40 ≤ 140737488355328) := ⟨by rw [floodD_len]; omega⟩
            have HWR9 := Aside0.mk HF9.out.wr
            have HW8 := Aside0.mk hW8
            have HB8e := Aside0.mk hB8
            clear hy hn8 hr8 hb8 hC8 hW8 hB8
            go_wp2_with (first | ((with_reducible refine gate_dst (N := 42) rfl ?_); refine load_write rfl _ rfl ⟨Bw, 0, none⟩ rfl y hyl (wr_cells HWR9.out) ?_) | ((with_reducible refine gate_dst (N := 43) rfl ?_); refine build_write rfl (.tmp 42) rfl y hyl rfl ?_; rw [HW8.out, ← HB8e.out]) | ((with_reducible refine gate_builtin (b := .append) (xs := #[.tmp 41, .tmp 45]) rfl ?_); at_builtin; refine Kd.R_append kDd (w0 := w) w.heap.size rfl (.tmp 41) (.tmp 45) 25 33 (.agg #[.int .i64 0, .slice none 0 0, .int .i64 0]) 40 rfl Tryd.underlying25 info_dd rfl (Nat.succ_pos _) (by omega) u11 (floodD vol blocks seed k) ⟨1, [y], 0⟩ _ (fun _ => True) (fun q => q = B8) rfl rfl HM8.out (fun q hq => ⟨trivial, by rw [hq]; exact HNE.out⟩) (fun _ _ => trivial) HR8.out HB8.out HB8.out.size HLEN.out ?_; intro v9 w9 ho9 hb9 hg9 hat9; rw [← HSD.out] at ho9; have HR9 := Aside0.mk ho9; have HB9 := Aside0.mk hb9; have HX9 : Aside0 (Boxed w9 Bx 22 (.int .u64 (lcgN x 33))) := ⟨HX8.out.kept hg9 (HX8.out.not_row (by decide) (Kd.R_own HR8.out).choose_spec)⟩; clear ho9 hb9 hg9 hat9))
            go_roundg (n - (k + 1))
            case measure => have := HGK.out; omega
            case rel => exact ⟨k + 1, by omega, ⟨rfl⟩, by go_num, ⟨by rw [HSX.out]; exact HX9.out⟩, HR9, HB9⟩
      · have hkt : ¬ (k : Int) < many := by have := HN.out; omega
        have HKN : Aside0 (k = n) := ⟨by omega⟩
        go_wp2_with fail
        go_ret
        exact ⟨_, rfl, by rw [← HKN.out]; exact HR.out, HB.out⟩
  · replace hn : n = 1000 := by rw [if_neg (by omega)] at hn; exact hn
    have HN := Aside0.mk hn
    clear hn
    go_enter Tryd.func14, Tryd.ntmps14
    go_wp2_with fail
    obtain ⟨W0, hW0⟩ : ∃ W0, w.alloc (.cells #[.int .u64 seed] 22) = W0 := ⟨_, rfl⟩
    have HB0 : Aside0 (Below w.heap.size w W0) := ⟨by rw [← hW0]; exact below_alloc (Below.refl _ _) _⟩
    have HX0 : Aside0 (Boxed W0 w.heap.size 22 (.int .u64 seed)) := ⟨by rw [← hW0]; exact Boxed.new w _ _⟩
    obtain ⟨Bx, hBx⟩ : ∃ Bx, Bx = w.heap.size := ⟨_, rfl⟩
    have HBX : Aside0 (w.heap.size ≤ Bx) := ⟨by omega⟩
    rw [hW0]
    rw [← hBx] at HX0 ⊢
    clear hW0 hBx
    go_loopg [20, 11, 12, 13] n (fun gk i v11 _ _ wr => ∃ k : Nat, k ≤ n ∧ Aside0 (gk = n - k) ∧ i = .int .i64 k ∧ Aside0 (Boxed wr Bx 22 (.int .u64 (floodX seed k))) ∧ Aside0 (kDd.R 33 wr w.heap.size (fun _ => True) v11 (floodD vol blocks seed k)) ∧ Aside0 (Below w.heap.size w wr))
    case atStart => exact ⟨0, Nat.zero_le _, ⟨rfl⟩, rfl, HX0, ⟨Kd.R_nil _ _ _ _ _⟩, HB0⟩
    case round =>
      obtain ⟨k, hk, HGK, rfl, HXk, HR, HB⟩ := hrel
      obtain ⟨V, rfl⟩ : ∃ V, V = wr := ⟨_, rfl⟩
      by_cases hlt : k < n
      · have hkt : (k : Int) < (1000 : Int) := by have := HN.out; omega
        obtain ⟨x, hx⟩ : ∃ x, x = floodX seed k := ⟨_, rfl⟩
        rw [← hx] at HXk
        have HXR : Aside0 (U64 x) := ⟨by rw [hx]; exact floodX_range _ HX.out _⟩
        have HSX : Aside0 (floodX seed (k + 1) = lcgN x 33) := ⟨by rw [hx]; rfl⟩
        have HSD : Aside0 (floodD vol blocks seed (k + 1) = floodD vol blocks seed k ++ [⟨1, [floodW vol blocks x], 0⟩]) := ⟨by rw [floodD_succ, hx]⟩
        have HRA := Aside0.mk (random_any Bx x HXR.out V HXk.out)
        obtain ⟨q, hq⟩ : ∃ q, q = hiN (lcg x) := ⟨_, rfl⟩
        have hqr := hi_range (lcg x) (lcg_range x)
        rw [← hq] at HRA hqr
        have hq0 := hqr.1
        have hq1 := hqr.2
        obtain ⟨r, hr⟩ : ∃ r, r = q % blocks := ⟨_, rfl⟩
        have hr0 : 0 ≤ r := by rw [hr]; exact Int.emod_nonneg _ (by omega)
        have hr1 : r ≤ 2147483647 := by
          have h1 := emod_le q blocks hq0 (by omega)
          omega
        have HBW := Aside0.mk (built_wr0 vol r)
        have HY0 : Aside0 ((⟨vol, r, zeroB⟩ : Wr) = floodTo vol blocks x 0) := ⟨by rw [floodTo_zero, ← hq, hr]⟩
        have hbb := HB2.out
        have hbl0 : (0 : Int) ≤ blocks := by omega
        have hrem : q.tmod blocks = r := by rw [hr]; exact Int.tmod_eq_emod_of_nonneg hq0
        clear hx hq hqr hr
        go_upto_region 9 with (first | (refine HRA.out.mono ?_; rintro e w1 ⟨rfl, hw1⟩; have HW1 := Aside0.mk hw1; clear hw1) | ((with_reducible refine gate_dst (N := 30) rfl ?_); refine build_on rfl 39 _ rfl (wrV ⟨vol, r, zeroB⟩).toArray (Eq.trans (by kernel_rfl) HBW.out) ?_) | ((with_reducible refine gate_store (t := 39) (p := 12) rfl ?_); refine store_write_new rfl (.tmp 12) (.tmp 30) rfl _ rfl rfl ⟨vol, r, zeroB⟩ (by simp [zeroB]) rfl ?_))
        obtain ⟨W1, rfl⟩ : ∃ W1, W1 = w1 := ⟨_, rfl⟩
        obtain ⟨W2, hW2⟩ : ∃ W2, W1.alloc (.cells (wrV ⟨vol, r, zeroB⟩).toArray 39) = W2 := ⟨_, rfl⟩
        obtain ⟨Bw, hBw⟩ : ∃ Bw, Bw = W1.heap.size := ⟨_, rfl⟩
        have hbk : W1.heap.size = V.heap.size := by rw [HW1.out]; simp [World.setCell]
        have HF0 : Aside0 (FlIn w W2 Bx Bw (lcgN x (0 + 1)) u11 (floodD vol blocks seed k) (floodTo vol blocks x 0)) := ⟨by
          have h1 : Boxed W1 Bx 22 (.int .u64 (lcg x)) := by rw [HW1.out]; exact HXk.out.set _
          have h2 : kDd.R 33 W1 w.heap.size (fun _ => True) u11 (floodD vol blocks seed k) := by
            rw [HW1.out]
            exact Kd.R_set HR.out HXk.out (fun q hq e => by
              have : q ∈ [33, 39] := hq
              rw [e] at this
              exact absurd this (by decide)) 0 _
          have h3 : Below w.heap.size w W1 := by rw [HW1.out]; exact HB.out.setCell (p := ⟨Bx, 0, none⟩) HBX.out _
          have hn := blk_new W1 (.cells (wrV ⟨vol, r, zeroB⟩).toArray 39)
          rw [← hBw, HY0.out] at hn
          rw [← hW2, HY0.out]
          refine ⟨h1.alloc _, hn, Kd.R_alloc (Kd.R_mono (Kd.R_bound h2) (fun k hk => by have := hk.2.2.1; omega)) _, below_alloc h3 _, HBX.out, by rw [hBw]; exact h3.size⟩⟩
        rw [hW2, ← hBw]
        clear hW2 hBw hbk hbb hrem HRA HBW HW1 hq0 hq1
        go_wp2_with fail
        go_loopg [31, 13] 32 (fun gj i _ wz => ∃ j : Nat, j ≤ 32 ∧ Aside0 (gj = 32 - j) ∧ i = .int .i64 j ∧ Aside0 (FlIn w wz Bx Bw (lcgN x (j + 1)) u11 (floodD vol blocks seed k) (floodTo vol blocks x j)))
        case atStart => exact ⟨0, by omega, ⟨rfl⟩, rfl, HF0⟩
        case round =>
          obtain ⟨j, hj, HGJ, rfl, HF⟩ := hrel
          by_cases hjt : j < 32
          · have hj32 : (j : Int) < 32 := by omega
            have HRJ := Aside0.mk (random_any Bx _ (lcgN_range x HXR.out (j + 1)) wr HF.out.box)
            obtain ⟨z, hz⟩ : ∃ z, z = hiN (lcg (lcgN x (j + 1))) := ⟨_, rfl⟩
            have hzr := hi_range (lcg (lcgN x (j + 1))) (lcg_range _)
            rw [← hz] at HRJ hzr
            have hz0 := hzr.1
            have hz1 := hzr.2
            have HZV : Aside0 (z % 256 = ((floodB x j).toNat : Int)) := ⟨by
              unfold floodB
              have : hiN (lcgN x (j + 2)) = z := by rw [hz]; rfl
              rw [this, UInt8.toNat_ofNat']
              omega⟩
            have HFr := Aside0.mk (HF.out.rand (lcg (lcgN x (j + 1))))
            obtain ⟨b0, b1⟩ := HFr.out.cell (floodTo_len vol blocks x j) j hjt
            have HFb := Aside0.mk (HFr.out.byte j (floodB x j))
            have HST : Aside0 ((⟨(floodTo vol blocks x j).vol, (floodTo vol blocks x j).blk, (floodTo vol blocks x j).data.set j (floodB x j)⟩ : Wr) = floodTo vol blocks x (j + 1)) := ⟨floodTo_set vol blocks x j hjt⟩
            rw [HST.out] at HFb
            obtain ⟨Wr1, hWr1⟩ : ∃ Wr1, Wr1 = wr.setCell ⟨Bx, 0, none⟩ (.int .u64 (lcg (lcgN x (j + 1)))) := ⟨_, rfl⟩
            rw [← hWr1] at HRJ HFr b0 b1 HFb
            clear hz hzr hWr1
            go_wp2_with (first | (refine HRJ.out.mono ?_; rintro e w1 ⟨rfl, rfl⟩))
            go_roundg (32 - (j + 1))
            case measure => have := HGJ.out; omega
            case rel => exact ⟨j + 1, by omega, ⟨rfl⟩, by go_num, ⟨by rw [HZV.out]; exact HFb.out⟩⟩
          · have hj32 : ¬ (j : Int) < 32 := by omega
            have HF9 : Aside0 (FlIn w wr Bx Bw (lcgN x 33) u11 (floodD vol blocks seed k) (floodW vol blocks x)) := ⟨by rw [← floodTo_full, show (33 : Nat) = j + 1 by omega, show (32 : Nat) = j by omega]; exact HF.out⟩
            obtain ⟨y, hy⟩ : ∃ y, y = floodW vol blocks x := ⟨_, rfl⟩
            have hyl : y.data.length = 32 := by rw [hy]; simp [floodW]
            rw [← hy] at HF9 HSD
            obtain ⟨W8, hW8⟩ : ∃ W8, wr.alloc (.cells (wrV y).toArray 39) = W8 := ⟨_, rfl⟩
            obtain ⟨B8, hB8⟩ : ∃ B8, B8 = wr.heap.size := ⟨_, rfl⟩
            have hn8 := blk_new wr (.cells (wrV y).toArray 39)
            rw [hW8, ← hB8] at hn8
            have hr8 := Kd.R_alloc HF9.out.row (.cells (wrV y).toArray 39)
            rw [hW8] at hr8
            have hb8 := below_alloc HF9.out.out (.cells (wrV y).toArray 39)
            rw [hW8] at hb8
            have HR8 : Aside0 (kDd.R 33 W8 w.heap.size (fun _ => True) u11 (floodD vol blocks seed k)) := ⟨Kd.R_mono hr8 (fun _ _ => trivial)⟩
            have HX8 : Aside0 (Boxed W8 Bx 22 (.int .u64 (lcgN x 33))) := ⟨by rw [← hW8]; exact HF9.out.box.alloc _⟩
            have HB8 := Aside0.mk hb8
            have HNE : Aside0 (some B8 ≠ u11.ownBlock) := ⟨fun e => by have := Kd.R_lt HF9.out.row B8 e.symm; omega⟩
            have hC8 : kWr.C W8 (some ⟨B8, 0, none⟩) 1 [y] := C_block (d := kWr) (xs := [y]) hn8 ⟨by simp [wrV_len y hyl]; rfl, fun j p hj => by
              rcases j with _ | j
              · simp only [List.getElem?_cons_zero, Option.some.injEq] at hj
                subst hj
                have : (((wrV y).toArray.toList).drop (0 * kWr.sz)).take kWr.sz = wrV y := by
                  rw [Nat.zero_mul, List.drop_zero]
                  exact List.take_of_length_le (by rw [show (wrV y).toArray.toList = wrV y by simp, wrV_len y hyl]; exact Nat.le_refl _)
                rw [this]
                exact kWr_mkK _ _ hyl
              · simp at hj⟩ (by simp)
            have HM8 : Aside0 (kDd.M W8 w.heap.size (fun q => q = B8) ⟨1, [y], 0⟩ [.int .i64 1, .slice (some ⟨B8, 0, none⟩) 1 1, .int .i64 0]) := ⟨kDd_mk W8 _ _ ⟨1, [y], 0⟩ rfl (Nat.le_refl 1) hC8 (fun ad e _ => by
              cases e
              exact ⟨rfl, by rw [hB8]; exact HF9.out.out.size, blk_lt hn8, _, hn8⟩)⟩
            have HLEN : Aside0 (((floodD vol blocks seed k).length + 1) * 40 ≤ 140737488355328) := ⟨by rw [floodD_len]; omega⟩
            have HWR9 := Aside0.mk HF9.out.wr
            have HW8 := Aside0.mk hW8
            have HB8e := Aside0.mk hB8
            clear hy hn8 hr8 hb8 hC8 hW8 hB8
            go_wp2_with (first | ((with_reducible refine gate_dst (N := 42) rfl ?_); refine load_write rfl _ rfl ⟨Bw, 0, none⟩ rfl y hyl (wr_cells HWR9.out) ?_) | ((with_reducible refine gate_dst (N := 43) rfl ?_); refine build_write rfl (.tmp 42) rfl y hyl rfl ?_; rw [HW8.out, ← HB8e.out]) | ((with_reducible refine gate_builtin (b := .append) (xs := #[.tmp 41, .tmp 45]) rfl ?_); at_builtin; refine Kd.R_append kDd (w0 := w) w.heap.size rfl (.tmp 41) (.tmp 45) 25 33 (.agg #[.int .i64 0, .slice none 0 0, .int .i64 0]) 40 rfl Tryd.underlying25 info_dd rfl (Nat.succ_pos _) (by omega) u11 (floodD vol blocks seed k) ⟨1, [y], 0⟩ _ (fun _ => True) (fun q => q = B8) rfl rfl HM8.out (fun q hq => ⟨trivial, by rw [hq]; exact HNE.out⟩) (fun _ _ => trivial) HR8.out HB8.out HB8.out.size HLEN.out ?_; intro v9 w9 ho9 hb9 hg9 hat9; rw [← HSD.out] at ho9; have HR9 := Aside0.mk ho9; have HB9 := Aside0.mk hb9; have HX9 : Aside0 (Boxed w9 Bx 22 (.int .u64 (lcgN x 33))) := ⟨HX8.out.kept hg9 (HX8.out.not_row (by decide) (Kd.R_own HR8.out).choose_spec)⟩; clear ho9 hb9 hg9 hat9))
            go_roundg (n - (k + 1))
            case measure => have := HGK.out; omega
            case rel => exact ⟨k + 1, by omega, ⟨rfl⟩, by go_num, ⟨by rw [HSX.out]; exact HX9.out⟩, HR9, HB9⟩
      · have hkt : ¬ (k : Int) < (1000 : Int) := by have := HN.out; omega
        have HKN : Aside0 (k = n) := ⟨by omega⟩
        go_wp2_with fail
        go_ret
        exact ⟨_, rfl, by rw [← HKN.out]; exact HR.out, HB.out⟩
end Go.Proofs.YtdobjbdkfammbaaDoor
