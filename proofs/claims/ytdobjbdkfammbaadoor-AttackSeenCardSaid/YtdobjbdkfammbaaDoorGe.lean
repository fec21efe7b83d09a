/-
  Chapter 55: erewhileref55.Flood, walked.
-/
import Derived.Test.YtdobjbdkfammbaaDoorGc
/-
  Chapter 55: whole writes loaded and stored; the numbers of a flood.
-/
namespace Go.Proofs.YtdobjbdkfammbaaDoor
open Go.RowKit Go.Shelf Go.Proofs.YtdobjbdkfammbaaDoorW.PrintWords Go.Proofs.YtdobjbdkfammbaaDoorW.PrintLast Go.Proofs.YtdobjbdkfammbaaDoorW.PrintMore
set_option linter.unusedVariables false
set_option linter.unusedSimpArgs false

theorem info_wrS (n : Nat) (h : n = 35) : (Tryd.prog.info? 39).map (·.size) = some n := by rw [h]; exact info_wrsz
/-- A whole write is read, wherever it lies. -/
theorem run_load_write {w : World} (p : Addr) (x : Wr) (hl : x.data.length = 32) (hc : ∀ j u, (wrV x)[j]? = some u → w.cell? (p.add j) = some u) : (loadVar 39 p).run Tryd.prog w = .ok (.agg (wrV x).toArray) w := by
  have hl2 : (loadCells p (wrV x).length).run Tryd.prog w = .ok (wrV x).toArray w := run_loadCells_list (P := Tryd.prog) w p (wrV x) hc
  have hlen : (wrV x).length = 35 := wrV_len x hl
  have hagg : (isAgg 39).run Tryd.prog w = .ok true w := by
    unfold isAgg
    rw [Sem.run_bind, run_underlying Tryd.underlying39 w]
    simp
  rw [hlen] at hl2
  cases hq : Tryd.prog.info? 39 with
  | none => have := info_wrsz; simp [hq] at this
  | some i =>
    have hs : i.size = 35 := by have := info_wrsz; simpa [hq] using this
    simp [loadVar, Sem.run_bind, hagg, sizeOf, typeInfo, hq, hs, hl2]
theorem load_write {ops : Array Oper} {rest : List Oper} {op : Oper} {a : Act} {w : World} {Q : Exit → Act → World → Prop} (hgd : op.guard = none) (x : Operand) (ho : op.op = .load 39 x)
    (p : Addr) (hx : a.eval x = .pointer (some p)) (y : Wr) (hl : y.data.length = 32) (hc : ∀ j u, (wrV y)[j]? = some u → w.cell? (p.add j) = some u)
    (h : wpList Tryd.prog ops Q rest (a.put op.dst (.agg (wrV y).toArray)) w) : wpList Tryd.prog ops Q (op :: rest) a w := by
  refine wpList_plain hgd fun _ hK => ?_
  unfold Oper.wp execOp
  simp only [ho, hx, Instr.loadAt, Instr.sureAddr, Sem.run_bind, Sem.run_pure, Result.andThen_ok, run_load_write p y hl hc]
  exact hK _ _ h
/-- A whole write is written into the box that was made last. -/
theorem store_write_new {ops : Array Oper} {rest : List Oper} {op : Oper} {a : Act} {W : World} {Q : Exit → Act → World → Prop} (hgd : op.guard = none) (x y : Operand) (ho : op.op = .store 39 x y)
    (c0 : Array Value) (hc0 : c0.size = 35) (hx : a.eval x = .pointer (some ⟨W.heap.size, 0, none⟩)) (z : Wr) (hl : z.data.length = 32) (hy : a.eval y = .agg (wrV z).toArray)
    (h : wpList Tryd.prog ops Q rest (a.put op.dst undef) (W.alloc (.cells (wrV z).toArray 39))) : wpList Tryd.prog ops Q (op :: rest) a (W.alloc (.cells c0 39)) := by
  have hs : (wrV z).toArray.size = 35 := by simp [wrV, bytesV, hl]
  have hr := run_storeAt_new (P := Tryd.prog) W 39 c0 (wrV z).toArray (info_wrS _ hs) (by rw [hc0, hs]) (all_oneCell_toArray (wrV_one z))
  refine wpList_plain hgd fun _ hK => ?_
  unfold Oper.wp execOp
  simp only [ho, hx, hy, Sem.run_bind, Sem.run_pure, hr, Result.andThen_ok]
  exact hK _ _ h
theorem wr_cells {W : World} {g : Nat} {y : Wr} (h : W.heap[g]? = some (.cells (wrV y).toArray 39 (0, 0))) : ∀ j u, (wrV y)[j]? = some u → W.cell? ((⟨g, 0, none⟩ : Addr).add j) = some u := fun j u hu => by
  rw [Go.Proofs.YtdobjbdkfammbaaDoorW.PrintWords.add_plain, blk_cell h]
  simpa using hu
/-- The next of a flood's numbers. -/
def lcg (x : Int) : Int := IntKind.u64.wrap (IntKind.u64.wrap (x * 6364136223846793005) + 1442695040888963407)
theorem u64_range (n : Int) : 0 ≤ IntKind.u64.wrap n ∧ IntKind.u64.wrap n ≤ 18446744073709551615 := by
  simp only [IntKind.wrap, IntKind.bits, IntKind.signed]
  simp
  omega
theorem lcg_range (x : Int) : 0 ≤ lcg x ∧ lcg x ≤ 18446744073709551615 := u64_range _
def lcgN (x : Int) : Nat → Int
  | 0 => x
  | n + 1 => lcg (lcgN x n)
def hiN (x : Int) : Int := x / 8589934592
theorem hi_range (x : Int) (h : 0 ≤ x ∧ x ≤ 18446744073709551615) : 0 ≤ hiN x ∧ hiN x ≤ 2147483647 := by
  unfold hiN
  omega
set_option maxHeartbeats 800000 in
theorem random_any (B : Nat) (x : Int) (hx : 0 ≤ x ∧ x ≤ 18446744073709551615) (W : World) (h : Boxed W B 22 (.int .u64 x)) :
    Calls Tryd.prog 30 #[.pointer (some ⟨B, 0, none⟩)] W fun e W' => e = .returned (.int .u64 (hiN (lcg x))) ∧ W' = W.setCell ⟨B, 0, none⟩ (.int .u64 (lcg x)) := by
  have c0 := h.cell
  have c1 := h.frozen
  have hx0 := hx.1
  have hx1 := hx.2
  clear hx
  go_enter Tryd.func30, Tryd.ntmps30
  go_wp2
  go_ret
  exact ⟨rfl, rfl⟩
end Go.Proofs.YtdobjbdkfammbaaDoor
/-
  Chapter 55: attack.Flood, walked.
-/
namespace Go.Proofs.YtdobjbdkfammbaaDoor
open Go.RowKit Go.Shelf Go.Proofs.YtdobjbdkfammbaaDoorW.PrintWords Go.Proofs.YtdobjbdkfammbaaDoorW.PrintLast Go.Proofs.YtdobjbdkfammbaaDoorW.PrintMore
set_option linter.unusedVariables false
set_option linter.unusedSimpArgs false
attribute [local go_sem] max2_int min2_int max_two min_two

/-- The j-th byte of a flood's write, from the number that stood ahead of it. -/
def floodB (x : Int) (j : Nat) : UInt8 := UInt8.ofNat (hiN (lcgN x (j + 2))).toNat
/-- A flood's write of which j bytes are there. -/
def floodTo (vol blocks x : Int) (j : Nat) : Wr := ⟨vol, hiN (lcg x) % blocks, (List.range 32).map (fun i => if i < j then floodB x i else 0)⟩
def floodW (vol blocks x : Int) : Wr := ⟨vol, hiN (lcg x) % blocks, (List.range 32).map (floodB x)⟩
theorem floodTo_len (vol blocks x : Int) (j : Nat) : (floodTo vol blocks x j).data.length = 32 := by simp [floodTo]
theorem floodTo_full (vol blocks x : Int) : floodTo vol blocks x 32 = floodW vol blocks x := by
  have : (List.range 32).map (fun i => if i < 32 then floodB x i else 0) = (List.range 32).map (floodB x) := by
    apply List.map_congr_left
    intro i hi
    rw [if_pos (List.mem_range.1 hi)]
  unfold floodTo floodW
  rw [this]
theorem floodTo_zero (vol blocks x : Int) : floodTo vol blocks x 0 = ⟨vol, hiN (lcg x) % blocks, zeroB⟩ := by
  unfold floodTo zeroB
  rfl
theorem floodTo_set (vol blocks x : Int) (j : Nat) (hj : j < 32) : (⟨vol, hiN (lcg x) % blocks, (floodTo vol blocks x j).data.set j (floodB x j)⟩ : Wr) = floodTo vol blocks x (j + 1) := by
  unfold floodTo
  congr 1
  apply List.ext_getElem (by simp)
  intro i h1 h2
  simp at h2
  rw [List.getElem_set]
  by_cases hi : j = i
  · subst hi
    simp
  · rw [if_neg hi]
    simp only [List.getElem_map, List.getElem_range]
    by_cases hl : i < j
    · rw [if_pos hl, if_pos (by omega)]
    · rw [if_neg hl, if_neg (by omega)]
/-- The number ahead of the k-th deed. -/
def floodX (x : Int) : Nat → Int
  | 0 => x
  | k + 1 => lcgN (floodX x k) 33
def floodD (vol blocks x : Int) (n : Nat) : List Dd := (List.range n).map (fun k => ⟨1, [floodW vol blocks (floodX x k)], 0⟩)
theorem floodD_succ (vol blocks x : Int) (n : Nat) : floodD vol blocks x (n + 1) = floodD vol blocks x n ++ [⟨1, [floodW vol blocks (floodX x n)], 0⟩] := by
  unfold floodD
  rw [List.range_succ, List.map_append]
  rfl
theorem floodD_len (vol blocks x : Int) (n : Nat) : (floodD vol blocks x n).length = n := by simp [floodD]
theorem emod_le (q b : Int) (hq : 0 ≤ q) (hb : 0 ≤ b) : q % b ≤ q := by
  obtain ⟨n, rfl⟩ := Int.eq_ofNat_of_zero_le hq
  obtain ⟨m, rfl⟩ := Int.eq_ofNat_of_zero_le hb
  have := Nat.mod_le n m
  omega
def U64 (x : Int) : Prop := 0 ≤ x ∧ x ≤ 18446744073709551615
theorem lcgN_range (x : Int) (h : U64 x) : ∀ n, U64 (lcgN x n)
  | 0 => h
  | n + 1 => lcg_range _
theorem floodX_range (x : Int) (h : U64 x) : ∀ n, U64 (floodX x n)
  | 0 => h
  | n + 1 => lcgN_range _ (floodX_range x h n) 33
theorem built_wr0 (vol blk : Int) : Tryd.prog.built 39 [(0, .agg #[.int .i64 0, .int .i64 vol, .int .i64 blk])] = some (wrV ⟨vol, blk, zeroB⟩).toArray := by kernel_rfl
/-- What stands while a flood's write is filled. -/
structure FlIn (w W : World) (Bx Bw : Nat) (x : Int) (v : Value) (ds : List Dd) (y : Wr) : Prop where
  box : Boxed W Bx 22 (.int .u64 x)
  wr : W.heap[Bw]? = some (.cells (wrV y).toArray 39 (0, 0))
  row : kDd.R 33 W w.heap.size (fun k => k ≠ Bw) v ds
  out : Below w.heap.size w W
  hx : w.heap.size ≤ Bx
  hw : w.heap.size ≤ Bw
theorem FlIn.rand {w W : World} {Bx Bw : Nat} {x : Int} {v : Value} {ds : List Dd} {y : Wr} (h : FlIn w W Bx Bw x v ds y) (x' : Int) : FlIn w (W.setCell ⟨Bx, 0, none⟩ (.int .u64 x')) Bx Bw x' v ds y :=
  ⟨h.box.set _, blk_far h.wr (p := ⟨Bx, 0, none⟩) (blk_ne h.wr h.box (by decide)) _, Kd.R_set h.row h.box (fun q hq e => by
    have : q ∈ [33, 39] := hq
    rw [e] at this
    exact absurd this (by decide)) 0 _, h.out.setCell (p := ⟨Bx, 0, none⟩) h.hx _, h.hx, h.hw⟩
theorem wrV_set (y : Wr) (j : Nat) (b : UInt8) : (wrV y).set (3 + j) (.int .u8 (b.toNat : Int)) = wrV ⟨y.vol, y.blk, y.data.set j b⟩ := by
  unfold wrV bytesV
  rw [Nat.add_comm 3 j]
  simp [List.map_set]
theorem FlIn.byte {w W : World} {Bx Bw : Nat} {x : Int} {v : Value} {ds : List Dd} {y : Wr} (h : FlIn w W Bx Bw x v ds y) (j : Nat) (b : UInt8) : FlIn w (W.setCell ⟨Bw, 3 + j, none⟩ (.int .u8 (b.toNat : Int))) Bx Bw x v ds ⟨y.vol, y.blk, y.data.set j b⟩ := by
  refine ⟨blk_far h.box (p := ⟨Bw, 3 + j, none⟩) (blk_ne h.box h.wr (by decide)) _, ?_, Kd.R_far h.row (p := ⟨Bw, 3 + j, none⟩) (fun k hk => hk) _, h.out.setCell (p := ⟨Bw, 3 + j, none⟩) h.hw _, h.hx, h.hw⟩
  have := blk_set h.wr (3 + j) (.int .u8 (b.toNat : Int))
  rw [this, ← wrV_set]
  simp
theorem FlIn.cell {w W : World} {Bx Bw : Nat} {x : Int} {v : Value} {ds : List Dd} {y : Wr} (h : FlIn w W Bx Bw x v ds y) (hl : y.data.length = 32) (j : Nat) (hj : j < 32) : W.cell? ⟨Bw, 3 + j, none⟩ = some (.int .u8 ((gt y.data j).toNat : Int)) ∧ W.frozen? ⟨Bw, 3 + j, none⟩ = false := by
  refine ⟨?_, blk_frozen h.wr (3 + j)⟩
  rw [blk_cell h.wr (3 + j), Nat.add_comm 3 j]
  simp [wrV, bytesV, gt_some y.data j (by omega)]
set_option maxRecDepth 4000 in
set_option maxHeartbeats 3200000 in
theorem flood_any (vol blocks many seed : Int) (w : World) (hb1 : 1 ≤ blocks) (hb2 : blocks ≤ 9223372036854775807) (hx : U64 seed) (n : Nat) (hn : n = (if many < 1000 then many else 1000).toNat) :
    Calls Tryd.prog 14 #[.int .i64 vol, .int .i64 blocks, .int .i64 many, .int .u64 seed] w fun e w' => ∃ v, e = .returned v ∧ kDd.R 33 w' w.heap.size (fun _ => True) v (floodD vol blocks seed n) ∧ Below w.heap.size w w' := by
  have HX := Aside0.mk hx
  have HB2 := Aside0.mk hb2
  have hbl : ¬ blocks < 1 := by omega
  clear hx hb2
  have hn1000 : n ≤ 1000 := by split at hn <;> omega
  by_cases hm : many ≤ 1000
  · replace hn : n = many.toNat := by split at hn <;> omega
    have HN := Aside0.mk hn
    clear hn
    go_enter Tryd.func14, Tryd.ntmps14
    go_wp2_with fail
    obtain ⟨W0, hW0⟩ : ∃ W0, w.alloc (.cells #[.int .u64 seed] 22) = W0 := ⟨_, rfl⟩
    have HB0 : Aside0 (Below w.heap.size w W0) := ⟨by rw [← hW0]; exact below_alloc (Below.refl _ _) _⟩
    have HX0 : Aside0 (Boxed W0 w.heap.size 22 (.int .u64 seed)) := ⟨by rw [← hW0]; exact Boxed.new w _ _⟩
    obtain ⟨Bx, hBx⟩ : ∃ Bx, Bx = w.heap.size := ⟨_, rfl⟩
    have HBX : Aside0 (w.heap.size ≤ Bx) := ⟨by omega⟩
    rw [hW0]
    rw [← hBx] at HX0 ⊢
    clear hW0 hBx
    go_loopg [20, 11, 12, 13] n (fun gk i v11 _ _ wr => ∃ k : Nat, k ≤ n ∧ Aside0 (gk = n - k) ∧ i = .int .i64 k ∧ Aside0 (Boxed wr Bx 22 (.int .u64 (floodX seed k))) ∧ Aside0 (kDd.R 33 wr w.heap.size (fun _ => True) v11 (floodD vol blocks seed k)) ∧ Aside0 (Below w.heap.size w wr))
    case atStart => exact ⟨0, Nat.zero_le _, ⟨rfl⟩, rfl, HX0, ⟨Kd.R_nil _ _ _ _ _⟩, HB0⟩
    case round =>
      obtain ⟨k, hk, HGK, rfl, HXk, HR, HB⟩ := hrel
      obtain ⟨V, rfl⟩ : ∃ V, V = wr := ⟨_, rfl⟩
      by_cases hlt : k < n
      · have hkt : (k : Int) < many := by have := HN.out; omega
        obtain ⟨x, hx⟩ : ∃ x, x = floodX seed k := ⟨_, rfl⟩
        rw [← hx] at HXk
        have HXR : Aside0 (U64 x) := ⟨by rw [hx]; exact floodX_range _ HX.out _⟩
        have HSX : Aside0 (floodX seed (k + 1) = lcgN x 33) := ⟨by rw [hx]; rfl⟩
        have HSD : Aside0 (floodD vol blocks seed (k + 1) = floodD vol blocks seed k ++ [⟨1, [floodW vol blocks x], 0⟩]) := ⟨by rw [floodD_succ, hx]⟩
        have HRA := Aside0.mk (random_any Bx x HXR.out V HXk.out)
        obtain ⟨q, hq⟩ : ∃ q, q = hiN (lcg x) := ⟨_, rfl⟩
        have hqr := hi_range (lcg x) (lcg_range x)
        rw [← hq] at HRA hqr
        have hq0 := hqr.1
        have hq1 := hqr.2
        obtain ⟨r, hr⟩ : ∃ r, r = q % blocks := ⟨_, rfl⟩
        have hr0 : 0 ≤ r := by rw [hr]; exact Int.emod_nonneg _ (by omega)
        have hr1 : r ≤ 2147483647 := by
          have h1 := emod_le q blocks hq0 (by omega)
          omega
        have HBW := Aside0.mk (built_wr0 vol r)
        have HY0 : Aside0 ((⟨vol, r, zeroB⟩ : Wr) = floodTo vol blocks x 0) := ⟨by rw [floodTo_zero, ← hq, hr]⟩
        have hbb := HB2.out
        have hbl0 : (0 : Int) ≤ blocks := by omega
        have hrem : q.tmod blocks = r := by rw [hr]; exact Int.tmod_eq_emod_of_nonneg hq0
        clear hx hq hqr hr
        go_upto_region 9 with (first | (refine HRA.out.mono ?_; rintro e w1 ⟨rfl, hw1⟩; have HW1 := Aside0.mk hw1; clear hw1) | ((with_reducible refine gate_dst (N := 30) rfl ?_); refine build_on rfl 39 _ rfl (wrV ⟨vol, r, zeroB⟩).toArray (Eq.trans (by kernel_rfl) HBW.out) ?_) | ((with_reducible refine gate_store (t := 39) (p := 12) rfl ?_); refine store_write_new rfl (.tmp 12) (.tmp 30) rfl _ rfl rfl ⟨vol, r, zeroB⟩ (by simp [zeroB]) rfl ?_))
        obtain ⟨W1, rfl⟩ : ∃ W1, W1 = w1 := ⟨_, rfl⟩
        obtain ⟨W2, hW2⟩ : ∃ W2, W1.alloc (.cells (wrV ⟨vol, r, zeroB⟩).toArray 39) = W2 := ⟨_, rfl⟩
        obtain ⟨Bw, hBw⟩ : ∃ Bw, Bw = W1.heap.size := ⟨_, rfl⟩
        have hbk : W1.heap.size = V.heap.size := by rw [HW1.out]; simp [World.setCell]
        have HF0 : Aside0 (FlIn w W2 Bx Bw (lcgN x (0 + 1)) u11 (floodD vol blocks seed k) (floodTo vol blocks x 0)) := ⟨by
          have h1 : Boxed W1 Bx 22 (.int .u64 (lcg x)) := by rw [HW1.out]; exact HXk.out.set _
          have h2 : kDd.R 33 W1 w.heap.size (fun _ => True) u11 (floodD vol blocks seed k) := by
            rw [HW1.out]
            exact Kd.R_set HR.out HXk.out (fun q hq e => by
              have : q ∈ [33, 39] := hq
              rw [e] at this
              exact absurd this (by decide)) 0 _
          have h3 : Below w.heap.size w W1 := by rw [HW1.out]; exact HB.out.setCell (p := ⟨Bx, 0, none⟩) HBX.out _
          have hn := blk_new W1 (.cells (wrV ⟨vol, r, zeroB⟩).toArray 39)
          rw [← hBw, HY0.out] at hn
          rw [← hW2, HY0.out]
          refine ⟨h1.alloc _, hn, Kd.R_alloc (Kd.R_mono (Kd.R_bound h2) (fun k hk => by have := hk.2.2.1; omega)) _, below_alloc h3 _, HBX.out, by rw [hBw]; exact h3.size⟩⟩
        rw [hW2, ← hBw]
        clear hW2 hBw hbk hbb hrem HRA HBW HW1 hq0 hq1
        go_wp2_with fail
        go_loopg [31, 13] 32 (fun gj i _ wz => ∃ j : Nat, j ≤ 32 ∧ Aside0 (gj = 32 - j) ∧ i = .int .i64 j ∧ Aside0 (FlIn w wz Bx Bw (lcgN x (j + 1)) u11 (floodD vol blocks seed k) (floodTo vol blocks x j)))
        case atStart => exact ⟨0, by omega, ⟨rfl⟩, rfl, HF0⟩
        case round =>
          obtain ⟨j, hj, HGJ, rfl, HF⟩ := hrel
          by_cases hjt : j < 32
          · have hj32 : (j : Int) < 32 := by omega
            have HRJ := Aside0.mk (random_any Bx _ (lcgN_range x HXR.out (j + 1)) wr HF.out.box)
            obtain ⟨z, hz⟩ : ∃ z, z = hiN (lcg (lcgN x (j + 1))) := ⟨_, rfl⟩
            have hzr := hi_range (lcg (lcgN x (j + 1))) (lcg_range _)
            rw [← hz] at HRJ hzr
            have hz0 := hzr.1
            have hz1 := hzr.2
            have HZV : Aside0 (z % 256 = ((floodB x j).toNat : Int)) := ⟨by
              unfold floodB
              have : hiN (lcgN x (j + 2)) = z := by rw [hz]; rfl
              rw [this, UInt8.toNat_ofNat']
              omega⟩
            have HFr := Aside0.mk (HF.out.rand (lcg (lcgN x (j + 1))))
            obtain ⟨b0, b1⟩ := HFr.out.cell (floodTo_len vol blocks x j) j hjt
            have HFb := Aside0.mk (HFr.out.byte j (floodB x j))
            have HST : Aside0 ((⟨(floodTo vol blocks x j).vol, (floodTo vol blocks x j).blk, (floodTo vol blocks x j).data.set j (floodB x j)⟩ : Wr) = floodTo vol blocks x (j + 1)) := ⟨floodTo_set vol blocks x j hjt⟩
            rw [HST.out] at HFb
            obtain ⟨Wr1, hWr1⟩ : ∃ Wr1, Wr1 = wr.setCell ⟨Bx, 0, none⟩ (.int .u64 (lcg (lcgN x (j + 1)))) := ⟨_, rfl⟩
            rw [← hWr1] at HRJ HFr b0 b1 HFb
            clear hz hzr hWr1
            go_wp2_with (first | (refine HRJ.out.mono ?_; rintro e w1 ⟨rfl, rfl⟩))
            go_roundg (32 - (j + 1))
            case measure => have := HGJ.out; omega
            case rel => exact ⟨j + 1, by omega, ⟨rfl⟩, by go_num, ⟨by rw [HZV.out]; exact HFb.out⟩⟩
          · have hj32 : ¬ (j : Int) < 32 := by omega
            have HF9 : Aside0 (FlIn w wr Bx Bw (lcgN x 33) u11 (floodD vol blocks seed k) (floodW vol blocks x)) := ⟨by rw [← floodTo_full, show (33 : Nat) = j + 1 by omega, show (32 : Nat) = j by omega]; exact HF.out⟩
            obtain ⟨y, hy⟩ : ∃ y, y = floodW vol blocks x := ⟨_, rfl⟩
            have hyl : y.data.length = 32 := by rw [hy]; simp [floodW]
            rw [← hy] at HF9 HSD
            obtain ⟨W8, hW8⟩ : ∃ W8, wr.alloc (.cells (wrV y).toArray 39) = W8 := ⟨_, rfl⟩
            obtain ⟨B8, hB8⟩ : ∃ B8, B8 = wr.heap.size := ⟨_, rfl⟩
            have hn8 := blk_new wr (.cells (wrV y).toArray 39)
            rw [hW8, ← hB8] at hn8
            have hr8 := Kd.R_alloc HF9.out.row (.cells (wrV y).toArray 39)
            rw [hW8] at hr8
            have hb8 := below_alloc HF9.out.out (.cells (wrV y).toArray 39)
            rw [hW8] at hb8
            have HR8 : Aside0 (kDd.R 33 W8 w.heap.size (fun _ => True) u11 (floodD vol blocks seed k)) := ⟨Kd.R_mono hr8 (fun _ _ => trivial)⟩
            have HX8 : Aside0 (Boxed W8 Bx 22 (.int .u64 (lcgN x 33))) := ⟨by rw [← hW8]; exact HF9.out.box.alloc _⟩
            have HB8 := Aside0.mk hb8
            have HNE : Aside0 (some B8 ≠ u11.ownBlock) := ⟨fun e => by have := Kd.R_lt HF9.out.row B8 e.symm; omega⟩
            have hC8 : kWr.C W8 (some ⟨B8, 0, none⟩) 1 [y] := C_block (d := kWr) (xs := [y]) hn8 ⟨by simp [wrV_len y hyl]; rfl, fun j p hj => by
              rcases j with _ | j
              · simp only [List.getElem?_cons_zero, Option.some.injEq] at hj
                subst hj
                have : (((wrV y).toArray.toList).drop (0 * kWr.sz)).take kWr.sz = wrV y := by
                  rw [Nat.zero_mul, List.drop_zero]
                  exact List.take_of_length_le (by rw [show (wrV y).toArray.toList = wrV y by simp, wrV_len y hyl]; exact Nat.le_refl _)
                rw [this]
                exact kWr_mkK _ _ hyl
              · simp at hj⟩ (by simp)
            have HM8 : Aside0 (kDd.M W8 w.heap.size (fun q => q = B8) ⟨1, [y], 0⟩ [.int .i64 1, .slice (some ⟨B8, 0, none⟩) 1 1, .int .i64 0]) := ⟨kDd_mk W8 _ _ ⟨1, [y], 0⟩ rfl (Nat.le_refl 1) hC8 (fun ad e _ => by
              cases e
              exact ⟨rfl, by rw [hB8]; exact HF9.out.out.size, blk_lt hn8, _, hn8⟩)⟩
            have HLEN : Aside0 (((floodD vol blocks seed k).length + 1) * 40 ≤ 140737488355328) := ⟨by rw [floodD_len]; omega⟩
            have HWR9 := Aside0.mk HF9.out.wr
            have HW8 := Aside0.mk hW8
            have HB8e := Aside0.mk hB8
            clear hy hn8 hr8 hb8 hC8 hW8 hB8
            go_wp2_with (first | ((with_reducible refine gate_dst (N := 42) rfl ?_); refine load_write rfl _ rfl ⟨Bw, 0, none⟩ rfl y hyl (wr_cells HWR9.out) ?_) | ((with_reducible refine gate_dst (N := 43) rfl ?_); refine build_write rfl (.tmp 42) rfl y hyl rfl ?_; rw [HW8.out, ← HB8e.out]) | ((with_reducible refine gate_builtin (b := .append) (xs := #[.tmp 41, .tmp 45]) rfl ?_); at_builtin; refine Kd.R_append kDd (w0 := w) w.heap.size rfl (.tmp 41) (.tmp 45) 25 33 (.agg #[.int .i64 0, .slice none 0 0, .int .i64 0]) 40 rfl Tryd.underlying25 info_dd rfl (Nat.succ_pos _) (by omega) u11 (floodD vol blocks seed k) ⟨1, [y], 0⟩ _ (fun _ => True) (fun q => q = B8) rfl rfl HM8.out (fun q hq => ⟨trivial, by rw [hq]; exact HNE.out⟩) (fun _ _ => trivial) HR8.out HB8.out HB8.out.size HLEN.out ?_; intro v9 w9 ho9 hb9 hg9 hat9; rw [← HSD.out] at ho9; have HR9 := Aside0.mk ho9; have HB9 := Aside0.mk hb9; have HX9 : Aside0 (Boxed w9 Bx 22 (.int .u64 (lcgN x 33))) := ⟨HX8.out.kept hg9 (HX8.out.not_row (by decide) (Kd.R_own HR8.out).choose_spec)⟩; clear ho9 hb9 hg9 hat9))
            go_roundg (n - (k + 1))
            case measure => have := HGK.out; omega
            case rel => exact ⟨k + 1, by omega, ⟨rfl⟩, by go_num, ⟨by rw [HSX.out]; exact HX9.out⟩, HR9, HB9⟩
      · have hkt : ¬ (k : Int) < many := by have := HN.out; omega
        have HKN : Aside0 (k = n) := ⟨by omega⟩
        go_wp2_with fail
        go_ret
        exact ⟨_, rfl, by rw [← HKN.out]; exact HR.out, HB.out⟩
  · replace hn : n = 1000 := by rw [if_neg (by omega)] at hn; exact hn
    have HN := Aside0.mk hn
    clear hn
    go_enter Tryd.func14, Tryd.ntmps14
    go_wp2_with fail
    obtain ⟨W0, hW0⟩ : ∃ W0, w.alloc (.cells #[.int .u64 seed] 22) = W0 := ⟨_, rfl⟩
    have HB0 : Aside0 (Below w.heap.size w W0) := ⟨by rw [← hW0]; exact below_alloc (Below.refl _ _) _⟩
    have HX0 : Aside0 (Boxed W0 w.heap.size 22 (.int .u64 seed)) := ⟨by rw [← hW0]; exact Boxed.new w _ _⟩
    obtain ⟨Bx, hBx⟩ : ∃ Bx, Bx = w.heap.size := ⟨_, rfl⟩
    have HBX : Aside0 (w.heap.size ≤ Bx) := ⟨by omega⟩
    rw [hW0]
    rw [← hBx] at HX0 ⊢
    clear hW0 hBx
    go_loopg [20, 11, 12, 13] n (fun gk i v11 _ _ wr => ∃ k : Nat, k ≤ n ∧ Aside0 (gk = n - k) ∧ i = .int .i64 k ∧ Aside0 (Boxed wr Bx 22 (.int .u64 (floodX seed k))) ∧ Aside0 (kDd.R 33 wr w.heap.size (fun _ => True) v11 (floodD vol blocks seed k)) ∧ Aside0 (Below w.heap.size w wr))
    case atStart => exact ⟨0, Nat.zero_le _, ⟨rfl⟩, rfl, HX0, ⟨Kd.R_nil _ _ _ _ _⟩, HB0⟩
    case round =>
      obtain ⟨k, hk, HGK, rfl, HXk, HR, HB⟩ := hrel
      obtain ⟨V, rfl⟩ : ∃ V, V = wr := ⟨_, rfl⟩
      by_cases hlt : k < n
      · have hkt : (k : Int) < (1000 : Int) := by have := HN.out; omega
        obtain ⟨x, hx⟩ : ∃ x, x = floodX seed k := ⟨_, rfl⟩
        rw [← hx] at HXk
        have HXR : Aside0 (U64 x) := ⟨by rw [hx]; exact floodX_range _ HX.out _⟩
        have HSX : Aside0 (floodX seed (k + 1) = lcgN x 33) := ⟨by rw [hx]; rfl⟩
        have HSD : Aside0 (floodD vol blocks seed (k + 1) = floodD vol blocks seed k ++ [⟨1, [floodW vol blocks x], 0⟩]) := ⟨by rw [floodD_succ, hx]⟩
        have HRA := Aside0.mk (random_any Bx x HXR.out V HXk.out)
        obtain ⟨q, hq⟩ : ∃ q, q = hiN (lcg x) := ⟨_, rfl⟩
        have hqr := hi_range (lcg x) (lcg_range x)
        rw [← hq] at HRA hqr
        have hq0 := hqr.1
        have hq1 := hqr.2
        obtain ⟨r, hr⟩ : ∃ r, r = q % blocks := ⟨_, rfl⟩
        have hr0 : 0 ≤ r := by rw [hr]; exact Int.emod_nonneg _ (by omega)
        have hr1 : r ≤ 2147483647 := by
          have h1 := emod_le q blocks hq0 (by omega)
          omega
        have HBW := Aside0.mk (built_wr0 vol r)
        have HY0 : Aside0 ((⟨vol, r, zeroB⟩ : Wr) = floodTo vol blocks x 0) := ⟨by rw [floodTo_zero, ← hq, hr]⟩
        have hbb := HB2.out
        have hbl0 : (0 : Int) ≤ blocks := by omega
        have hrem : q.tmod blocks = r := by rw [hr]; exact Int.tmod_eq_emod_of_nonneg hq0
        clear hx hq hqr hr
        go_upto_region 9 with (first | (refine HRA.out.mono ?_; rintro e w1 ⟨rfl, hw1⟩; have HW1 := Aside0.mk hw1; clear hw1) | ((with_reducible refine gate_dst (N := 30) rfl ?_); refine build_on rfl 39 _ rfl (wrV ⟨vol, r, zeroB⟩).toArray (Eq.trans (by kernel_rfl) HBW.out) ?_) | ((with_reducible refine gate_store (t := 39) (p := 12) rfl ?_); refine store_write_new rfl (.tmp 12) (.tmp 30) rfl _ rfl rfl ⟨vol, r, zeroB⟩ (by simp [zeroB]) rfl ?_))
        obtain ⟨W1, rfl⟩ : ∃ W1, W1 = w1 := ⟨_, rfl⟩
        obtain ⟨W2, hW2⟩ : ∃ W2, W1.alloc (.cells (wrV ⟨vol, r, zeroB⟩).toArray 39) = W2 := ⟨_, rfl⟩
        obtain ⟨Bw, hBw⟩ : ∃ Bw, Bw = W1.heap.size := ⟨_, rfl⟩
        have hbk : W1.heap.size = V.heap.size := by rw [HW1.out]; simp [World.setCell]
        have HF0 : Aside0 (FlIn w W2 Bx Bw (lcgN x (0 + 1)) u11 (floodD vol blocks seed k) (floodTo vol blocks x 0)) := ⟨by
          have h1 : Boxed W1 Bx 22 (.int .u64 (lcg x)) := by rw [HW1.out]; exact HXk.out.set _
          have h2 : kDd.R 33 W1 w.heap.size (fun _ => True) u11 (floodD vol blocks seed k) := by
            rw [HW1.out]
            exact Kd.R_set HR.out HXk.out (fun q hq e => by
              have : q ∈ [33, 39] := hq
              rw [e] at this
              exact absurd this (by decide)) 0 _
          have h3 : Below w.heap.size w W1 := by rw [HW1.out]; exact HB.out.setCell (p := ⟨Bx, 0, none⟩) HBX.out _
          have hn := blk_new W1 (.cells (wrV ⟨vol, r, zeroB⟩).toArray 39)
          rw [← hBw, HY0.out] at hn
          rw [← hW2, HY0.out]
          refine ⟨h1.alloc _, hn, Kd.R_alloc (Kd.R_mono (Kd.R_bound h2) (fun k hk => by have := hk.2.2.1; omega)) _, below_alloc h3 _, HBX.out, by rw [hBw]; exact h3.size⟩⟩
        rw [hW2, ← hBw]
        clear hW2 hBw hbk hbb hrem HRA HBW HW1 hq0 hq1
        go_wp2_with fail
        go_loopg [31, 13] 32 (fun gj i _ wz => ∃ j : Nat, j ≤ 32 ∧ Aside0 (gj = 32 - j) ∧ i = .int .i64 j ∧ Aside0 (FlIn w wz Bx Bw (lcgN x (j + 1)) u11 (floodD vol blocks seed k) (floodTo vol blocks x j)))
        case atStart => exact ⟨0, by omega, ⟨rfl⟩, rfl, HF0⟩
        case round =>
          obtain ⟨j, hj, HGJ, rfl, HF⟩ := hrel
          by_cases hjt : j < 32
          · have hj32 : (j : Int) < 32 := by omega
            have HRJ := Aside0.mk (random_any Bx _ (lcgN_range x HXR.out (j + 1)) wr HF.out.box)
            obtain ⟨z, hz⟩ : ∃ z, z = hiN (lcg (lcgN x (j + 1))) := ⟨_, rfl⟩
            have hzr := hi_range (lcg (lcgN x (j + 1))) (lcg_range _)
            rw [← hz] at HRJ hzr
            have hz0 := hzr.1
            have hz1 := hzr.2
            have HZV : Aside0 (z % 256 = ((floodB x j).toNat : Int)) := ⟨by
              unfold floodB
              have : hiN (lcgN x (j + 2)) = z := by rw [hz]; rfl
              rw [this, UInt8.toNat_ofNat']
              omega⟩
            have HFr := Aside0.mk (HF.out.rand (lcg (lcgN x (j + 1))))
            obtain ⟨b0, b1⟩ := HFr.out.cell (floodTo_len vol blocks x j) j hjt
            have HFb := Aside0.mk (HFr.out.byte j (floodB x j))
            have HST : Aside0 ((⟨(floodTo vol blocks x j).vol, (floodTo vol blocks x j).blk, (floodTo vol blocks x j).data.set j (floodB x j)⟩ : Wr) = floodTo vol blocks x (j + 1)) := ⟨floodTo_set vol blocks x j hjt⟩
            rw [HST.out] at HFb
            obtain ⟨Wr1, hWr1⟩ : ∃ Wr1, Wr1 = wr.setCell ⟨Bx, 0, none⟩ (.int .u64 (lcg (lcgN x (j + 1)))) := ⟨_, rfl⟩
            rw [← hWr1] at HRJ HFr b0 b1 HFb
            clear hz hzr hWr1
            go_wp2_with (first | (refine HRJ.out.mono ?_; rintro e w1 ⟨rfl, rfl⟩))
            go_roundg (32 - (j + 1))
            case measure => have := HGJ.out; omega
            case rel => exact ⟨j + 1, by omega, ⟨rfl⟩, by go_num, ⟨by rw [HZV.out]; exact HFb.out⟩⟩
          · have hj32 : ¬ (j : Int) < 32 := by omega
            have HF9 : Aside0 (FlIn w wr Bx Bw (lcgN x 33) u11 (floodD vol blocks seed k) (floodW vol blocks x)) := ⟨by rw [← floodTo_full, show (33 : Nat) = j + 1 by omega, show (32 : Nat) = j by omega]; exact HF.out⟩
            obtain ⟨y, hy⟩ : ∃ y, y = floodW vol blocks x := ⟨_, rfl⟩
            have hyl : y.data.length = 32 := by rw [hy]; simp [floodW]
            rw [← hy] at HF9 HSD
            obtain ⟨W8, hW8⟩ : ∃ W8, wr.alloc (.cells (wrV y).toArray 39) = W8 := ⟨_, rfl⟩
            obtain ⟨B8, hB8⟩ : ∃ B8, B8 = wr.heap.size := ⟨_, rfl⟩
            have hn8 := blk_new wr (.cells (wrV y).toArray 39)
            rw [hW8, ← hB8] at hn8
            have hr8 := Kd.R_alloc HF9.out.row (.cells (wrV y).toArray 39)
            rw [hW8] at hr8
            have hb8 := below_alloc HF9.out.out (.cells (wrV y).toArray 39)
            rw [hW8] at hb8
            have HR8 : Aside0 (kDd.R 33 W8 w.heap.size (fun _ => True) u11 (floodD vol blocks seed k)) := ⟨Kd.R_mono hr8 (fun _ _ => trivial)⟩
            have HX8 : Aside0 (Boxed W8 Bx 22 (.int .u64 (lcgN x 33))) := ⟨by rw [← hW8]; exact HF9.out.box.alloc _⟩
            have HB8 := Aside0.mk hb8
            have HNE : Aside0 (some B8 ≠ u11.ownBlock) := ⟨fun e => by have := Kd.R_lt HF9.out.row B8 e.symm; omega⟩
            have hC8 : kWr.C W8 (some ⟨B8, 0, none⟩) 1 [y] := C_block (d := kWr) (xs := [y]) hn8 ⟨by simp [wrV_len y hyl]; rfl, fun j p hj => by
              rcases j with _ | j
              · simp only [List.getElem?_cons_zero, Option.some.injEq] at hj
                subst hj
                have : (((wrV y).toArray.toList).drop (0 * kWr.sz)).take kWr.sz = wrV y := by
                  rw [Nat.zero_mul, List.drop_zero]
                  exact List.take_of_length_le (by rw [show (wrV y).toArray.toList = wrV y by simp, wrV_len y hyl]; exact Nat.le_refl _)
                rw [this]
                exact kWr_mkK _ _ hyl
              · simp at hj⟩ (by simp)
            have HM8 : Aside0 (kDd.M W8 w.heap.size (fun q => q = B8) ⟨1, [y], 0⟩ [.int .i64 1, .slice (some ⟨B8, 0, none⟩) 1 1, .int .i64 0]) := ⟨kDd_mk W8 _ _ ⟨1, [y], 0⟩ rfl (Nat.le_refl 1) hC8 (fun ad e _ => by
              cases e
              exact ⟨rfl, by rw [hB8]; exact HF9.out.out.size, blk_lt hn8, _, hn8⟩)⟩
            have HLEN : Aside0 (((floodD vol blocks seed k).length + 1) * 40 ≤ 140737488355328) := ⟨by rw [floodD_len]; omega⟩
            have HWR9 := Aside0.mk HF9.out.wr
            have HW8 := Aside0.mk hW8
            have HB8e := Aside0.mk hB8
            clear hy hn8 hr8 hb8 hC8 hW8 hB8
            go_wp2_with (first | ((with_reducible refine gate_dst (N := 42) rfl ?_); refine load_write rfl _ rfl ⟨Bw, 0, none⟩ rfl y hyl (wr_cells HWR9.out) ?_) | ((with_reducible refine gate_dst (N := 43) rfl ?_); refine build_write rfl (.tmp 42) rfl y hyl rfl ?_; rw [HW8.out, ← HB8e.out]) | ((with_reducible refine gate_builtin (b := .append) (xs := #[.tmp 41, .tmp 45]) rfl ?_); at_builtin; refine Kd.R_append kDd (w0 := w) w.heap.size rfl (.tmp 41) (.tmp 45) 25 33 (.agg #[.int .i64 0, .slice none 0 0, .int .i64 0]) 40 rfl Tryd.underlying25 info_dd rfl (Nat.succ_pos _) (by omega) u11 (floodD vol blocks seed k) ⟨1, [y], 0⟩ _ (fun _ => True) (fun q => q = B8) rfl rfl HM8.out (fun q hq => ⟨trivial, by rw [hq]; exact HNE.out⟩) (fun _ _ => trivial) HR8.out HB8.out HB8.out.size HLEN.out ?_; intro v9 w9 ho9 hb9 hg9 hat9; rw [← HSD.out] at ho9; have HR9 := Aside0.mk ho9; have HB9 := Aside0.mk hb9; have HX9 : Aside0 (Boxed w9 Bx 22 (.int .u64 (lcgN x 33))) := ⟨HX8.out.kept hg9 (HX8.out.not_row (by decide) (Kd.R_own HR8.out).choose_spec)⟩; clear ho9 hb9 hg9 hat9))
            go_roundg (n - (k + 1))
            case measure => have := HGK.out; omega
            case rel => exact ⟨k + 1, by omega, ⟨rfl⟩, by go_num, ⟨by rw [HSX.out]; exact HX9.out⟩, HR9, HB9⟩
      · have hkt : ¬ (k : Int) < (1000 : Int) := by have := HN.out; omega
        have HKN : Aside0 (k = n) := ⟨by omega⟩
        go_wp2_with fail
        go_ret
        exact ⟨_, rfl, by rw [← HKN.out]; exact HR.out, HB.out⟩
end Go.Proofs.YtdobjbdkfammbaaDoor
namespace Go.Proofs.YtdobjbdkfammbaaDoor
open Go.RowKit Go.Shelf Go.Proofs.YtdobjbdkfammbaaDoorW.PrintWords Go.Proofs.YtdobjbdkfammbaaDoorW.PrintLast Go.Proofs.YtdobjbdkfammbaaDoorW.PrintMore
set_option linter.unusedVariables false
set_option linter.unusedSimpArgs false

/-- The document's deeds of a flood. -/
def floodR (vol blocks x : Int) (n : Nat) : List Rd := (List.range n).map (fun k => ⟨[floodW vol blocks (floodX x k)], 0⟩)
theorem floodR_succ (vol blocks x : Int) (n : Nat) : floodR vol blocks x (n + 1) = floodR vol blocks x n ++ [⟨[floodW vol blocks (floodX x n)], 0⟩] := by
  unfold floodR
  rw [List.range_succ, List.map_append]
  rfl
theorem floodR_len (vol blocks x : Int) (n : Nat) : (floodR vol blocks x n).length = n := by simp [floodR]
theorem info_rd : (Tryd.prog.info? 73).map (fun i => (i.zero, i.size, i.bytes)) = some (some (.agg #[.slice none 0 0, .int .i64 0]), 2, 32) := by kernel_rfl
/-- What stands while a write is filled. -/
structure RlIn (w W : World) (Bw : Nat) (v : Value) (ds : List Rd) (y : Wr) : Prop where
  wr : W.heap[Bw]? = some (.cells (wrV y).toArray 39 (0, 0))
  row : kRd.R 73 W w.heap.size (fun k => k ≠ Bw) v ds
  out : Below w.heap.size w W
  hw : w.heap.size ≤ Bw
theorem RlIn.byte {w W : World} {Bw : Nat} {v : Value} {ds : List Rd} {y : Wr} (h : RlIn w W Bw v ds y) (j : Nat) (b : UInt8) : RlIn w (W.setCell ⟨Bw, 3 + j, none⟩ (.int .u8 (b.toNat : Int))) Bw v ds ⟨y.vol, y.blk, y.data.set j b⟩ := by
  refine ⟨?_, Kd.R_far h.row (p := ⟨Bw, 3 + j, none⟩) (fun k hk => hk) _, h.out.setCell (p := ⟨Bw, 3 + j, none⟩) h.hw _, h.hw⟩
  have := blk_set h.wr (3 + j) (.int .u8 (b.toNat : Int))
  rw [this, ← wrV_set]
  simp
theorem RlIn.cell {w W : World} {Bw : Nat} {v : Value} {ds : List Rd} {y : Wr} (h : RlIn w W Bw v ds y) (hl : y.data.length = 32) (j : Nat) (hj : j < 32) : W.cell? ⟨Bw, 3 + j, none⟩ = some (.int .u8 ((gt y.data j).toNat : Int)) ∧ W.frozen? ⟨Bw, 3 + j, none⟩ = false := by
  refine ⟨?_, blk_frozen h.wr (3 + j)⟩
  rw [blk_cell h.wr (3 + j), Nat.add_comm 3 j]
  simp [wrV, bytesV, gt_some y.data j (by omega)]
theorem C_one_wr {W : World} {B : Nat} {y : Wr} (hn : W.heap[B]? = some (.cells (wrV y).toArray 39 (0, 0))) (hyl : y.data.length = 32) : kWr.C W (some ⟨B, 0, none⟩) 1 [y] := C_block (d := kWr) (xs := [y]) hn ⟨by simp [wrV_len y hyl]; rfl, fun j p hj => by
  rcases j with _ | j
  · simp only [List.getElem?_cons_zero, Option.some.injEq] at hj
    subst hj
    have : (((wrV y).toArray.toList).drop (0 * kWr.sz)).take kWr.sz = wrV y := by
      rw [Nat.zero_mul, List.drop_zero]
      exact List.take_of_length_le (by rw [show (wrV y).toArray.toList = wrV y by simp, wrV_len y hyl]; exact Nat.le_refl _)
    rw [this]
    exact kWr_mkK _ _ hyl
  · simp at hj⟩ (by simp)
theorem rflood_none (vol blocks many seed : Int) (w : World) (hb1 : blocks < 1) :
    Calls Tryd.prog 15 #[.int .i64 vol, .int .i64 blocks, .int .i64 many, .int .u64 seed] w fun e w' => ∃ A c, e = .returned (.slice A 0 c) ∧ Below w.heap.size w w' := by
  go_enter Tryd.func15, Tryd.ntmps15
  go_wp2_with fail
  go_ret
  exact ⟨_, _, rfl, below_alloc (Below.refl _ _) _⟩
set_option maxRecDepth 4000 in
set_option maxHeartbeats 3200000 in
theorem rflood_any (vol blocks many seed : Int) (w : World) (hb1 : 1 ≤ blocks) (hb2 : blocks ≤ 9223372036854775807) (hx : U64 seed) (n : Nat) (hn : n = (if many < 1000 then many else 1000).toNat) :
    Calls Tryd.prog 15 #[.int .i64 vol, .int .i64 blocks, .int .i64 many, .int .u64 seed] w fun e w' => ∃ v, e = .returned v ∧ kRd.R 73 w' w.heap.size (fun _ => True) v (floodR vol blocks seed n) ∧ Below w.heap.size w w' := by
  have HX := Aside0.mk hx
  have HB2 := Aside0.mk hb2
  have hbl : ¬ blocks < 1 := by omega
  have hbl0 : (0 : Int) ≤ blocks := by omega
  have hn1000 : n ≤ 1000 := by split at hn <;> omega
  have HN : Aside0 (∀ k : Nat, k < n ↔ ((k : Int) < many ∧ (k : Int) < 1000)) := ⟨fun k => by split at hn <;> omega⟩
  have HB := Aside0.mk (Below.refl w.heap.size w)
  clear hx hb2 hn
  go_enter Tryd.func15, Tryd.ntmps15
  go_wp2_with ((with_reducible refine gate_dst (N := 14) rfl ?_); refine Kd.R_lit kRd (w0 := w) w.heap.size 73 rfl (N := 14) rfl (xs := []) (inner := []) (ok := fun _ => True) (okp := fun _ => False) ?hr (reps_nil _ _) (fun _ hk => hk.elim) trivial HB.out (Nat.le_refl _) (by simp) ?_; (case hr => first | (go_simp; done) | (go_simp; rfl)); intro v1 w1 ho hb hg hat; have HO := Aside0.mk ho; have HB1 := Aside0.mk hb; clear ho hb hg hat)
  go_loopg [11, 10, 9, 12, 13] n (fun gk i v10 v9 _ _ wr => ∃ k : Nat, k ≤ n ∧ Aside0 (gk = n - k) ∧ i = .int .i64 k ∧ v10 = .int .u64 (floodX seed k) ∧ Aside0 (kRd.R 73 wr w.heap.size (fun _ => True) v9 (floodR vol blocks seed k)) ∧ Aside0 (Below w.heap.size w wr))
  case atStart => exact ⟨0, Nat.zero_le _, ⟨rfl⟩, rfl, rfl, HO, HB1⟩
  case round =>
    obtain ⟨k, hk, HGK, rfl, rfl, HR, HB⟩ := hrel
    obtain ⟨V, rfl⟩ : ∃ V, V = wr := ⟨_, rfl⟩
    by_cases hlt : k < n
    · obtain ⟨hk1, hk2⟩ := (HN.out k).1 hlt
      have hx0 := floodX_range seed HX.out k
      obtain ⟨x, hx⟩ : ∃ x, x = floodX seed k := ⟨_, rfl⟩
      rw [← hx] at hx0 ⊢
      have HSX : Aside0 (floodX seed (k + 1) = lcgN x 33) := ⟨by rw [hx]; rfl⟩
      have HSD : Aside0 (floodR vol blocks seed (k + 1) = floodR vol blocks seed k ++ [⟨[floodW vol blocks x], 0⟩]) := ⟨by rw [floodR_succ, hx]⟩
      obtain ⟨x1, hx1⟩ : ∃ x1, x1 = lcg x := ⟨_, rfl⟩
      have hl1 : IntKind.u64.wrap (IntKind.u64.wrap (x * 6364136223846793005) + 1442695040888963407) = x1 := by rw [hx1]; rfl
      obtain ⟨q, hq⟩ : ∃ q, q = hiN x1 := ⟨_, rfl⟩
      have hqr := hi_range x1 (by rw [hx1]; exact lcg_range x)
      have hx1r : 0 ≤ x1 ∧ x1 ≤ 18446744073709551615 := by rw [hx1]; exact lcg_range x
      rw [← hq] at hqr
      have hqd : x1 / 8589934592 = q := by rw [hq]; rfl
      have hq0 := hqr.1
      have hq1 := hqr.2
      have hx10 := hx1r.1
      have hx11 := hx1r.2
      obtain ⟨r, hr⟩ : ∃ r, r = q % blocks := ⟨_, rfl⟩
      have hr0 : 0 ≤ r := by rw [hr]; exact Int.emod_nonneg _ (by omega)
      have hr1 : r ≤ 2147483647 := by
        have h1 := emod_le q blocks hq0 (by omega)
        omega
      have HBW := Aside0.mk (built_wr0 vol r)
      have HY0 : Aside0 ((⟨vol, r, zeroB⟩ : Wr) = floodTo vol blocks x 0) := ⟨by rw [floodTo_zero, ← hx1, ← hq, hr]⟩
      have hbb := HB2.out
      have hrem : q.tmod blocks = r := by rw [hr]; exact Int.tmod_eq_emod_of_nonneg hq0
      have HX1 : Aside0 (x1 = lcgN x 1) := ⟨hx1⟩
      clear hx hq hqr hr hx0 hx1r hx1
      go_upto_region 10 with (first | ((with_reducible refine gate_dst (N := 39) rfl ?_); refine build_on rfl 39 _ rfl (wrV ⟨vol, r, zeroB⟩).toArray (Eq.trans (by kernel_rfl) HBW.out) ?_) | ((with_reducible refine gate_store (t := 39) (p := 12) rfl ?_); refine store_write_new rfl (.tmp 12) (.tmp 39) rfl _ rfl rfl ⟨vol, r, zeroB⟩ (by simp [zeroB]) rfl ?_))
      obtain ⟨W2, hW2⟩ : ∃ W2, V.alloc (.cells (wrV ⟨vol, r, zeroB⟩).toArray 39) = W2 := ⟨_, rfl⟩
      obtain ⟨Bw, hBw⟩ : ∃ Bw, Bw = V.heap.size := ⟨_, rfl⟩
      have HF0 : Aside0 (RlIn w W2 Bw u9 (floodR vol blocks seed k) (floodTo vol blocks x 0)) := ⟨by
        have hn := blk_new V (.cells (wrV ⟨vol, r, zeroB⟩).toArray 39)
        rw [← hBw, HY0.out] at hn
        rw [← hW2, HY0.out]
        refine ⟨hn, Kd.R_alloc (Kd.R_mono (Kd.R_bound HR.out) (fun k hk => by have := hk.2.2.1; omega)) _, below_alloc HB.out _, by rw [hBw]; exact HB.out.size⟩⟩
      have hx1 := HX1.out
      rw [hW2, ← hBw]
      clear hW2 hBw hl1 hqd hrem HBW hq0 hq1
      go_wp2_with fail
      go_loopg [13, 10] 32 (fun gj i v10 wz => ∃ j : Nat, j ≤ 32 ∧ Aside0 (gj = 32 - j) ∧ i = .int .i64 j ∧ v10 = .int .u64 (lcgN x (j + 1)) ∧ Aside0 (RlIn w wz Bw u9 (floodR vol blocks seed k) (floodTo vol blocks x j)))
      case atStart => exact ⟨0, by omega, ⟨rfl⟩, rfl, rfl, HF0⟩
      case round =>
        obtain ⟨j, hj, HGJ, rfl, rfl, HF⟩ := hrel
        clear hx1 hx10 hx11
        by_cases hjt : j < 32
        · have hj32 : (j : Int) < 32 := by omega
          obtain ⟨y0, hy0⟩ : ∃ y0, y0 = lcgN x (j + 1) := ⟨_, rfl⟩
          obtain ⟨y1, hy1⟩ : ∃ y1, y1 = lcgN x (j + 2) := ⟨_, rfl⟩
          have hl1 : IntKind.u64.wrap (IntKind.u64.wrap (y0 * 6364136223846793005) + 1442695040888963407) = y1 := by rw [hy1, hy0]; rfl
          obtain ⟨z, hz⟩ : ∃ z, z = hiN y1 := ⟨_, rfl⟩
          have hy1r : 0 ≤ y1 ∧ y1 ≤ 18446744073709551615 := by rw [hy1]; exact lcg_range _
          have hzr := hi_range y1 hy1r
          rw [← hz] at hzr
          have hqd : y1 / 8589934592 = z := by rw [hz]; rfl
          have hz0 := hzr.1
          have hz1 := hzr.2
          have hy10 := hy1r.1
          have hy11 := hy1r.2
          have hzm : z.tmod 256 = ((floodB x j).toNat : Int) := by
            rw [Int.tmod_eq_emod_of_nonneg hz0]
            unfold floodB
            rw [← hy1, ← hz, UInt8.toNat_ofNat']
            omega
          have hzm2 : z % 256 = ((floodB x j).toNat : Int) := by rw [← hzm, Int.tmod_eq_emod_of_nonneg hz0]
          have hfb := (floodB x j).toNat_lt
          obtain ⟨b0, b1⟩ := HF.out.cell (floodTo_len vol blocks x j) j hjt
          have HFb := Aside0.mk (HF.out.byte j (floodB x j))
          have HST : Aside0 ((⟨(floodTo vol blocks x j).vol, (floodTo vol blocks x j).blk, (floodTo vol blocks x j).data.set j (floodB x j)⟩ : Wr) = floodTo vol blocks x (j + 1)) := ⟨floodTo_set vol blocks x j hjt⟩
          rw [HST.out] at HFb
          obtain ⟨fb, hfbe⟩ : ∃ fb, fb = floodB x j := ⟨_, rfl⟩
          rw [← hfbe] at hzm hzm2 hfb HFb
          rw [← hy0]
          have HY1 := Aside0.mk hy1
          clear hz hzr hy0 hy1 hy1r hfbe
          go_wp2_with fail
          go_roundg (32 - (j + 1))
          case measure => have := HGJ.out; omega
          case rel => exact ⟨j + 1, by omega, ⟨rfl⟩, by go_num, by rw [HY1.out], HFb⟩
        · have hj32 : ¬ (j : Int) < 32 := by omega
          have HF9 : Aside0 (RlIn w wr Bw u9 (floodR vol blocks seed k) (floodW vol blocks x)) := ⟨by rw [← floodTo_full, show (32 : Nat) = j by omega]; exact HF.out⟩
          have HJ : Aside0 (lcgN x (j + 1) = floodX seed (k + 1)) := ⟨by rw [HSX.out, show j = 32 by omega]⟩
          obtain ⟨y, hy⟩ : ∃ y, y = floodW vol blocks x := ⟨_, rfl⟩
          have hyl : y.data.length = 32 := by rw [hy]; simp [floodW]
          rw [← hy] at HF9 HSD
          obtain ⟨W8, hW8⟩ : ∃ W8, wr.alloc (.cells (wrV y).toArray 39) = W8 := ⟨_, rfl⟩
          obtain ⟨B8, hB8⟩ : ∃ B8, B8 = wr.heap.size := ⟨_, rfl⟩
          have hn8 := blk_new wr (.cells (wrV y).toArray 39)
          rw [hW8, ← hB8] at hn8
          have hr8 := Kd.R_alloc HF9.out.row (.cells (wrV y).toArray 39)
          rw [hW8] at hr8
          have hb8 := below_alloc HF9.out.out (.cells (wrV y).toArray 39)
          rw [hW8] at hb8
          have HR8 : Aside0 (kRd.R 73 W8 w.heap.size (fun _ => True) u9 (floodR vol blocks seed k)) := ⟨Kd.R_mono hr8 (fun _ _ => trivial)⟩
          have HB8 := Aside0.mk hb8
          have HNE : Aside0 (some B8 ≠ u9.ownBlock) := ⟨fun e => by have := Kd.R_lt HF9.out.row B8 e.symm; omega⟩
          have hC8 : kWr.C W8 (some ⟨B8, 0, none⟩) 1 [y] := C_one_wr hn8 hyl
          have HM8 : Aside0 (kRd.M W8 w.heap.size (fun q => q = B8) ⟨[y], 0⟩ [.slice (some ⟨B8, 0, none⟩) 1 1, .int .i64 0]) := ⟨kRd_mk W8 _ _ ⟨[y], 0⟩ rfl (Nat.le_refl 1) hC8 (fun ad e _ => by
            cases e
            exact ⟨rfl, by rw [hB8]; exact HF9.out.out.size, blk_lt hn8, _, hn8⟩)⟩
          have HLEN : Aside0 (((floodR vol blocks seed k).length + 1) * 32 ≤ 140737488355328) := ⟨by rw [floodR_len]; omega⟩
          have HWR9 := Aside0.mk HF9.out.wr
          have HW8 := Aside0.mk hW8
          have HB8e := Aside0.mk hB8
          clear hy hn8 hr8 hb8 hC8 hW8 hB8
          go_wp2_with (first | ((with_reducible refine gate_dst (N := 55) rfl ?_); refine load_write rfl _ rfl ⟨Bw, 0, none⟩ rfl y hyl (wr_cells HWR9.out) ?_) | ((with_reducible refine gate_dst (N := 56) rfl ?_); refine build_write rfl (.tmp 55) rfl y hyl rfl ?_; rw [HW8.out, ← HB8e.out]) | ((with_reducible refine gate_builtin (b := .append) (xs := #[.tmp 54, .tmp 58]) rfl ?_); at_builtin; refine Kd.R_append kRd (w0 := w) w.heap.size rfl (.tmp 54) (.tmp 58) 27 73 (.agg #[.slice none 0 0, .int .i64 0]) 32 rfl Tryd.underlying27 info_rd rfl (Nat.succ_pos _) (by omega) u9 (floodR vol blocks seed k) ⟨[y], 0⟩ _ (fun _ => True) (fun q => q = B8) rfl rfl HM8.out (fun q hq => ⟨trivial, by rw [hq]; exact HNE.out⟩) (fun _ _ => trivial) HR8.out HB8.out HB8.out.size HLEN.out ?_; intro v9 w9 ho9 hb9 hg9 hat9; rw [← HSD.out] at ho9; have HR9 := Aside0.mk ho9; have HB9 := Aside0.mk hb9; clear ho9 hb9 hg9 hat9))
          go_roundg (n - (k + 1))
          case measure => have := HGK.out; omega
          case rel => exact ⟨k + 1, by omega, ⟨rfl⟩, by go_num, by rw [HJ.out], HR9, HB9⟩
    · have HKN : Aside0 (k = n) := ⟨by omega⟩
      have hor : ¬ (k : Int) < many ∨ ((k : Int) < many ∧ ¬ (k : Int) < 1000) := by have := HN.out k; omega
      rcases hor with hk1 | ⟨hk1, hk2⟩
      · go_wp2_with fail
        go_ret
        exact ⟨_, rfl, by rw [← HKN.out]; exact HR.out, HB.out⟩
      · go_wp2_with fail
        go_ret
        exact ⟨_, rfl, by rw [← HKN.out]; exact HR.out, HB.out⟩
end Go.Proofs.YtdobjbdkfammbaaDoor
