/-
  Chapter 49, erewhileref49.Make, walked: the disk of files is as the document says.
-/
import Derived.Test.YtdobjbdkfammbaaDoorGh
/-
  Chapter 49, erewhileref49.Make: its boxes and rows, plain.
-/
namespace Go.Proofs.YtdobjbdkfammbaaDoor
open Go.RowKit Go.Proofs.YtdobjbdkfammbaaDoorW.PrintWords Go.Proofs.YtdobjbdkfammbaaDoorW.PrintLast Go.Proofs.YtdobjbdkfammbaaDoorW.PrintMore
set_option linter.unusedVariables false
set_option linter.unusedSimpArgs false

/-- A block, its first bytes those of s. -/
def headS (s : List UInt8) : List UInt8 := s ++ List.replicate (32 - s.length) 0
theorem headS_len (s : List UInt8) (h : s.length ≤ 32) : (headS s).length = 32 := by simp [headS]; omega
theorem headS_nil : headS [] = zeroB := rfl
theorem headS_set (s : List UInt8) (k : Nat) (hk : k < s.length) (h : s.length ≤ 32) : (headS (s.take k)).set k (gt s k) = headS (s.take (k + 1)) := by
  have hl : (s.take k).length = k := by rw [List.length_take]; omega
  have hl2 : (s.take (k + 1)).length = k + 1 := by rw [List.length_take]; omega
  unfold headS
  rw [hl, hl2, List.set_append_right _ _ (by omega), hl, Nat.sub_self, show 32 - k = (32 - (k + 1)) + 1 by omega, List.replicate_succ, List.set_cons_zero, List.take_add_one, gt_some s k hk]
  simp
theorem set_two (b : List UInt8) (j : Nat) (x y : UInt8) (h : j + 2 ≤ b.length) : (b.set j x).set (j + 1) y = putB b j [x, y] := by
  unfold putB
  apply List.ext_getElem
  · simp; omega
  · intro i h1 h2
    simp only [List.length_set] at h1
    rw [List.getElem_set, List.getElem_set]
    by_cases e1 : j + 1 = i
    · subst e1
      rw [if_pos rfl, List.getElem_append_left (by simp; omega), List.getElem_append_right (by simp; omega)]
      simp [show j + 1 - min j b.length = 1 by omega]
    · rw [if_neg e1]
      by_cases e2 : j = i
      · subst e2
        rw [if_pos rfl, List.getElem_append_left (by simp; omega), List.getElem_append_right (by simp; omega)]
        simp [show j - min j b.length = 0 by omega]
      · rw [if_neg e2]
        by_cases e3 : i < j
        · rw [List.getElem_append_left (by simp; omega), List.getElem_append_left (by simp; omega), List.getElem_take]
        · rw [List.getElem_append_right (by simp; omega), List.getElem_drop]
          congr 1
          simp
          omega
theorem headS_put (s : List UInt8) (h : s.length ≤ 12) : headS s = putB zeroB 0 s := by
  rw [putB_zero s h]
  unfold headS
  rw [List.append_assoc, List.replicate_append_replicate, show 12 - s.length + 20 = 32 - s.length by omega]
/-- A file's entry, byte by byte. -/
theorem entry_sets (x : File) (a : Nat) (hn : x.name.data.toList.length ≤ 12) :
    (let b1 := ((headS x.name.data.toList).set 12 (hi2 x.data.length)).set 13 (lo2 x.data.length); if 0 < x.data.length then (b1.set 14 (hi2 a)).set 15 (lo2 a) else b1) = entryB x a := by
  have h32 : (headS x.name.data.toList).length = 32 := headS_len _ (by omega)
  rw [← entry_made x a hn]
  simp only []
  rw [set_two _ 12 _ _ (by omega), headS_put _ hn]
  have h2 : (putB (putB zeroB 0 x.name.data.toList) 12 [hi2 x.data.length, lo2 x.data.length]).length = 32 := putB_len (putB_len rfl (by omega)) (by simp)
  rw [set_two _ 14 _ _ (by omega)]
theorem pad_head (s : List UInt8) (h : s.length ≤ 32) : pad s = headS s := pad_eq s h
/-- One's own row may be given any 'ok' that its own block meets. -/
theorem kBlock_ok {e base : Nat} {w : World} {ok ok' : Nat → Prop} {v : Value} {xs : List (List UInt8)} (h : kBlock.R e w base ok v xs) (hv : ∀ k, v.ownBlock = some k → ok' k) : kBlock.R e w base ok' v xs :=
  ⟨hv, h.2.imp_ (fun _ _ hp => hp)⟩
end Go.Proofs.YtdobjbdkfammbaaDoor
namespace Go.Proofs.YtdobjbdkfammbaaDoor
open Go.RowKit Go.Proofs.YtdobjbdkfammbaaDoorW.PrintWords Go.Proofs.YtdobjbdkfammbaaDoorW.PrintLast Go.Proofs.YtdobjbdkfammbaaDoorW.PrintMore
set_option linter.unusedVariables false
set_option linter.unusedSimpArgs false

/-- A block's box that is being filled. -/
structure BoxAt (w0 wz : World) (b : List UInt8) : Prop where
  out : Below w0.heap.size w0 wz
  box : wz.heap[w0.heap.size]? = some (.cells (bytesV b).toArray 37 (0, 0))
theorem bytesV_set (b : List UInt8) (j : Nat) (x : UInt8) : (bytesV b).set j (.int .u8 (x.toNat : Int)) = bytesV (b.set j x) := by
  unfold bytesV
  rw [List.map_set]
theorem BoxAt.new (w0 : World) : BoxAt w0 (w0.alloc (.cells (bytesV zeroB).toArray 37)) zeroB := ⟨below_alloc (Below.refl _ _) _, blk_new w0 _⟩
theorem BoxAt.set {w0 wz : World} {b : List UInt8} (h : BoxAt w0 wz b) (j : Nat) (x : UInt8) : BoxAt w0 (wz.setCell ⟨w0.heap.size, j, none⟩ (.int .u8 (x.toNat : Int))) (b.set j x) := by
  refine ⟨h.out.setCell (Nat.le_refl _) _, ?_⟩
  have := blk_set h.box j (.int .u8 (x.toNat : Int))
  rw [this, ← bytesV_set]
  simp
theorem BoxAt.cell {w0 wz : World} {b : List UInt8} (h : BoxAt w0 wz b) (j : Nat) (hj : j < b.length) : wz.cell? ⟨w0.heap.size, j, none⟩ = some (.int .u8 ((gt b j).toNat : Int)) ∧ wz.frozen? ⟨w0.heap.size, j, none⟩ = false := by
  refine ⟨?_, blk_frozen h.box j⟩
  rw [blk_cell h.box j]
  simp [bytesV, gt_some b j hj]
/-- Two own rows of blocks. -/
structure TwoR (w wr : World) (v4 v5 : Value) (T D : List (List UInt8)) : Prop where
  r4 : kBlock.R 37 wr w.heap.size (fun _ => True) v4 T
  r5 : kBlock.R 37 wr w.heap.size (fun _ => True) v5 D
  ne : ∀ q, v4.ownBlock = some q → v5.ownBlock ≠ some q
  out : Below w.heap.size w wr
theorem TwoR.below {w wr w1 : World} {v4 v5 : Value} {T D : List (List UInt8)} (h : TwoR w wr v4 v5 T D) (hb : Below wr.heap.size wr w1) : TwoR w w1 v4 v5 T D := ⟨Kd.R_below h.r4 hb, Kd.R_below h.r5 hb, h.ne, below_step h.out hb⟩
theorem TwoR.app4 {w W w1 : World} {v4 v5 v : Value} {T D T' : List (List UInt8)} (h : TwoR w W v4 v5 T D) (hr : kBlock.R 37 w1 w.heap.size (fun _ => True) v T') (hb : Below w.heap.size w w1) (hg : W.grownBy w1 v4.ownBlock) (hat : v.ownBlock = v4.ownBlock ∨ ∃ b, v.ownBlock = some b ∧ W.heap.size ≤ b) : TwoR w w1 v v5 T' D := by
  refine ⟨hr, ?_, fun q hq => ?_, hb⟩
  · have h5 : kBlock.R 37 W w.heap.size (fun k => some k ≠ v4.ownBlock) v5 D := kBlock_ok h.r5 (fun k hk e => h.ne k e.symm hk)
    exact kBlock_ok (Kd.R_grown h5 hg (fun k hk => hk)) (fun _ _ => trivial)
  · rcases hat with e | ⟨b, e, hle⟩
    · exact h.ne q (e ▸ hq)
    · intro h5
      have := Kd.R_lt h.r5 q h5
      rw [e] at hq
      injection hq with hq
      omega
theorem TwoR.app5 {w W w1 : World} {v4 v5 v : Value} {T D D' : List (List UInt8)} (h : TwoR w W v4 v5 T D) (hr : kBlock.R 37 w1 w.heap.size (fun _ => True) v D') (hb : Below w.heap.size w w1) (hg : W.grownBy w1 v5.ownBlock) (hat : v.ownBlock = v5.ownBlock ∨ ∃ b, v.ownBlock = some b ∧ W.heap.size ≤ b) : TwoR w w1 v4 v T D' := by
  refine ⟨?_, hr, fun q hq => ?_, hb⟩
  · have h4 : kBlock.R 37 W w.heap.size (fun k => some k ≠ v5.ownBlock) v4 T := kBlock_ok h.r4 (fun k hk e => h.ne k hk e.symm)
    exact kBlock_ok (Kd.R_grown h4 hg (fun k hk => hk)) (fun _ _ => trivial)
  · rcases hat with e | ⟨b, e, hle⟩
    · rw [e]; exact h.ne q hq
    · intro h5
      have := Kd.R_lt h.r4 q hq
      rw [e] at h5
      injection h5 with h5
      omega
theorem str_gt (s : ByteArray) (j : Nat) (h : j < s.size) : (s[j]'h) = gt s.data.toList j := by
  have hl : j < s.data.toList.length := by simpa using h
  rw [gt_eq s.data.toList j hl]
  rfl
def flatD (l : List File) (k : Nat) : List (List UInt8) := ((l.take k).map dataB).flatten
theorem block_lit (W : World) (base : Nat) (b : List UInt8) (hb : b.length = 32) (hle : base ≤ W.heap.size) : kBlock.R 37 (W.alloc (.cells (bytesV b).toArray 37)) base (fun _ => True) (.slice (some ⟨W.heap.size, 0, none⟩) 1 1) [b] := by
  refine ⟨fun _ _ => trivial, ?_⟩
  have hr : Reps (kBlock.M (W.alloc (.cells (bytesV b).toArray 37)) base (fun k => True ∧ some k ≠ (Value.slice (some ⟨W.heap.size, 0, none⟩) 1 1).ownBlock)) kBlock.sz [b] (bytesV b) := by
    refine ⟨by simp [bytesV, hb]; rfl, fun j p hj => ?_⟩
    rcases j with _ | j
    · simp only [List.getElem?_cons_zero, Option.some.injEq] at hj
      subst hj
      have : ((bytesV b).drop (0 * kBlock.sz)).take kBlock.sz = bytesV b := by
        rw [Nat.zero_mul, List.drop_zero]
        exact List.take_of_length_le (by rw [bytesV_len, hb]; exact Nat.le_refl _)
      rw [this]
      exact kBlock_M _ _ _ hb
    · simp at hj
  exact OwnRow.lit W base hr hle (by simp)
theorem block_KM {w W : World} {base : Nat} {ok : Nat → Prop} {x : List UInt8} {cs : List Value} (h : kBlock.K w x cs) : kBlock.M W base ok x cs := by
  obtain ⟨h1, h2⟩ := Kd.arr_cells h
  rw [encs_bytes] at h2
  subst h2
  exact kBlock_M _ _ _ h1
theorem table_step (l : List File) (k : Nat) (hk : k < l.length) : (tableB l).take (k + 1) = (tableB l).take k ++ [entryB (gt l k) (1 + l.length + blocksTo l k)] := by
  have hl : k < (tableB l).length := by simp [tableB]; exact hk
  rw [List.take_add_one, gt_some (tableB l) k hl]
  simp only [Option.toList_some]
  congr 2
  rw [gt_eq _ _ hl]
  simp [tableB]
theorem flat_step (l : List File) (k : Nat) (hk : k < l.length) : flatD l (k + 1) = flatD l k ++ dataB (gt l k) := by
  unfold flatD
  rw [List.take_add_one, gt_some l k hk, List.map_append, List.flatten_append]
  simp
theorem blocks_step (l : List File) (k : Nat) (hk : k < l.length) : blocksTo l (k + 1) = blocksTo l k + manyN (gt l k).data.length := by
  unfold blocksTo
  rw [List.take_add_one, gt_some l k hk, List.map_append, List.sum_append]
  simp
theorem blocks_any (n : Nat) (w : World) (hn : n ≤ 1000000000) : Calls Tryd.prog 80 #[.int .i64 n] w fun e w' => e = .returned (.int .i64 ((n + 31) / 32 : Nat)) ∧ w = w' := by
  have i1 : IntKind.i64.wrap ((n : Int) + 31) = (n : Int) + 31 := IntWalk.i64_in _ (by omega)
  have i3 : ((n : Int) + 31).tdiv 32 = (((n + 31) / 32 : Nat) : Int) := by rw [show (n : Int) + 31 = ((n + 31 : Nat) : Int) by omega]; exact (Int.ofNat_tdiv _ _).symm
  have i4 : IntKind.i64.wrap (((n + 31) / 32 : Nat) : Int) = (((n + 31) / 32 : Nat) : Int) := IntWalk.i64_in _ (by omega)
  go_enter Tryd.func80, Tryd.ntmps80
  go_wp2
  go_ret
  exact ⟨rfl, rfl⟩
set_option maxRecDepth 8000 in
set_option maxHeartbeats 6400000 in
theorem refMake_any (A : Option Addr) (l : List File) (c : Nat) (w : World) (h : kFile.C w A l.length l) (hl : l.length ≤ 8) (ht : togB l = true) :
    Calls Tryd.prog 62 #[.slice A l.length c] w fun e w' => ∃ v, e = .returned v ∧ kBlock.R 37 w' w.heap.size (fun _ => True) v (makeB l) ∧ Below w.heap.size w w' := by
  have H := Aside0.mk h
  have HT := Aside0.mk ht
  clear h ht
  go_enter Tryd.func62, Tryd.ntmps62
  go_wp2_with fail
  go_loopg [6, 3, 4, 5, 7, 8, 9, 10, 11, 12] l.length (fun gk i v3 v4 v5 _ _ _ _ _ _ wr => ∃ k : Nat, k ≤ l.length ∧ Aside0 (gk = l.length - k) ∧ i = .int .i64 k ∧ (∃ a : Nat, v3 = .int .i64 a ∧ a ≤ 100 ∧ Aside0 (a = 1 + l.length + blocksTo l k)) ∧ Aside0 (TwoR w wr v4 v5 ((tableB l).take k) (flatD l k)))
  case atStart => exact ⟨0, Nat.zero_le _, ⟨rfl⟩, rfl, ⟨1 + l.length, by go_num, by omega, ⟨rfl⟩⟩, ⟨⟨Kd.R_nil _ _ _ _ _, Kd.R_nil _ _ _ _ _, fun q hq => by simp [Value.ownBlock] at hq, Below.refl _ _⟩⟩⟩
  case round =>
    obtain ⟨k, hk, HGK, rfl, ⟨a, rfl, ha, HA⟩, HR⟩ := hrel
    by_cases hlt : k < l.length
    · obtain ⟨ad, A1, c1, rfl, g0, g1, hc1, hd⟩ := file_at H.out hlt
      obtain ⟨x, hx⟩ : ∃ x, x = gt l k := ⟨_, rfl⟩
      have hrt := tog_right HT.out k hlt
      rw [← hx] at g0 g1 hc1 hd hrt
      obtain ⟨nm, hnm⟩ : ∃ nm, nm = x.name := ⟨_, rfl⟩
      obtain ⟨m, hm⟩ : ∃ m, m = x.data.length := ⟨_, rfl⟩
      rw [← hnm] at g0 hrt
      rw [← hm] at g1 hrt hc1
      have hn12 := hrt.1
      have hm256 := hrt.2
      have G0 := Aside0.mk g0
      have G1 := Aside0.mk g1
      have HD := Aside0.mk hd
      have HX := Aside0.mk hx
      have HNM := Aside0.mk hnm
      have HM := Aside0.mk hm
      have HLT := Aside0.mk hlt
      clear g0 g1 hd hx hnm hm hrt
      go_upto_region 7 with fail
      go_cut [7] (fun v7 wd => v7 = .pointer (some ⟨wr.heap.size, 0, none⟩) ∧ Aside0 (wd = wr.alloc (.cells (bytesV zeroB).toArray 37)))
      case first =>
        go_wp2_with fail
        go_meet
        case rel => exact ⟨rfl, ⟨rfl⟩⟩
      obtain ⟨rfl, HWC⟩ := hcut
      obtain ⟨W0, rfl⟩ : ∃ W0, W0 = wr := ⟨_, rfl⟩
      have HX0 : Aside0 (BoxAt W0 wc zeroB) := ⟨by rw [HWC.out]; exact BoxAt.new W0⟩
      obtain ⟨s, hs⟩ : ∃ s, s = nm.data.toList := ⟨_, rfl⟩
      have hsl : s.length = nm.size := by rw [hs]; simp
      have HS := Aside0.mk hs
      have HSL := Aside0.mk hsl
      clear HWC hs hsl
      go_upto_region 9 with fail
      go_loopg [8] nm.size (fun gj j wz => ∃ q : Nat, q ≤ nm.size ∧ Aside0 (gj = nm.size - q) ∧ j = .int .i64 q ∧ Aside0 (BoxAt W0 wz (headS (s.take q))))
      case atStart => exact ⟨0, Nat.zero_le _, ⟨rfl⟩, rfl, HX0⟩
      case round =>
        obtain ⟨q, hq, HGJ, rfl, HXq⟩ := hrel
        have g0 := cell_old (below_step HR.out.out HXq.out.out) G0.out
        have hqn : (k : Int) < (l.length : Int) := by have := HLT.out; omega
        by_cases hqt : q < nm.size
        · have hq32 : (q : Int) < 32 := by omega
          have hqs : q < s.length := by rw [HSL.out]; exact hqt
          obtain ⟨y, hy⟩ : ∃ y, y = gt s q := ⟨_, rfl⟩
          have hx : ∀ h : q < nm.size, ((nm[q]'h).toNat : Int) = (y.toNat : Int) := fun h => by rw [str_gt nm q h, hy, HS.out]
          obtain ⟨b0, b1⟩ := HXq.out.cell q (by rw [headS_len _ (by rw [List.length_take]; omega)]; omega)
          have HX2 := Aside0.mk (HXq.out.set q y)
          rw [hy, headS_set s q hqs (by rw [HSL.out]; omega), ← hy] at HX2
          clear hy
          go_wp2_with fail
          go_roundg (nm.size - (q + 1))
          case measure => have := HGJ.out; omega
          case rel => exact ⟨q + 1, by omega, ⟨rfl⟩, by go_num, HX2⟩
        · have hqe : q = nm.size := by omega
          have HX3 : Aside0 (BoxAt W0 wr (headS s)) := ⟨by have := HXq.out; rwa [hqe, List.take_of_length_le (by rw [HSL.out]; omega)] at this⟩
          have g1 := cell_old (below_step HR.out.out HX3.out.out) G1.out
          have hb32 : (headS s).length = 32 := headS_len _ (by rw [HSL.out]; omega)
          obtain ⟨c12, f12⟩ := HX3.out.cell 12 (by omega)
          have d1 : (m : Int).tdiv 256 = ((hi2 m).toNat : Int) := by rw [show (m : Int).tdiv 256 = ((m / 256 : Nat) : Int) from (Int.ofNat_tdiv _ _).symm]; simp [hi2]; omega
          have d2 : (m : Int).tmod 256 = ((lo2 m).toNat : Int) := by rw [show (m : Int).tmod 256 = ((m % 256 : Nat) : Int) from (Int.ofNat_tmod _ _).symm]; simp [lo2]
          have y1 := (hi2 m).toNat_lt
          have y2 := (lo2 m).toNat_lt
          have HX4 := Aside0.mk (HX3.out.set 12 (hi2 m))
          clear hqe
          go_upto_region 14 with fail
          obtain ⟨W1, hW1⟩ : ∃ W1, wr.setCell ⟨W0.heap.size, 12, none⟩ (.int .u8 ((hi2 m).toNat : Int)) = W1 := ⟨_, rfl⟩
          rw [hW1] at HX4 ⊢
          obtain ⟨c13, f13⟩ := HX4.out.cell 13 (by simp; omega)
          have HX5 := Aside0.mk (HX4.out.set 13 (lo2 m))
          clear hW1
          go_upto_region 15 with fail
          obtain ⟨W2, hW2⟩ : ∃ W2, W1.setCell ⟨W0.heap.size, 13, none⟩ (.int .u8 ((lo2 m).toNat : Int)) = W2 := ⟨_, rfl⟩
          rw [hW2] at HX5 ⊢
          clear hW2
          have hent := entry_sets x a (by rw [← HNM.out, ← HS.out, HSL.out]; exact hn12)
          rw [← HNM.out, ← HS.out, ← HM.out] at hent
          have HENT := Aside0.mk hent
          clear hent
          go_upto_if 60 with fail
          go_cut [] (fun wd => Aside0 (BoxAt W0 wd (entryB x a)))
          case first =>
            by_cases hm0 : 0 < m
            · have hm0' : (0 : Int) < (m : Int) := by omega
              have e1 : (a : Int).tdiv 256 = ((hi2 a).toNat : Int) := by rw [show (a : Int).tdiv 256 = ((a / 256 : Nat) : Int) from (Int.ofNat_tdiv _ _).symm]; simp [hi2]; omega
              have e2 : (a : Int).tmod 256 = ((lo2 a).toNat : Int) := by rw [show (a : Int).tmod 256 = ((a % 256 : Nat) : Int) from (Int.ofNat_tmod _ _).symm]; simp [lo2]
              have y3 := (hi2 a).toNat_lt
              have y4 := (lo2 a).toNat_lt
              obtain ⟨c14, f14⟩ := HX5.out.cell 14 (by simp; omega)
              have HX6 := Aside0.mk (HX5.out.set 14 (hi2 a))
              go_upto_region 17 with fail
              obtain ⟨W3, hW3⟩ : ∃ W3, W2.setCell ⟨W0.heap.size, 14, none⟩ (.int .u8 ((hi2 a).toNat : Int)) = W3 := ⟨_, rfl⟩
              rw [hW3] at HX6 ⊢
              obtain ⟨c15, f15⟩ := HX6.out.cell 15 (by simp; omega)
              have HX7 := Aside0.mk (HX6.out.set 15 (lo2 a))
              clear hW3
              go_wp2_with fail
              go_meet
              case rel => exact ⟨by have := HX7.out; rw [← HENT.out]; simp only [if_pos hm0]; exact this⟩
            · have hm0' : ¬ (0 : Int) < (m : Int) := by omega
              go_wp2_with fail
              go_meet
              case rel => exact ⟨by have := HX5.out; rw [← HENT.out]; simp only [if_neg hm0]; exact this⟩
          have HXe := hcut
          have HRc := Aside0.mk (HR.out.below HXe.out.out)
          have HLEN : Aside0 ((((tableB l).take k).length + 1) * 32 ≤ 140737488355328) := ⟨by have : ((tableB l).take k).length ≤ k := List.length_take_le _ _; omega⟩
          have HTS : Aside0 ((tableB l).take (k + 1) = (tableB l).take k ++ [entryB x a]) := ⟨by rw [table_step l k HLT.out, HX.out, HA.out]⟩
          have heb := entryB_len x a
          clear hcut HENT c12 f12 c13 f13 g1 hb32
          go_upto_region 19 with (first | ((with_reducible refine gate_dst (N := 70) rfl ?_); refine load_block rfl _ rfl ⟨W0.heap.size, 0, none⟩ rfl (entryB x a) heb (block_cells HXe.out.box) ?_) | ((with_reducible refine gate_dst (N := 71) rfl ?_); refine build_block rfl (.tmp 70) rfl (entryB x a) heb rfl ?_) | ((with_reducible refine gate_builtin (b := .append) (xs := #[.tmp 69, .tmp 71]) rfl ?_); at_builtin; refine Kd.R_append kBlock (w0 := w) w.heap.size rfl (.tmp 69) (.tmp 71) 80 37 zB 32 rfl Tryd.underlying80 info_blockZ rfl (by decide) (by omega) _ ((tableB l).take k) (entryB x a) (bytesV (entryB x a)) (fun _ => True) (fun _ => False) rfl rfl (kBlock_M _ _ _ heb) (fun _ hk => hk.elim) (fun _ _ => trivial) HRc.out.r4 HRc.out.out HRc.out.out.size HLEN.out ?_; intro v7 w7 ho7 hb7 hg7 hat7; have HR7 := Aside0.mk (HRc.out.app4 ho7 hb7 hg7 hat7); rw [← HTS.out] at HR7; clear ho7 hb7 hg7 hat7))
          obtain ⟨M, hM⟩ : ∃ M, M = (m + 31) / 32 := ⟨_, rfl⟩
          have hM8 : M ≤ 8 := by omega
          have HMM := Aside0.mk hM
          have HMX : Aside0 (M = manyN x.data.length) := ⟨by rw [hM, HM.out]; rfl⟩
          clear hM heb HXe HRc HLEN HX3 HX4 HX5 HX0
          go_upto_region 20 with fail
          go_loopg [10, 5, 11, 12] M (fun gj j v5 _ _ wz => ∃ q : Nat, q ≤ M ∧ Aside0 (gj = M - q) ∧ j = .int .i64 q ∧ Aside0 (TwoR w wz v7 v5 ((tableB l).take (k + 1)) (flatD l k ++ (dataB x).take q)))
          case atStart => exact ⟨0, Nat.zero_le _, ⟨rfl⟩, rfl, ⟨by simpa using HR7.out⟩⟩
          case round =>
            obtain ⟨p, hp, HGJ, rfl, HRp⟩ := hrel
            by_cases hpt : p < M
            · have hpt' : (p : Int) < (M : Int) := by omega
              go_upto_region 22 with (go_at_call 80; refine (blocks_any m _ (by omega)).mono ?_; rw [← HMM.out]; rintro e wb ⟨rfl, rfl⟩)
              go_cut [11] (fun v11 wd => v11 = .pointer (some ⟨wr.heap.size, 0, none⟩) ∧ Aside0 (wd = wr.alloc (.cells (bytesV zeroB).toArray 37)))
              case first =>
                go_wp2_with fail
                go_meet
                case rel => exact ⟨rfl, ⟨rfl⟩⟩
              obtain ⟨rfl, HWC⟩ := hcut
              obtain ⟨V0, rfl⟩ : ∃ V0, V0 = wr := ⟨_, rfl⟩
              have HY0 : Aside0 (BoxAt V0 wc zeroB) := ⟨by rw [HWC.out]; exact BoxAt.new V0⟩
              obtain ⟨P, hP⟩ : ∃ P, P = chunk x.data p := ⟨_, rfl⟩
              obtain ⟨pl, hpl⟩ : ∃ pl, pl = P.length := ⟨_, rfl⟩
              have hpl2 : pl = min 32 (m - 32 * p) := by rw [hpl, hP, chunk_len, ← HM.out]
              have HP := Aside0.mk hP
              have HPL := Aside0.mk hpl
              clear HWC hP hpl
              go_upto_region 24 with fail
              go_loopg [12] pl (fun gi i wz => ∃ j : Nat, j ≤ pl ∧ Aside0 (gi = pl - j) ∧ i = .int .i64 j ∧ Aside0 (BoxAt V0 wz (headS (P.take j))))
              case atStart => exact ⟨0, Nat.zero_le _, ⟨rfl⟩, rfl, HY0⟩
              case round =>
                obtain ⟨j, hj, HGI, rfl, HYj⟩ := hrel
                have hB := below_step HRp.out.out HYj.out.out
                have g1 := cell_old hB G1.out
                by_cases hjt : j < pl
                · have hj32 : (j : Int) < 32 := by omega
                  have hjm : 32 * p + j < m := by omega
                  have hjm' : 32 * (p : Int) + (j : Int) < (m : Int) := by omega
                  have hj0 : (0 : Int) ≤ 32 * (p : Int) + (j : Int) := by omega
                  have hjn : (32 * (p : Int) + (j : Int)).toNat = 32 * p + j := by omega
                  obtain ⟨dd, rfl, d0⟩ := byte_at (Kd.C_below HD.out hB) (k := 32 * p + j) (by rw [← HM.out]; exact hjm)
                  obtain ⟨y, hy⟩ : ∃ y, y = gt P j := ⟨_, rfl⟩
                  rw [← chunk_gt x.data p j (by rw [← HP.out, ← HPL.out]; exact hjt), ← HP.out, ← hy] at d0
                  obtain ⟨b0, b1⟩ := HYj.out.cell j (by rw [headS_len _ (by rw [List.length_take]; omega)]; omega)
                  have HY2 := Aside0.mk (HYj.out.set j y)
                  rw [hy, headS_set P j (by rw [← HPL.out]; exact hjt) (by rw [← HPL.out]; omega), ← hy] at HY2
                  have hkl : (k : Int) < (l.length : Int) := by have := HLT.out; omega
                  clear hy
                  go_wp2_with fail
                  go_roundg (pl - (j + 1))
                  case measure => have := HGI.out; omega
                  case rel => exact ⟨j + 1, by omega, ⟨rfl⟩, by go_num, HY2⟩
                · have hje : j = pl := by omega
                  have hP32 : P.length ≤ 32 := by rw [← HPL.out]; omega
                  have hyj := HYj.out
                  rw [hje, HPL.out, List.take_length, ← pad_head P hP32] at hyj
                  have HYP := Aside0.mk hyj
                  have HRc := Aside0.mk (HRp.out.below hyj.out)
                  have hpl32 := pad_len P
                  have HDS : Aside0 ((dataB x).take (p + 1) = (dataB x).take p ++ [pad P]) := ⟨by rw [dataB_take x p (by rw [← HMX.out]; exact hpt), HP.out]⟩
                  have HLEN : Aside0 (((flatD l k ++ (dataB x).take p).length + 1) * 32 ≤ 140737488355328) := ⟨by
                    have h5 : ((dataB x).take p).length ≤ p := List.length_take_le _ _
                    have h6 := (outTo_len l k (by have := HLT.out; omega))
                    have h7 : (outTo l k).length = 1 + l.length + (flatD l k).length := by
                      have hk := HLT.out
                      simp [outTo, flatD, tableB]; omega
                    have h8 := blocksTo_le HT.out k (by have := HLT.out; omega)
                    rw [List.length_append]
                    omega⟩
                  have hor : ¬ (j : Int) < 32 ∨ ((j : Int) < 32 ∧ ¬ 32 * (p : Int) + (j : Int) < (m : Int)) := by omega
                  have hj0 : (0 : Int) ≤ 32 * (p : Int) + (j : Int) := by omega
                  clear hje hyj hP32
                  rcases hor with h32 | ⟨h32, hnm⟩
                  · (go_wp2_with (first | ((with_reducible refine gate_dst (N := 105) rfl ?_); refine load_block rfl _ rfl ⟨V0.heap.size, 0, none⟩ rfl (pad P) hpl32 (block_cells HYP.out.box) ?_) | ((with_reducible refine gate_dst (N := 106) rfl ?_); refine build_block rfl (.tmp 105) rfl (pad P) hpl32 rfl ?_) | ((with_reducible refine gate_builtin (b := .append) (xs := #[.tmp 104, .tmp 106]) rfl ?_); at_builtin; refine Kd.R_append kBlock (w0 := w) w.heap.size rfl (.tmp 104) (.tmp 106) 80 37 zB 32 rfl Tryd.underlying80 info_blockZ rfl (by decide) (by omega) _ (flatD l k ++ (dataB x).take p) (pad P) (bytesV (pad P)) (fun _ => True) (fun _ => False) rfl rfl (kBlock_M _ _ _ hpl32) (fun _ hk => hk.elim) (fun _ _ => trivial) HRc.out.r5 HRc.out.out HRc.out.out.size HLEN.out ?_; intro v9 w9 ho9 hb9 hg9 hat9; have HR9 := Aside0.mk (HRc.out.app5 ho9 hb9 hg9 hat9); rw [List.append_assoc, ← HDS.out] at HR9; clear ho9 hb9 hg9 hat9)); go_roundg (M - (p + 1)); (case measure => (have := HGJ.out; omega)); (case rel => exact ⟨p + 1, by omega, ⟨rfl⟩, by go_num, HR9⟩))
                  · (go_wp2_with (first | ((with_reducible refine gate_dst (N := 105) rfl ?_); refine load_block rfl _ rfl ⟨V0.heap.size, 0, none⟩ rfl (pad P) hpl32 (block_cells HYP.out.box) ?_) | ((with_reducible refine gate_dst (N := 106) rfl ?_); refine build_block rfl (.tmp 105) rfl (pad P) hpl32 rfl ?_) | ((with_reducible refine gate_builtin (b := .append) (xs := #[.tmp 104, .tmp 106]) rfl ?_); at_builtin; refine Kd.R_append kBlock (w0 := w) w.heap.size rfl (.tmp 104) (.tmp 106) 80 37 zB 32 rfl Tryd.underlying80 info_blockZ rfl (by decide) (by omega) _ (flatD l k ++ (dataB x).take p) (pad P) (bytesV (pad P)) (fun _ => True) (fun _ => False) rfl rfl (kBlock_M _ _ _ hpl32) (fun _ hk => hk.elim) (fun _ _ => trivial) HRc.out.r5 HRc.out.out HRc.out.out.size HLEN.out ?_; intro v9 w9 ho9 hb9 hg9 hat9; have HR9 := Aside0.mk (HRc.out.app5 ho9 hb9 hg9 hat9); rw [List.append_assoc, ← HDS.out] at HR9; clear ho9 hb9 hg9 hat9)); go_roundg (M - (p + 1)); (case measure => (have := HGJ.out; omega)); (case rel => exact ⟨p + 1, by omega, ⟨rfl⟩, by go_num, HR9⟩))
            · have hpM : p = M := by omega
              have HRn : Aside0 (TwoR w wr v7 u5 ((tableB l).take (k + 1)) (flatD l (k + 1))) := ⟨by
                have := HRp.out
                rw [hpM, HMX.out, List.take_of_length_le (l := dataB x) (by simp [dataB])] at this
                rw [flat_step l k HLT.out, ← HX.out]
                exact this⟩
              have HA2 : Aside0 (a + M = 1 + l.length + blocksTo l (k + 1)) := ⟨by rw [blocks_step l k HLT.out, ← HX.out, ← HMX.out, HA.out]; omega⟩
              have haM : a + M ≤ 100 := by
                have h8 := blocksTo_le HT.out (k + 1) (by have := HLT.out; omega)
                have := HA2.out
                have := HLT.out
                omega
              have hpt' : ¬ (p : Int) < (M : Int) := by omega
              clear hpM
              go_wp2_with (go_at_call 80; refine (blocks_any m _ (by omega)).mono ?_; rw [← HMM.out]; rintro e wb ⟨rfl, rfl⟩)
              go_roundg (l.length - (k + 1))
              case measure => have := HGK.out; have := HLT.out; omega
              case rel => exact ⟨k + 1, by have := HLT.out; omega, ⟨rfl⟩, by go_num, ⟨a + M, by go_num, haM, HA2⟩, HRn⟩
    · have hkl : k = l.length := by omega
      obtain ⟨T, hT⟩ : ∃ T, T = tableB l := ⟨_, rfl⟩
      obtain ⟨D, hD⟩ : ∃ D, D = ((l.map dataB).flatten) := ⟨_, rfl⟩
      have hTl : T.length = l.length := by rw [hT]; simp [tableB]
      have HR2 : Aside0 (TwoR w wr u4 u5 T D) := ⟨by
        have := HR.out
        rw [hkl, List.take_of_length_le (by rw [← hT, hTl]; omega)] at this
        unfold flatD at this
        rw [List.take_length] at this
        rw [hT, hD]
        exact this⟩
      obtain ⟨A4, c4, rfl⟩ : ∃ A c, u4 = .slice A l.length c := by
        obtain ⟨A, c, e⟩ := Kd.R_slice HR2.out.r4
        exact ⟨A, c, by rw [e, hTl]⟩
      have hC4 := (Kd.R_reads' HR2.out.r4).2.2
      rw [hTl] at hC4
      have HC4 := Aside0.mk hC4
      have HMK : Aside0 (makeB l = headB magicB l.length (sumT T) :: T ++ D) := ⟨by rw [hT, hD]; rfl⟩
      have HTL := Aside0.mk hTl
      have HDD := Aside0.mk hD
      obtain ⟨W9, rfl⟩ : ∃ W9, W9 = wr := ⟨_, rfl⟩
      clear hkl hC4 hTl hT hD HR
      go_upto_region 31 with fail
      go_loopg [14, 13, 15] l.length (fun gi i v13 _ wz => Aside0 (W9 = wz) ∧ ∃ j : Nat, j ≤ l.length ∧ Aside0 (gi = l.length - j) ∧ i = .int .i64 j ∧ ∃ s : Nat, v13 = .int .i64 s ∧ s ≤ 65535 ∧ Aside0 (s = sumT (T.take j)))
      case atStart => exact ⟨⟨rfl⟩, 0, Nat.zero_le _, ⟨rfl⟩, rfl, 1, rfl, by omega, ⟨rfl⟩⟩
      case round =>
        obtain ⟨HW9, j, hj, HGI, rfl, s0, rfl, hs0, HS0⟩ := hrel
        have hw9 := HW9.out
        subst hw9
        by_cases hjt : j < l.length
        · have hjt' : (j : Int) < (l.length : Int) := by omega
          obtain ⟨ad4, rfl, hl32, hc⟩ := block_at HC4.out hjt
          obtain ⟨xs, hxs⟩ : ∃ xs, xs = gt T j := ⟨_, rfl⟩
          rw [← hxs] at hl32 hc
          have HC := Aside0.mk hc
          have HST : Aside0 (sumT (T.take (j + 1)) = sumB s0 xs) := ⟨by rw [sumT_succ T j (by rw [HTL.out]; exact hjt), ← hxs, HS0.out]⟩
          clear hxs hc
          go_upto_region 34 with fail
          go_loopg [15, 13] 32 (fun gq i v13 wz => Aside0 (W9 = wz) ∧ ∃ q : Nat, q ≤ 32 ∧ Aside0 (gq = 32 - q) ∧ i = .int .i64 q ∧ ∃ s : Nat, v13 = .int .i64 s ∧ s ≤ 65535 ∧ Aside0 (s = sumB s0 (xs.take q)))
          case atStart => exact ⟨⟨rfl⟩, 0, by omega, ⟨rfl⟩, rfl, s0, rfl, hs0, ⟨rfl⟩⟩
          case round =>
            obtain ⟨HW9, q, hq, HGQ, rfl, s1, rfl, hs1, HS1⟩ := hrel
            have hw9 := HW9.out
            subst hw9
            by_cases hqt : q < 32
            · have hqt' : (q : Int) < 32 := by omega
              obtain ⟨y, hy⟩ : ∃ y, y = gt xs q := ⟨_, rfl⟩
              have d0 : W9.cell? ((ad4.add (j * 32)).add q) = some (.int .u8 (y.toNat : Int)) := HC.out q _ (by simp [bytesV, gt_some xs q (by omega), hy])
              have hy8 := y.toNat_lt
              obtain ⟨s2, hs2⟩ : ∃ s2, s2 = (31 * s1 + y.toNat) % 65536 := ⟨_, rfl⟩
              have hs2l : s2 ≤ 65535 := by omega
              have hr1 : (31 * (s1 : Int) + (y.toNat : Int)).tmod 65536 = (s2 : Int) := by rw [hs2, show 31 * (s1 : Int) + (y.toNat : Int) = ((31 * s1 + y.toNat : Nat) : Int) by omega]; exact (Int.ofNat_tmod _ _).symm
              have HS2 : Aside0 (s2 = sumB s0 (xs.take (q + 1))) := ⟨by rw [sumB_succ s0 xs q (by omega), ← HS1.out, ← hy, hs2]; rfl⟩
              clear hy hs2
              go_wp2_with fail
              go_roundg (32 - (q + 1))
              case measure => have := HGQ.out; omega
              case rel => exact ⟨⟨rfl⟩, q + 1, by omega, ⟨rfl⟩, by go_num, s2, rfl, hs2l, HS2⟩
            · have HS2 : Aside0 (s1 = sumT (T.take (j + 1))) := ⟨by rw [HST.out, HS1.out, List.take_of_length_le (by omega)]⟩
              have hqt' : ¬ (q : Int) < 32 := by omega
              go_wp2_with fail
              go_roundg (l.length - (j + 1))
              case measure => have := HGI.out; omega
              case rel => exact ⟨⟨rfl⟩, j + 1, by omega, ⟨rfl⟩, by go_num, s1, rfl, hs1, HS2⟩
        · have hjt' : ¬ (j : Int) < (l.length : Int) := by omega
          have HS9 : Aside0 (s0 = sumT T) := ⟨by rw [HS0.out, List.take_of_length_le (by rw [HTL.out]; omega)]⟩
          have e1 : (s0 : Int).tdiv 256 = ((hi2 s0).toNat : Int) := by rw [show (s0 : Int).tdiv 256 = ((s0 / 256 : Nat) : Int) from (Int.ofNat_tdiv _ _).symm]; simp [hi2]; omega
          have e2 : (s0 : Int).tmod 256 = ((lo2 s0).toNat : Int) := by rw [show (s0 : Int).tmod 256 = ((s0 % 256 : Nat) : Int) from (Int.ofNat_tmod _ _).symm]; simp [lo2]
          have y3 := (hi2 s0).toNat_lt
          have y4 := (lo2 s0).toNat_lt
          have hl8 : (l.length : Int) ≤ 8 := by omega
          have hlit : (#[.int .u8 69, .int .u8 82, .int .u8 69, .int .u8 87, .int .u8 1, .int .u8 (l.length : Int), .int .u8 ((hi2 s0).toNat : Int), .int .u8 ((lo2 s0).toNat : Int), .int .u8 0, .int .u8 0, .int .u8 0, .int .u8 0, .int .u8 0, .int .u8 0, .int .u8 0, .int .u8 0, .int .u8 0, .int .u8 0, .int .u8 0, .int .u8 0, .int .u8 0, .int .u8 0, .int .u8 0, .int .u8 0, .int .u8 0, .int .u8 0, .int .u8 0, .int .u8 0, .int .u8 0, .int .u8 0, .int .u8 0, .int .u8 0] : Array Value) = (bytesV (headB magicB l.length s0)).toArray := by
            have hn : ((UInt8.ofNat l.length).toNat : Int) = (l.length : Int) := by simp [UInt8.toNat_ofNat']; omega
            simp only [bytesV, headB, magicB, List.map_append, List.map_cons, List.map_nil, hn]
            rfl
          have hhl : (headB magicB l.length s0).length = 32 := by simp [headB, magicB]
          obtain ⟨HB, hHB⟩ : ∃ HB, HB = headB magicB l.length s0 := ⟨_, rfl⟩
          rw [← hHB] at hlit hhl
          have HLIT := Aside0.mk hlit
          have HHB := Aside0.mk hHB
          clear hlit hHB
          have hbt : Tryd.prog.built 37 [(0, .int .u8 69), (1, .int .u8 82), (2, .int .u8 69), (3, .int .u8 87), (4, .int .u8 1), (5, .int .u8 (l.length : Int)), (6, .int .u8 ((hi2 s0).toNat : Int)), (7, .int .u8 ((lo2 s0).toNat : Int))] = some (bytesV HB).toArray := by
            rw [← HLIT.out]
            kernel_rfl
          have HBT := Aside0.mk hbt
          clear hbt
          go_upto_region 38 with (first | ((with_reducible refine gate_dst (N := 142) rfl ?_); refine build_on rfl 37 _ rfl (bytesV HB).toArray (Eq.trans (by kernel_rfl) HBT.out) ?_) | ((with_reducible refine gate_store (t := 37) (p := 16) rfl ?_); refine store_block_new rfl (.tmp 16) (.tmp 142) rfl _ rfl rfl HB hhl rfl ?_))
          obtain ⟨Wh, hWh⟩ : ∃ Wh, W9.alloc (.cells (bytesV HB).toArray 37) = Wh := ⟨_, rfl⟩
          have HBX : Aside0 (Wh.heap[W9.heap.size]? = some (.cells (bytesV HB).toArray 37 (0, 0))) := ⟨by rw [← hWh]; exact blk_new W9 _⟩
          have HRh : Aside0 (TwoR w Wh (.slice A4 l.length c4) u5 T D) := ⟨by rw [← hWh]; exact HR2.out.below (below_alloc (Below.refl _ _) _)⟩
          rw [hWh]
          clear hWh
          obtain ⟨A5, c5, hu5, _, _⟩ := Kd.R_reads HRh.out.r5
          have hDl : D.length ≤ 100 := by
            have h1 := outTo_len l l.length (Nat.le_refl _)
            have h2 := blocksTo_le HT.out l.length (Nat.le_refl _)
            have h3 : (outTo l l.length).length = 1 + l.length + D.length := by rw [HDD.out]; simp [outTo, tableB]; omega
            omega
          obtain ⟨dl, hdl⟩ : ∃ dl, dl = D.length := ⟨_, rfl⟩
          rw [← hdl] at hu5 hDl
          subst hu5
          have HDL := Aside0.mk hdl
          have h4 : kBlock.R 37 Wh w.heap.size (fun q => q < Wh.heap.size) (.slice A4 l.length c4) T := kBlock_ok HRh.out.r4 (fun q hq => Kd.R_lt HRh.out.r4 q hq)
          have h5 : kBlock.R 37 Wh w.heap.size (fun q => q < Wh.heap.size) (.slice A5 dl c5) D := kBlock_ok HRh.out.r5 (fun q hq => Kd.R_lt HRh.out.r5 q hq)
          have H4 := Aside0.mk (Kd.R_alloc h4 (.cells (bytesV HB).toArray 37))
          have H5 := Aside0.mk (Kd.R_alloc h5 (.cells (bytesV HB).toArray 37))
          have HO0 := Aside0.mk (block_lit Wh w.heap.size HB hhl HRh.out.out.size)
          have HBh := Aside0.mk (below_alloc HRh.out.out (.cells (bytesV HB).toArray 37))
          have hc4 := (Kd.R_reads' H4.out).2.2
          rw [HTL.out] at hc4
          have HC4 := Aside0.mk hc4
          clear h4 h5 hc4 hdl
          go_wp2_with (first | ((with_reducible refine gate_dst (N := 143) rfl ?_); refine load_block rfl _ rfl ⟨W9.heap.size, 0, none⟩ rfl HB hhl (block_cells HBX.out) ?_) | ((with_reducible refine gate_dst (N := 144) rfl ?_); refine build_block rfl (.tmp 143) rfl HB hhl rfl ?_) | ((with_reducible refine gate_builtin (b := .append) (xs := #[.tmp 144, .tmp 145]) rfl ?_); at_builtin; refine Kd.R_append_rows kBlock (Rr := kBlock.K (Wh.alloc (.cells (bytesV HB).toArray 37))) (w0 := w) w.heap.size rfl (.tmp 144) (.tmp 145) 80 37 zB 32 rfl Tryd.underlying80 info_blockZ rfl (by decide) (by omega) (.slice (some ⟨Wh.heap.size, 0, none⟩) 1 1) [HB] T A4 l.length c4 (fun _ => True) (fun _ => False) rfl rfl HO0.out HC4.out (fun x cs hK => block_KM hK) (fun _ hk => hk.elim) (fun _ _ => trivial) HBh.out HBh.out.size (by show (1 + l.length) * 32 ≤ 140737488355328; omega) ?_; intro v2 w2 ho hb hg hat; have HO2 := Aside0.mk ho; have HB2 := Aside0.mk hb; have hc5 := (Kd.R_reads' (Kd.R_grown H5.out hg (fun q hq e => by have h1 : q < Wh.heap.size := hq; simp [Value.ownBlock] at e; omega))).2.2; rw [← HDL.out] at hc5; have HC5 := Aside0.mk hc5; clear ho hb hg hat hc5) | ((with_reducible refine gate_builtin (b := .append) (xs := #[.tmp 146, .tmp 147]) rfl ?_); at_builtin; refine Kd.R_append_rows kBlock (Rr := kBlock.K w2) (w0 := w) w.heap.size rfl (.tmp 146) (.tmp 147) 80 37 zB 32 rfl Tryd.underlying80 info_blockZ rfl (by decide) (by omega) v2 ([HB] ++ T) D A5 dl c5 (fun _ => True) (fun _ => False) rfl rfl HO2.out HC5.out (fun x cs hK => block_KM hK) (fun _ hk => hk.elim) (fun _ _ => trivial) HB2.out HB2.out.size (by have := HTL.out; simp; omega) ?_; intro v3 w3 ho hb hg hat; have HO3 := Aside0.mk ho; have HB3 := Aside0.mk hb; clear ho hb hg hat))
          go_ret
          exact ⟨_, rfl, by rw [HMK.out, ← HS9.out, ← HHB.out]; exact HO3.out, HB3.out⟩
end Go.Proofs.YtdobjbdkfammbaaDoor
