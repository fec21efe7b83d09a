/-
  Chapter 49, what fs.Read calls: whether bytes are noughts; an entry of the table.
-/
import Derived.Test.YtahjadbjokkjnaaDoorFi
import Derived.Lib.BytesEntry
import Derived.Laws.Externs
import Derived.Shelf.Bytes.SlCountOne
namespace Go.Proofs.YtahjadbjokkjnaaDoor
open Go.RowKit Go.Proofs.YtahjadbjokkjnaaDoorW.PrintWords Go.Proofs.YtahjadbjokkjnaaDoorW.PrintLast Go.Proofs.YtahjadbjokkjnaaDoorW.PrintMore
set_option linter.unusedVariables false
set_option linter.unusedSimpArgs false

/-- Are bytes all noughts? -/
def zerosB (xs : List UInt8) : Bool := xs.all (· == 0)
theorem zerosB_iff (xs : List UInt8) : zerosB xs = true ↔ ∀ x ∈ xs, x = 0 := by simp [zerosB]
theorem bytesOf_nums (xs : List UInt8) : Lib.bytesOf (xs.map fun x => (x.toNat : Int)) = xs := by
  simp [Lib.bytesOf, Function.comp_def]
theorem nums_getD (xs : List UInt8) (i : Nat) (hi : i < xs.length) : (xs.map fun x => (x.toNat : Int)).getD i 0 = ((gt xs i).toNat : Int) := by
  simp [gt_eq xs i hi, hi]
theorem count_zeros (xs : List UInt8) : (((Lib.countByte xs 0 : Nat) : Int) == (xs.length : Int)) = zerosB xs := by
  rw [Bool.eq_iff_iff, zerosB_iff]
  simp only [beq_iff_eq, Int.ofNat_inj, Lib.countByte]
  rw [List.count_eq_length]
  exact ⟨fun h x hx => (h x hx).symm, fun h x hx => (h x hx).symm⟩
theorem run_count {w : World} {A : Option Addr} {xs : List UInt8} (h : byte.C w A xs.length xs) (c : Nat) (cv : Int) : (Extern.BytealgCount.count #[.slice A xs.length c, .int .u8 cv]).run Tryd.prog w = .ok (.int .i64 (Lib.countByte xs cv.toNat.toUInt8)) w := by
  rcases A with _ | a
  · have h0 : xs = [] := by
      rcases xs with _ | ⟨x, xs⟩
      · rfl
      · obtain ⟨ad, e, _⟩ := byte_at h (k := 0) (by simp)
        cases e
    subst h0
    have := Lib.run_countString (P := Tryd.prog) .empty cv w
    exact this
  · have := Lib.run_countAt (P := Tryd.prog) w a xs.length c (xs.map fun x => (x.toNat : Int)) (by simp) (fun i hi => by
      obtain ⟨_, e, hc⟩ := byte_at h hi
      cases e
      rw [nums_getD xs i hi]
      exact hc) cv
    rwa [bytesOf_nums] at this
theorem run_indexByteA {w : World} {a : Addr} {xs : List UInt8} (h : byte.C w (some a) xs.length xs) (ha : a.spot = none) (c : Nat) (cv : Int) : (Extern.BytealgIndexByte.indexByte #[.slice (some a) xs.length c, .int .u8 cv]).run Tryd.prog w = .ok (.int .i64 (Lib.indexByte xs cv.toNat.toUInt8)) w := by
  obtain ⟨b, o, s⟩ := a
  cases ha
  have := Lib.run_indexByteSlice (P := Tryd.prog) w b o xs.length c (xs.map fun x => (x.toNat : Int)) (by simp) (fun i hi => by
    obtain ⟨_, e, hc⟩ := byte_at h hi
    cases e
    rw [nums_getD xs i hi, ← Addr.add_mid]
    exact hc) cv
  rwa [bytesOf_nums] at this
set_option maxHeartbeats 1600000 in
theorem count_any (A : Option Addr) (xs : List UInt8) (c g : Nat) (w : World) (h : byte.C w A xs.length xs) (hg : w.cell? ⟨g, 0, none⟩ = some (.int .u8 0)) :
    Calls Tryd.prog 50 #[.slice A xs.length c, .slice (some ⟨g, 0, none⟩) 1 1] w fun e w' => e = .returned (.int .i64 (Lib.countByte xs 0)) ∧ w = w' := by
  have hr := run_count h c 0
  go_enter Tryd.func50, Tryd.ntmps50
  go_wp2
  rw [run_callFunc_extern Tryd.func53 (by kernel_rfl) (by kernel_rfl) (by kernel_rfl) (e := Extern.BytealgCount.count) (by kernel_rfl), hr]
  simp only [Result.andThen]
  rw [Oper.upon_value]
  go_wp2
  go_ret
  exact ⟨rfl, rfl⟩
set_option maxHeartbeats 1600000 in
theorem nought_any (A : Option Addr) (xs : List UInt8) (n c : Nat) (hn : xs.length = n) (r : Bool) (hr : zerosB xs = r) (w : World) (h : byte.C w A xs.length xs) :
    Calls Tryd.prog 39 #[.slice A n c] w fun e w' => e = .returned (.bool r) ∧ Below w.heap.size w w' := by
  subst hn
  have HR := Aside0.mk hr
  have hb := below_alloc (Below.refl w.heap.size w) (.cells #[.int .u8 0] 5)
  have HC := Aside0.mk (count_any A xs c w.heap.size _ (Kd.C_below h hb) (blk_cell (blk_new w (.cells #[.int .u8 0] 5)) 0))
  have HB := Aside0.mk hb
  obtain ⟨m, hm⟩ : ∃ m, m = Lib.countByte xs 0 := ⟨_, rfl⟩
  have HE : Aside0 (((m : Int) == (xs.length : Int)) = r) := ⟨by rw [hm, ← hr]; exact count_zeros xs⟩
  rw [← hm] at HC
  clear hr hb h hm
  go_enter Tryd.func39, Tryd.ntmps39
  go_wp2_with (go_at_call 50; refine HC.out.mono ?_; rintro e w1 ⟨rfl, rfl⟩)
  go_ret
  exact ⟨ret_bool HE.out, HB.out⟩
theorem results_tmp4 {fn : Func} {t u v x : Tmp} (h : fn.results = #[.tmp t, .tmp u, .tmp v, .tmp x]) (tmps : Array Value) (P : Program) (w : World) :
    (results fn tmps).run P w = .ok (.tuple #[tmps.getD t undef, tmps.getD u undef, tmps.getD v undef, tmps.getD x undef]) w := by
  simp [results, h]
theorem byte_mid {w : World} {g : Nat} {xs : List UInt8} (h : byte.C w (some ⟨g, 0, none⟩) xs.length xs) (lo hi : Nat) (h1 : lo ≤ hi) (h2 : hi ≤ xs.length) : byte.C w (some ⟨g, lo, none⟩) ((xs.take hi).drop lo).length ((xs.take hi).drop lo) := by
  have hm := Kd.C_mid (c := xs.length + lo + 1) h h1 h2 (by omega)
  rw [if_neg (by omega)] at hm
  have e : (some (⟨g, 0, none⟩ : Addr)).map (fun a => a.add (lo * byte.sz)) = some ⟨g, lo, none⟩ := by
    show some ((⟨g, 0, none⟩ : Addr).add (lo * 1)) = _
    rw [add_plain, Nat.mul_one]
  rwa [e] at hm
theorem two_at (b : List UInt8) (lo : Nat) (h : lo + 2 ≤ b.length) : (b.take (lo + 2)).drop lo = [gt b lo, gt b (lo + 1)] := by
  apply List.ext_getElem
  · simp; omega
  · intro i h1 h2
    simp only [List.length_cons, List.length_nil] at h2
    rcases (show i = 0 ∨ i = 1 by omega) with rfl | rfl
    · simp [gt_eq b lo (by omega)]
    · simp [gt_eq b (lo + 1) (by omega)]
/-- How long the name is that stands in a block. -/
def nameK (b : List UInt8) : Nat := ((b.take 12).takeWhile (fun x => x != 0)).length
def entN (b : List UInt8) : List UInt8 := (b.take 12).takeWhile (fun x => x != 0)
def entS (b : List UInt8) : Nat := (gt b 12).toNat * 256 + (gt b 13).toNat
def entF (b : List UInt8) : Nat := (gt b 14).toNat * 256 + (gt b 15).toNat
def entK (b : List UInt8) : Bool := zerosB ((b.take 12).drop (nameK b)) && zerosB (b.drop 16)
theorem nameK_le (b : List UInt8) : nameK b ≤ 12 := by
  unfold nameK
  have := (List.takeWhile_sublist (fun x : UInt8 => x != 0) (l := b.take 12)).length_le
  have h2 : (b.take 12).length ≤ 12 := List.length_take_le _ _
  omega
theorem entN_take (b : List UInt8) (hb : b.length = 32) : (b.take (nameK b)) = entN b := by
  have h1 : entN b <+: b.take 12 := List.takeWhile_prefix _
  have h2 : entN b <+: b := h1.trans (List.take_prefix _ _)
  exact (List.prefix_iff_eq_take.1 h2).symm
theorem index_tw (xs : List UInt8) : Lib.indexByte xs 0 = if (xs.takeWhile (fun x => x != 0)).length = xs.length then -1 else ((xs.takeWhile (fun x => x != 0)).length : Int) := by
  induction xs with
  | nil => rfl
  | cons x xs ih =>
    unfold Lib.indexByte
    by_cases h : x = 0
    · subst h
      simp
    · have hb : (x == 0) = false := beq_eq_false_iff_ne.mpr h
      have hn : (x != 0) = true := bne_iff_ne.mpr h
      rw [hb, ih]
      simp only [Bool.false_eq_true, if_false, List.takeWhile_cons, hn, if_true, List.length_cons, Nat.add_right_cancel_iff]
      by_cases hl : (xs.takeWhile (fun x => x != 0)).length = xs.length
      · simp [hl]
      · rw [if_neg hl, if_neg hl]
        have : ((((xs.takeWhile (fun x => x != 0)).length : Int)) == -1) = false := beq_eq_false_iff_ne.mpr (by omega)
        rw [this]
        simp
set_option maxHeartbeats 1600000 in
theorem index_byte (a : Addr) (ha : a.spot = none) (xs : List UInt8) (n c : Nat) (hn : xs.length = n) (r : Int) (hr : Lib.indexByte xs 0 = r) (w : World) (h : byte.C w (some a) xs.length xs) :
    Calls Tryd.prog 51 #[.slice (some a) n c, .int .u8 0] w fun e w' => e = .returned (.int .i64 r) ∧ w = w' := by
  subst hn hr
  have hr := run_indexByteA h ha c 0
  go_enter Tryd.func51, Tryd.ntmps51
  go_wp2
  rw [run_callFunc_extern Tryd.func55 (by kernel_rfl) (by kernel_rfl) (by kernel_rfl) (e := Extern.BytealgIndexByte.indexByte) (by kernel_rfl), hr]
  simp only [Result.andThen]
  rw [Oper.upon_value]
  go_wp2
  go_ret
  exact ⟨rfl, rfl⟩
theorem get2_at (g lo : Nat) (b : List UInt8) (h : lo + 2 ≤ b.length) (n : Nat) (hn : (gt b lo).toNat * 256 + (gt b (lo + 1)).toNat = n) (c : Nat) (w : World) (hC : byte.C w (some ⟨g, 0, none⟩) b.length b) :
    Calls Tryd.prog 40 #[.slice (some ⟨g, lo, none⟩) 2 c] w fun e w' => e = .returned (.tuple #[.int .u64 n, .bool true]) ∧ w = w' := by
  have hm := byte_mid hC lo (lo + 2) (by omega) h
  rw [two_at b lo h] at hm
  refine (get2_any (some ⟨g, lo, none⟩) (gt b lo) (gt b (lo + 1)) c w hm).mono ?_
  rintro e w' ⟨rfl, rfl⟩
  exact ⟨by rw [← hn]; simp, rfl⟩
set_option maxRecDepth 8000 in
set_option maxHeartbeats 3200000 in
theorem entry_any (b : List UInt8) (hb : b.length = 32) (nm : ByteArray) (hnm : nm.data.toList = entN b) (s f : Nat) (hs : entS b = s) (hf : entF b = f) (r : Bool) (hr : entK b = r) (w : World) :
    Calls Tryd.prog 41 #[.agg (bytesV b).toArray] w fun e w' => e = .returned (.tuple #[.string nm, .int .i64 s, .int .i64 f, .bool r]) ∧ Below w.heap.size w w' := by
  obtain ⟨N, hN⟩ : ∃ N, N = w.heap.size := ⟨_, rfl⟩
  have hB0 := below_alloc (Below.refl w.heap.size w) (.cells (bytesV b).toArray 40)
  have hbk := blk_new w (.cells (bytesV b).toArray 40)
  obtain ⟨W, hW⟩ : ∃ W, W = w.alloc (.cells (bytesV b).toArray 40) := ⟨_, rfl⟩
  rw [← hW, ← hN] at hbk
  rw [← hW] at hB0
  have HC := Aside0.mk (byte_blk hbk (by omega))
  have HB := Aside0.mk hB0
  have HW := Aside0.mk hW
  have HN := Aside0.mk hN
  obtain ⟨k, hk⟩ : ∃ k, k = nameK b := ⟨_, rfl⟩
  have hk12 : k ≤ 12 := by rw [hk]; exact nameK_le b
  have HK := Aside0.mk hk
  have HI : Aside0 (Lib.indexByte (b.take 12) 0 = if k = 12 then -1 else (k : Int)) := ⟨by
    rw [index_tw, hk]
    unfold nameK
    have : (b.take 12).length = 12 := by simp [hb]
    rw [this]⟩
  have HR := Aside0.mk hr
  have HS := Aside0.mk hs
  have HF := Aside0.mk hf
  have HNM := Aside0.mk hnm
  have hs6 : s ≤ 65535 := by rw [← hs]; unfold entS; have := (gt b 12).toNat_lt; have := (gt b 13).toNat_lt; omega
  have hf6 : f ≤ 65535 := by rw [← hf]; unfold entF; have := (gt b 14).toNat_lt; have := (gt b 15).toNat_lt; omega
  clear hB0 hbk hW hN hk hr hs hf hnm
  go_enter Tryd.func41, Tryd.ntmps41
  go_upto_region 1 with fail
  rw [← HW.out, ← HN.out]
  obtain ⟨i6, hi6⟩ : ∃ i6, i6 = (if k = 12 then -1 else (k : Int)) := ⟨_, rfl⟩
  rw [← hi6] at HI
  have HI6 := Aside0.mk hi6
  clear hi6
  go_upto_if 14 with (go_at_call 51; refine (index_byte ⟨N, 0, none⟩ rfl (b.take 12) 12 32 (by simp [hb]) i6 HI.out W (by have := byte_mid HC.out 0 12 (by omega) (by omega); rwa [List.drop_zero] at this)).mono ?_; rintro e w1 ⟨rfl, rfl⟩)
  go_cut [6] (fun v6 wd => v6 = .int .i64 k ∧ Aside0 (wd = W))
  case first =>
    have hi6 := HI6.out
    by_cases h12 : k = 12
    · rw [if_pos h12] at hi6
      subst hi6 h12
      go_wp2_with fail
      go_meet
      case rel => exact ⟨rfl, ⟨rfl⟩⟩
    · rw [if_neg h12] at hi6
      have hneg : ¬ i6 < 0 := by omega
      have HI7 := Aside0.mk hi6
      clear hi6
      go_wp2_with fail
      go_meet
      case rel => exact ⟨by rw [HI7.out], ⟨rfl⟩⟩
  obtain ⟨rfl, HWC⟩ := hcut
  rw [HWC.out]
  have n1 : IntKind.i64.wrap (s : Int) = (s : Int) := IntWalk.i64_in _ (by omega)
  have n2 : IntKind.i64.wrap (f : Int) = (f : Int) := IntWalk.i64_in _ (by omega)
  have n3 : (k : Int) ≤ 12 := by omega
  have n4 : (k : Int) ≤ 32 := by omega
  have n5 : ¬ 32 = k := by omega
  go_upto_region 6 with (first | (go_at_call_of 40 (Value.slice (some { block := N, off := 12 }) 2 20); refine (get2_at N 12 b (by omega) s HS.out 20 W HC.out).mono ?_; rintro e w1 ⟨rfl, rfl⟩) | (go_at_call_of 40 (Value.slice (some { block := N, off := 14 }) 2 18); refine (get2_at N 14 b (by omega) f HF.out 18 W HC.out).mono ?_; rintro e w1 ⟨rfl, rfl⟩))
  have enm : (⟨(b.take k).toArray⟩ : ByteArray) = nm := name_ext (by rw [HNM.out, HK.out, ← entN_take b hb])
  have hcvA : ∀ W', Below W.heap.size W W' → (convert 26 9 (.slice (some ⟨N, 0, none⟩) k 32)).run Tryd.prog W' = .ok (.string nm) W' := fun W' hW' => by
    have hm := Kd.C_below (byte_mid HC.out 0 k (by omega) (by omega)) hW'
    rw [List.drop_zero] at hm
    have := conv_bytes (c := 32) hm
    rwa [show (b.take k).length = k by simp; omega, enm] at this
  clear enm
  have hcv0 := hcvA _ (below_drew1 (Below.refl W.heap.size W))
  obtain ⟨z1, hz1⟩ : ∃ z, zerosB ((b.take 12).drop k) = z := ⟨_, rfl⟩
  obtain ⟨z2, hz2⟩ : ∃ z, zerosB (b.drop 16) = z := ⟨_, rfl⟩
  have HRF : Aside0 (r = (z1 && z2)) := ⟨by rw [← HR.out]; unfold entK; rw [← HK.out, hz1, hz2]⟩
  have HNO1 : Aside0 (∀ W', Below W.heap.size W W' → Calls Tryd.prog 39 #[.slice (some ⟨N, k, none⟩) (12 - k) (32 - k)] W' (fun e w' => e = .returned (.bool z1) ∧ Below W'.heap.size W' w')) :=
    ⟨fun W' hW' => nought_any (some ⟨N, k, none⟩) ((b.take 12).drop k) (12 - k) (32 - k) (by simp; omega) z1 hz1 W' (Kd.C_below (byte_mid HC.out k 12 (by omega) (by omega)) hW')⟩
  have HNO2 : Aside0 (∀ W', Below W.heap.size W W' → Calls Tryd.prog 39 #[.slice (some ⟨N, 16, none⟩) 16 16] W' (fun e w' => e = .returned (.bool z2) ∧ Below W'.heap.size W' w')) :=
    ⟨fun W' hW' => nought_any (some ⟨N, 16, none⟩) (b.drop 16) 16 16 (by simp; omega) z2 hz2 W' (Kd.C_below (by have := byte_mid HC.out 16 32 (by omega) (by omega); rwa [List.take_of_length_le (by omega)] at this) hW')⟩
  clear hz1 hz2
  cases z1
  · refine wp_region_any (by kernel_rfl) ?_
    change wpAny _ _ _ _ _ _ _ (World.drew _)
    (refine wpAny_take (i := 0) (v := ?_) rfl (by kernel_rfl) (by kernel_rfl) (by kernel_rfl) (fun _ _ _ h => h) (Or.inl ⟨by rfl, ?_⟩) ?_; rotate_left; (· (intro w; go_simp; try with_reducible rfl)))
    (refine wpAny_take (i := 1) (v := ?_) rfl (by kernel_rfl) (by kernel_rfl) (by kernel_rfl) (fun _ _ _ h => h) (Or.inl ⟨by rfl, ?_⟩) ?_; rotate_left; (· (intro w; go_simp; try with_reducible rfl)))
    (refine wpAny_take (i := 3) (v := ?_) rfl (by kernel_rfl) (by kernel_rfl) (by kernel_rfl) (fun _ _ _ h => h) (Or.inl ⟨by rfl, ?_⟩) ?_; rotate_left; (· (intro w; go_simp; try with_reducible rfl)))
    (refine wpAny_take (i := 4) (v := ?_) rfl (by kernel_rfl) (by kernel_rfl) (by kernel_rfl) (fun _ _ _ h => h) (Or.inl ⟨by rfl, ?_⟩) ?_; rotate_left; (· (intro w; go_simp; try with_reducible rfl)))
    (refine wpAny_take (i := 5) (v := ?_) rfl (by kernel_rfl) (by kernel_rfl) (by kernel_rfl) (fun _ _ _ h => h) (Or.inl ⟨by rfl, ?_⟩) ?_; rotate_left; (· (intro w; go_simp; try with_reducible rfl)))
    (refine wpAny_take (i := 6) (v := ?_) rfl (by kernel_rfl) (by kernel_rfl) (by kernel_rfl) (fun _ _ _ h => h) (Or.inl ⟨by rfl, ?_⟩) ?_; rotate_left; (· (intro w; go_simp; try with_reducible rfl)))
    (refine wpAny_take (i := 7) (v := ?_) rfl (by kernel_rfl) (by kernel_rfl) (by kernel_rfl) (fun _ _ _ h => h) (Or.inl ⟨by rfl, ?_⟩) ?_; rotate_left; (· (intro w; go_simp; try with_reducible rfl)))
    (refine wpAny_take (i := 8) (v := ?_) rfl (by kernel_rfl) (by kernel_rfl) (by kernel_rfl) (fun _ _ _ h => h) (Or.inl ⟨by rfl, ?_⟩) ?_; rotate_left; (· (intro w; go_simp; try with_reducible rfl)))
    refine wpAny_ready (rs := [2, 9]) (by kernel_rfl) (by simp) ?_
    refine AllReady.cons rfl (fun K hK => ?_) (AllReady.cons rfl (fun K hK => ?_) AllReady.nil)
    · go_simp
      refine hK _ _ ?_
      clear hK K
      refine wpAny_ready (rs := [9]) (by kernel_rfl) (by simp) ?_
      refine AllReady.cons rfl (fun K hK => ?_) AllReady.nil
      go_simp
      go_wp2_with (go_at_call 39; refine (HNO1.out _ (below_drew1 (Below.refl _ _))).mono ?_; rintro e w1 ⟨rfl, hb1⟩; have HB1 := Aside0.mk (below_step (below_drew1 (Below.refl W.heap.size W)) hb1); have hcv1 := hcvA _ HB1.out; clear hb1)
      (refine wpAny_take (i := 10) (v := ?_) rfl (by kernel_rfl) (by kernel_rfl) (by kernel_rfl) (fun _ _ _ h => h) (Or.inl ⟨by rfl, ?_⟩) ?_; rotate_left; (· (intro w; go_simp; try with_reducible rfl)))
      (refine wpAny_take (i := 11) (v := undef) rfl (by kernel_rfl) (by kernel_rfl) (by kernel_rfl) (fun _ _ _ h => h) (Or.inr ⟨by rfl, rfl⟩) ?_)
      (refine wpAny_take (i := 12) (v := undef) rfl (by kernel_rfl) (by kernel_rfl) (by kernel_rfl) (fun _ _ _ h => h) (Or.inr ⟨by rfl, rfl⟩) ?_)
      (refine wpAny_take (i := 13) (v := ?_) rfl (by kernel_rfl) (by kernel_rfl) (by kernel_rfl) (fun _ _ _ h => h) (Or.inl ⟨by rfl, ?_⟩) ?_; rotate_left; (· (intro w; go_simp; try with_reducible rfl)))
      (refine wpAny_take (i := 14) (v := ?_) rfl (by kernel_rfl) (by kernel_rfl) (by kernel_rfl) (fun _ _ _ h => h) (Or.inl ⟨by rfl, ?_⟩) ?_; rotate_left; (· (intro w; go_simp; try with_reducible rfl)))
      (refine wpAny_take (i := 15) (v := ?_) rfl (by kernel_rfl) (by kernel_rfl) (by kernel_rfl) (fun _ _ _ h => h) (Or.inl ⟨by rfl, ?_⟩) ?_; rotate_left; (· (intro w; go_simp; try with_reducible rfl)))
      (refine wpAny_take (i := 16) (v := ?_) rfl (by kernel_rfl) (by kernel_rfl) (by kernel_rfl) (fun _ _ _ h => h) (Or.inl ⟨by rfl, ?_⟩) ?_; rotate_left; (· (intro w; go_simp; try with_reducible rfl)))
      (refine wpAny_take (i := 17) (v := ?_) rfl (by kernel_rfl) (by kernel_rfl) (by kernel_rfl) (fun _ _ _ h => h) (Or.inl ⟨by rfl, ?_⟩) ?_; rotate_left; (· (intro w; go_simp; try with_reducible rfl)))
      refine wpAny_done (by kernel_rfl) ?_ _
      simp only [List.getElem_toArray, List.getElem_cons_succ, List.getElem_cons_zero, Act.put, List.setIfInBounds_toArray, List.set_cons_succ, List.set_cons_zero]
      go_wp2_with fail
      (try simp only [Exit.inBlock, Exit.then])
      refine bodyPost_ret (results_tmp4 rfl _ _ _) rfl ?_
      exact ⟨by rw [HRF.out]; rfl, HB.out.trans (HB1.out.mono HB.out.size)⟩
    · go_simp
      go_wp2_with (go_at_call 39; refine (HNO1.out _ (below_drew1 (Below.refl _ _))).mono ?_; rintro e w1 ⟨rfl, hb1⟩; have HB1 := Aside0.mk (below_step (below_drew1 (Below.refl W.heap.size W)) hb1); have hcv1 := hcvA _ HB1.out; clear hb1)
      (refine wpAny_take (i := 10) (v := ?_) rfl (by kernel_rfl) (by kernel_rfl) (by kernel_rfl) (fun _ _ _ h => h) (Or.inl ⟨by rfl, ?_⟩) ?_; rotate_left; (· (intro w; go_simp; try with_reducible rfl)))
      (refine wpAny_take (i := 11) (v := undef) rfl (by kernel_rfl) (by kernel_rfl) (by kernel_rfl) (fun _ _ _ h => h) (Or.inr ⟨by rfl, rfl⟩) ?_)
      (refine wpAny_take (i := 12) (v := undef) rfl (by kernel_rfl) (by kernel_rfl) (by kernel_rfl) (fun _ _ _ h => h) (Or.inr ⟨by rfl, rfl⟩) ?_)
      (refine wpAny_take (i := 13) (v := ?_) rfl (by kernel_rfl) (by kernel_rfl) (by kernel_rfl) (fun _ _ _ h => h) (Or.inl ⟨by rfl, ?_⟩) ?_; rotate_left; (· (intro w; go_simp; try with_reducible rfl)))
      refine wpAny_ready (rs := [2]) (by kernel_rfl) (by simp) ?_
      refine AllReady.cons rfl (fun K hK => ?_) AllReady.nil
      go_simp
      refine hK _ _ ?_
      clear hK K
      (refine wpAny_take (i := 14) (v := ?_) rfl (by kernel_rfl) (by kernel_rfl) (by kernel_rfl) (fun _ _ _ h => h) (Or.inl ⟨by rfl, ?_⟩) ?_; rotate_left; (· (intro w; go_simp; try with_reducible rfl)))
      (refine wpAny_take (i := 15) (v := ?_) rfl (by kernel_rfl) (by kernel_rfl) (by kernel_rfl) (fun _ _ _ h => h) (Or.inl ⟨by rfl, ?_⟩) ?_; rotate_left; (· (intro w; go_simp; try with_reducible rfl)))
      (refine wpAny_take (i := 16) (v := ?_) rfl (by kernel_rfl) (by kernel_rfl) (by kernel_rfl) (fun _ _ _ h => h) (Or.inl ⟨by rfl, ?_⟩) ?_; rotate_left; (· (intro w; go_simp; try with_reducible rfl)))
      (refine wpAny_take (i := 17) (v := ?_) rfl (by kernel_rfl) (by kernel_rfl) (by kernel_rfl) (fun _ _ _ h => h) (Or.inl ⟨by rfl, ?_⟩) ?_; rotate_left; (· (intro w; go_simp; try with_reducible rfl)))
      refine wpAny_done (by kernel_rfl) ?_ _
      simp only [List.getElem_toArray, List.getElem_cons_succ, List.getElem_cons_zero, Act.put, List.setIfInBounds_toArray, List.set_cons_succ, List.set_cons_zero]
      go_wp2_with fail
      (try simp only [Exit.inBlock, Exit.then])
      refine bodyPost_ret (results_tmp4 rfl _ _ _) rfl ?_
      exact ⟨by rw [HRF.out]; rfl, HB.out.trans (HB1.out.mono HB.out.size)⟩
  · go_region_held3 (fun W' => (convert 26 9 (.slice (some ⟨N, 0, none⟩) k 32)).run Tryd.prog W' = .ok (.string nm) W') (first | exact hcv0 | exact hcv1 | exact hcv2) (first | (go_at_call 39; refine (HNO1.out _ (below_drew1 (Below.refl _ _))).mono ?_; rintro e w1 ⟨rfl, hb1⟩; have HB1 := Aside0.mk (below_step (below_drew1 (Below.refl W.heap.size W)) hb1); have hcv1 := hcvA _ HB1.out; clear hb1) | (go_at_call 39; refine (HNO2.out _ HB1.out).mono ?_; rintro e w2 ⟨rfl, hb2⟩; have HB2 := Aside0.mk (below_step HB1.out hb2); have hcv2 := hcvA _ HB2.out; clear hb2))
    all_goals
      go_wp2_with fail
      (try simp only [Exit.inBlock, Exit.then])
      refine bodyPost_ret (results_tmp4 rfl _ _ _) rfl ?_
      exact ⟨by rw [HRF.out]; rfl, HB.out.trans (HB2.out.mono HB.out.size)⟩
end Go.Proofs.YtahjadbjokkjnaaDoor
