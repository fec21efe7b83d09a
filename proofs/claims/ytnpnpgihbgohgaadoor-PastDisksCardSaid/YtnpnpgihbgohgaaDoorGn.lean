/-
  Chapter 49, fs.Read, walked.
-/
import Derived.Test.YtnpnpgihbgohgaaDoorGh
import Derived.Lib.BytesEntry
import Derived.Laws.Externs
import Derived.Shelf.Bytes.SlCountOne
/-
  Chapter 49, what fs.Read calls: whether bytes are noughts; an entry of the table.
-/
namespace Go.Proofs.YtnpnpgihbgohgaaDoor
open Go.RowKit Go.Proofs.YtnpnpgihbgohgaaDoorW.PrintWords Go.Proofs.YtnpnpgihbgohgaaDoorW.PrintLast Go.Proofs.YtnpnpgihbgohgaaDoorW.PrintMore
set_option linter.unusedVariables false
set_option linter.unusedSimpArgs false

/-- Are bytes all noughts? -/
def zerosB (xs : List UInt8) : Bool := xs.all (· == 0)
theorem zerosB_iff (xs : List UInt8) : zerosB xs = true ↔ ∀ x ∈ xs, x = 0 := by simp [zerosB]
theorem bytesOf_nums (xs : List UInt8) : Lib.bytesOf (xs.map fun x => (x.toNat : Int)) = xs := by
  simp [Lib.bytesOf, Function.comp_def]
theorem nums_getD (xs : List UInt8) (i : Nat) (hi : i < xs.length) : (xs.map fun x => (x.toNat : Int)).getD i 0 = ((gt xs i).toNat : Int) := by
  simp [gt_eq xs i hi, hi]
theorem count_zeros (xs : List UInt8) : (((Lib.countByte xs 0 : Nat) : Int) == (xs.length : Int)) = zerosB xs := by
  rw [Bool.eq_iff_iff, zerosB_iff]
  simp only [beq_iff_eq, Int.ofNat_inj, Lib.countByte]
  rw [List.count_eq_length]
  exact ⟨fun h x hx => (h x hx).symm, fun h x hx => (h x hx).symm⟩
theorem run_count {w : World} {A : Option Addr} {xs : List UInt8} (h : byte.C w A xs.length xs) (c : Nat) (cv : Int) : (Extern.BytealgCount.count #[.slice A xs.length c, .int .u8 cv]).run Tryd.prog w = .ok (.int .i64 (Lib.countByte xs cv.toNat.toUInt8)) w := by
  rcases A with _ | a
  · have h0 : xs = [] := by
      rcases xs with _ | ⟨x, xs⟩
      · rfl
      · obtain ⟨ad, e, _⟩ := byte_at h (k := 0) (by simp)
        cases e
    subst h0
    have := Lib.run_countString (P := Tryd.prog) .empty cv w
    exact this
  · have := Lib.run_countAt (P := Tryd.prog) w a xs.length c (xs.map fun x => (x.toNat : Int)) (by simp) (fun i hi => by
      obtain ⟨_, e, hc⟩ := byte_at h hi
      cases e
      rw [nums_getD xs i hi]
      exact hc) cv
    rwa [bytesOf_nums] at this
theorem run_indexByteA {w : World} {a : Addr} {xs : List UInt8} (h : byte.C w (some a) xs.length xs) (ha : a.spot = none) (c : Nat) (cv : Int) : (Extern.BytealgIndexByte.indexByte #[.slice (some a) xs.length c, .int .u8 cv]).run Tryd.prog w = .ok (.int .i64 (Lib.indexByte xs cv.toNat.toUInt8)) w := by
  obtain ⟨b, o, s⟩ := a
  cases ha
  have := Lib.run_indexByteSlice (P := Tryd.prog) w b o xs.length c (xs.map fun x => (x.toNat : Int)) (by simp) (fun i hi => by
    obtain ⟨_, e, hc⟩ := byte_at h hi
    cases e
    rw [nums_getD xs i hi, ← Addr.add_mid]
    exact hc) cv
  rwa [bytesOf_nums] at this
set_option maxRecDepth 8000 in
set_option maxHeartbeats 1600000 in
theorem count_any (A : Option Addr) (xs : List UInt8) (c g : Nat) (w : World) (h : byte.C w A xs.length xs) (hg : w.cell? ⟨g, 0, none⟩ = some (.int .u8 0)) :
    Calls Tryd.prog 34 #[.slice A xs.length c, .slice (some ⟨g, 0, none⟩) 1 1] w fun e w' => e = .returned (.int .i64 (Lib.countByte xs 0)) ∧ w = w' := by
  have hr := run_count h c 0
  go_enter Tryd.func34, Tryd.ntmps34
  go_wp2
  rw [run_callFunc_extern Tryd.func41 (by kernel_rfl) (by kernel_rfl) (by kernel_rfl) (e := Extern.BytealgCount.count) (by kernel_rfl), hr]
  simp only [Result.andThen]
  rw [Oper.upon_value]
  go_wp2
  go_ret
  exact ⟨rfl, rfl⟩
set_option maxHeartbeats 1600000 in
theorem nought_any (A : Option Addr) (xs : List UInt8) (n c : Nat) (hn : xs.length = n) (r : Bool) (hr : zerosB xs = r) (w : World) (h : byte.C w A xs.length xs) :
    Calls Tryd.prog 24 #[.slice A n c] w fun e w' => e = .returned (.bool r) ∧ Below w.heap.size w w' := by
  subst hn
  have HR := Aside0.mk hr
  have hb := below_alloc (Below.refl w.heap.size w) (.cells #[.int .u8 0] 5)
  have HC := Aside0.mk (count_any A xs c w.heap.size _ (Kd.C_below h hb) (blk_cell (blk_new w (.cells #[.int .u8 0] 5)) 0))
  have HB := Aside0.mk hb
  obtain ⟨m, hm⟩ : ∃ m, m = Lib.countByte xs 0 := ⟨_, rfl⟩
  have HE : Aside0 (((m : Int) == (xs.length : Int)) = r) := ⟨by rw [hm, ← hr]; exact count_zeros xs⟩
  rw [← hm] at HC
  clear hr hb h hm
  go_enter Tryd.func24, Tryd.ntmps24
  go_wp2_with (go_at_call 34; refine HC.out.mono ?_; rintro e w1 ⟨rfl, rfl⟩)
  go_ret
  exact ⟨ret_bool HE.out, HB.out⟩
theorem results_tmp4 {fn : Func} {t u v x : Tmp} (h : fn.results = #[.tmp t, .tmp u, .tmp v, .tmp x]) (tmps : Array Value) (P : Program) (w : World) :
    (results fn tmps).run P w = .ok (.tuple #[tmps.getD t undef, tmps.getD u undef, tmps.getD v undef, tmps.getD x undef]) w := by
  simp [results, h]
theorem byte_mid {w : World} {g : Nat} {xs : List UInt8} (h : byte.C w (some ⟨g, 0, none⟩) xs.length xs) (lo hi : Nat) (h1 : lo ≤ hi) (h2 : hi ≤ xs.length) : byte.C w (some ⟨g, lo, none⟩) ((xs.take hi).drop lo).length ((xs.take hi).drop lo) := by
  have hm := Kd.C_mid (c := xs.length + lo + 1) h h1 h2 (by omega)
  rw [if_neg (by omega)] at hm
  have e : (some (⟨g, 0, none⟩ : Addr)).map (fun a => a.add (lo * byte.sz)) = some ⟨g, lo, none⟩ := by
    show some ((⟨g, 0, none⟩ : Addr).add (lo * 1)) = _
    rw [add_plain, Nat.mul_one]
  rwa [e] at hm
theorem two_at (b : List UInt8) (lo : Nat) (h : lo + 2 ≤ b.length) : (b.take (lo + 2)).drop lo = [gt b lo, gt b (lo + 1)] := by
  apply List.ext_getElem
  · simp; omega
  · intro i h1 h2
    simp only [List.length_cons, List.length_nil] at h2
    rcases (show i = 0 ∨ i = 1 by omega) with rfl | rfl
    · simp [gt_eq b lo (by omega)]
    · simp [gt_eq b (lo + 1) (by omega)]
/-- How long the name is that stands in a block. -/
def nameK (b : List UInt8) : Nat := ((b.take 12).takeWhile (fun x => x != 0)).length
def entN (b : List UInt8) : List UInt8 := (b.take 12).takeWhile (fun x => x != 0)
def entS (b : List UInt8) : Nat := (gt b 12).toNat * 256 + (gt b 13).toNat
def entF (b : List UInt8) : Nat := (gt b 14).toNat * 256 + (gt b 15).toNat
def entK (b : List UInt8) : Bool := zerosB ((b.take 12).drop (nameK b)) && zerosB (b.drop 16)
theorem nameK_le (b : List UInt8) : nameK b ≤ 12 := by
  unfold nameK
  have := (List.takeWhile_sublist (fun x : UInt8 => x != 0) (l := b.take 12)).length_le
  have h2 : (b.take 12).length ≤ 12 := List.length_take_le _ _
  omega
theorem entN_take (b : List UInt8) (hb : b.length = 32) : (b.take (nameK b)) = entN b := by
  have h1 : entN b <+: b.take 12 := List.takeWhile_prefix _
  have h2 : entN b <+: b := h1.trans (List.take_prefix _ _)
  exact (List.prefix_iff_eq_take.1 h2).symm
theorem index_tw (xs : List UInt8) : Lib.indexByte xs 0 = if (xs.takeWhile (fun x => x != 0)).length = xs.length then -1 else ((xs.takeWhile (fun x => x != 0)).length : Int) := by
  induction xs with
  | nil => rfl
  | cons x xs ih =>
    unfold Lib.indexByte
    by_cases h : x = 0
    · subst h
      simp
    · have hb : (x == 0) = false := beq_eq_false_iff_ne.mpr h
      have hn : (x != 0) = true := bne_iff_ne.mpr h
      rw [hb, ih]
      simp only [Bool.false_eq_true, if_false, List.takeWhile_cons, hn, if_true, List.length_cons, Nat.add_right_cancel_iff]
      by_cases hl : (xs.takeWhile (fun x => x != 0)).length = xs.length
      · simp [hl]
      · rw [if_neg hl, if_neg hl]
        have : ((((xs.takeWhile (fun x => x != 0)).length : Int)) == -1) = false := beq_eq_false_iff_ne.mpr (by omega)
        rw [this]
        simp
set_option maxRecDepth 8000 in
set_option maxHeartbeats 1600000 in
theorem index_byte (a : Addr) (ha : a.spot = none) (xs : List UInt8) (n c : Nat) (hn : xs.length = n) (r : Int) (hr : Lib.indexByte xs 0 = r) (w : World) (h : byte.C w (some a) xs.length xs) :
    Calls Tryd.prog 35 #[.slice (some a) n c, .int .u8 0] w fun e w' => e = .returned (.int .i64 r) ∧ w = w' := by
  subst hn hr
  have hr := run_indexByteA h ha c 0
  go_enter Tryd.func35, Tryd.ntmps35
  go_wp2
  rw [run_callFunc_extern Tryd.func43 (by kernel_rfl) (by kernel_rfl) (by kernel_rfl) (e := Extern.BytealgIndexByte.indexByte) (by kernel_rfl), hr]
  simp only [Result.andThen]
  rw [Oper.upon_value]
  go_wp2
  go_ret
  exact ⟨rfl, rfl⟩
theorem get2_at (g lo : Nat) (b : List UInt8) (h : lo + 2 ≤ b.length) (n : Nat) (hn : (gt b lo).toNat * 256 + (gt b (lo + 1)).toNat = n) (c : Nat) (w : World) (hC : byte.C w (some ⟨g, 0, none⟩) b.length b) :
    Calls Tryd.prog 25 #[.slice (some ⟨g, lo, none⟩) 2 c] w fun e w' => e = .returned (.tuple #[.int .u64 n, .bool true]) ∧ w = w' := by
  have hm := byte_mid hC lo (lo + 2) (by omega) h
  rw [two_at b lo h] at hm
  refine (get2_any (some ⟨g, lo, none⟩) (gt b lo) (gt b (lo + 1)) c w hm).mono ?_
  rintro e w' ⟨rfl, rfl⟩
  exact ⟨by rw [← hn]; simp, rfl⟩
set_option maxRecDepth 8000 in
set_option maxHeartbeats 3200000 in
theorem entry_any (b : List UInt8) (hb : b.length = 32) (nm : ByteArray) (hnm : nm.data.toList = entN b) (s f : Nat) (hs : entS b = s) (hf : entF b = f) (r : Bool) (hr : entK b = r) (w : World) :
    Calls Tryd.prog 26 #[.agg (bytesV b).toArray] w fun e w' => e = .returned (.tuple #[.string nm, .int .i64 s, .int .i64 f, .bool r]) ∧ Below w.heap.size w w' := by
  obtain ⟨N, hN⟩ : ∃ N, N = w.heap.size := ⟨_, rfl⟩
  have hB0 := below_alloc (Below.refl w.heap.size w) (.cells (bytesV b).toArray 41)
  have hbk := blk_new w (.cells (bytesV b).toArray 41)
  obtain ⟨W, hW⟩ : ∃ W, W = w.alloc (.cells (bytesV b).toArray 41) := ⟨_, rfl⟩
  rw [← hW, ← hN] at hbk
  rw [← hW] at hB0
  have HC := Aside0.mk (byte_blk hbk (by omega))
  have HB := Aside0.mk hB0
  have HW := Aside0.mk hW
  have HN := Aside0.mk hN
  obtain ⟨k, hk⟩ : ∃ k, k = nameK b := ⟨_, rfl⟩
  have hk12 : k ≤ 12 := by rw [hk]; exact nameK_le b
  have HK := Aside0.mk hk
  have HI : Aside0 (Lib.indexByte (b.take 12) 0 = if k = 12 then -1 else (k : Int)) := ⟨by
    rw [index_tw, hk]
    unfold nameK
    have : (b.take 12).length = 12 := by simp [hb]
    rw [this]⟩
  have HR := Aside0.mk hr
  have HS := Aside0.mk hs
  have HF := Aside0.mk hf
  have HNM := Aside0.mk hnm
  have hs6 : s ≤ 65535 := by rw [← hs]; unfold entS; have := (gt b 12).toNat_lt; have := (gt b 13).toNat_lt; omega
  have hf6 : f ≤ 65535 := by rw [← hf]; unfold entF; have := (gt b 14).toNat_lt; have := (gt b 15).toNat_lt; omega
  clear hB0 hbk hW hN hk hr hs hf hnm
  go_enter Tryd.func26, Tryd.ntmps26
  go_upto_region 1 with fail
  rw [← HW.out, ← HN.out]
  obtain ⟨i6, hi6⟩ : ∃ i6, i6 = (if k = 12 then -1 else (k : Int)) := ⟨_, rfl⟩
  rw [← hi6] at HI
  have HI6 := Aside0.mk hi6
  clear hi6
  go_upto_if 14 with (go_at_call 35; refine (index_byte ⟨N, 0, none⟩ rfl (b.take 12) 12 32 (by simp [hb]) i6 HI.out W (by have := byte_mid HC.out 0 12 (by omega) (by omega); rwa [List.drop_zero] at this)).mono ?_; rintro e w1 ⟨rfl, rfl⟩)
  go_cut [6] (fun v6 wd => v6 = .int .i64 k ∧ Aside0 (wd = W))
  case first =>
    have hi6 := HI6.out
    by_cases h12 : k = 12
    · rw [if_pos h12] at hi6
      subst hi6 h12
      go_wp2_with fail
      go_meet
      case rel => exact ⟨rfl, ⟨rfl⟩⟩
    · rw [if_neg h12] at hi6
      have hneg : ¬ i6 < 0 := by omega
      have HI7 := Aside0.mk hi6
      clear hi6
      go_wp2_with fail
      go_meet
      case rel => exact ⟨by rw [HI7.out], ⟨rfl⟩⟩
  obtain ⟨rfl, HWC⟩ := hcut
  rw [HWC.out]
  have n1 : IntKind.i64.wrap (s : Int) = (s : Int) := IntWalk.i64_in _ (by omega)
  have n2 : IntKind.i64.wrap (f : Int) = (f : Int) := IntWalk.i64_in _ (by omega)
  have n3 : (k : Int) ≤ 12 := by omega
  have n4 : (k : Int) ≤ 32 := by omega
  have n5 : ¬ 32 = k := by omega
  go_upto_region 6 with (first | (go_at_call_of 25 (Value.slice (some { block := N, off := 12 }) 2 20); refine (get2_at N 12 b (by omega) s HS.out 20 W HC.out).mono ?_; rintro e w1 ⟨rfl, rfl⟩) | (go_at_call_of 25 (Value.slice (some { block := N, off := 14 }) 2 18); refine (get2_at N 14 b (by omega) f HF.out 18 W HC.out).mono ?_; rintro e w1 ⟨rfl, rfl⟩))
  have enm : (⟨(b.take k).toArray⟩ : ByteArray) = nm := name_ext (by rw [HNM.out, HK.out, ← entN_take b hb])
  have hcvA : ∀ W', Below W.heap.size W W' → (convert 45 9 (.slice (some ⟨N, 0, none⟩) k 32)).run Tryd.prog W' = .ok (.string nm) W' := fun W' hW' => by
    have hm := Kd.C_below (byte_mid HC.out 0 k (by omega) (by omega)) hW'
    rw [List.drop_zero] at hm
    have := conv_bytes (c := 32) hm
    rwa [show (b.take k).length = k by simp; omega, enm] at this
  clear enm
  have hcv0 := hcvA _ (below_drew1 (Below.refl W.heap.size W))
  obtain ⟨z1, hz1⟩ : ∃ z, zerosB ((b.take 12).drop k) = z := ⟨_, rfl⟩
  obtain ⟨z2, hz2⟩ : ∃ z, zerosB (b.drop 16) = z := ⟨_, rfl⟩
  have HRF : Aside0 (r = (z1 && z2)) := ⟨by rw [← HR.out]; unfold entK; rw [← HK.out, hz1, hz2]⟩
  have HNO1 : Aside0 (∀ W', Below W.heap.size W W' → Calls Tryd.prog 24 #[.slice (some ⟨N, k, none⟩) (12 - k) (32 - k)] W' (fun e w' => e = .returned (.bool z1) ∧ Below W'.heap.size W' w')) :=
    ⟨fun W' hW' => nought_any (some ⟨N, k, none⟩) ((b.take 12).drop k) (12 - k) (32 - k) (by simp; omega) z1 hz1 W' (Kd.C_below (byte_mid HC.out k 12 (by omega) (by omega)) hW')⟩
  have HNO2 : Aside0 (∀ W', Below W.heap.size W W' → Calls Tryd.prog 24 #[.slice (some ⟨N, 16, none⟩) 16 16] W' (fun e w' => e = .returned (.bool z2) ∧ Below W'.heap.size W' w')) :=
    ⟨fun W' hW' => nought_any (some ⟨N, 16, none⟩) (b.drop 16) 16 16 (by simp; omega) z2 hz2 W' (Kd.C_below (by have := byte_mid HC.out 16 32 (by omega) (by omega); rwa [List.take_of_length_le (by omega)] at this) hW')⟩
  clear hz1 hz2
  cases z1
  · refine wp_region_any (by kernel_rfl) ?_
    change wpAny _ _ _ _ _ _ _ (World.drew _)
    (refine wpAny_take (i := 0) (v := ?_) rfl (by kernel_rfl) (by kernel_rfl) (by kernel_rfl) (fun _ _ _ h => h) (Or.inl ⟨by rfl, ?_⟩) ?_; rotate_left; (· (intro w; go_simp; try with_reducible rfl)))
    (refine wpAny_take (i := 1) (v := ?_) rfl (by kernel_rfl) (by kernel_rfl) (by kernel_rfl) (fun _ _ _ h => h) (Or.inl ⟨by rfl, ?_⟩) ?_; rotate_left; (· (intro w; go_simp; try with_reducible rfl)))
    (refine wpAny_take (i := 3) (v := ?_) rfl (by kernel_rfl) (by kernel_rfl) (by kernel_rfl) (fun _ _ _ h => h) (Or.inl ⟨by rfl, ?_⟩) ?_; rotate_left; (· (intro w; go_simp; try with_reducible rfl)))
    (refine wpAny_take (i := 4) (v := ?_) rfl (by kernel_rfl) (by kernel_rfl) (by kernel_rfl) (fun _ _ _ h => h) (Or.inl ⟨by rfl, ?_⟩) ?_; rotate_left; (· (intro w; go_simp; try with_reducible rfl)))
    (refine wpAny_take (i := 5) (v := ?_) rfl (by kernel_rfl) (by kernel_rfl) (by kernel_rfl) (fun _ _ _ h => h) (Or.inl ⟨by rfl, ?_⟩) ?_; rotate_left; (· (intro w; go_simp; try with_reducible rfl)))
    (refine wpAny_take (i := 6) (v := ?_) rfl (by kernel_rfl) (by kernel_rfl) (by kernel_rfl) (fun _ _ _ h => h) (Or.inl ⟨by rfl, ?_⟩) ?_; rotate_left; (· (intro w; go_simp; try with_reducible rfl)))
    (refine wpAny_take (i := 7) (v := ?_) rfl (by kernel_rfl) (by kernel_rfl) (by kernel_rfl) (fun _ _ _ h => h) (Or.inl ⟨by rfl, ?_⟩) ?_; rotate_left; (· (intro w; go_simp; try with_reducible rfl)))
    (refine wpAny_take (i := 8) (v := ?_) rfl (by kernel_rfl) (by kernel_rfl) (by kernel_rfl) (fun _ _ _ h => h) (Or.inl ⟨by rfl, ?_⟩) ?_; rotate_left; (· (intro w; go_simp; try with_reducible rfl)))
    refine wpAny_ready (rs := [2, 9]) (by kernel_rfl) (by simp) ?_
    refine AllReady.cons rfl (fun K hK => ?_) (AllReady.cons rfl (fun K hK => ?_) AllReady.nil)
    · go_simp
      refine hK _ _ ?_
      clear hK K
      refine wpAny_ready (rs := [9]) (by kernel_rfl) (by simp) ?_
      refine AllReady.cons rfl (fun K hK => ?_) AllReady.nil
      go_simp
      go_wp2_with (go_at_call 24; refine (HNO1.out _ (below_drew1 (Below.refl _ _))).mono ?_; rintro e w1 ⟨rfl, hb1⟩; have HB1 := Aside0.mk (below_step (below_drew1 (Below.refl W.heap.size W)) hb1); have hcv1 := hcvA _ HB1.out; clear hb1)
      (refine wpAny_take (i := 10) (v := ?_) rfl (by kernel_rfl) (by kernel_rfl) (by kernel_rfl) (fun _ _ _ h => h) (Or.inl ⟨by rfl, ?_⟩) ?_; rotate_left; (· (intro w; go_simp; try with_reducible rfl)))
      (refine wpAny_take (i := 11) (v := undef) rfl (by kernel_rfl) (by kernel_rfl) (by kernel_rfl) (fun _ _ _ h => h) (Or.inr ⟨by rfl, rfl⟩) ?_)
      (refine wpAny_take (i := 12) (v := undef) rfl (by kernel_rfl) (by kernel_rfl) (by kernel_rfl) (fun _ _ _ h => h) (Or.inr ⟨by rfl, rfl⟩) ?_)
      (refine wpAny_take (i := 13) (v := ?_) rfl (by kernel_rfl) (by kernel_rfl) (by kernel_rfl) (fun _ _ _ h => h) (Or.inl ⟨by rfl, ?_⟩) ?_; rotate_left; (· (intro w; go_simp; try with_reducible rfl)))
      (refine wpAny_take (i := 14) (v := ?_) rfl (by kernel_rfl) (by kernel_rfl) (by kernel_rfl) (fun _ _ _ h => h) (Or.inl ⟨by rfl, ?_⟩) ?_; rotate_left; (· (intro w; go_simp; try with_reducible rfl)))
      (refine wpAny_take (i := 15) (v := ?_) rfl (by kernel_rfl) (by kernel_rfl) (by kernel_rfl) (fun _ _ _ h => h) (Or.inl ⟨by rfl, ?_⟩) ?_; rotate_left; (· (intro w; go_simp; try with_reducible rfl)))
      (refine wpAny_take (i := 16) (v := ?_) rfl (by kernel_rfl) (by kernel_rfl) (by kernel_rfl) (fun _ _ _ h => h) (Or.inl ⟨by rfl, ?_⟩) ?_; rotate_left; (· (intro w; go_simp; try with_reducible rfl)))
      (refine wpAny_take (i := 17) (v := ?_) rfl (by kernel_rfl) (by kernel_rfl) (by kernel_rfl) (fun _ _ _ h => h) (Or.inl ⟨by rfl, ?_⟩) ?_; rotate_left; (· (intro w; go_simp; try with_reducible rfl)))
      refine wpAny_done (by kernel_rfl) ?_ _
      simp only [List.getElem_toArray, List.getElem_cons_succ, List.getElem_cons_zero, Act.put, List.setIfInBounds_toArray, List.set_cons_succ, List.set_cons_zero]
      go_wp2_with fail
      (try simp only [Exit.inBlock, Exit.then])
      refine bodyPost_ret (results_tmp4 rfl _ _ _) rfl ?_
      exact ⟨by rw [HRF.out]; rfl, HB.out.trans (HB1.out.mono HB.out.size)⟩
    · go_simp
      go_wp2_with (go_at_call 24; refine (HNO1.out _ (below_drew1 (Below.refl _ _))).mono ?_; rintro e w1 ⟨rfl, hb1⟩; have HB1 := Aside0.mk (below_step (below_drew1 (Below.refl W.heap.size W)) hb1); have hcv1 := hcvA _ HB1.out; clear hb1)
      (refine wpAny_take (i := 10) (v := ?_) rfl (by kernel_rfl) (by kernel_rfl) (by kernel_rfl) (fun _ _ _ h => h) (Or.inl ⟨by rfl, ?_⟩) ?_; rotate_left; (· (intro w; go_simp; try with_reducible rfl)))
      (refine wpAny_take (i := 11) (v := undef) rfl (by kernel_rfl) (by kernel_rfl) (by kernel_rfl) (fun _ _ _ h => h) (Or.inr ⟨by rfl, rfl⟩) ?_)
      (refine wpAny_take (i := 12) (v := undef) rfl (by kernel_rfl) (by kernel_rfl) (by kernel_rfl) (fun _ _ _ h => h) (Or.inr ⟨by rfl, rfl⟩) ?_)
      (refine wpAny_take (i := 13) (v := ?_) rfl (by kernel_rfl) (by kernel_rfl) (by kernel_rfl) (fun _ _ _ h => h) (Or.inl ⟨by rfl, ?_⟩) ?_; rotate_left; (· (intro w; go_simp; try with_reducible rfl)))
      refine wpAny_ready (rs := [2]) (by kernel_rfl) (by simp) ?_
      refine AllReady.cons rfl (fun K hK => ?_) AllReady.nil
      go_simp
      refine hK _ _ ?_
      clear hK K
      (refine wpAny_take (i := 14) (v := ?_) rfl (by kernel_rfl) (by kernel_rfl) (by kernel_rfl) (fun _ _ _ h => h) (Or.inl ⟨by rfl, ?_⟩) ?_; rotate_left; (· (intro w; go_simp; try with_reducible rfl)))
      (refine wpAny_take (i := 15) (v := ?_) rfl (by kernel_rfl) (by kernel_rfl) (by kernel_rfl) (fun _ _ _ h => h) (Or.inl ⟨by rfl, ?_⟩) ?_; rotate_left; (· (intro w; go_simp; try with_reducible rfl)))
      (refine wpAny_take (i := 16) (v := ?_) rfl (by kernel_rfl) (by kernel_rfl) (by kernel_rfl) (fun _ _ _ h => h) (Or.inl ⟨by rfl, ?_⟩) ?_; rotate_left; (· (intro w; go_simp; try with_reducible rfl)))
      (refine wpAny_take (i := 17) (v := ?_) rfl (by kernel_rfl) (by kernel_rfl) (by kernel_rfl) (fun _ _ _ h => h) (Or.inl ⟨by rfl, ?_⟩) ?_; rotate_left; (· (intro w; go_simp; try with_reducible rfl)))
      refine wpAny_done (by kernel_rfl) ?_ _
      simp only [List.getElem_toArray, List.getElem_cons_succ, List.getElem_cons_zero, Act.put, List.setIfInBounds_toArray, List.set_cons_succ, List.set_cons_zero]
      go_wp2_with fail
      (try simp only [Exit.inBlock, Exit.then])
      refine bodyPost_ret (results_tmp4 rfl _ _ _) rfl ?_
      exact ⟨by rw [HRF.out]; rfl, HB.out.trans (HB1.out.mono HB.out.size)⟩
  · go_region_held3 (fun W' => (convert 45 9 (.slice (some ⟨N, 0, none⟩) k 32)).run Tryd.prog W' = .ok (.string nm) W') (first | exact hcv0 | exact hcv1 | exact hcv2) (first | (go_at_call 24; refine (HNO1.out _ (below_drew1 (Below.refl _ _))).mono ?_; rintro e w1 ⟨rfl, hb1⟩; have HB1 := Aside0.mk (below_step (below_drew1 (Below.refl W.heap.size W)) hb1); have hcv1 := hcvA _ HB1.out; clear hb1) | (go_at_call 24; refine (HNO2.out _ HB1.out).mono ?_; rintro e w2 ⟨rfl, hb2⟩; have HB2 := Aside0.mk (below_step HB1.out hb2); have hcv2 := hcvA _ HB2.out; clear hb2))
    all_goals
      go_wp2_with fail
      (try simp only [Exit.inBlock, Exit.then])
      refine bodyPost_ret (results_tmp4 rfl _ _ _) rfl ?_
      exact ⟨by rw [HRF.out]; rfl, HB.out.trans (HB2.out.mono HB.out.size)⟩
end Go.Proofs.YtnpnpgihbgohgaaDoor
/-
  Chapter 49, fs.Read: what tells a disk's blocks; the closure that takes the next one.
-/
namespace Go.Proofs.YtnpnpgihbgohgaaDoor
open Go.RowKit Go.Proofs.YtnpnpgihbgohgaaDoorW.PrintWords Go.Proofs.YtnpnpgihbgohgaaDoorW.PrintLast Go.Proofs.YtnpnpgihbgohgaaDoorW.PrintMore
set_option linter.unusedVariables false
set_option linter.unusedSimpArgs false

/-- From block B on, but for X, all stands as it stood. -/
structure KeptX (B : Nat) (X : Nat → Prop) (W W' : World) : Prop where
  os : W'.os = W.os
  tape : W'.tape = W.tape
  output : W'.output = W.output
  size : W.heap.size ≤ W'.heap.size
  block : ∀ k, B ≤ k → k < W.heap.size → ¬ X k → W'.heap[k]? = W.heap[k]?
theorem KeptX.refl (B : Nat) (X : Nat → Prop) (W : World) : KeptX B X W W := ⟨rfl, rfl, rfl, Nat.le_refl _, fun _ _ _ _ => rfl⟩
theorem KeptX.of_below {B : Nat} {X : Nat → Prop} {W W' : World} (h : Below W.heap.size W W') : KeptX B X W W' := ⟨h.os, h.tape, h.output, h.size, fun k _ hk _ => h.block k hk⟩
theorem KeptX.trans {B : Nat} {X : Nat → Prop} {W W1 W2 : World} (h : KeptX B X W W1) (k : KeptX B X W1 W2) : KeptX B X W W2 :=
  ⟨k.os.trans h.os, k.tape.trans h.tape, k.output.trans h.output, Nat.le_trans h.size k.size, fun q h1 h2 h3 => (k.block q h1 (Nat.lt_of_lt_of_le h2 h.size) h3).trans (h.block q h1 h2 h3)⟩
theorem KeptX.imp {B : Nat} {X Y : Nat → Prop} {W W1 : World} (h : KeptX B X W W1) (hXY : ∀ k, X k → Y k) : KeptX B Y W W1 := ⟨h.os, h.tape, h.output, h.size, fun k h1 h2 h3 => h.block k h1 h2 (fun hx => h3 (hXY k hx))⟩
theorem KeptX.blk {B : Nat} {X : Nat → Prop} {W W1 : World} (h : KeptX B X W W1) {k : Nat} {o : Obj} (hb : W.heap[k]? = some o) (hB : B ≤ k) (hX : ¬ X k) : W1.heap[k]? = some o := (h.block k hB (blk_lt hb) hX).trans hb
/-- A row of one's own is kept. -/
theorem KeptX.row {α : Type} {d : Kd α} {e B : Nat} {X : Nat → Prop} {W W1 : World} {ok : Nat → Prop} {v : Value} {xs : List α} (h : KeptX B X W W1) (hr : d.R e W B ok v xs) (hX : ∀ k, ok k → ¬ X k) : d.R e W1 B ok v xs :=
  Kd.R_mono (Kd.R_move (Kd.R_bound hr) (fun k hk => h.block k hk.2.1 hk.2.2.1 (hX k hk.1))) (fun _ hk => hk.1)
/-- What tells the blocks of a disk, one after the other: J n: what stands when n of them have been asked for. -/
structure Tells (g : FuncId) (bnd : Array Value) (B0 : Nat) (J : Nat → World → Prop) (tell : Nat → List UInt8) : Prop where
  call : ∀ n W, J n W → B0 ≤ W.heap.size → n ≤ 1000 → Calls Tryd.prog g (#[.int .i64 (n : Int)] ++ bnd) W fun e W' => ∃ b ok, e = .returned (.tuple #[.agg (bytesV b).toArray, .bool ok]) ∧ b.length = 32 ∧ (if ok = true then b else zeroB) = tell n ∧ J (n + 1) W' ∧ KeptX B0 (fun _ => False) W W'
  keep : ∀ n W W', J n W → Below B0 W W' → J n W'
  enters : ∀ args w, (callFunc g args).run Tryd.prog w = .ok (.enter g args) w
theorem Tells.len {g : FuncId} {bnd : Array Value} {B0 : Nat} {J : Nat → World → Prop} {tell : Nat → List UInt8} (hl : ∀ n, (tell n).length = 32) (n : Nat) : (tell n).length = 32 := hl n
theorem setCells_other (b : Nat) : ∀ (vs : List Value) (o : Nat) (W : World) (k : Nat), k ≠ b → (W.setCells b o vs).heap[k]? = W.heap[k]?
  | [], _, _, _, _ => rfl
  | v :: vs, o, W, k, hk => by
    simp only [World.setCells]
    rw [setCells_other b vs (o + 1) _ k hk]
    exact Below.heap_setCell _ _ _ k hk
theorem setCells_same (b : Nat) : ∀ (vs : List Value) (o : Nat) (W : World), (W.setCells b o vs).os = W.os ∧ (W.setCells b o vs).tape = W.tape ∧ (W.setCells b o vs).output = W.output
  | [], _, _ => ⟨rfl, rfl, rfl⟩
  | v :: vs, o, W => by
    simp only [World.setCells]
    exact setCells_same b vs (o + 1) _
theorem setCells_grown (b o : Nat) (vs : List Value) (W : World) : W.grownBy (W.setCells b o vs) (some b) := by
  obtain ⟨h1, h2, h3⟩ := setCells_same b vs o W
  exact ⟨h1, h2, h3, by rw [setCells_size]; exact Nat.le_refl _, fun k _ hk => setCells_other b vs o W k (fun e => hk (by rw [e]))⟩
/-- A whole block is written into a box that holds one. -/
theorem store_block_blk {ops : Array Oper} {rest : List Oper} {op : Oper} {a : Act} {W : World} {Q : Exit → Act → World → Prop} (hgd : op.guard = none) (x y : Operand) (ho : op.op = .store 41 x y)
    (g : Nat) (ys : List UInt8) (hys : ys.length = 32) (hb : W.heap[g]? = some (.cells (bytesV ys).toArray 41 (0, 0))) (hx : a.eval x = .pointer (some ⟨g, 0, none⟩)) (xs : List UInt8) (hl : xs.length = 32) (hy : a.eval y = .agg (bytesV xs).toArray)
    (h : ∀ W', W'.heap[g]? = some (.cells (bytesV xs).toArray 41 (0, 0)) → W.grownBy W' (some g) → wpList Tryd.prog ops Q rest (a.put op.dst undef) W') : wpList Tryd.prog ops Q (op :: rest) a W := by
  have hs : (bytesV xs).toArray.size = 32 := by simp [bytesV, hl]
  refine wpList_store_mid hgd 41 x y ho g 0 (bytesV xs).toArray hx hy (fun j hj => ?_) (info_blockS _ hs) (all_oneCell_toArray (bytesV_one xs)) (h _ ?_ (setCells_grown _ _ _ _))
  · rw [hs] at hj
    rw [Nat.zero_add]
    refine ⟨?_, by simp [World.frozen?, hb]⟩
    rw [blk_cell hb]
    simp [bytesV_len, hys, hj]
  · rw [heap_setCells g _ _ 0 W _ hb (by simp [bytesV_len, hl, hys])]
    simp [bytesV_len, hl, hys, List.drop_of_length_le]
theorem results_c {fn : Func} {p : Tmp} (h : fn.results = #[.cell p 41]) (tmps : Array Value) (w : World) (g : Nat) (xs : List UInt8) (hl : xs.length = 32)
    (hp : tmps.getD p undef = .pointer (some ⟨g, 0, none⟩)) (hg : w.heap[g]? = some (.cells (bytesV xs).toArray 41 (0, 0))) : (results fn tmps).run Tryd.prog w = .ok (.agg (bytesV xs).toArray) w := by
  have hp' : tmps[p]?.getD undef = .pointer (some ⟨g, 0, none⟩) := by simpa using hp
  simp [results, h, hp', asAddr, run_load_block (⟨g, 0, none⟩ : Addr) xs hl (block_cells hg)]
theorem build_zero : Tryd.prog.built 41 [] = some (bytesV zeroB).toArray := by kernel_rfl
set_option maxRecDepth 8000 in
set_option maxHeartbeats 3200000 in
theorem takeB_any (g : FuncId) (bnd : Array Value) (B0 : Nat) (J : Nat → World → Prop) (tell : Nat → List UInt8) (hT : Tells g bnd B0 J tell) (G X n : Nat) (hn : n ≤ 1000) (W : World) (hJ : J n W) (hG0 : B0 ≤ G) (hX0 : B0 ≤ X) (hGX : G ≠ X)
    (hG : W.heap[G]? = some (.cells #[.func (.func g) #[] bnd] 42 (0, 0))) (hX : W.heap[X]? = some (.cells #[.int .i64 (n : Int)] 3 (0, 0))) :
    Calls Tryd.prog 22 #[.pointer (some ⟨G, 0, none⟩), .pointer (some ⟨X, 0, none⟩)] W fun e W' => e = .returned (.agg (bytesV (tell n)).toArray) ∧ J (n + 1) W' ∧ W'.heap[X]? = some (.cells #[.int .i64 ((n + 1 : Nat) : Int)] 3 (0, 0)) ∧ KeptX B0 (fun k => k = X) W W' := by
  have hbs : B0 ≤ W.heap.size := Nat.le_of_lt (Nat.lt_of_le_of_lt hG0 (blk_lt hG))
  have hb1 := below_alloc (Below.refl W.heap.size W) (.cells (bytesV zeroB).toArray 41)
  obtain ⟨W1, hW1⟩ : ∃ W1, W1 = W.alloc (.cells (bytesV zeroB).toArray 41) := ⟨_, rfl⟩
  rw [← hW1] at hb1
  have hz := blk_new W (.cells (bytesV zeroB).toArray 41)
  rw [← hW1] at hz
  have hJ1 : J n W1 := hT.keep n W W1 hJ (hb1.mono hbs)
  have hG1 := blk_below hG hb1
  have hX1 := blk_below hX hb1
  have hc := hT.call n W1 hJ1 (Nat.le_trans hbs hb1.size) hn
  have he := hT.enters
  obtain ⟨R, hR⟩ : ∃ R, R = W.heap.size := ⟨_, rfl⟩
  rw [← hR] at hz
  have HW1 := Aside0.mk hW1
  have HR := Aside0.mk hR
  have HC := Aside0.mk hc
  have HG1 := Aside0.mk hG1
  have HX1 := Aside0.mk hX1
  have HZ := Aside0.mk hz
  have HB1 := Aside0.mk hb1
  have HT := Aside0.mk hT
  have HBS := Aside0.mk hbs
  clear hW1 hR hc hG1 hX1 hz hb1 hJ1 hJ hG hX hT hbs
  go_enter Tryd.func22, Tryd.ntmps22
  go_upto_region 0 with fail
  go_cut [2] (fun v2 wd => v2 = .pointer (some ⟨R, 0, none⟩) ∧ Aside0 (wd = W1))
  case first =>
    go_wp2_with fail
    go_meet
    case rel => exact ⟨by rw [HR.out], ⟨HW1.out.symm⟩⟩
  obtain ⟨rfl, HWC⟩ := hcut
  rw [HWC.out]
  have y0 := blk_cell HG1.out 0
  have y1 := blk_cell HX1.out 0
  simp only [List.getElem?_toArray, List.getElem?_cons_zero] at y0 y1
  go_upto_region 1 with fail
  go_wp2_with fail
  refine HC.out.mono ?_
  rintro e W2 ⟨b, ok, rfl, hb32, htell, hJ2, hk2⟩
  have hX2 := hk2.blk HX1.out hX0 (fun h => h)
  have hZ2 := hk2.blk HZ.out (by have := HR.out; have := HBS.out; omega) (fun h => h)
  have hb3 := below_alloc (Below.refl W2.heap.size W2) (.cells (bytesV b).toArray 41)
  obtain ⟨W3, hW3⟩ : ∃ W3, W3 = W2.alloc (.cells (bytesV b).toArray 41) := ⟨_, rfl⟩
  obtain ⟨N3, hN3⟩ : ∃ N3, N3 = W2.heap.size := ⟨_, rfl⟩
  have hn3 := blk_new W2 (.cells (bytesV b).toArray 41)
  rw [← hW3] at hb3 hn3
  rw [← hN3] at hn3
  have hX3 := blk_below hX2 hb3
  have HZ3 := Aside0.mk (blk_below hZ2 hb3)
  have HX3 := Aside0.mk hX3
  have HN3 := Aside0.mk hn3
  have HB3 := Aside0.mk hb3
  have HW3 := Aside0.mk hW3
  have HNN := Aside0.mk hN3
  have HT2 := Aside0.mk htell
  have HJ2 := Aside0.mk hJ2
  have HK2 := Aside0.mk hk2
  have hXN : X < N3 := by rw [hN3]; exact blk_lt hX2
  have hRN : R < N3 := by rw [hN3]; exact blk_lt hZ2
  have hRX : R ≠ X := by have := HR.out; have := blk_lt HX1.out; intro e; subst e; have h1 := HX1.out; rw [HZ.out] at h1; cases h1
  clear hX2 hZ2 hb3 hn3 hX3 hW3 hN3 htell hJ2 hk2
  go_upto_region 2 with ((with_reducible refine gate_store (t := 41) (p := 3) rfl ?_); refine store_block_new rfl (.tmp 3) (.tmp 9) rfl _ rfl rfl b hb32 rfl ?_)
  rw [← HW3.out, ← HNN.out]
  have y3 := blk_cell HX3.out 0
  simp only [List.getElem?_toArray, List.getElem?_cons_zero] at y3
  have y4 : W3.frozen? ⟨X, 0, none⟩ = false := by simp [World.frozen?, HX3.out]
  have i1 : IntKind.i64.wrap ((n : Int) + 1) = (n : Int) + 1 := IntWalk.i64_in _ (by omega)
  have hX4 := blk_set HX3.out 0 (.int .i64 ((n : Int) + 1))
  have hZ4 := blk_far HZ3.out (p := ⟨X, 0, none⟩) hRX (.int .i64 ((n : Int) + 1))
  have hN4 := blk_far HN3.out (p := ⟨X, 0, none⟩) (by show N3 ≠ X; omega) (.int .i64 ((n : Int) + 1))
  obtain ⟨W4, hW4⟩ : ∃ W4, W4 = W3.setCell ⟨X, 0, none⟩ (.int .i64 ((n : Int) + 1)) := ⟨_, rfl⟩
  rw [← hW4] at hX4 hZ4 hN4
  have hB0 : B0 ≤ W3.heap.size := by have := HK2.out.size; have := HB1.out.size; have := HB3.out.size; have := HBS.out; omega
  have HK4 : Aside0 (KeptX B0 (fun k => k = X) W W4) := ⟨(((KeptX.of_below HB1.out).trans (HK2.out.imp (fun _ h => h.elim))).trans (KeptX.of_below HB3.out)).trans (by
    rw [hW4]
    exact ⟨rfl, rfl, rfl, by simp [World.setCell], fun k _ _ hk => Below.heap_setCell _ _ _ k hk⟩)⟩
  have HJ4 : Aside0 (J (n + 1) W4) := ⟨HT.out.keep _ _ _ HJ2.out (by rw [hW4]; exact (HB3.out.mono (by have := HK2.out.size; have := HB1.out.size; have := HBS.out; omega)).setCell hX0 _)⟩
  have HX4 : Aside0 (W4.heap[X]? = some (.cells #[.int .i64 ((n + 1 : Nat) : Int)] 3 (0, 0))) := ⟨by rw [hX4]; simp⟩
  have HZ4 := Aside0.mk hZ4
  have HN4 := Aside0.mk hN4
  have HW4 := Aside0.mk hW4
  clear hX4 hZ4 hN4 hW4
  go_upto_region 3 with fail
  rw [← HW4.out]
  clear y3 y4 i1
  have hR0 : B0 ≤ R := by have := HR.out; have := HBS.out; omega
  cases ok
  · go_wp2_with (first | ((with_reducible refine gate_dst (N := 15) rfl ?_); refine build_on rfl 41 _ rfl (bytesV zeroB).toArray (by exact build_zero) ?_) | ((with_reducible refine gate_store (t := 41) (p := 2) rfl ?_); refine store_block_blk rfl (.tmp 2) (.tmp 15) rfl R zeroB rfl HZ4.out rfl zeroB rfl rfl ?_; intro W5 hb5 hg5; have HB5 := Aside0.mk hb5; have HG5 := Aside0.mk hg5; clear hb5 hg5))
    have hsz : W.heap.size ≤ W4.heap.size := HK4.out.size
    have hB04 : B0 ≤ W4.heap.size := Nat.le_trans HBS.out hsz
    refine bodyPost_ret (results_c rfl _ _ R zeroB rfl rfl HB5.out) rfl ?_
    refine ⟨by rw [← HT2.out]; rfl, HT.out.keep _ _ _ HJ4.out (pw_below_grown (Below.refl B0 W4) (some R) hB04 HG5.out (fun k e => by cases e; exact hR0)), ?_, ?_⟩
    · exact (HG5.out.block X (blk_lt HX4.out) (by intro e; injection e with e; exact hRX e.symm)).trans HX4.out
    · exact ⟨HG5.out.os.trans HK4.out.os, HG5.out.tape.trans HK4.out.tape, HG5.out.output.trans HK4.out.output, Nat.le_trans hsz HG5.out.size, fun k h1 h2 h3 =>
        (HG5.out.block k (Nat.lt_of_lt_of_le h2 hsz) (by intro e; injection e with e; have := HR.out; omega)).trans (HK4.out.block k h1 h2 h3)⟩
  · go_wp2_with (first | ((with_reducible refine gate_dst (N := 16) rfl ?_); refine load_block rfl _ rfl ⟨N3, 0, none⟩ rfl b hb32 (block_cells HN4.out) ?_) | ((with_reducible refine gate_store (t := 41) (p := 2) rfl ?_); refine store_block_blk rfl (.tmp 2) (.tmp 16) rfl R zeroB rfl HZ4.out rfl b hb32 rfl ?_; intro W5 hb5 hg5; have HB5 := Aside0.mk hb5; have HG5 := Aside0.mk hg5; clear hb5 hg5))
    have hsz : W.heap.size ≤ W4.heap.size := HK4.out.size
    have hB04 : B0 ≤ W4.heap.size := Nat.le_trans HBS.out hsz
    refine bodyPost_ret (results_c rfl _ _ R b hb32 rfl HB5.out) rfl ?_
    refine ⟨by rw [← HT2.out]; rfl, HT.out.keep _ _ _ HJ4.out (pw_below_grown (Below.refl B0 W4) (some R) hB04 HG5.out (fun k e => by cases e; exact hR0)), ?_, ?_⟩
    · exact (HG5.out.block X (blk_lt HX4.out) (by intro e; injection e with e; exact hRX e.symm)).trans HX4.out
    · exact ⟨HG5.out.os.trans HK4.out.os, HG5.out.tape.trans HK4.out.tape, HG5.out.output.trans HK4.out.output, Nat.le_trans hsz HG5.out.size, fun k h1 h2 h3 =>
        (HG5.out.block k (Nat.lt_of_lt_of_le h2 hsz) (by intro e; injection e with e; have := HR.out; omega)).trans (HK4.out.block k h1 h2 h3)⟩
end Go.Proofs.YtnpnpgihbgohgaaDoor
/-
  Chapter 49, fs.Read, plain: what is read of the blocks that are told; files whose data may be cut short.
-/
namespace Go.Proofs.YtnpnpgihbgohgaaDoor
open Go.RowKit Go.Proofs.YtnpnpgihbgohgaaDoorW.PrintWords Go.Proofs.YtnpnpgihbgohgaaDoorW.PrintLast Go.Proofs.YtnpnpgihbgohgaaDoorW.PrintMore
set_option linter.unusedVariables false
set_option linter.unusedSimpArgs false

def headOK (h : List UInt8) : Bool := decide (h.take 5 = magicB) && (decide ((gt h 5).toNat ≤ 8) && zerosB (h.drop 8))
def tableT (tell : Nat → List UInt8) (n : Nat) : List (List UInt8) := (List.range n).map (fun i => tell (1 + i))
theorem tableT_succ (tell : Nat → List UInt8) (n : Nat) : tableT tell (n + 1) = tableT tell n ++ [tell (1 + n)] := by
  unfold tableT
  rw [List.range_succ, List.map_append]
  rfl
theorem tableT_len (tell : Nat → List UInt8) (n : Nat) : (tableT tell n).length = n := by simp [tableT]
theorem tableT_gt (tell : Nat → List UInt8) (n i : Nat) (h : i < n) : gt (tableT tell n) i = tell (1 + i) := by
  rw [gt_eq _ _ (by rw [tableT_len]; exact h)]
  simp [tableT]
/-- Where the i-th file's data begin. -/
def firstT (T : List (List UInt8)) (i : Nat) : Nat := 1 + T.length + ((T.take i).map (fun b => manyN (entS b))).sum
theorem firstT_zero (T : List (List UInt8)) : firstT T 0 = 1 + T.length := by simp [firstT]
theorem firstT_succ (T : List (List UInt8)) (i : Nat) (h : i < T.length) : firstT T (i + 1) = firstT T i + manyN (entS (gt T i)) := by
  unfold firstT
  rw [List.take_add_one, gt_some T i h, List.map_append, List.sum_append]
  simp
  omega
def entGood (b : List UInt8) (first : Nat) : Bool := entK b && (decide (entS b ≤ 256) && decide (entF b = if entS b = 0 then 0 else first))
def goodTo (T : List (List UInt8)) (i : Nat) : Bool := (List.range i).all fun j => entGood (gt T j) (firstT T j)
theorem goodTo_succ (T : List (List UInt8)) (i : Nat) : goodTo T (i + 1) = (goodTo T i && entGood (gt T i) (firstT T i)) := by
  unfold goodTo
  rw [List.range_succ, List.all_append]
  simp
theorem goodTo_false {T : List (List UInt8)} {j k : Nat} (h : entGood (gt T j) (firstT T j) = false) (hj : j < k) : goodTo T k = false := by
  unfold goodTo
  rw [Bool.eq_false_iff]
  intro ha
  have := List.all_eq_true.1 ha j (List.mem_range.2 hj)
  rw [h] at this
  cases this
theorem goodTo_size {T : List (List UInt8)} {k : Nat} (h : goodTo T k = true) (j : Nat) (hj : j < k) : entS (gt T j) ≤ 256 := by
  unfold goodTo at h
  have := List.all_eq_true.1 h j (List.mem_range.2 hj)
  unfold entGood at this
  simp only [Bool.and_eq_true, decide_eq_true_eq] at this
  exact this.2.1
theorem firstT_le {T : List (List UInt8)} (h : goodTo T T.length = true) (i : Nat) (hi : i ≤ T.length) : firstT T i ≤ 1 + T.length + 8 * i := by
  induction i with
  | zero => rw [firstT_zero]; omega
  | succ i ih =>
    have h1 := ih (by omega)
    have h2 := goodTo_size h i (by omega)
    rw [firstT_succ T i (by omega)]
    have : manyN (entS (gt T i)) ≤ 8 := by unfold manyN; omega
    omega
def nameF (b : List UInt8) : File := ⟨⟨(entN b).toArray⟩, []⟩
/-- k blocks of data from a place on, side by side. -/
def dataT (tell : Nat → List UInt8) (first k : Nat) : List UInt8 := ((List.range k).map (fun j => tell (first + j))).flatten
theorem dataT_succ (tell : Nat → List UInt8) (first k : Nat) : dataT tell first (k + 1) = dataT tell first k ++ tell (first + k) := by
  unfold dataT
  rw [List.range_succ, List.map_append, List.flatten_append]
  simp
theorem dataT_len (tell : Nat → List UInt8) (hl : ∀ n, (tell n).length = 32) (first k : Nat) : (dataT tell first k).length = 32 * k := by
  induction k with
  | zero => rfl
  | succ k ih => rw [dataT_succ, List.length_append, ih, hl]; omega
def dataI (tell : Nat → List UInt8) (T : List (List UInt8)) (i : Nat) : List UInt8 := dataT tell (firstT T i) (manyN (entS (gt T i)))
def restTo (tell : Nat → List UInt8) (T : List (List UInt8)) (i : Nat) : Bool := (List.range i).all fun j => zerosB ((dataI tell T j).drop (entS (gt T j)))
theorem restTo_succ (tell : Nat → List UInt8) (T : List (List UInt8)) (i : Nat) : restTo tell T (i + 1) = (restTo tell T i && zerosB ((dataI tell T i).drop (entS (gt T i)))) := by
  unfold restTo
  rw [List.range_succ, List.all_append]
  simp
theorem restTo_false {tell : Nat → List UInt8} {T : List (List UInt8)} {j k : Nat} (h : zerosB ((dataI tell T j).drop (entS (gt T j))) = false) (hj : j < k) : restTo tell T k = false := by
  unfold restTo
  rw [Bool.eq_false_iff]
  intro ha
  have := List.all_eq_true.1 ha j (List.mem_range.2 hj)
  rw [h] at this
  cases this
def fileT (tell : Nat → List UInt8) (T : List (List UInt8)) (i : Nat) : File := ⟨⟨(entN (gt T i)).toArray⟩, (dataI tell T i).take (entS (gt T i))⟩
/-- The files, the first i of them with their data. -/
def filesTo (tell : Nat → List UInt8) (T : List (List UInt8)) (i : Nat) : List File := (List.range T.length).map fun j => if j < i then fileT tell T j else nameF (gt T j)
theorem filesTo_len (tell : Nat → List UInt8) (T : List (List UInt8)) (i : Nat) : (filesTo tell T i).length = T.length := by simp [filesTo]
theorem filesTo_gt (tell : Nat → List UInt8) (T : List (List UInt8)) (i j : Nat) (h : j < T.length) : gt (filesTo tell T i) j = if j < i then fileT tell T j else nameF (gt T j) := by
  rw [gt_eq _ _ (by rw [filesTo_len]; exact h)]
  simp [filesTo]
theorem filesTo_zero (tell : Nat → List UInt8) (T : List (List UInt8)) : filesTo tell T 0 = T.map nameF := by
  apply List.ext_getElem
  · simp [filesTo]
  · intro j h1 h2
    simp [filesTo, gt_eq T j (by simpa using h2)]
theorem filesTo_set (tell : Nat → List UInt8) (T : List (List UInt8)) (i : Nat) (h : i < T.length) : (filesTo tell T i).set i (fileT tell T i) = filesTo tell T (i + 1) := by
  apply List.ext_getElem
  · simp [filesTo]
  · intro j h1 h2
    simp only [filesTo, List.getElem_set, List.getElem_map, List.getElem_range]
    by_cases hji : i = j
    · subst hji; simp
    · rw [if_neg hji]
      by_cases hl : j < i
      · rw [if_pos hl, if_pos (by omega)]
      · rw [if_neg hl, if_neg (by omega)]
/-- What is read; none: there are no files. -/
def readB (tell : Nat → List UInt8) : Option (List File) :=
  if headOK (tell 0) = true then
    if (gt (tell 0) 6).toNat * 256 + (gt (tell 0) 7).toNat = sumT (tableT tell (gt (tell 0) 5).toNat) then
      if goodTo (tableT tell (gt (tell 0) 5).toNat) (gt (tell 0) 5).toNat = true then
        if togB ((tableT tell (gt (tell 0) 5).toNat).map nameF) = true then
          if restTo tell (tableT tell (gt (tell 0) 5).toNat) (gt (tell 0) 5).toNat = true then
            some (filesTo tell (tableT tell (gt (tell 0) 5).toNat) (gt (tell 0) 5).toNat)
          else none
        else none
      else none
    else none
  else none
/-- A file of the call's own, its data cut out of the head of a block of the call's own. -/
def kFileO : Kd File where
  sz := 2
  E := [5]
  K := kFile.K
  M := fun w base ok x cs => ∃ A c, cs = [.string x.name, .slice A x.data.length c] ∧ x.data.length ≤ c ∧ x.data.length ≤ 9223372036854775807 ∧ (x.data = [] ∨ ∃ g cells, A = some ⟨g, 0, none⟩ ∧ ok g ∧ base ≤ g ∧ w.heap[g]? = some (.cells cells 5 (0, 0)) ∧ ∀ (j : Nat) (p : UInt8), x.data[j]? = some p → cells[j]? = some (.int .u8 (p.toNat : Int)))
  K_len := fun h => kFile.K_len h
  K_one := fun h => kFile.K_one h
  K_below := fun hb h => kFile.K_below hb h
  K_of_M := by
    rintro w base ok x cs ⟨A, c, rfl, hc, hm, hd⟩
    refine kFile_mk w x hc ?_
    rcases hd with hd | ⟨g, cells, rfl, _, _, hb, ht⟩
    · rw [hd]; exact ⟨rfl, Nat.zero_le _, fun hn => absurd hn (by simp)⟩
    · refine ⟨rfl, hm, fun _ => ⟨_, rfl, fun j p hj => ?_⟩⟩
      refine ⟨[.int .u8 (p.toNat : Int)], rfl, rfl, fun i u hu => ?_⟩
      rcases i with _ | i
      · simp only [List.getElem?_cons_zero, Option.some.injEq] at hu
        subst hu
        have e : j * byte.sz + 0 = j := by show j * 1 + 0 = j; omega
        rw [e, add_plain, blk_cell hb]
        simpa using ht j p hj
      · simp at hu
  M_mono := by
    rintro w base ok ok' x cs h ⟨A, c, rfl, hc, hm, hd⟩
    refine ⟨A, c, rfl, hc, hm, ?_⟩
    rcases hd with hd | ⟨g, ds, rfl, h1, h2, h3, h4⟩
    · exact .inl hd
    · exact .inr ⟨g, ds, rfl, h g h1, h2, h3, h4⟩
  M_bound := by
    rintro w base ok x cs ⟨A, c, rfl, hc, hm, hd⟩
    refine ⟨A, c, rfl, hc, hm, ?_⟩
    rcases hd with hd | ⟨g, ds, rfl, h1, h2, h3, h4⟩
    · exact .inl hd
    · exact .inr ⟨g, ds, rfl, ⟨h1, h2, blk_lt h3, _, List.mem_singleton.2 rfl, _, h3⟩, h2, h3, h4⟩
  M_move := by
    rintro w w1 base ok x cs hm' ⟨A, c, rfl, hc, hm, hd⟩
    refine ⟨A, c, rfl, hc, hm, ?_⟩
    rcases hd with hd | ⟨g, ds, rfl, h1, h2, h3, h4⟩
    · exact .inl hd
    · exact .inr ⟨g, ds, rfl, h1, h2, (hm' g h1).trans h3, h4⟩
  M_lower := by
    rintro w base base' ok x cs hb ⟨A, c, rfl, hc, hm, hd⟩
    refine ⟨A, c, rfl, hc, hm, ?_⟩
    rcases hd with hd | ⟨g, ds, rfl, h1, h2, h3, h4⟩
    · exact .inl hd
    · exact .inr ⟨g, ds, rfl, h1, Nat.le_trans hb h2, h3, h4⟩
/-- The Data of one's own file is written. -/
theorem fileO_put {W : World} {base gO n cap : Nat} {ok : Nat → Prop} {l : List File} (h : kFileO.R 54 W base ok (.slice (some ⟨gO, 0, none⟩) n cap) l) (i : Nat) (hi : i < n) (x' : File) (hn : x'.name = (gt l i).name) (v : Value) (okp : Nat → Prop) (hokp : ∀ k, okp k → ok k ∧ k ≠ gO) (hM : kFileO.M W base okp x' [.string x'.name, v]) :
    (∃ u, W.cell? ⟨gO, i * 2 + 1, none⟩ = some u) ∧ W.frozen? ⟨gO, i * 2 + 1, none⟩ = false ∧ kFileO.R 54 (W.setCell ⟨gO, i * 2 + 1, none⟩ v) base ok (.slice (some ⟨gO, 0, none⟩) n cap) (l.set i x') ∧ W.grownBy (W.setCell ⟨gO, i * 2 + 1, none⟩ v) (some gO) := by
  obtain ⟨cs, hcl, hM0, hc, hf⟩ := Kd.R_elem h default (i : Int) (by omega) (by omega)
  have hM1 : kFileO.M W base (fun k => ok k ∧ k ≠ gO) (gt l i) cs := by simpa [gt] using hM0
  obtain ⟨A, c, rfl, _⟩ := hM1
  have hsz : kFileO.sz = 2 := rfl
  simp only [Int.toNat_natCast, hsz] at hc hf
  have hseg := Kd.R_seg h (i : Int) (by omega) (by omega) (c := [.string (gt l i).name, .slice A (gt l i).data.length c]) (seg := [v]) (j := 1) rfl (by simpa [hsz] using hc) (Nat.le_refl _) (x' := x') (okp := okp) (by rw [← hn]; exact hM) hokp
  simp only [Int.toNat_natCast, hsz, World.setCells] at hseg
  exact ⟨⟨_, hc 1 _ rfl⟩, hf 1, hseg.1, hseg.2⟩
theorem cut_M {W : World} {base N g n c : Nat} {ok okk : Nat → Prop} {xs : List UInt8} (h : byte.R 5 W N okk (.slice (some ⟨g, 0, none⟩) n c) xs) (hN : base ≤ N) (x : File) (s : Nat) (hs : x.data.length = s) (hx : x.data = xs.take s) (hsn : s ≤ n) (hn : 0 < n) (hok : ok g) : kFileO.M W base ok x [.string x.name, .slice (some ⟨g, 0, none⟩) s s] := by
  subst hs
  obtain ⟨A', c', he, hl, hC⟩ := Kd.R_reads h
  cases he
  obtain ⟨g', cap', he, hg1, hg2, cells, hb⟩ := Kd.R_form h hn
  cases he
  have hmx := Kd.C_max hC
  refine ⟨_, _, rfl, Nat.le_refl _, by omega, .inr ⟨g, cells, rfl, hok, by omega, hb, fun j p hj => ?_⟩⟩
  have hjl := (List.getElem?_eq_some_iff.1 hj).1
  have h1 := Kd.R_cell default h (j : Int) (by omega) (by omega)
  rw [Int.toNat_natCast] at h1
  rw [← blk_cell hb, h1.1]
  have h2 : xs[j]? = some p := by rw [hx, List.getElem?_take_of_lt (by omega)] at hj; exact hj
  simp [rdOf, h2]
end Go.Proofs.YtnpnpgihbgohgaaDoor
namespace Go.Proofs.YtnpnpgihbgohgaaDoor
open Go.RowKit Go.Proofs.YtnpnpgihbgohgaaDoorW.PrintWords Go.Proofs.YtnpnpgihbgohgaaDoorW.PrintLast Go.Proofs.YtnpnpgihbgohgaaDoorW.PrintMore
set_option linter.unusedVariables false
set_option linter.unusedSimpArgs false

/-- What stands in fs.Read when n blocks have been taken: the boxes of get, of next, of the head. -/
structure RdS (g : FuncId) (bnd : Array Value) (B0 : Nat) (J : Nat → World → Prop) (G X : Nat) (n : Nat) (W : World) : Prop where
  j : J n W
  gbox : W.heap[G]? = some (.cells #[.func (.func g) #[] bnd] 42 (0, 0))
  xbox : W.heap[X]? = some (.cells #[.int .i64 (n : Int)] 3 (0, 0))
  hg : B0 ≤ G
  hx : B0 ≤ X
  ne : G ≠ X
namespace RdS
variable {g : FuncId} {bnd : Array Value} {B0 : Nat} {J : Nat → World → Prop} {G X n : Nat} {W W' : World} {tell : Nat → List UInt8}
theorem size (h : RdS g bnd B0 J G X n W) : B0 ≤ W.heap.size := Nat.le_of_lt (Nat.lt_of_le_of_lt h.hg (blk_lt h.gbox))
theorem later (hT : Tells g bnd B0 J tell) (h : RdS g bnd B0 J G X n W) (hb : Below W.heap.size W W') : RdS g bnd B0 J G X n W' :=
  ⟨hT.keep _ _ _ h.j (hb.mono h.size), blk_below h.gbox hb, blk_below h.xbox hb, h.hg, h.hx, h.ne⟩
theorem grown (hT : Tells g bnd B0 J tell) (h : RdS g bnd B0 J G X n W) {row : Option Nat} (hg : W.grownBy W' row) (hr : ∀ k, row = some k → B0 ≤ k) (h1 : row ≠ some G) (h2 : row ≠ some X) : RdS g bnd B0 J G X n W' :=
  ⟨hT.keep _ _ _ h.j (pw_below_grown (Below.refl B0 W) row h.size hg hr), (hg.block G (blk_lt h.gbox) (fun e => h1 e.symm)).trans h.gbox, (hg.block X (blk_lt h.xbox) (fun e => h2 e.symm)).trans h.xbox, h.hg, h.hx, h.ne⟩
theorem next (h : RdS g bnd B0 J G X n W) (hj : J (n + 1) W') (hx : W'.heap[X]? = some (.cells #[.int .i64 ((n + 1 : Nat) : Int)] 3 (0, 0))) (hk : KeptX B0 (fun k => k = X) W W') : RdS g bnd B0 J G X (n + 1) W' :=
  ⟨hj, hk.blk h.gbox h.hg h.ne, hx, h.hg, h.hx, h.ne⟩
theorem drewN (hT : Tells g bnd B0 J tell) (h : RdS g bnd B0 J G X n W) (q : Nat) : RdS g bnd B0 J G X n (W.drewN q) := h.later hT (pw_below_drewN (Below.refl _ _) _)
theorem take (hT : Tells g bnd B0 J tell) (hn : n ≤ 1000) (h : RdS g bnd B0 J G X n W) :
    Calls Tryd.prog 22 #[.pointer (some ⟨G, 0, none⟩), .pointer (some ⟨X, 0, none⟩)] W fun e W' => e = .returned (.agg (bytesV (tell n)).toArray) ∧ RdS g bnd B0 J G X (n + 1) W' ∧ KeptX B0 (fun k => k = X) W W' :=
  (takeB_any g bnd B0 J tell hT G X n hn W h.j h.hg h.hx h.ne h.gbox h.xbox).mono fun e W' ⟨he, h1, h2, h3⟩ => ⟨he, h.next h1 h2 h3, h3⟩
end RdS
theorem equalIn_func_nil (d : Nat) (f : Fn) (ar bnd : Array Value) (w : World) : (Op.equalIn (d + 1) 42 (.func f ar bnd) .nilFunc).run Tryd.prog w = .ok false w := by
  simp [Op.equalIn, run_underlying Tryd.underlying42]
theorem eql_func_nil (f : Fn) (ar bnd : Array Value) (w : World) : (binOp .eql 42 (.func f ar bnd) .nilFunc).run Tryd.prog w = .ok (.bool false) w := by
  simp only [binOp]
  simp [Op.equal, Op.maxDepth, equalIn_func_nil 9999 f ar bnd w]
theorem bequal_as (A B : Option Addr) (xs ys : List UInt8) (n1 n2 c1 c2 : Nat) (h1 : xs.length = n1) (h2 : ys.length = n2) (r : Bool) (hr : decide (xs = ys) = r) (w : World) (hA : byte.C w A xs.length xs) (hB : byte.C w B ys.length ys) :
    Calls Tryd.prog 23 #[.slice A n1 c1, .slice B n2 c2] w fun e w' => e = .returned (.bool r) ∧ w' = w := by
  subst h1 h2 hr
  exact (bequal A B xs ys c1 c2 w hA hB).mono fun e w' ⟨h, h'⟩ => ⟨h, h'.symm⟩
theorem blockE : ∀ q, q ∈ 41 :: kBlock.E → q = 41 := by
  intro q hq
  simpa [kBlock, Kd.arr, byte, Kd.scalar] using hq
/-- A row of blocks is kept where a block is taken. -/
theorem row_take {g : FuncId} {bnd : Array Value} {B0 : Nat} {J : Nat → World → Prop} {G X n : Nat} {W W' : World} {v : Value} {xs : List (List UInt8)} (hr : kBlock.R 41 W B0 (fun _ => True) v xs) (hs : RdS g bnd B0 J G X n W) (hk : KeptX B0 (fun k => k = X) W W') : kBlock.R 41 W' B0 (fun _ => True) v xs :=
  Kd.R_mono (hk.row (Kd.R_types hr hs.xbox (fun q hq => by rw [blockE q hq]; decide)) (fun k hq => hq.2)) (fun _ _ => trivial)
theorem readB_of {tell : Nat → List UInt8} {h0 : List UInt8} {n : Nat} {T : List (List UInt8)} (h : h0 = tell 0) (hk : true = headOK h0) (hn : n = (gt h0 5).toNat) (hT : T = tableT tell n) :
    readB tell = if (gt h0 6).toNat * 256 + (gt h0 7).toNat = sumT T then if goodTo T n = true then if togB (T.map nameF) = true then if restTo tell T n = true then some (filesTo tell T n) else none else none else none else none := by
  unfold readB
  rw [← h, ← hk, if_pos rfl, ← hn, ← hT]
theorem goodTo_mono {T : List (List UInt8)} {i n : Nat} (h : goodTo T i = false) (hi : i ≤ n) : goodTo T n = false := by
  unfold goodTo at h ⊢
  rw [Bool.eq_false_iff] at h ⊢
  intro ha
  exact h (List.all_eq_true.2 fun j hj => List.all_eq_true.1 ha j (List.mem_range.2 (by have := List.mem_range.1 hj; omega)))
theorem goodTo_sub {T : List (List UInt8)} {i n : Nat} (h : goodTo T n = true) (hi : i ≤ n) : goodTo T i = true := by
  cases hq : goodTo T i
  · rw [goodTo_mono hq hi] at h; cases h
  · rfl
theorem firstT_good {T : List (List UInt8)} {i n : Nat} (h : goodTo T i = true) (hi : i ≤ n) (hn : T.length = n) : firstT T i ≤ 1 + n + 8 * i := by
  induction i with
  | zero => rw [firstT_zero]; omega
  | succ i ih =>
    rw [goodTo_succ] at h
    simp only [Bool.and_eq_true] at h
    have h1 := ih h.1 (by omega)
    have h2 : entS (gt T i) ≤ 256 := by
      have := h.2
      unfold entGood at this
      simp only [Bool.and_eq_true, decide_eq_true_eq] at this
      exact this.2.1
    rw [firstT_succ T i (by omega)]
    have : manyN (entS (gt T i)) ≤ 8 := by unfold manyN; omega
    omega
theorem info_int : (Tryd.prog.info? 3).map (fun i => (i.zero, i.size, i.bytes)) = some (some (.int .i64 0), 1, 8) := by kernel_rfl
theorem info_fileR : (Tryd.prog.info? 54).map (fun i => (i.zero, i.size, i.bytes)) = some (some (.agg #[.string ByteArray.empty, .slice none 0 0]), 2, 40) := by kernel_rfl
/-- The sizes, the first i of them written. -/
def szTo (T : List (List UInt8)) (n i : Nat) : List Int := (T.take i).map (fun b => (entS b : Int)) ++ List.replicate (n - i) 0
theorem szTo_zero (T : List (List UInt8)) (n : Nat) : szTo T n 0 = List.replicate n 0 := by simp [szTo]
theorem szTo_len (T : List (List UInt8)) (n i : Nat) (h : T.length = n) (hi : i ≤ n) : (szTo T n i).length = n := by simp [szTo]; omega
theorem szTo_set (T : List (List UInt8)) (n i : Nat) (h : T.length = n) (hi : i < n) : (szTo T n i).set i (entS (gt T i) : Int) = szTo T n (i + 1) := by
  unfold szTo
  rw [List.set_append_right _ _ (by simp; omega), List.length_map, List.length_take, Nat.min_eq_left (by omega), Nat.sub_self, show n - i = (n - (i + 1)) + 1 by omega, List.replicate_succ, List.set_cons_zero, List.take_add_one, gt_some T i (by omega), List.map_append]
  simp
theorem szTo_gt (T : List (List UInt8)) (n i : Nat) (h : T.length = n) (hi : i < n) : gt (szTo T n n) i = (entS (gt T i) : Int) := by
  unfold szTo
  rw [Nat.sub_self, List.replicate_zero, List.append_nil, List.take_of_length_le (by omega), gt_eq _ _ (by simp; omega), gt_eq T i (by omega)]
  simp
theorem intR_cell {e base g n cap : Nat} {W : World} {ok : Nat → Prop} {xs : List Int} (h : (Kd.int .i64).R e W base ok (.slice (some ⟨g, 0, none⟩) n cap) xs) (i : Nat) (hi : i < n) : W.cell? ⟨g, i, none⟩ = some (.int .i64 (gt xs i)) ∧ W.frozen? ⟨g, i, none⟩ = false := by
  obtain ⟨A', c', he, _, _⟩ := Kd.R_reads h
  cases he
  have := Kd.R_cell default h (i : Int) (by omega) (by omega)
  simpa [rdOf, gt] using this
theorem intR_put {e base g n cap : Nat} {W : World} {ok : Nat → Prop} {xs : List Int} (h : (Kd.int .i64).R e W base ok (.slice (some ⟨g, 0, none⟩) n cap) xs) (i : Nat) (x : Int) : (Kd.int .i64).R e (W.setCell ⟨g, i, none⟩ (.int .i64 x)) base ok (.slice (some ⟨g, 0, none⟩) n cap) (xs.set i x) ∧ W.grownBy (W.setCell ⟨g, i, none⟩ (.int .i64 x)) (some g) := by
  obtain ⟨A', c', he, _, _⟩ := Kd.R_reads h
  cases he
  exact Kd.R_put h (i : Int) x
theorem fileOE : ∀ q, q ∈ 54 :: kFileO.E → q = 54 ∨ q = 5 := by
  intro q hq
  simpa [kFileO] using hq
theorem intE : ∀ q, q ∈ 3 :: (Kd.int .i64).E → q = 3 := by
  intro q hq
  simpa [Kd.int, Kd.scalar] using hq
theorem nameF_M (w : World) (base : Nat) (ok : Nat → Prop) (b : List UInt8) (nm : ByteArray) (h : nm.data.toList = entN b) : kFileO.M w base ok (nameF b) [.string nm, .slice none 0 0] := by
  have e : nm = (nameF b).name := name_ext (by rw [h]; rfl)
  rw [e]
  exact ⟨none, 0, rfl, Nat.le_refl _, Nat.zero_le _, .inl rfl⟩
theorem together_as (A : Option Addr) (l : List File) (n c : Nat) (hn : l.length = n) (r : Bool) (hr : togB l = r) (w : World) (h : kFileO.C w A n l) (hs : ∀ k, k < l.length → (gt l k).name.size ≤ 9223372036854775807) (hlen : n ≤ 1000000) :
    Calls Tryd.prog 17 #[.slice A n c] w fun e w' => e = .returned (.bool r) ∧ Below w.heap.size w w' := by
  subst hn
  exact together_any A l c r hr w h hs hlen
theorem uint8E (t : Nat) (ht : 5 ≠ t) : ∀ q, q ∈ 5 :: byte.E → q ≠ t := by
  intro q hq
  simp only [byte, Kd.scalar, List.mem_cons, List.not_mem_nil, or_false] at hq
  rw [hq]; exact ht
theorem bytes_take {g : FuncId} {bnd : Array Value} {B0 N : Nat} {J : Nat → World → Prop} {G X n : Nat} {W W' : World} {v : Value} {xs : List UInt8} (hN : B0 ≤ N) (hr : byte.R 5 W N (fun _ => True) v xs) (hs : RdS g bnd B0 J G X n W) (hk : KeptX B0 (fun k => k = X) W W') : byte.R 5 W' N (fun _ => True) v xs :=
  Kd.R_mono (Kd.R_move (Kd.R_bound (Kd.R_types hr hs.xbox (uint8E _ (by decide)))) (fun k hq => hk.block k (Nat.le_trans hN hq.2.1) hq.2.2.1 hq.1.2)) (fun _ _ => trivial)
theorem files_take {g : FuncId} {bnd : Array Value} {B0 : Nat} {J : Nat → World → Prop} {G X n : Nat} {W W' : World} {ok : Nat → Prop} {v : Value} {xs : List File} (hr : kFileO.R 54 W B0 ok v xs) (hs : RdS g bnd B0 J G X n W) (hk : KeptX B0 (fun k => k = X) W W') : kFileO.R 54 W' B0 ok v xs :=
  Kd.R_mono (hk.row (Kd.R_types hr hs.xbox (fun q hq => by rcases fileOE q hq with e | e <;> rw [e] <;> decide)) (fun k hq => hq.2)) (fun _ hq => hq.1)
theorem nil_M (W : World) (base : Nat) (ok : Nat → Prop) (x : File) (h : x.data = []) : kFileO.M W base ok x [.string x.name, .slice none 0 0] := ⟨none, 0, by rw [h]; rfl, by rw [h]; simp, by rw [h]; simp, .inl h⟩
theorem nought_drop (A' : Option Addr) (gD : Nat) (ds : List UInt8) (s L : Nat) (hL : ds.length = L) (hs : s ≤ L) (z : Bool) (hz : zerosB (ds.drop s) = z) (w : World) (hC : byte.C w (some ⟨gD, 0, none⟩) ds.length ds) (hA : A' = some ⟨gD, s, none⟩ ∨ L = s) (c : Nat) :
    Calls Tryd.prog 24 #[.slice A' (L - s) c] w fun e w' => e = .returned (.bool z) ∧ Below w.heap.size w w' := by
  refine nought_any A' (ds.drop s) (L - s) c (by rw [List.length_drop, hL]) z hz w ?_
  rcases hA with rfl | h
  · have := byte_mid hC s ds.length (by omega) (Nat.le_refl _)
    rwa [List.take_of_length_le (Nat.le_refl _)] at this
  · have h1 : ds.drop s = [] := List.drop_of_length_le (by omega)
    rw [h1]
    exact ⟨rfl, Nat.zero_le _, fun hn => absurd hn (by simp)⟩
def ReadPost (tell : Nat → List UInt8) (B0 : Nat) (J : Nat → World → Prop) (e : Ending) (w' : World) : Prop :=
  (readB tell = none ∧ e = .returned (.tuple #[.slice none 0 0, .int .i64 3]) ∧ ∃ m, m ≤ 73 ∧ J m w') ∨
  ∃ l A c, readB tell = some l ∧ e = .returned (.tuple #[.slice A l.length c, .int .i64 0]) ∧ l.length ≤ c ∧ kFile.C w' A l.length l ∧ J (firstT (tableT tell (gt (tell 0) 5).toNat) (gt (tell 0) 5).toNat) w'
set_option maxRecDepth 8000 in
set_option maxHeartbeats 12800000 in
theorem read_any (g : FuncId) (bnd : Array Value) (w : World) (J : Nat → World → Prop) (tell : Nat → List UInt8) (hl : ∀ n, (tell n).length = 32) (hT : Tells g bnd w.heap.size J tell) (hJ : J 0 w) (hmg : MagicAt w) (hJm : ∀ n W, J n W → MagicAt W) :
    Calls Tryd.prog 10 #[.func (.func g) #[] bnd] w (ReadPost tell w.heap.size J) := by
  obtain ⟨B0, hB0⟩ : ∃ B, B = w.heap.size := ⟨_, rfl⟩
  rw [← hB0] at hT ⊢
  have hB0w := hB0
  obtain ⟨Post, hP⟩ : ∃ P, P = ReadPost tell B0 J := ⟨_, rfl⟩
  rw [← hP]
  have HP := Aside0.mk hP
  have HT := Aside0.mk hT
  have HL := Aside0.mk hl
  have HJM := Aside0.mk hJm
  have h1 := below_alloc (Below.refl w.heap.size w) (.cells #[.func (.func g) #[] bnd] 42)
  have h2 := below_alloc (Below.refl _ (w.alloc (.cells #[.func (.func g) #[] bnd] 42))) (.cells #[.int .i64 0] 3)
  obtain ⟨W1, hW1⟩ : ∃ W1, W1 = (w.alloc (.cells #[.func (.func g) #[] bnd] 42)).alloc (.cells #[.int .i64 0] 3) := ⟨_, rfl⟩
  have HS0 : Aside0 (RdS g bnd B0 J B0 (B0 + 1) 0 W1) := ⟨by
    have hb1 : Below w.heap.size w W1 := by rw [hW1]; exact below_alloc h1 _
    refine ⟨hT.keep 0 w W1 hJ (by rw [hB0]; exact hb1), ?_, ?_, Nat.le_refl _, by omega, by omega⟩
    · rw [hW1, hB0]; exact blk_alloc (blk_new w _) _
    · rw [hW1, hB0, ← World.size_alloc w (.cells #[.func (.func g) #[] bnd] 42)]; exact blk_new _ _⟩
  have HW1 := Aside0.mk hW1
  have HB0 := Aside0.mk hB0
  clear hW1 hP hT hl hJm hJ h1 h2 hmg hB0w hB0
  have hnf := eql_func_nil (.func g) #[] bnd
  go_enter Tryd.func10, Tryd.ntmps10
  go_upto_region 5 with fail
  rw [← HW1.out, ← HB0.out]
  clear hnf
  obtain ⟨X, hX⟩ : ∃ X, X = B0 + 1 := ⟨_, rfl⟩
  rw [← hX] at HS0 ⊢
  clear hX
  obtain ⟨G, hG⟩ : ∃ G, G = B0 := ⟨_, rfl⟩
  have HS1 : Aside0 (RdS g bnd B0 J G X 0 W1) := ⟨by rw [hG]; exact HS0.out⟩
  rw [← hG]
  clear hG HS0
  obtain ⟨h0, hh0⟩ : ∃ h0, h0 = tell 0 := ⟨_, rfl⟩
  have HH0 := Aside0.mk hh0
  have hl0 : h0.length = 32 := by rw [hh0]; exact HL.out 0
  clear hh0
  go_upto_region 6 with (first | (go_at_call 22; refine (HS1.out.take HT.out (by omega)).mono ?_; rw [← HH0.out]; rintro e W2 ⟨rfl, hs, hk⟩; have HS2 := Aside0.mk hs; clear hs hk) | ((with_reducible refine gate_store (t := 41) (p := 6) rfl ?_); refine store_block_new rfl (.tmp 6) (.tmp 28) rfl _ rfl rfl h0 hl0 rfl ?_))
  have hb3 := below_alloc (Below.refl W2.heap.size W2) (.cells (bytesV h0).toArray 41)
  have hn3 := blk_new W2 (.cells (bytesV h0).toArray 41)
  obtain ⟨W3, hW3⟩ : ∃ W3, W3 = W2.alloc (.cells (bytesV h0).toArray 41) := ⟨_, rfl⟩
  obtain ⟨H, hH⟩ : ∃ H, H = W2.heap.size := ⟨_, rfl⟩
  rw [← hW3] at hb3 hn3 ⊢
  rw [← hH] at hn3 ⊢
  have HS3 := Aside0.mk (HS2.out.later HT.out hb3)
  have HH3 := Aside0.mk hn3
  have hHB : B0 ≤ H := by rw [hH]; exact HS2.out.size
  clear hb3 hn3 hW3 hH HS2 HS1
  obtain ⟨hk, hhk⟩ : ∃ hk, hk = headOK h0 := ⟨_, rfl⟩
  have HHK := Aside0.mk hhk
  clear hhk
  dsimp only [Act.put]
  go_cut [42] (fun v42 wd => v42 = .bool (!hk) ∧ Aside0 (RdS g bnd B0 J G X 1 wd ∧ wd.heap[H]? = some (.cells (bytesV h0).toArray 41 (0, 0))))
  case first =>
    have HC0 := Aside0.mk (byte_blk HH3.out (by omega))
    have HMG := Aside0.mk (HJM.out _ _ HS3.out.j)
    have HC5 : Aside0 (byte.C W3 (some ⟨H, 0, none⟩) (h0.take 5).length (h0.take 5)) := ⟨by have := byte_mid HC0.out 0 5 (by omega) (by omega); rwa [List.drop_zero] at this⟩
    have HC8 : Aside0 (byte.C W3 (some ⟨H, 8, none⟩) (h0.drop 8).length (h0.drop 8)) := ⟨by have := byte_mid HC0.out 8 32 (by omega) (by omega); rwa [List.take_of_length_le (by omega)] at this⟩
    obtain ⟨a, ha⟩ : ∃ a, decide (h0.take 5 = magicB) = a := ⟨_, rfl⟩
    have HA := Aside0.mk ha
    clear ha
    have z5 : W3.cell? ⟨H, 5, none⟩ = some (.int .u8 ((gt h0 5).toNat : Int)) := by
      rw [blk_cell HH3.out]
      simp [bytesV, gt_some h0 5 (by omega)]
    obtain ⟨n5, hn5⟩ : ∃ n5, n5 = (gt h0 5).toNat := ⟨_, rfl⟩
    rw [← hn5] at z5
    have HN5 := Aside0.mk hn5
    clear hn5
    cases a
    · have HF : Aside0 (hk = false) := ⟨by rw [HHK.out]; unfold headOK; rw [HA.out]; rfl⟩
      go_wp2_with fail
      go_quiet ((go_at_call 23; exact Calls.quiet_of_same (bequal_as (some ⟨H, 0, none⟩) (some ⟨0, 0, none⟩) (h0.take 5) magicB 5 5 32 5 (by simp; omega) rfl false HA.out _ (Kd.C_drewN HC5.out _) (Kd.C_drewN HMG.out _))))
      go_wp2_with fail
      go_meet
      case rel => exact ⟨by rw [HF.out]; rfl, ⟨HS3.out.drewN HT.out _, HH3.out⟩⟩
    · by_cases h8 : 8 < n5
      · have h8' : (8 : Int) < (n5 : Int) := by omega
        have HF : Aside0 (hk = false) := ⟨by rw [HHK.out]; unfold headOK; rw [HA.out, ← HN5.out, decide_eq_false (by omega)]; rfl⟩
        go_wp2_with fail
        go_quiet ((go_at_call 23; exact Calls.quiet_of_same (bequal_as (some ⟨H, 0, none⟩) (some ⟨0, 0, none⟩) (h0.take 5) magicB 5 5 32 5 (by simp; omega) rfl true HA.out _ (Kd.C_drewN HC5.out _) (Kd.C_drewN HMG.out _))))
        go_wp2_with fail
        go_meet
        case rel => exact ⟨by rw [HF.out]; rfl, ⟨HS3.out.drewN HT.out _, HH3.out⟩⟩
      · have h8' : decide ((8 : Int) < (n5 : Int)) = false := decide_eq_false (by omega)
        obtain ⟨z, hz⟩ : ∃ z, zerosB (h0.drop 8) = z := ⟨_, rfl⟩
        have HZ := Aside0.mk hz
        clear hz
        have HF : Aside0 (hk = z) := ⟨by rw [HHK.out]; unfold headOK; rw [HA.out, ← HN5.out, decide_eq_true (by omega), HZ.out]; rfl⟩
        go_wp2_with fail
        go_region_held3 (fun W' => W'.cell? ⟨H, 5, none⟩ = some (.int .u8 (n5 : Int))) (first | exact z5 | exact K5) (first | (go_at_call 23; refine (bequal_as (some ⟨H, 0, none⟩) (some ⟨0, 0, none⟩) (h0.take 5) magicB 5 5 32 5 (by simp; omega) rfl true HA.out _ (Kd.C_drew HC5.out) (Kd.C_drew HMG.out)).mono ?_; rintro e w' ⟨rfl, rfl⟩) | (go_at_call 24; refine (nought_any (some ⟨H, 8, none⟩) (h0.drop 8) 24 24 (by simp; omega) z HZ.out _ (Kd.C_drew HC8.out)).mono ?_; rintro e w5 ⟨rfl, hb⟩; have K5 := pw_cell_below (below_step (below_drew1 (Below.refl _ _)) hb) z5; have HB5 := Aside0.mk (below_step (below_drew1 (Below.refl W3.heap.size W3)) hb); clear hb))
        all_goals
          go_wp2_with fail
          go_meet
          case rel => exact ⟨by rw [HF.out], ⟨HS3.out.later HT.out HB5.out, blk_below HH3.out HB5.out⟩⟩
  obtain ⟨rfl, HSH⟩ := hcut
  obtain ⟨W4, hW4⟩ : ∃ W4, W4 = wc := ⟨_, rfl⟩
  rw [← hW4] at HSH ⊢
  clear hW4
  cases hk
  · have HNO : Aside0 (readB tell = none) := ⟨by unfold readB; rw [← HH0.out, ← HHK.out]; rfl⟩
    simp only [Bool.not_false]
    go_wp2_with fail
    rw [HP.out]
    exact .inl ⟨HNO.out, rfl, 1, by omega, HSH.out.1.j⟩
  · obtain ⟨n, hn⟩ : ∃ n, n = (gt h0 5).toNat := ⟨_, rfl⟩
    have hn8 : n ≤ 8 := by
      have := HHK.out
      unfold headOK at this
      rw [← hn] at this
      cases hq : decide (n ≤ 8)
      · rw [hq] at this; simp at this
      · exact of_decide_eq_true hq
    have HN := Aside0.mk hn
    have z5 : W4.cell? ⟨H, 5, none⟩ = some (.int .u8 (n : Int)) := by
      rw [blk_cell HSH.out.2, hn]
      simp [bytesV, gt_some h0 5 (by omega)]
    clear hn
    simp only [Bool.not_true]
    go_upto_region 10 with fail
    clear z5
    go_loopg [45, 7] n (fun gk v45 v7 wr => ∃ i : Nat, i ≤ n ∧ Aside0 (gk = n - i) ∧ v45 = .int .u8 i ∧ Aside0 (kBlock.R 41 wr B0 (fun _ => True) v7 (tableT tell i)) ∧ Aside0 (RdS g bnd B0 J G X (1 + i) wr ∧ wr.heap[H]? = some (.cells (bytesV h0).toArray 41 (0, 0)) ∧ v7.ownBlock ≠ some H))
    case atStart => exact ⟨0, Nat.zero_le _, ⟨rfl⟩, rfl, ⟨Kd.R_nil _ _ _ _ _⟩, ⟨HSH.out.1, HSH.out.2, by simp [Value.ownBlock]⟩⟩
    case round =>
      obtain ⟨i, hi, HGK, rfl, HR, HSi⟩ := hrel
      by_cases hlt : i < n
      · have hli := HL.out (1 + i)
        obtain ⟨b, hb⟩ : ∃ b, b = tell (1 + i) := ⟨_, rfl⟩
        rw [← hb] at hli
        have HBB := Aside0.mk hb
        clear hb
        have i1 : IntKind.u8.wrap ((i : Int) + 1) = (i : Int) + 1 := IntWalk.u8_in _ (by omega)
        go_wp2_with (first | (go_at_call 22; refine (HSi.out.1.take HT.out (by omega)).mono ?_; rw [← HBB.out]; rintro e W5 ⟨rfl, hs, hk⟩; have HS5 := Aside0.mk hs; have HK5 := Aside0.mk hk; have HR5 := Aside0.mk (row_take HR.out HSi.out.1 hk); clear hs hk) | ((with_reducible refine gate_dst (N := 50) rfl ?_); refine build_block rfl (.tmp 49) rfl b hli rfl ?_) | ((with_reducible refine gate_builtin (b := .append) (xs := #[.tmp 47, .tmp 50]) rfl ?_); at_builtin; refine Kd.R_append kBlock (w0 := W5) B0 rfl (.tmp 47) (.tmp 50) 33 41 zB 32 rfl Tryd.underlying33 info_blockZ rfl (by decide) (by omega) _ (tableT tell i) b (bytesV b) (fun _ => True) (fun _ => False) rfl rfl (kBlock_M _ _ _ hli) (fun _ hk => hk.elim) (fun _ _ => trivial) HR5.out (Below.refl _ _) HS5.out.size (by rw [tableT_len]; omega) ?_; intro v7 w7 ho7 hb7 hg7 hat7; have HO7 := Aside0.mk ho7; have HG7 := Aside0.mk hg7; have HAT7 := Aside0.mk hat7; clear ho7 hb7 hg7 hat7))
        have hHX : H ≠ X := blk_ne HSi.out.2.1 HSi.out.1.xbox (by decide)
        have hH5 := HK5.out.blk HSi.out.2.1 hHB hHX
        have HS7 : Aside0 (RdS g bnd B0 J G X (1 + (i + 1)) w7 ∧ w7.heap[H]? = some (.cells (bytesV h0).toArray 41 (0, 0)) ∧ v7.ownBlock ≠ some H) := ⟨by
          refine ⟨HS5.out.grown HT.out HG7.out (fun k hk => Kd.R_base HR5.out k hk) (fun e => Kd.R_ne HR5.out HS5.out.gbox (by decide) e.symm) (fun e => Kd.R_ne HR5.out HS5.out.xbox (by decide) e.symm), (HG7.out.block H (blk_lt hH5) (fun e => HSi.out.2.2 e.symm)).trans hH5, ?_⟩
          rcases HAT7.out with e | ⟨q, e, hq⟩
          · rw [e]; exact HSi.out.2.2
          · rw [e]; intro e2; injection e2 with e2; have := blk_lt hH5; omega⟩
        go_roundg (n - (i + 1))
        case measure => have := HGK.out; omega
        case rel => exact ⟨i + 1, by omega, ⟨rfl⟩, by go_num, ⟨by rw [tableT_succ, HBB.out.symm]; exact HO7.out⟩, HS7⟩
      · have hin : i = n := by omega
        obtain ⟨T, hT⟩ : ∃ T, T = tableT tell n := ⟨_, rfl⟩
        have hTl : T.length = n := by rw [hT, tableT_len]
        have HRT : Aside0 (kBlock.R 41 wr B0 (fun _ => True) u7 T) := ⟨by rw [hT, ← hin]; exact HR.out⟩
        have HST : Aside0 (RdS g bnd B0 J G X (1 + n) wr) := ⟨by rw [← hin]; exact HSi.out.1⟩
        have hTg : ∀ i, i < n → gt T i = tell (1 + i) := fun i hi => by rw [hT]; exact tableT_gt tell n i hi
        have HTT := Aside0.mk hT
        have HTG := Aside0.mk hTg
        have HTL := Aside0.mk hTl
        have hbk := byte_blk HSi.out.2.1 (by omega)
        have HBK := Aside0.mk hbk
        clear hTg hbk hin HR HGK HSH
        obtain ⟨s0, hs0⟩ : ∃ s0, (gt h0 6).toNat * 256 + (gt h0 7).toNat = s0 := ⟨_, rfl⟩
        have HS0 := Aside0.mk hs0
        obtain ⟨sT, hsT⟩ : ∃ sT, sumT T = sT := ⟨_, rfl⟩
        have HSUM := Aside0.mk hsT
        obtain ⟨At, ct, rfl⟩ := Kd.R_slice HRT.out
        rw [hTl]
        clear hs0 hsT hT hTl
        have HRB := Aside0.mk (readB_of HH0.out HHK.out HN.out HTT.out)
        rw [HS0.out, HSUM.out] at HRB
        rw [HTL.out] at HRT
        by_cases hsum : s0 = sT
        · subst hsum
          have hsum' : ((s0 : Int) != (s0 : Int)) = false := by simp
          rw [if_pos rfl] at HRB
          go_wp2_with (first | (go_at_call 25; refine (get2_at H 6 h0 (by omega) s0 HS0.out 26 _ HBK.out).mono ?_; rintro e w' ⟨rfl, rfl⟩) | (go_at_call 21; refine (sum_call _ T n HTL.out _ _ (readsS' HRT.out) s0 HSUM.out).mono ?_; rintro e w8 ⟨rfl, hb⟩; have HB8 := Aside0.mk hb; have HS8 := Aside0.mk (HST.out.later HT.out hb); have HR8 := Aside0.mk (Kd.R_below HRT.out hb); have zx := blk_cell HS8.out.xbox 0; simp only [List.getElem?_toArray, List.getElem?_cons_zero] at zx; have hXs : X < w8.heap.size := blk_lt HS8.out.xbox; clear hb) | ((with_reducible refine gate_dst (N := 65) rfl ?_); refine Kd.R_make (Kd.int .i64) (w0 := w8) B0 3 rfl (N := 65) rfl 70 _ _ rfl (n : Int) rfl rfl Tryd.underlying70 (.int .i64 0) 8 info_int rfl (by decide) (by omega) (0 : Int) (ok := fun q => q ≠ X) (okp := fun q => q ≠ X) rfl (fun _ hq => hq) (by omega) (by omega) (by omega) (Below.refl _ _) HS8.out.size ?_; intro v1 w9 ho hb hg hnew; obtain ⟨As, cs, rfl⟩ := Kd.R_slice ho; have HO9 := Aside0.mk ho; have HG9 := Aside0.mk hg; clear ho hb hg hnew))
          have e0 : (List.replicate (n : Int).toNat (0 : Int)).length = n := by simp
          rw [e0] at HO9
          clear e0 zx hsum'
          have HS9 := Aside0.mk (HS8.out.grown HT.out HG9.out (fun k hk => by cases hk) (by simp) (by simp))
          have HR9 := Aside0.mk (Kd.R_grown HR8.out HG9.out (fun _ _ => by simp))
          go_loopg [68, 10, 11, 13, 14, 15, 16, 17, 18, 19] n (fun gk v68 v10 v11 _ _ _ _ _ _ _ wr => ∃ i : Nat, i ≤ n ∧ Aside0 (gk = n - i) ∧ v68 = .int .i64 i ∧ v11 = .int .i64 (firstT T i) ∧ Aside0 (goodTo T i = true) ∧ Aside0 (kFileO.R 54 wr B0 (fun _ => True) v10 ((T.take i).map nameF)) ∧ Aside0 (kBlock.R 41 wr B0 (fun _ => True) (.slice At n ct) T) ∧ Aside0 ((Kd.int .i64).R 3 wr B0 (fun q => q ≠ X) (.slice As n cs) (szTo T n i)) ∧ Aside0 (RdS g bnd B0 J G X (1 + n) wr))
          case atStart => exact ⟨0, Nat.zero_le _, ⟨rfl⟩, rfl, by rw [firstT_zero, HTL.out]; simp, ⟨rfl⟩, ⟨Kd.R_nil _ _ _ _ _⟩, HR9, ⟨by rw [szTo_zero]; have := HO9.out; rwa [Int.toNat_natCast] at this⟩, HS9⟩
          case round =>
            clear HO9 HG9 HR9 HS9
            obtain ⟨i, hi, HGK, rfl, rfl, HGO, HOi, HRi, HZi, HSi2⟩ := hrel
            by_cases hlt : i < n
            · obtain ⟨gT, rfl, _, _⟩ := R_formV HRi.out (by omega)
              obtain ⟨b, hb⟩ : ∃ b, b = gt T i := ⟨_, rfl⟩
              have hbi := block_in (readsS' HRi.out) (k := i) (by rw [HTL.out]; exact hlt)
              rw [← hb] at hbi
              have hb32 := hbi.1
              have HBI := Aside0.mk hbi.2
              have HB := Aside0.mk hb
              obtain ⟨nm, hnm⟩ : ∃ nm : ByteArray, nm.data.toList = entN b := ⟨⟨(entN b).toArray⟩, rfl⟩
              obtain ⟨s, hs⟩ : ∃ s, entS b = s := ⟨_, rfl⟩
              obtain ⟨f, hf⟩ : ∃ f, entF b = f := ⟨_, rfl⟩
              obtain ⟨r, hr⟩ : ∃ r, entK b = r := ⟨_, rfl⟩
              obtain ⟨fi, hfi⟩ : ∃ fi, fi = firstT T i := ⟨_, rfl⟩
              rw [← hfi]
              have hfl : fi ≤ 1 + n + 8 * i := by rw [hfi]; exact firstT_good HGO.out (by omega) HTL.out
              have HG1 : Aside0 (goodTo T (i + 1) = (r && (decide (s ≤ 256) && decide (f = if s = 0 then 0 else fi)))) := ⟨by rw [goodTo_succ, HGO.out, ← hb, ← hfi]; unfold entGood; rw [hs, hf, hr]; rfl⟩
              have HNB : Aside0 (goodTo T (i + 1) = false → readB tell = none) := ⟨fun h => by rw [HRB.out, if_neg]; rw [Bool.not_eq_true]; exact goodTo_mono h (by omega)⟩
              have HNM := Aside0.mk hnm
              have HS := Aside0.mk hs
              have HF := Aside0.mk hf
              have HR := Aside0.mk hr
              have HFI := Aside0.mk hfi
              have hs6 : s ≤ 65535 := by rw [← hs]; unfold entS; have := (gt b 12).toNat_lt; have := (gt b 13).toNat_lt; omega
              obtain ⟨want, hwant⟩ : ∃ want, want = if s = 0 then 0 else fi := ⟨_, rfl⟩
              rw [← hwant] at HG1
              have HW := Aside0.mk hwant
              clear hbi hb hnm hs hf hr hfi hwant
              go_upto_if 82 with (first | ((with_reducible refine gate_dst (N := 72) rfl ?_); refine load_block rfl _ rfl ⟨gT, i * 32, none⟩ rfl b hb32 HBI.out ?_) | ((with_reducible refine gate_store (t := 41) (p := 14) rfl ?_); refine store_block_new rfl (.tmp 14) (.tmp 72) rfl _ rfl rfl b hb32 rfl ?_; obtain ⟨W1', hW1'⟩ : ∃ W1', wr.alloc (.cells (bytesV b).toArray 41) = W1' := ⟨_, rfl⟩; have HX1 : Aside0 (W1'.heap[wr.heap.size]? = some (.cells (bytesV b).toArray 41 (0, 0))) := ⟨by rw [← hW1']; exact blk_new wr _⟩; have HB1 : Aside0 (Below wr.heap.size wr W1') := ⟨by rw [← hW1']; exact below_alloc (Below.refl _ _) _⟩; rw [hW1']; clear hW1') | ((with_reducible refine gate_dst (N := 74) rfl ?_); refine load_block rfl _ rfl ⟨wr.heap.size, 0, none⟩ rfl b hb32 (block_cells HX1.out) ?_) | (go_at_call 26; refine (entry_any b hb32 nm HNM.out s f HS.out HF.out r HR.out _).mono ?_; rintro e w10 ⟨rfl, hb⟩; have HB10 := Aside0.mk (below_step HB1.out hb); clear hb))
              have HS10 := Aside0.mk (HSi2.out.later HT.out HB10.out)
              have HO10 := Aside0.mk (Kd.R_below HOi.out HB10.out)
              have HR10 := Aside0.mk (Kd.R_below HRi.out HB10.out)
              have HZ10 := Aside0.mk (Kd.R_below HZi.out HB10.out)
              clear HOi HRi HZi HSi2 HB10 HB1 HX1
              go_cut [19] (fun v19 wd => v19 = .int .i64 (want : Int) ∧ Aside0 (wd = w10))
              case first =>
                by_cases hs0 : s = 0
                · have hsz : ((s : Int) == 0) = true := by simp [hs0]
                  have HW0 : Aside0 (want = 0) := ⟨by rw [HW.out, if_pos hs0]⟩
                  clear hs0
                  go_wp2_with fail
                  go_meet
                  case rel => exact ⟨by rw [HW0.out]; rfl, ⟨rfl⟩⟩
                · have hsz : ((s : Int) == 0) = false := beq_eq_false_iff_ne.mpr (by omega)
                  have HW0 : Aside0 (want = fi) := ⟨by rw [HW.out, if_neg hs0]⟩
                  clear hs0
                  go_wp2_with fail
                  go_meet
                  case rel => exact ⟨by rw [HW0.out], ⟨rfl⟩⟩
              obtain ⟨rfl, HWC⟩ := hcut
              rw [HWC.out]
              clear HWC
              cases r
              · go_wp2_with fail
                rw [HP.out]
                exact .inl ⟨HNB.out (by rw [HG1.out]; rfl), rfl, 1 + n, by omega, HS10.out.j⟩
              · by_cases h256 : 256 < s
                · have h256' : (256 : Int) < (s : Int) := by omega
                  go_wp2_with fail
                  rw [HP.out]
                  exact .inl ⟨HNB.out (by rw [HG1.out, decide_eq_false (by omega)]; rfl), rfl, 1 + n, by omega, HS10.out.j⟩
                · have h256' : decide ((256 : Int) < (s : Int)) = false := decide_eq_false (by omega)
                  by_cases hfw : f = want
                  · have hfw' : ((f : Int) != (want : Int)) = false := by rw [hfw]; simp
                    have HGI : Aside0 (goodTo T (i + 1) = true) := ⟨by rw [HG1.out, decide_eq_true (by omega), decide_eq_true hfw]; rfl⟩
                    have i5 : IntKind.i64.wrap ((fi : Int) + ((s + 31) / 32 : Nat)) = (fi : Int) + ((s + 31) / 32 : Nat) := IntWalk.i64_in _ (by omega)
                    have HF1 : Aside0 (firstT T (i + 1) = fi + (s + 31) / 32) := ⟨by rw [firstT_succ T i (by rw [HTL.out]; exact hlt), ← HFI.out, ← HB.out, HS.out]; rfl⟩
                    obtain ⟨gS, rfl, hgS, _⟩ := R_formV HZ10.out (by omega)
                    clear hfw
                    go_wp2_with (first | ((with_reducible refine gate_builtin (b := .append) (xs := #[.tmp 96, .tmp 99]) rfl ?_); at_builtin; refine Kd.R_append kFileO (w0 := w10) B0 rfl (.tmp 96) (.tmp 99) 29 54 (.agg #[.string ByteArray.empty, .slice none 0 0]) 40 rfl Tryd.underlying29 info_fileR rfl (by decide) (by omega) _ ((T.take i).map nameF) (nameF b) [.string nm, .slice none 0 0] (fun _ => True) (fun _ => False) rfl rfl (nameF_M _ _ _ b nm HNM.out) (fun _ hq => hq.elim) (fun _ _ => trivial) HO10.out (Below.refl _ _) HS10.out.size (by have : (T.take i).length ≤ i := List.length_take_le _ _; simp; omega) ?_; intro v11 w11 ho hb hg hat; have HO11 := Aside0.mk ho; have HG11 := Aside0.mk hg; have HZ11 := Aside0.mk (Kd.R_over HZ10.out HO10.out (fun q hq => by rw [intE q hq]; decide) hg); have HR11 := Aside0.mk (Kd.R_over HR10.out HO10.out (fun q hq => by rw [blockE q hq]; decide) hg); have HS11 := Aside0.mk (HS10.out.grown HT.out hg (fun k hk => Kd.R_base HO10.out k hk) (fun e => Kd.R_ne HO10.out HS10.out.gbox (by decide) e.symm) (fun e => Kd.R_ne HO10.out HS10.out.xbox (by decide) e.symm)); obtain ⟨rc, rf⟩ := intR_cell HZ11.out i hlt; clear ho hb hg hat) | (go_at_call 27; refine (many_any s _ (by omega)).mono ?_; rintro e w12 ⟨rfl, rfl⟩))
                    obtain ⟨hzp, hgp⟩ := intR_put HZ11.out i (s : Int)
                    have HZ12 : Aside0 ((Kd.int .i64).R 3 (w11.setCell ⟨gS, i, none⟩ (.int .i64 (s : Int))) B0 (fun q => q ≠ X) (.slice (some ⟨gS, 0, none⟩) n cs) (szTo T n (i + 1))) := ⟨by rw [← szTo_set T n i HTL.out hlt, ← HB.out, HS.out]; exact hzp⟩
                    have HO12 : Aside0 (kFileO.R 54 (w11.setCell ⟨gS, i, none⟩ (.int .i64 (s : Int))) B0 (fun _ => True) v11 ((T.take (i + 1)).map nameF)) := ⟨by rw [List.take_add_one, gt_some T i (by rw [HTL.out]; exact hlt), List.map_append, ← HB.out]; exact Kd.R_over HO11.out HZ11.out (fun q hq => by rcases fileOE q hq with e | e <;> rw [e] <;> decide) hgp⟩
                    have HR12 := Aside0.mk (Kd.R_over HR11.out HZ11.out (fun q hq => by rw [blockE q hq]; decide) hgp)
                    have hgX : gS ≠ X := HZ11.out.1 gS (by simp [Value.ownBlock])
                    have HS12 := Aside0.mk (HS11.out.grown HT.out hgp (fun k hk => by cases hk; exact hgS) (fun e => Kd.R_ne HZ11.out HS11.out.gbox (by decide) e.symm) (fun e => hgX (by injection e)))
                    clear hzp hgp
                    go_roundg (n - (i + 1))
                    case measure => have := HGK.out; omega
                    case rel => exact ⟨i + 1, by omega, ⟨rfl⟩, by go_num, by rw [HF1.out]; go_num, HGI, HO12, HR12, HZ12, HS12⟩
                  · have hfw' : ((f : Int) != (want : Int)) = true := bne_iff_ne.mpr (by omega)
                    go_wp2_with fail
                    rw [HP.out]
                    exact .inl ⟨HNB.out (by rw [HG1.out, decide_eq_false hfw]; simp), rfl, 1 + n, by omega, HS10.out.j⟩
            · have hin : i = n := by omega
              have hTn : T.take n = T := List.take_of_length_le (by rw [HTL.out]; exact Nat.le_refl _)
              rw [hin] at HGO HOi HZi
              rw [hTn, ← filesTo_zero tell T] at HOi
              obtain ⟨Ao, co, rfl⟩ := Kd.R_slice HOi.out
              have hfl : (filesTo tell T 0).length = n := by rw [filesTo_len, HTL.out]
              rw [HGO.out, if_pos rfl] at HRB
              obtain ⟨tg, htg⟩ : ∃ tg, togB (filesTo tell T 0) = tg := ⟨_, rfl⟩
              rw [← filesTo_zero tell T, htg] at HRB
              have HTG2 := Aside0.mk htg
              have HCo := Aside0.mk (readsS' HOi.out)
              have HSZ : Aside0 (∀ k, k < (filesTo tell T 0).length → (gt (filesTo tell T 0) k).name.size ≤ 9223372036854775807) := ⟨fun k hk => by
                rw [filesTo_gt tell T 0 k (by rw [HTL.out, ← hfl]; exact hk), if_neg (by omega)]
                have := nameK_le (gt T k)
                have h1 : (entN (gt T k)).length ≤ 12 := this
                show (entN (gt T k)).toArray.size ≤ _
                rw [List.size_toArray]
                omega⟩
              clear htg hTn hin HGK hi
              rw [hfl]
              rw [hfl] at HCo
              go_upto_if 110 with (go_at_call 17; refine (together_as Ao (filesTo tell T 0) n co hfl tg HTG2.out _ HCo.out HSZ.out (by omega)).mono ?_; rintro e w13 ⟨rfl, hb⟩; have HB13 := Aside0.mk hb; clear hb)
              cases tg
              · go_wp2_with fail
                rw [HP.out]
                exact .inl ⟨by rw [HRB.out]; rfl, rfl, 1 + n, by omega, (HSi2.out.later HT.out HB13.out).j⟩
              · rw [if_pos rfl] at HRB
                have HS13 := Aside0.mk (HSi2.out.later HT.out HB13.out)
                have HO13 := Aside0.mk (Kd.R_below HOi.out HB13.out)
                have HZ13 := Aside0.mk (Kd.R_below HZi.out HB13.out)
                have HRF := Aside0.mk hfl
                clear HOi HRi HZi HSi2 HCo HSZ HB13 hfl
                go_wp2_with fail
                go_loopg [113, 20, 21, 22, 23] n (fun gk v113 _ _ _ _ wr => ∃ i : Nat, i ≤ n ∧ Aside0 (gk = n - i) ∧ v113 = .int .i64 i ∧ Aside0 (restTo tell T i = true) ∧ Aside0 (kFileO.R 54 wr B0 (fun _ => True) (.slice Ao n co) (filesTo tell T i)) ∧ Aside0 ((Kd.int .i64).R 3 wr B0 (fun q => q ≠ X) (.slice As n cs) (szTo T n n)) ∧ Aside0 (RdS g bnd B0 J G X (firstT T i) wr))
                case atStart => exact ⟨0, Nat.zero_le _, ⟨rfl⟩, rfl, ⟨rfl⟩, ⟨by rw [HRF.out] at HO13; exact HO13.out⟩, HZ13, ⟨by rw [firstT_zero, HTL.out]; exact HS13.out⟩⟩
                case round =>
                  clear HO13 HZ13 HS13
                  obtain ⟨i, hi, HGK, rfl, HRT0, HOi, HZi, HSi3⟩ := hrel
                  by_cases hlt : i < n
                  · obtain ⟨gS, rfl, hgS, _⟩ := R_formV HZi.out (by omega)
                    obtain ⟨gO, rfl, hgO, _⟩ := R_formV HOi.out (by omega)
                    obtain ⟨rc, rf⟩ := intR_cell HZi.out i hlt
                    rw [szTo_gt T n i HTL.out hlt] at rc
                    have hs256 := goodTo_size HGO.out i hlt
                    have hfi := firstT_good (goodTo_sub HGO.out (by omega)) (i := i) (by omega) HTL.out
                    obtain ⟨s, hs⟩ : ∃ s, s = entS (gt T i) := ⟨_, rfl⟩
                    obtain ⟨fi, hfi2⟩ : ∃ fi, fi = firstT T i := ⟨_, rfl⟩
                    rw [← hs] at rc hs256
                    rw [← hfi2] at HSi3 hfi
                    obtain ⟨m, hm⟩ : ∃ m, m = (s + 31) / 32 := ⟨_, rfl⟩
                    have hm8 : m ≤ 8 := by omega
                    have HSS := Aside0.mk hs
                    have HFI := Aside0.mk hfi2
                    have HM := Aside0.mk hm
                    obtain ⟨N, hN⟩ : ∃ N, N = wr.heap.size := ⟨_, rfl⟩
                    have hNs : N ≤ wr.heap.size := by omega
                    have hBN : B0 ≤ N := by rw [hN]; exact HSi3.out.size
                    have HON : Aside0 (kFileO.R 54 wr B0 (fun q => q < N) (.slice (some ⟨gO, 0, none⟩) n co) (filesTo tell T i)) := ⟨Kd.R_mono (Kd.R_bound HOi.out) (fun q hq => by rw [hN]; exact hq.2.2.1)⟩
                    have HNS := Aside0.mk hNs
                    have HBN := Aside0.mk hBN
                    clear hs hfi2 hm hN hNs hBN HOi
                    go_wp2_with (go_at_call 27; refine (many_any s _ (by omega)).mono ?_; rw [← HM.out]; rintro e w12 ⟨rfl, rfl⟩)
                    go_loopg [120, 22, 23] m (fun gk v120 v22 _ wz => ∃ k : Nat, k ≤ m ∧ Aside0 (gk = m - k) ∧ v120 = .int .i64 k ∧ Aside0 (k = 0 → v22 = .slice none 0 0) ∧ Aside0 (byte.R 5 wz N (fun _ => True) v22 (dataT tell fi k)) ∧ Aside0 (kFileO.R 54 wz B0 (fun q => q < N) (.slice (some ⟨gO, 0, none⟩) n co) (filesTo tell T i)) ∧ Aside0 ((Kd.int .i64).R 3 wz B0 (fun q => q ≠ X) (.slice (some ⟨gS, 0, none⟩) n cs) (szTo T n n)) ∧ Aside0 (N ≤ wz.heap.size) ∧ Aside0 (RdS g bnd B0 J G X (fi + k) wz))
                    case atStart => exact ⟨0, Nat.zero_le _, ⟨rfl⟩, rfl, ⟨fun _ => rfl⟩, ⟨Kd.R_nil _ _ _ _ _⟩, HON, HZi, HNS, HSi3⟩
                    case round =>
                      clear HON HZi HNS HSi3 rc rf
                      obtain ⟨k, hk, HGJ, rfl, HV0, HDk, HOk, HZk, HNk, HSk⟩ := hrel
                      by_cases hkm : k < m
                      · obtain ⟨b, hb⟩ : ∃ b, b = tell (fi + k) := ⟨_, rfl⟩
                        have hb32 : b.length = 32 := by rw [hb]; exact HL.out _
                        have HBB := Aside0.mk hb
                        clear hb
                        go_wp2_with (first | (go_at_call 22; refine (HSk.out.take HT.out (by omega)).mono ?_; rw [← HBB.out]; rintro e W5 ⟨rfl, hs, hk⟩; have HS5 := Aside0.mk hs; have HD5 := Aside0.mk (bytes_take HBN.out HDk.out HSk.out hk); have HO5 := Aside0.mk (files_take HOk.out HSk.out hk); have HZ5 := Aside0.mk (hk.row HZk.out (fun q hq => hq)); have HN5 : Aside0 (N ≤ W5.heap.size) := ⟨Nat.le_trans HNk.out hk.size⟩; clear hs hk) | ((with_reducible refine gate_store (t := 41) (p := 23) rfl ?_); refine store_block_new rfl (.tmp 23) (.tmp 123) rfl _ rfl rfl b hb32 rfl ?_; obtain ⟨W6, hW6⟩ : ∃ W6, W5.alloc (.cells (bytesV b).toArray 41) = W6 := ⟨_, rfl⟩; have hx6 : W6.heap[W5.heap.size]? = some (.cells (bytesV b).toArray 41 (0, 0)) := (by rw [← hW6]; exact blk_new W5 _); have hb6 : Below W5.heap.size W5 W6 := (by rw [← hW6]; exact below_alloc (Below.refl _ _) _); have HX6 := Aside0.mk (byte_blk hx6 (by omega)); have HS6 := Aside0.mk (HS5.out.later HT.out hb6); have HD6 := Aside0.mk (Kd.R_below HD5.out hb6); have HO6 := Aside0.mk (Kd.R_below HO5.out hb6); have HZ6 := Aside0.mk (Kd.R_below HZ5.out hb6); have HN6 : Aside0 (N ≤ W6.heap.size) := ⟨Nat.le_trans HN5.out hb6.size⟩; obtain ⟨Q, hQ⟩ : ∃ Q, W5.heap.size = Q := ⟨_, rfl⟩; rw [hW6, hQ]; rw [hQ] at HX6; clear hW6 hx6 hb6 hQ) | ((with_reducible refine gate_builtin (b := .append) (xs := #[.tmp 124, .tmp 125]) rfl ?_); at_builtin; refine Kd.R_append_rows byte (Rr := byte.K W6) (w0 := W6) N rfl (.tmp 124) (.tmp 125) 45 5 (.int .u8 0) 1 rfl Tryd.underlying45 info_byte rfl (by decide) (by omega) _ (dataT tell fi k) b (some ⟨Q, 0, none⟩) 32 32 (fun _ => True) (fun _ => False) rfl rfl HD6.out (by rw [← hb32]; exact HX6.out) (fun _ _ hx => hx) (fun _ hq => hq.elim) (fun _ _ => trivial) (Below.refl _ _) HN6.out (by rw [dataT_len tell HL.out]; omega) ?_; intro v7 w7 ho hb hg hat; have HD7 := Aside0.mk ho; have HO7 := Aside0.mk (Kd.R_grown HO6.out hg (fun q hq e => by have h1 := Kd.R_base HD6.out q e.symm; have h2 : q < N := hq; omega)); have HZ7 := Aside0.mk (Kd.R_over HZ6.out HD6.out (fun q hq => by rw [intE q hq]; decide) hg); have HN7 : Aside0 (N ≤ w7.heap.size) := ⟨Nat.le_trans HN6.out hg.size⟩; have HS7 := Aside0.mk (HS6.out.grown HT.out hg (fun q hq => Nat.le_trans HBN.out (Kd.R_base HD6.out q hq)) (fun e => Kd.R_ne HD6.out HS6.out.gbox (by decide) e.symm) (fun e => Kd.R_ne HD6.out HS6.out.xbox (by decide) e.symm)); clear ho hb hg hat))
                        go_roundg (m - (k + 1))
                        case measure => have := HGJ.out; omega
                        case rel => exact ⟨k + 1, by omega, ⟨rfl⟩, by go_num, ⟨fun h => by omega⟩, ⟨by rw [dataT_succ, ← HBB.out]; exact HD7.out⟩, HO7, HZ7, HN7, HS7⟩
                      · have hkm' : k = m := by omega
                        rw [hkm'] at HV0 HDk HSk
                        have hdl : (dataT tell fi m).length = 32 * m := dataT_len tell HL.out fi m
                        obtain ⟨ds, hds⟩ : ∃ ds, ds = dataT tell fi m := ⟨_, rfl⟩
                        rw [← hds] at HDk hdl
                        have HDI : Aside0 (ds = dataI tell T i) := ⟨by rw [hds]; unfold dataI; rw [← HFI.out, ← HSS.out, HM.out]; rfl⟩
                        obtain ⟨z, hz⟩ : ∃ z, zerosB (ds.drop s) = z := ⟨_, rfl⟩
                        have HR1 : Aside0 (restTo tell T (i + 1) = z) := ⟨by rw [restTo_succ, HRT0.out, ← HDI.out, ← HSS.out, hz]; rfl⟩
                        have HNB : Aside0 (z = false → readB tell = none) := ⟨fun h => by rw [HRB.out, if_neg]; rw [Bool.not_eq_true]; exact restTo_false (j := i) (by rw [← HDI.out, ← HSS.out, hz, h]) hlt⟩
                        have HZE := Aside0.mk hz
                        have HF1 : Aside0 (firstT T (i + 1) = fi + m) := ⟨by rw [firstT_succ T i (by rw [HTL.out]; exact hlt), ← HFI.out, ← HSS.out, HM.out]; rfl⟩
                        have HNAM : Aside0 ((fileT tell T i).name = (gt (filesTo tell T i) i).name) := ⟨by rw [filesTo_gt tell T i i (by rw [HTL.out]; exact hlt), if_neg (by omega)]; rfl⟩
                        have HDAT : Aside0 ((fileT tell T i).data = ds.take s) := ⟨by rw [HDI.out, HSS.out]; rfl⟩
                        have HSET : Aside0 ((filesTo tell T i).set i (fileT tell T i) = filesTo tell T (i + 1)) := ⟨filesTo_set tell T i (by rw [HTL.out]; exact hlt)⟩
                        have hms := HM.out
                        clear hds hz hkm' hk
                        by_cases hs0 : s = 0
                        · have hm0 : m = 0 := by omega
                          have hv := HV0.out hm0
                          subst hv
                          obtain rfl : ds = [] := List.eq_nil_of_length_eq_zero (by omega)
                          have hz1 : z = true := by rw [← HZE.out]; simp [zerosB]
                          subst hz1
                          clear hms hdl
                          go_wp2_with (first | (go_at_call 24; refine (nought_any none [] 0 0 rfl true rfl _ (Kd.C_nil byte _)).mono ?_; rintro e w14 ⟨rfl, hb⟩; obtain ⟨⟨u, rc⟩, rf, ho, hg⟩ := fileO_put (W := w14) (ok := fun _ => True) (Kd.R_mono (Kd.R_below HOk.out hb) (fun _ _ => trivial)) i hlt (fileT tell T i) HNAM.out (.slice none 0 0) (fun q => q ≠ gO) (fun q hq => ⟨trivial, hq⟩) (nil_M _ _ _ _ (by rw [HDAT.out]; simp)); have HO14 := Aside0.mk ho; have HG14 := Aside0.mk hg; have HZ14 := Aside0.mk (Kd.R_below HZk.out hb); have HO14' := Aside0.mk (Kd.R_mono (Kd.R_below HOk.out hb) (ok' := fun _ => True) (fun _ _ => trivial)); have HS14 := Aside0.mk (HSk.out.later HT.out hb); clear ho hg hb))
                          rw [HSET.out] at HO14
                          have HS15 := HS14.out.grown HT.out HG14.out (fun k hk => by cases hk; exact hgO) (fun e => Kd.R_ne HO14'.out HS14.out.gbox (by decide) e.symm) (fun e => Kd.R_ne HO14'.out HS14.out.xbox (by decide) e.symm)
                          have HZ15 := Aside0.mk (Kd.R_over HZ14.out HO14'.out (fun q hq => by rw [intE q hq]; decide) HG14.out)
                          rw [← HF1.out] at HS15
                          go_roundg (n - (i + 1))
                          case measure => have := HGK.out; omega
                          case rel => exact ⟨i + 1, by omega, ⟨rfl⟩, by go_num, HR1, HO14, HZ15, ⟨HS15⟩⟩
                        · obtain ⟨gD, cD, hv, hgD, _⟩ := Kd.R_form HDk.out (by omega)
                          subst hv
                          obtain ⟨L, hL⟩ : ∃ L, ds.length = L := ⟨_, rfl⟩
                          rw [hL] at HDk hdl
                          rw [hL]
                          have hLc : L ≤ cD := (Kd.R_reads' HDk.out).2.1
                          have hsL : s ≤ L := by omega
                          have hL9 : L ≤ 256 := by omega
                          have HL2 := Aside0.mk hL
                          have HGD := Aside0.mk hgD
                          clear hdl hms hL hgD
                          have HCD := Aside0.mk (readsS' HDk.out)
                          cases z
                          · by_cases hcs : cD = s
                            · exfalso
                              have h1 : ds.drop s = [] := List.drop_of_length_le (by rw [HL2.out]; omega)
                              have h2 := HZE.out
                              rw [h1] at h2
                              cases h2
                            · go_wp2_with (go_at_call 24; refine (nought_drop _ gD ds s L HL2.out hsL _ HZE.out _ HCD.out (.inl rfl) _).mono ?_; rintro e w14 ⟨rfl, hb⟩; have HB14 := Aside0.mk hb; clear hb)
                              rw [HP.out]
                              exact .inl ⟨HNB.out (by trivial), rfl, fi + m, by omega, (HSk.out.later HT.out HB14.out).j⟩
                          · by_cases hcs : cD = s
                            · go_wp2_with (go_at_call 24; refine (nought_drop _ gD ds s L HL2.out hsL _ HZE.out _ HCD.out (.inr (by omega)) _).mono ?_; rintro e w14 ⟨rfl, hb⟩; obtain ⟨⟨u, rc⟩, rf, ho, hg⟩ := fileO_put (W := w14) (ok := fun _ => True) (Kd.R_mono (Kd.R_below HOk.out hb) (fun _ _ => trivial)) i hlt (fileT tell T i) HNAM.out (.slice (some ⟨gD, 0, none⟩) s s) (fun q => q ≠ gO) (fun q hq => ⟨trivial, hq⟩) (cut_M (Kd.R_below HDk.out hb) HBN.out (fileT tell T i) s (by rw [HDAT.out, List.length_take, HL2.out]; omega) HDAT.out hsL (by omega) (by have h1 : gO < N := HOk.out.1 gO rfl; have := HGD.out; omega)); have HO14 := Aside0.mk ho; have HG14 := Aside0.mk hg; have HZ14 := Aside0.mk (Kd.R_below HZk.out hb); have HO14' := Aside0.mk (Kd.R_mono (Kd.R_below HOk.out hb) (ok' := fun _ => True) (fun _ _ => trivial)); have HS14 := Aside0.mk (HSk.out.later HT.out hb); clear ho hg hb)
                              rw [HSET.out] at HO14
                              have HS15 := HS14.out.grown HT.out HG14.out (fun k hk => by cases hk; exact hgO) (fun e => Kd.R_ne HO14'.out HS14.out.gbox (by decide) e.symm) (fun e => Kd.R_ne HO14'.out HS14.out.xbox (by decide) e.symm)
                              have HZ15 := Aside0.mk (Kd.R_over HZ14.out HO14'.out (fun q hq => by rw [intE q hq]; decide) HG14.out)
                              rw [← HF1.out] at HS15
                              go_roundg (n - (i + 1))
                              case measure => have := HGK.out; omega
                              case rel => exact ⟨i + 1, by omega, ⟨rfl⟩, by go_num, HR1, HO14, HZ15, ⟨HS15⟩⟩
                            · go_wp2_with (go_at_call 24; refine (nought_drop _ gD ds s L HL2.out hsL _ HZE.out _ HCD.out (.inl rfl) _).mono ?_; rintro e w14 ⟨rfl, hb⟩; obtain ⟨⟨u, rc⟩, rf, ho, hg⟩ := fileO_put (W := w14) (ok := fun _ => True) (Kd.R_mono (Kd.R_below HOk.out hb) (fun _ _ => trivial)) i hlt (fileT tell T i) HNAM.out (.slice (some ⟨gD, 0, none⟩) s s) (fun q => q ≠ gO) (fun q hq => ⟨trivial, hq⟩) (cut_M (Kd.R_below HDk.out hb) HBN.out (fileT tell T i) s (by rw [HDAT.out, List.length_take, HL2.out]; omega) HDAT.out hsL (by omega) (by have h1 : gO < N := HOk.out.1 gO rfl; have := HGD.out; omega)); have HO14 := Aside0.mk ho; have HG14 := Aside0.mk hg; have HZ14 := Aside0.mk (Kd.R_below HZk.out hb); have HO14' := Aside0.mk (Kd.R_mono (Kd.R_below HOk.out hb) (ok' := fun _ => True) (fun _ _ => trivial)); have HS14 := Aside0.mk (HSk.out.later HT.out hb); clear ho hg hb)
                              rw [HSET.out] at HO14
                              have HS15 := HS14.out.grown HT.out HG14.out (fun k hk => by cases hk; exact hgO) (fun e => Kd.R_ne HO14'.out HS14.out.gbox (by decide) e.symm) (fun e => Kd.R_ne HO14'.out HS14.out.xbox (by decide) e.symm)
                              have HZ15 := Aside0.mk (Kd.R_over HZ14.out HO14'.out (fun q hq => by rw [intE q hq]; decide) HG14.out)
                              rw [← HF1.out] at HS15
                              go_roundg (n - (i + 1))
                              case measure => have := HGK.out; omega
                              case rel => exact ⟨i + 1, by omega, ⟨rfl⟩, by go_num, HR1, HO14, HZ15, ⟨HS15⟩⟩
                  · have hin : i = n := by omega
                    rw [hin] at HRT0 HOi HSi3
                    rw [HRT0.out, if_pos rfl] at HRB
                    have HC := readsS' HOi.out
                    have hl3 : (filesTo tell T n).length = n := by rw [filesTo_len, HTL.out]
                    rw [hl3] at HC
                    have HLL := Aside0.mk hl3
                    have HCC := Aside0.mk HC
                    have HLC := Aside0.mk (Kd.R_reads' HOi.out).2.1
                    clear hin HC hl3
                    go_wp2_with fail
                    rw [HP.out]
                    exact .inr ⟨_, Ao, co, HRB.out, by rw [HLL.out]; rfl, by rw [HLL.out]; exact HLC.out, by rw [HLL.out]; exact HCC.out, by rw [← HH0.out, ← HN.out, ← HTT.out]; exact HSi3.out.j⟩
        · have hsum' : ((s0 : Int) != (sT : Int)) = true := bne_iff_ne.mpr (by omega)
          go_wp2_with (first | (go_at_call 25; refine (get2_at H 6 h0 (by omega) s0 HS0.out 26 _ HBK.out).mono ?_; rintro e w' ⟨rfl, rfl⟩) | (go_at_call 21; refine (sum_call _ T n HTL.out _ _ (readsS' HRT.out) sT HSUM.out).mono ?_; rintro e w8 ⟨rfl, hb⟩; have HB8 := Aside0.mk hb; clear hb))
          rw [HP.out]
          refine .inl ⟨?_, rfl, 1 + n, by omega, (HST.out.later HT.out HB8.out).j⟩
          rw [HRB.out, if_neg hsum]
end Go.Proofs.YtnpnpgihbgohgaaDoor
