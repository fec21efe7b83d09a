/-
  ProbeData, walked: it returns true.
-/
import Derived.Test.YtoglbbonfjnmpaaDoorPj
namespace Go.Proofs.YtoglbbonfjnmpaaDoor
open Go.RowKit Go.Proofs.YtoglbbonfjnmpaaDoorW.PrintWords Go.Proofs.YtoglbbonfjnmpaaDoorW.PrintLast Go.Proofs.YtoglbbonfjnmpaaDoorW.PrintMore
set_option linter.unusedVariables false
set_option linter.unusedSimpArgs false

/-- Does a block begin with one of the first k good beginnings? -/
def wantTo (b : List UInt8) : Nat → Bool
  | 0 => false
  | k + 1 => wantTo b k || begB b (magicB51 (gt endL k))
theorem front4_take (b : List UInt8) (hb : b.length = 32) : b.take 4 = front4 b := by
  rcases b with _ | ⟨x0, _ | ⟨x1, _ | ⟨x2, _ | ⟨x3, r⟩⟩⟩⟩ <;> simp at hb
  rfl
theorem beg_good (b : List UInt8) (hb : b.length = 32) (k : Nat) (hk : k < 4) : begB b (magicB51 (gt endL k)) = decide (front4 b = magicK k) := by
  have hm : magicB51 (gt endL k) = magicK k := by
    rcases (show k = 0 ∨ k = 1 ∨ k = 2 ∨ k = 3 by omega) with rfl | rfl | rfl | rfl <;> decide
  rw [hm]
  unfold begB
  rw [magicK_len, front4_take b hb]
  exact decide_eq_decide.mpr ⟨fun h => h.2, fun h => ⟨by omega, h⟩⟩
theorem want_good (b : List UInt8) (hb : b.length = 32) : wantTo b 4 = goodB (front4 b) := by
  show ((((false || begB b (magicB51 (gt endL 0))) || begB b (magicB51 (gt endL 1))) || begB b (magicB51 (gt endL 2))) || begB b (magicB51 (gt endL 3))) = _
  rw [beg_good b hb 0 (by omega), beg_good b hb 1 (by omega), beg_good b hb 2 (by omega), beg_good b hb 3 (by omega)]
  unfold goodB
  simp only [List.range, List.range.loop, List.any_cons, List.any_nil, Bool.false_or, Bool.or_false, Bool.or_assoc]
/-- The world of a law that holds a block's box and the four endings. -/
structure DtIn (w wr : World) (b : List UInt8) (g : Nat) : Prop where
  out : Below w.heap.size w wr
  box : wr.heap[w.heap.size]? = some (.cells (bytesV b).toArray 24 (0, 0))
  lit : wr.heap[g]? = some (.cells #[.string sPdf, .string sZip, .string sPng, .string sElf] 9 (0, 0))
theorem DtIn.below {w wr w1 : World} {b : List UInt8} {g : Nat} (h : DtIn w wr b g) (hb : Below wr.heap.size wr w1) : DtIn w w1 b g := ⟨below_step h.out hb, blk_below h.box hb, blk_below h.lit hb⟩
theorem DtIn.str {w wr : World} {b : List UInt8} {g : Nat} (h : DtIn w wr b g) (k : Nat) (hk : k < 4) : wr.cell? ⟨g, k, none⟩ = some (.string (gt endL k)) := by
  rw [blk_cell h.lit k]
  rcases (show k = 0 ∨ k = 1 ∨ k = 2 ∨ k = 3 by omega) with rfl | rfl | rfl | rfl <;> rfl
theorem DtIn.C {w wr : World} {b : List UInt8} {g : Nat} (h : DtIn w wr b g) (hb : b.length = 32) : byte.C wr (some ⟨w.heap.size, 0, none⟩) 32 b := by
  have := C_block (d := byte) (xs := b) h.box (by rw [← encs_bytes]; exact Kd.reps_scalar b) (by omega)
  rwa [hb] at this
theorem begins_as (A B : Option Addr) (xs ys : List UInt8) (n m c1 c2 : Nat) (hn : xs.length = n) (hm : ys.length = m) (r : Bool) (hr : begB xs ys = r) (w : World) (h1 : byte.C w A n xs) (h2 : byte.C w B m ys) :
    Calls Tryd.prog 13 #[.slice A n c1, .slice B m c2] w fun e w' => e = .returned (.bool r) ∧ Below w.heap.size w w' := by
  subst hn hm
  exact (begins_any A B xs ys c1 c2 r hr w h1 h2).mono fun e w' ⟨h, q, h2⟩ => ⟨h, by rw [h2]; exact pw_below_drewN (Below.refl _ _) _⟩
theorem rspread_as (A : Option Addr) (xs : List UInt8) (n : Nat) (hn : n = xs.length) (c : Nat) (r : Nat) (hr : spreadN xs = r) (w : World) (h : byte.C w A n xs) (hl : n ≤ 1000000) :
    Calls Tryd.prog 16 #[.slice A n c] w fun e w' => e = .returned (.int .i64 (r : Int)) ∧ Below w.heap.size w w' := by
  subst hn
  exact (rspread_any A xs c r hr w h hl).mono fun e w' ⟨h, q, h2⟩ => ⟨h, by rw [h2]; exact pw_below_drewN (Below.refl _ _) _⟩
set_option maxRecDepth 8000 in
set_option maxHeartbeats 3200000 in
theorem law_pdata (A : Option Addr) (xs : List UInt8) (c : Nat) (b : List UInt8) (hb : b.length = 32) (w : World) (h : byte.C w A xs.length xs) (he : EndAt w) (hn : NumAt w) :
    Calls Tryd.prog 3 #[.slice A xs.length c, .agg (bytesV b).toArray] w fun e w' => e = .returned (.bool true) ∧ Below w.heap.size w w' := by
  have hmx := Kd.C_max h
  have HB0 := Aside0.mk (below_alloc (Below.refl w.heap.size w) (.cells (bytesV b).toArray 24))
  have HBX0 := Aside0.mk (blk_new w (.cells (bytesV b).toArray 24))
  have HE := Aside0.mk (Kd.C_below he HB0.out)
  have HNM := Aside0.mk (Kd.C_below hn HB0.out)
  have HNW := Aside0.mk hn
  have HX := Aside0.mk h
  clear h he hn
  obtain ⟨n, hn⟩ : ∃ n, n = xs.length := ⟨_, rfl⟩
  rw [← hn] at HX hmx ⊢
  have HN := Aside0.mk hn
  clear hn
  by_cases h500 : 500 < n
  · have h500' : (500 : Int) < (n : Int) := by omega
    go_enter Tryd.func3, Tryd.ntmps3
    go_wp2_with (go_at_call 12; refine (awake_any _ HE.out HNM.out).mono ?_; rintro e w1 ⟨rfl, hb⟩; have HB1 := Aside0.mk hb; clear hb)
    go_ret
    exact ⟨rfl, below_step HB0.out HB1.out⟩
  · have h500' : ¬ (500 : Int) < (n : Int) := by omega
    go_enter Tryd.func3, Tryd.ntmps3
    go_wp2_with (go_at_call 12; refine (awake_any _ HE.out HNM.out).mono ?_; rintro e w1 ⟨rfl, hb⟩; have HB1 := Aside0.mk hb; clear hb)
    have HD0 : Aside0 (DtIn w (w1.alloc (.cells #[.string sPdf, .string sZip, .string sPng, .string sElf] 9)) b w1.heap.size) := ⟨below_alloc (below_step HB0.out HB1.out) _, blk_alloc (blk_below HBX0.out HB1.out) _, blk_new w1 _⟩
    go_loopg [15, 5, 7] 4 (fun gk i v5 _ wr => ∃ k : Nat, k ≤ 4 ∧ Aside0 (gk = 4 - k) ∧ i = .int .i64 k ∧ (∃ v : Bool, v5 = .bool v ∧ Aside0 (wantTo b k = v)) ∧ Aside0 (DtIn w wr b w1.heap.size))
    case atStart => exact ⟨0, by omega, ⟨rfl⟩, rfl, ⟨false, rfl, ⟨rfl⟩⟩, HD0⟩
    case round =>
      obtain ⟨k, hk, HGK, rfl, ⟨v, rfl, HV⟩, HD⟩ := hrel
      by_cases hlt : k < 4
      · have z := HD.out.str k hlt
        obtain ⟨s, hs⟩ : ∃ s, gt endL k = s := ⟨_, rfl⟩
        obtain ⟨M, hM⟩ : ∃ M, magicB51 s = M := ⟨_, rfl⟩
        obtain ⟨r, hr⟩ : ∃ r, begB b M = r := ⟨_, rfl⟩
        rw [hs] at z
        have HST : Aside0 (wantTo b (k + 1) = (v || r)) := ⟨by show (wantTo b k || _) = _; rw [HV.out, hs, hM, hr]⟩
        have HMM := Aside0.mk hM
        have HRR := Aside0.mk hr
        have hlt' : (k : Int) < 4 := by omega
        clear hs hM hr hlt
        cases v
        · go_wp2_with fail
          go_region_held3 (fun _ => True) (exact trivial) (first | (go_at_call 14; refine (rmagic_any s M HMM.out _).mono ?_; rintro e w2 ⟨v, rfl, ho, hb2⟩; obtain ⟨Am, cm, rfl⟩ := Kd.R_slice ho; have HO := Aside0.mk (Kd.R_reads' ho).2.2; have HD2 := Aside0.mk ((HD.out.below (below_drew1 (Below.refl _ _))).below hb2); clear ho hb2) | (go_at_call 13; refine (begins_as _ Am b M 32 M.length 32 cm hb rfl r HRR.out _ (HD2.out.C hb) HO.out).mono ?_; rintro e w3 ⟨rfl, hb3⟩; have HD3 := Aside0.mk (HD2.out.below hb3); clear hb3))
          all_goals
            go_wp2_with fail
            go_roundg (4 - (k + 1))
            case measure => have := HGK.out; omega
            case rel => exact ⟨k + 1, by omega, ⟨rfl⟩, by go_num, ⟨r, rfl, ⟨by rw [HST.out]; rfl⟩⟩, HD3⟩
        · go_wp2_with fail
          go_quiet (fail)
          go_wp2_with fail
          go_roundg (4 - (k + 1))
          case measure => have := HGK.out; omega
          case rel => exact ⟨k + 1, by omega, ⟨rfl⟩, by go_num, ⟨true, rfl, ⟨by rw [HST.out]; rfl⟩⟩, ⟨HD.out.below (pw_below_drewN (Below.refl _ _) _)⟩⟩
      · have hk4 : k = 4 := by omega
        subst hk4
        have h44 : ¬ ((4 : Nat) : Int) < 4 := by omega
        have HV4 : Aside0 (goodB (front4 b) = v) := ⟨by rw [← want_good b hb]; exact HV.out⟩
        obtain ⟨s, hs⟩ : ∃ s, spreadN xs = s := ⟨_, rfl⟩
        obtain ⟨q, hq⟩ : ∃ q, wildB xs = q := ⟨_, rfl⟩
        have HS := Aside0.mk hs
        have HQ := Aside0.mk hq
        have HCB := Aside0.mk (block_cells HD.out.box)
        clear hs hq
        go_wp2_with (first | (go_at_call 15; refine (spread_as A xs n HN.out c s HS.out _ (Kd.C_below HX.out HD.out.out) (by omega)).mono ?_; rintro e w2 ⟨rfl, hb2⟩; have HD2 := Aside0.mk (HD.out.below hb2); clear hb2) | (go_at_call 16; refine (rspread_as A xs n HN.out c s HS.out _ (Kd.C_below HX.out HD2.out.out) (by omega)).mono ?_; rintro e w3 ⟨rfl, hb2⟩; have HD3 := Aside0.mk (HD2.out.below hb2); clear hb2) | (go_at_call 17; refine (wild_as A xs n HN.out c q HQ.out _ (Kd.C_below HX.out HD3.out.out) (by omega)).mono ?_; rintro e w4 ⟨rfl, hb2⟩; have HD4 := Aside0.mk (HD3.out.below hb2); clear hb2) | (go_at_call 18; refine (rwild_as A xs n HN.out c q HQ.out _ (Kd.C_below HX.out HD4.out.out) (by omega)).mono ?_; rintro e w5 ⟨rfl, hb2⟩; have HD5 := Aside0.mk (HD4.out.below hb2); clear hb2) | ((with_reducible refine gate_dst (N := 40) rfl ?_); refine load_block_on rfl _ rfl ⟨w.heap.size, 0, none⟩ rfl b hb (block_cells HD5.out.box) ?_) | (go_at_call 19; refine (pmagic_any b hb v HV4.out _ (Kd.C_below HNW.out HD5.out.out)).mono ?_; rintro e w6 ⟨rfl, hb2⟩; have HD6 := Aside0.mk (HD5.out.below hb2); clear hb2))
        all_goals
          go_ret
          exact ⟨ret_bool (by simp), HD6.out.out⟩
end Go.Proofs.YtoglbbonfjnmpaaDoor
