/-
  Chapter 49: erewhileref49.Read, walked.
-/
import Derived.Test.YtahjadbjokkjnaaDoorRr2
namespace Go.Proofs.YtahjadbjokkjnaaDoor
open Go.RowKit Go.Proofs.YtahjadbjokkjnaaDoorW.PrintWords Go.Proofs.YtahjadbjokkjnaaDoorW.PrintLast Go.Proofs.YtahjadbjokkjnaaDoorW.PrintMore
set_option linter.unusedVariables false
set_option linter.unusedSimpArgs false

set_option maxRecDepth 8000 in
set_option maxHeartbeats 12800000 in
theorem refRead_any (A : Option Addr) (L : List (List UInt8)) (N c : Nat) (hN : L.length = N) (w : World) (h : kBlock.C w A N L) :
    Calls Tryd.prog 23 #[.slice A N c] w (RefPost (tellR L) w) := by
  have hmx := Kd.C_max h
  obtain ⟨tell, ht⟩ : ∃ t, t = tellR L := ⟨_, rfl⟩
  rw [← ht]
  have HTL : Aside0 (∀ n b, tell n = b → tellR L n = b) := ⟨fun n b h => by rw [← ht]; exact h⟩
  have H := Aside0.mk h
  have HN := Aside0.mk hN
  clear h hN ht
  obtain ⟨Post, hP⟩ : ∃ P, P = RefPost tell w := ⟨_, rfl⟩
  rw [← hP]
  have HP := Aside0.mk hP
  clear hP
  obtain ⟨h0, hh0⟩ : ∃ b, tell 0 = b := ⟨_, rfl⟩
  have HH0 := Aside0.mk hh0
  clear hh0
  go_enter Tryd.func23, Tryd.ntmps23
  go_upto_region 2 with (first | (go_at_call 43; refine (at_int A L N c 0 0 rfl HN.out h0 (HTL.out 0 h0 HH0.out) _ H.out (by omega)).mono ?_; rintro e w1 ⟨rfl, hl0, hb⟩; have HB1 := Aside0.mk hb; clear hb) | ((with_reducible refine gate_store (t := 40) (p := 4) rfl ?_); refine store_block_new rfl (.tmp 4) (.tmp 18) rfl _ rfl rfl h0 hl0 rfl ?_))
  have hx2 : BoxAt w1 (w1.alloc (.cells (bytesV h0).toArray 40)) h0 := ⟨below_alloc (Below.refl _ _) _, blk_new _ _⟩
  obtain ⟨W2, hW2⟩ : ∃ W2, W2 = w1.alloc (.cells (bytesV h0).toArray 40) := ⟨_, rfl⟩
  rw [← hW2] at hx2 ⊢
  have HB2 := Aside0.mk (below_step HB1.out hx2.out)
  have z5 := (hx2.cell 5 (by omega)).1
  obtain ⟨n, hn⟩ : ∃ n, n = (gt h0 5).toNat := ⟨_, rfl⟩
  rw [← hn] at z5
  have hn256 : n < 256 := by rw [hn]; exact (gt h0 5).toNat_lt
  have HNN : Aside0 (n = (gt (tell 0) 5).toNat) := ⟨by rw [HH0.out]; exact hn⟩
  clear hx2 hW2 hn
  go_upto_region 3 with fail
  clear z5
  by_cases h8 : 8 < n
  · have h8' : (8 : Int) < (n : Int) := by omega
    have HNO : Aside0 (refR tell = none) := ⟨by unfold refR; rw [if_neg (by rw [← HNN.out]; omega)]⟩
    go_wp2_with fail
    rw [HP.out]
    exact ⟨HB2.out, .inl ⟨HNO.out, rfl⟩⟩
  · have h8' : ¬ (8 : Int) < (n : Int) := by omega
    go_upto_region 7 with fail
    go_loopg [7, 6, 8, 9, 10, 11, 12, 13, 14] n (fun gk i v6 _ _ _ _ _ _ _ wr => ∃ k : Nat, k ≤ n ∧ Aside0 (gk = n - k) ∧ i = .int .i64 k ∧ Aside0 (refOK tell k = true) ∧ Aside0 (kFile.R 30 wr w.heap.size (fun _ => True) v6 (refTo tell k)) ∧ Aside0 (Below w.heap.size w wr))
    case atStart => exact ⟨0, Nat.zero_le _, ⟨rfl⟩, rfl, ⟨rfl⟩, ⟨Kd.R_nil _ _ _ _ _⟩, HB2⟩
    case round =>
      obtain ⟨k, hk, HGK, rfl, HOK, HR, HB⟩ := hrel
      by_cases hlt : k < n
      · obtain ⟨b, hb⟩ : ∃ b, tell (1 + k) = b := ⟨_, rfl⟩
        have HBB := Aside0.mk hb
        have i1 : IntKind.i64.wrap (1 + (k : Int)) = 1 + (k : Int) := IntWalk.i64_in _ (by omega)
        clear hb
        go_upto_region 10 with (first | (go_at_call 43; refine (at_int A L N c (1 + k) _ (by omega) HN.out b (HTL.out _ b HBB.out) _ (Kd.C_below H.out HB.out) (by omega)).mono ?_; rintro e w5 ⟨rfl, hl5, hb⟩; have HB5 := Aside0.mk hb; clear hb) | ((with_reducible refine gate_store (t := 40) (p := 8) rfl ?_); refine store_block_new rfl (.tmp 8) (.tmp 32) rfl _ rfl rfl b hl5 rfl ?_))
        have hx6 : BoxAt w5 (w5.alloc (.cells (bytesV b).toArray 40)) b := ⟨below_alloc (Below.refl _ _) _, blk_new _ _⟩
        obtain ⟨W6, hW6⟩ : ∃ W6, W6 = w5.alloc (.cells (bytesV b).toArray 40) := ⟨_, rfl⟩
        obtain ⟨X, hX⟩ : ∃ X, X = w5.heap.size := ⟨_, rfl⟩
        have hxb := hx6.box
        rw [← hW6] at hx6 hxb ⊢
        rw [← hX] at hxb ⊢
        have HXB := Aside0.mk hxb
        have HB6 := Aside0.mk (below_step (below_step HB.out HB5.out) hx6.out)
        have HR6 := Aside0.mk (Kd.R_below HR.out (below_step HB5.out hx6.out))
        clear hx6 hW6 hX hxb i1 HR HB5
        obtain ⟨s, hs⟩ : ∃ s, s = entN b := ⟨_, rfl⟩
        have HS := Aside0.mk hs
        have hs12 : s.length ≤ 12 := by rw [hs]; exact entN_le b
        clear hs
        go_upto_region 11 with fail
        have HF7 := Aside0.mk (FBox.new W6 ByteArray.empty (.slice none 0 0))
        go_upto_region 12 with fail
        go_loopg [10] 12 (fun gj j wz => ∃ q : Nat, q ≤ s.length ∧ Aside0 (gj = 12 - q) ∧ j = .int .i64 q ∧ ∃ nm : ByteArray, Aside0 (nm.data.toList = s.take q) ∧ Aside0 (FBox W6 wz nm (.slice none 0 0)))
        case atStart => exact ⟨0, Nat.zero_le _, ⟨rfl⟩, rfl, ByteArray.empty, ⟨rfl⟩, HF7⟩
        case round =>
          obtain ⟨q, hq, HGJ, rfl, nm, HNM, HFq⟩ := hrel
          have HXq := Aside0.mk (blk_below HXB.out HFq.out.out)
          have zq : ∀ j, j < 32 → wr.cell? ⟨X, j, none⟩ = some (.int .u8 ((gt b j).toNat : Int)) := fun j hj => by
            rw [blk_cell HXq.out]
            simp [bytesV, gt_some b j (by omega)]
          have HZQ := Aside0.mk zq
          clear zq
          by_cases hqs : q < s.length
          · obtain ⟨hq12, hnz, hgt⟩ := entN_more hl5 (q := q) (by rw [← HS.out]; exact hqs)
            have HADD := Aside0.mk (str_add nm s q hqs HNM.out)
            rw [HS.out, hgt, ← HS.out] at HADD
            obtain ⟨y, hy⟩ : ∃ y, y = gt b q := ⟨_, rfl⟩
            have z1 := HZQ.out q (by omega)
            rw [← hy] at z1 hnz HADD
            have hy0 : ((y.toNat : Int) != 0) = true := bne_iff_ne.mpr (fun e => hnz (UInt8.toNat_inj.1 (by simpa using e)))
            have hq32 : (q : Int) < 32 := by omega
            have hq12' : (q : Int) < 12 := by omega
            have hnm12 : nm.size ≤ 12 := by rw [Lib.size_eq, HNM.out, List.length_take]; omega
            clear hgt hy hnz
            go_upto_region 14 with fail
            obtain ⟨Wd, hWd⟩ : ∃ Wd, wr.drew = Wd := ⟨_, rfl⟩
            have HFd : Aside0 (FBox W6 Wd nm (.slice none 0 0)) := ⟨by rw [← hWd]; exact HFq.out.below (below_drew1 (Below.refl _ _))⟩
            have K0 : Wd.cell? ⟨X, q, none⟩ = some (.int .u8 (y.toNat : Int)) := by rw [← hWd]; exact z1
            have hba := below_alloc (Below.refl Wd.heap.size Wd) (.cells #[.int .u8 (y.toNat : Int)] 5)
            have K1 := cell_old hba K0
            have HFa := Aside0.mk (HFd.out.below hba)
            have hcv : (convert 26 9 (.slice (some ⟨Wd.heap.size, 0, none⟩) 1 1)).run Tryd.prog (Wd.alloc (.cells #[.int .u8 (y.toNat : Int)] 5)) = .ok (.string ⟨#[y]⟩) (Wd.alloc (.cells #[.int .u8 (y.toNat : Int)] 5)) := conv_bytes (c := 1) (byte_blk (xs := [y]) (blk_new Wd _) (by simp))
            have g0 := HFd.out.cells.1.1
            obtain ⟨g1, f1⟩ := HFa.out.cells.1
            have HFs := Aside0.mk (HFa.out.set0 (nm ++ ⟨#[y]⟩))
            clear hba
            obtain ⟨g1, f1⟩ := HFa.out.cells.1
            go_region
            all_goals
              go_wp2_with fail
              go_roundg (12 - (q + 1))
              case measure => have := HGJ.out; omega
              case rel => exact ⟨q + 1, by omega, ⟨rfl⟩, by go_num, nm ++ ⟨#[y]⟩, HADD, HFs⟩
          · have hqe : q = s.length := by omega
            have HNE : Aside0 (nm.data.toList = s) := ⟨by rw [HNM.out, hqe, List.take_of_length_le (Nat.le_refl _)]⟩
            obtain ⟨W8, rfl⟩ : ∃ W8, W8 = wr := ⟨_, rfl⟩
            have HF8 := HFq
            have HX8 := HXq
            have hend : (¬ (q : Int) < 12) ∨ ((q : Int) < 12 ∧ (q : Int) < 32 ∧ W8.cell? ⟨X, q, none⟩ = some (.int .u8 0)) := by
              by_cases h12 : q < 12
              · refine .inr ⟨by omega, by omega, ?_⟩
                have h1 := HZQ.out q (by omega)
                have h2 : gt b q = 0 := by rw [hqe, HS.out]; exact entN_done hl5 (by rw [← HS.out, ← hqe]; exact h12)
                rw [h2] at h1
                exact h1
              · exact .inl (by omega)
            have zq := HZQ.out
            have z12 := zq 12 (by omega)
            have z13 := zq 13 (by omega)
            have z14 := zq 14 (by omega)
            have z15 := zq 15 (by omega)
            have y12 := (gt b 12).toNat_lt
            have y13 := (gt b 13).toNat_lt
            have y14 := (gt b 14).toNat_lt
            have y15 := (gt b 15).toNat_lt
            obtain ⟨p12, hp12⟩ : ∃ p, p = (gt b 12).toNat := ⟨_, rfl⟩
            obtain ⟨p13, hp13⟩ : ∃ p, p = (gt b 13).toNat := ⟨_, rfl⟩
            obtain ⟨p14, hp14⟩ : ∃ p, p = (gt b 14).toNat := ⟨_, rfl⟩
            obtain ⟨p15, hp15⟩ : ∃ p, p = (gt b 15).toNat := ⟨_, rfl⟩
            rw [← hp12] at z12 y12
            rw [← hp13] at z13 y13
            rw [← hp14] at z14 y14
            rw [← hp15] at z15 y15
            obtain ⟨sz, hsz⟩ : ∃ z, z = 256 * p12 + p13 := ⟨_, rfl⟩
            obtain ⟨fi, hfi⟩ : ∃ z, z = 256 * p14 + p15 := ⟨_, rfl⟩
            have HSZ : Aside0 (sz = entS b) := ⟨by rw [hsz, hp12, hp13]; unfold entS; omega⟩
            have HFI : Aside0 (fi = entF b) := ⟨by rw [hfi, hp14, hp15]; unfold entF; omega⟩
            have m1 : IntKind.i64.wrap (256 * (p12 : Int)) = 256 * (p12 : Int) := IntWalk.i64_in _ (by omega)
            have m2 : IntKind.i64.wrap (256 * (p12 : Int) + (p13 : Int)) = (sz : Int) := by rw [IntWalk.i64_in _ (by omega)]; omega
            have m3 : IntKind.i64.wrap (256 * (p14 : Int)) = 256 * (p14 : Int) := IntWalk.i64_in _ (by omega)
            have m4 : IntKind.i64.wrap (256 * (p14 : Int) + (p15 : Int)) = (fi : Int) := by rw [IntWalk.i64_in _ (by omega)]; omega
            have hsz2 : sz ≤ 65535 := by omega
            have hfi2 : fi ≤ 65535 := by omega
            clear zq hp12 hp13 hp14 hp15 hsz hfi
            clear hqe HFq HXq HF7 HZQ
            rcases hend with hq12 | ⟨hq12, hq32, z1⟩
            all_goals
              go_upto_region 17 with fail
              clear z12 z13 z14 z15 m1 m2 m3 m4 y12 y13 y14 y15
              by_cases h256 : 256 < sz
              · have h256' : (256 : Int) < (sz : Int) := by omega
                have HNO : Aside0 (refR tell = none) := ⟨by unfold refR; rw [← HNN.out, if_pos (by omega), if_neg]; rw [refOK_false (j := k) (by rw [HBB.out, ← HSZ.out]; omega) hlt]; simp⟩
                go_wp2_with fail
                rw [HP.out]
                exact ⟨below_step HB6.out HF8.out.out, .inl ⟨HNO.out, rfl⟩⟩
              · have h256' : ¬ (256 : Int) < (sz : Int) := by omega
                go_upto_region 20 with fail
                go_loopg [13, 14] sz (fun gj j _ wz => ∃ p : Nat, p ≤ sz ∧ Aside0 (gj = sz - p) ∧ j = .int .i64 p ∧ ∃ dv : Value, Aside0 (FBox W6 wz nm dv) ∧ Aside0 (byte.R 5 wz W6.heap.size (fun q => W6.heap.size < q) dv (refD tell fi p)))
                case atStart => exact ⟨0, Nat.zero_le _, ⟨rfl⟩, rfl, .slice none 0 0, HF8, ⟨Kd.R_nil _ _ _ _ _⟩⟩
                case round =>
                  obtain ⟨p, hp, HGJ, rfl, dv, HFp, HDp⟩ := hrel
                  by_cases hps : p < sz
                  · obtain ⟨pd, hpd⟩ : ∃ z, z = p / 32 := ⟨_, rfl⟩
                    obtain ⟨r, hr⟩ : ∃ z, z = p % 32 := ⟨_, rfl⟩
                    have hrn : r < 32 := by omega
                    have hr32 : (r : Int) < 32 := by omega
                    have hpd8 : pd ≤ 8 := by omega
                    have i4 : (p : Int).tdiv 32 = (pd : Int) := by rw [hpd]; exact (Int.ofNat_tdiv _ _).symm
                    have i5 : (p : Int).tmod 32 = (r : Int) := by rw [hr]; exact (Int.ofNat_tmod _ _).symm
                    have i6 : IntKind.i64.wrap ((fi : Int) + (pd : Int)) = (fi : Int) + (pd : Int) := IntWalk.i64_in _ (by omega)
                    have hps' : (p : Int) < (sz : Int) := by omega
                    obtain ⟨d, hd⟩ : ∃ d, tell (fi + pd) = d := ⟨_, rfl⟩
                    have HD := Aside0.mk hd
                    obtain ⟨y, hy⟩ : ∃ y, y = gt d r := ⟨_, rfl⟩
                    have HDS : Aside0 (refD tell fi (p + 1) = refD tell fi p ++ [y]) := ⟨by rw [refD_succ, ← hpd, ← hr, hd, hy]⟩
                    have HY := Aside0.mk hy
                    have HBp := Aside0.mk (below_step HB6.out HFp.out.out)
                    clear hd hpd hr hy
                    go_upto_region 23 with (first | (go_at_call 43; refine (at_int A L N c (fi + pd) _ (by omega) HN.out d (HTL.out _ d HD.out) _ (Kd.C_below H.out HBp.out) (by omega)).mono ?_; rintro e w9 ⟨rfl, hl9, hb⟩; have HB9 := Aside0.mk hb; clear hb) | ((with_reducible refine gate_store (t := 40) (p := 14) rfl ?_); refine store_block_new rfl (.tmp 14) (.tmp 80) rfl _ rfl rfl d hl9 rfl ?_))
                    have hx10 : BoxAt w9 (w9.alloc (.cells (bytesV d).toArray 40)) d := ⟨below_alloc (Below.refl _ _) _, blk_new _ _⟩
                    obtain ⟨W10, hW10⟩ : ∃ W10, W10 = w9.alloc (.cells (bytesV d).toArray 40) := ⟨_, rfl⟩
                    obtain ⟨Y, hY⟩ : ∃ Y, Y = w9.heap.size := ⟨_, rfl⟩
                    have k10 := (hx10.cell r (by omega)).1
                    rw [← hW10] at hx10 k10 ⊢
                    rw [← hY] at k10 ⊢
                    rw [← HY.out] at k10
                    obtain ⟨Wd, hWd⟩ : ∃ Wd, W10.drew = Wd := ⟨_, rfl⟩
                    have hbd : Below wr.heap.size wr Wd := by rw [← hWd]; exact below_step (below_step HB9.out hx10.out) (below_drew1 (Below.refl _ _))
                    have HFd := Aside0.mk (HFp.out.below hbd)
                    have HRd := Aside0.mk (Kd.R_below HDp.out hbd)
                    have K0 : Wd.cell? ⟨Y, r, none⟩ = some (.int .u8 (y.toNat : Int)) := by rw [← hWd]; exact k10
                    have hba := below_alloc (Below.refl Wd.heap.size Wd) (.cells #[.int .u8 (y.toNat : Int)] 5)
                    have K1 := cell_old hba K0
                    have HFa := Aside0.mk (HFd.out.below hba)
                    have g0 := HFd.out.cells.2.1
                    have g1 := HFa.out.cells.2.1
                    have HLT := Aside0.mk (blk_lt HFd.out.box)
                    clear hba hbd hx10 hW10 hY HFp HDp HB9
                    go_region_law (refine Kd.R_append_step byte (w0 := W6) (W := Wd) W6.heap.size rfl (.tmp 82) (.tmp 87) 26 5 (.int .u8 0) 1 rfl Tryd.underlying26 info_byte rfl (by decide) (by omega) dv (refD tell fi p) y [.int .u8 (y.toNat : Int)] (fun q => W6.heap.size < q) (fun _ => False) rfl rfl rfl (fun _ hk => hk.elim) (fun q hq => by have := HLT.out; omega) HRd.out HFd.out.out HFd.out.out.size (by rw [refD_len]; omega) ?_; intro v2 w2 ho hb hg hat; obtain ⟨Av, n2, cv, rfl⟩ : ∃ A n c, v2 = .slice A n c := (by obtain ⟨A, c, e⟩ := Kd.R_slice ho; exact ⟨A, _, c, e⟩); have HO2 := Aside0.mk ho; have HF2 : Aside0 (FBox W6 w2 nm dv) := ⟨⟨hb, blk_grown HFd.out.box hg (Kd.R_ne HRd.out HFd.out.box (by decide))⟩⟩; have k1 := HF2.out.cells.2.1; have kf1 := HF2.out.cells.2.2; clear ho hb hg hat)
                    all_goals
                      go_wp2_with fail
                      go_roundg (sz - (p + 1))
                      case measure => have := HGJ.out; omega
                      case rel => exact ⟨p + 1, by omega, ⟨rfl⟩, by go_num, _, ⟨HF2.out.set1 _⟩, ⟨by rw [HDS.out]; exact Kd.R_far HO2.out (p := ⟨W6.heap.size, 1, none⟩) (fun k hk => Nat.ne_of_gt hk) _⟩⟩
                  · have hpe : p = sz := by omega
                    obtain ⟨x, hx⟩ : ∃ x, x = refF tell b := ⟨_, rfl⟩
                    have hxd : refD tell fi p = x.data := by rw [hx, hpe, HSZ.out, HFI.out]; rfl
                    have hxn : nm = x.name := name_ext (by rw [HNE.out, HS.out, hx]; rfl)
                    rw [hxd] at HDp
                    have HX := Aside0.mk hx
                    have HMp : Aside0 (kFile.M wr w.heap.size (fun q => W6.heap.size < q) x [.string x.name, dv]) := ⟨⟨[.string x.name], [dv], rfl, rfl, ⟨dv, rfl, Kd.R_lower HDp.out HB6.out.size⟩⟩⟩
                    have HRp := Aside0.mk (Kd.R_below HR6.out HFp.out.out)
                    have HOWN : Aside0 (∀ q, W6.heap.size < q → some q ≠ u6.ownBlock) := ⟨fun q hq e => by have := Kd.R_lt HR6.out q e.symm; omega⟩
                    have HBp := Aside0.mk (below_step HB6.out HFp.out.out)
                    have g0 := HFp.out.cells.1.1
                    have g1 := HFp.out.cells.2.1
                    rw [hxn] at g0
                    have HTO : Aside0 (refTo tell (k + 1) = refTo tell k ++ [x]) := ⟨by rw [refTo_succ, HBB.out, HX.out]⟩
                    have HOK1 : Aside0 (refOK tell (k + 1) = true) := ⟨by rw [refOK_succ, HOK.out, HBB.out, ← HSZ.out, decide_eq_true (by omega)]; rfl⟩
                    have HLEN : Aside0 (((refTo tell k).length + 1) * 40 ≤ 140737488355328) := ⟨by rw [refTo_len]; omega⟩
                    clear hpe hx hxd hxn HDp HFp HNE HNM
                    go_wp2_with ((with_reducible refine gate_builtin (b := .append) (xs := #[.tmp 90, .tmp 92]) rfl ?_); at_builtin; refine Kd.R_append kFile (w0 := w) w.heap.size rfl (.tmp 90) (.tmp 92) 31 30 (.agg #[.string ByteArray.empty, .slice none 0 0]) 40 rfl Tryd.underlying31 info_rfile rfl (Nat.succ_pos _) (by omega) u6 (refTo tell k) x [.string x.name, dv] (fun _ => True) (fun q => W6.heap.size < q) rfl rfl HMp.out (fun q hq => ⟨trivial, HOWN.out q hq⟩) (fun _ _ => trivial) HRp.out HBp.out HBp.out.size HLEN.out ?_; intro v7 w7 ho hb hg hat; have HO7 := Aside0.mk ho; have HB7 := Aside0.mk hb; clear ho hb hg hat)
                    go_roundg (n - (k + 1))
                    case measure => have := HGK.out; omega
                    case rel => exact ⟨k + 1, by omega, ⟨rfl⟩, by go_num, HOK1, ⟨by rw [HTO.out]; exact HO7.out⟩, HB7⟩
      · have hkn : k = n := by omega
        have hR := HR.out
        rw [hkn] at hR
        obtain ⟨l, hl⟩ : ∃ l, l = refTo tell n := ⟨_, rfl⟩
        have hln : l.length = n := by rw [hl, refTo_len]
        rw [← hl] at hR
        obtain ⟨Ao, co, rfl⟩ := Kd.R_slice hR
        have HRO := Aside0.mk hR
        have HLN := Aside0.mk hln
        have HLE := Aside0.mk hl
        have HOKn : Aside0 (refOK tell n = true) := ⟨by rw [← hkn]; exact HOK.out⟩
        have HSN : Aside0 (∀ j, j < l.length → (gt l j).name.size ≤ 9223372036854775807) := ⟨fun j hj => by
          rw [hl, refTo_gt _ _ _ (by omega)]
          have h1 : (refF tell (tell (1 + j))).name.size = (entN (tell (1 + j))).length := by rw [Lib.size_eq]; rfl
          rw [h1]
          have := entN_le (tell (1 + j))
          omega⟩
        have H32 : Aside0 (∀ i, (tell i).length = 32) := ⟨fun i => by
          rw [← HTL.out i _ rfl]
          unfold tellR
          split
          · next hi =>
            obtain ⟨_, _, h, _⟩ := block_at H.out (k := i) (by rw [← HN.out]; exact hi)
            exact h
          · rfl⟩
        have HREF : Aside0 (∀ o, (if togB l = true then if refSame tell (makeB l) (makeB l).length = true then some l else none else none) = o → refR tell = o) := ⟨fun o ho => by
          unfold refR
          rw [← HNN.out, if_pos (by omega), if_pos HOKn.out, ← HLE.out]
          exact ho⟩
        clear hkn hR hl HR HOK HGK
        cases htg : togB l
        · have HME : Aside0 (makeE l = 3) := ⟨by unfold makeE; rw [if_neg (by omega), htg]; rfl⟩
          have HNO : Aside0 (refR tell = none) := ⟨HREF.out none (by rw [htg]; rfl)⟩
          clear htg hln
          go_wp2_with (go_at_call 17; refine (refCheck_any Ao l co 3 HME.out _ (readsS' HRO.out) HSN.out).mono ?_; rintro e wb ⟨rfl, hb⟩; have HBb := Aside0.mk (below_step HB.out hb); clear hb)
          rw [HP.out]
          exact ⟨HBb.out, .inl ⟨HNO.out, rfl⟩⟩
        · have HME : Aside0 (makeE l = 0) := ⟨by unfold makeE; rw [if_neg (by omega), htg]; rfl⟩
          have HTG := Aside0.mk htg
          clear htg hln
          obtain ⟨B, hB⟩ : ∃ B, B = makeB l := ⟨_, rfl⟩
          have HMB := Aside0.mk hB
          clear hB
          go_upto_region 29 with (first | (go_at_call 17; refine (refCheck_any Ao l co 0 HME.out _ (readsS' HRO.out) HSN.out).mono ?_; rintro e wb ⟨rfl, hb⟩; have HBb := Aside0.mk (below_step HB.out hb); have HRb := Aside0.mk (Kd.R_below HRO.out hb); clear hb) | (go_at_call 18; refine (refMake_any Ao l co _ (readsS' HRb.out) (by rw [HLN.out]; omega) HTG.out).mono ?_; rw [← HMB.out]; rintro e wm ⟨v, rfl, ho, hb⟩; have HBm := Aside0.mk (below_step HBb.out hb); have HRm := Aside0.mk (Kd.R_below HRb.out hb); obtain ⟨Am, m, cm, rfl, hm⟩ : ∃ A m c, v = .slice A m c ∧ B.length = m := (by obtain ⟨A, c, e⟩ := Kd.R_slice ho; exact ⟨A, _, c, e, rfl⟩); have HOM := Aside0.mk ho; have HMM := Aside0.mk hm; clear ho hb hm))
          have hmx3 : m ≤ 1000 := by
            rw [← HMM.out, HMB.out, makeB_size]
            have := blocksTo_le HTG.out l.length (Nat.le_refl _)
            have := HLN.out
            omega
          go_loopg [16] m (fun gj j wz => ∃ i : Nat, i ≤ m ∧ Aside0 (gj = m - i) ∧ j = .int .i64 i ∧ Aside0 (refSame tell B i = true) ∧ Aside0 (Below wm.heap.size wm wz))
          case atStart => exact ⟨0, Nat.zero_le _, ⟨rfl⟩, rfl, ⟨rfl⟩, ⟨Below.refl _ _⟩⟩
          case round =>
            obtain ⟨i, hi, HGJ, rfl, HSM, HBz⟩ := hrel
            have HBw := Aside0.mk (below_step HBm.out HBz.out)
            by_cases hit : i < m
            · have hit' : (i : Int) < (m : Int) := by omega
              have hOr := Kd.R_below HOM.out HBz.out
              obtain ⟨gM, rfl, _, _⟩ := R_formV hOr (by omega)
              have hbi := block_in (readsS' hOr) (k := i) (by rw [HMM.out]; exact hit)
              obtain ⟨X, hX⟩ : ∃ X, X = gt B i := ⟨_, rfl⟩
              rw [← hX] at hbi
              have hX32 := hbi.1
              obtain ⟨d, hd⟩ : ∃ d, tell i = d := ⟨_, rfl⟩
              have hd32 : d.length = 32 := by rw [← hd]; exact H32.out i
              have HD := Aside0.mk hd
              have HXX := Aside0.mk hX
              have hr0 : wr.rangeAt gM (i * 32) (bytesV X) := fun j v hj => by
                have := hbi.2 j v hj
                rwa [Addr.add_mid] at this
              have hu := Tryd.underlying40
              have hin : (Tryd.prog.info? 40).map (·.size) = some (bytesV X).length := by rw [bytesV_len, hX32]; kernel_rfl
              obtain ⟨dd, hdd⟩ : ∃ dd, decide (X = d) = dd := ⟨_, rfl⟩
              have HDD := Aside0.mk hdd
              have he : ∀ w, (Op.equalIn 10000 40 (.agg (bytesV X).toArray) (.agg (bytesV d).toArray)).run Tryd.prog w = .ok dd w := eql_block X d hX32 hd32 dd hdd
              obtain ⟨Wd, hWd⟩ : ∃ Wd, wr.drew = Wd := ⟨_, rfl⟩
              have hbd : Below wr.heap.size wr Wd := by rw [← hWd]; exact below_drew1 (Below.refl _ _)
              have K0 : Wd.rangeAt gM (i * 32) (bytesV X) := fun j v hj => cell_old hbd (hr0 j v hj)
              have KR : wr.drew.rangeAt gM (i * 32) (bytesV X) := by rw [hWd]; exact K0
              have HBd := Aside0.mk (below_step HBw.out hbd)
              have HBzd := Aside0.mk (below_step HBz.out hbd)
              clear hOr hbi hX hd hdd hbd
              go_wp2_with fail
              go_region_held3 (fun W => W.rangeAt gM (i * 32) (bytesV X)) (first | exact K0 | exact KR | exact K1) ((go_at_call 43; refine (at_int A L N c i _ rfl HN.out d (HTL.out _ d HD.out) _ (Kd.C_below H.out HBd.out) (by omega)).mono ?_; rintro e w9 ⟨rfl, _, hb⟩; have K1 : w9.rangeAt gM (i * 32) (bytesV X) := (fun j v hj => cell_old hb (K0 j v hj)); have HB9 := Aside0.mk (below_step HBd.out hb); have HZ9 := Aside0.mk (below_step HBzd.out hb); clear hb))
              all_goals
                cases dd
                · have HNO : Aside0 (refR tell = none) := ⟨HREF.out none (by rw [if_pos HTG.out, if_neg]; rw [← HMB.out, HMM.out, refSame_false (j := i) (by rw [← HXX.out, HD.out]; exact of_decide_eq_false HDD.out) hit]; simp)⟩
                  go_wp2_with fail
                  rw [HP.out]
                  exact ⟨HB9.out, .inl ⟨HNO.out, rfl⟩⟩
                · have HSS : Aside0 (refSame tell B (i + 1) = true) := ⟨by rw [refSame_succ, HSM.out, ← HXX.out, HD.out, HDD.out]; rfl⟩
                  go_wp2_with fail
                  go_roundg (m - (i + 1))
                  case measure => have := HGJ.out; omega
                  case rel => exact ⟨i + 1, by omega, ⟨rfl⟩, by go_num, HSS, HZ9⟩
            · have hie : i = m := by omega
              have hRf := Kd.R_below HRm.out HBz.out
              have HSOME : Aside0 (refR tell = some l) := ⟨HREF.out _ (by rw [if_pos HTG.out, if_pos]; rw [← HMB.out, HMM.out, ← hie]; exact HSM.out)⟩
              have HCf := Aside0.mk (readsS' hRf)
              have HLB : Aside0 ((makeB l).length = m) := ⟨by rw [← HMB.out]; exact HMM.out⟩
              clear hie hRf
              go_wp2_with fail
              rw [HP.out]
              exact ⟨HBw.out, .inr ⟨l, Ao, co, HSOME.out, by rw [HLB.out]; rfl, HCf.out⟩⟩
end Go.Proofs.YtahjadbjokkjnaaDoor
