/-
  Chapter 49, fs.Make, walked: the disk of files that may stand together.
-/
import Derived.Test.YtdobjbdkfammbaaDoorFs6
namespace Go.Proofs.YtdobjbdkfammbaaDoor
open Go.RowKit Go.Proofs.YtdobjbdkfammbaaDoorW.PrintWords Go.Proofs.YtdobjbdkfammbaaDoorW.PrintLast Go.Proofs.YtdobjbdkfammbaaDoorW.PrintMore
set_option linter.unusedVariables false
set_option linter.unusedSimpArgs false

theorem outTo_full (l : List File) : outTo l l.length = zeroB :: (tableB l ++ (l.map dataB).flatten) := by
  unfold outTo
  rw [Nat.sub_self, List.replicate_zero, List.append_nil, List.take_of_length_le (by simp [tableB]), List.take_of_length_le (Nat.le_refl _)]
  rfl
theorem head_made (n s : Nat) : putB (putB (putB zeroB 0 magicB) 5 [UInt8.ofNat n]) 6 [hi2 s, lo2 s] = headB magicB n s := by
  simp [putB, zeroB, magicB, headB, List.replicate]
theorem gt_zero {α : Type} [Inhabited α] (x : α) (xs : List α) : gt (x :: xs) 0 = x := rfl
theorem tab_C {W : World} {base g c n : Nat} {ok : Nat → Prop} {out : List (List UInt8)} (h : kBlock.R 37 W base ok (.slice (some ⟨g, 0, none⟩) n c) out) (x : List UInt8) (t d : List (List UInt8)) (ho : out = x :: (t ++ d)) :
    kBlock.C W (if c = 1 then some ⟨g, 0, none⟩ else some ⟨g, 32, none⟩) t.length t := by
  obtain ⟨A', c', he, hle, hC⟩ := Kd.R_reads h
  cases he
  have hlen : out.length = 1 + (t.length + d.length) := by rw [ho]; simp; omega
  have hm := Kd.C_mid (lo := 1) (hi := 1 + t.length) hC (by omega) (by omega) hle
  have e : (out.take (1 + t.length)).drop 1 = t := by
    rw [ho, Nat.add_comm, List.take_succ_cons, List.drop_succ_cons, List.drop_zero, List.take_left]
  rw [e] at hm
  exact hm
theorem sum_call (A : Option Addr) (t : List (List UInt8)) (n : Nat) (hn : t.length = n) (c : Nat) (w : World) (h : kBlock.C w A t.length t) (s : Nat) (hs : sumT t = s) :
    Calls Tryd.prog 60 #[.slice A n c] w fun e w' => e = .returned (.int .u64 s) ∧ Below w.heap.size w w' := by
  subst hn hs
  exact sum_any A t c w h
/-- The variable fs.magic, as it is laid. -/
def MagicAt (w : World) : Prop := byte.C w (some ⟨0, 0, none⟩) 5 magicB
set_option maxRecDepth 8000 in
set_option maxHeartbeats 6400000 in
theorem make_ok (A : Option Addr) (l : List File) (c : Nat) (w : World) (h : kFile.C w A l.length l) (hl : l.length ≤ 8) (hs : ∀ k, k < l.length → (gt l k).name.size ≤ 9223372036854775807) (ht : togB l = true) (hmg : MagicAt w) :
    Calls Tryd.prog 35 #[.slice A l.length c] w fun e w' => ∃ v, e = .returned (.tuple #[v, .int .i64 0]) ∧ kBlock.R 37 w' w.heap.size (fun _ => True) v (makeB l) ∧ Below w.heap.size w w' := by
  have h8 : ¬ (8 : Int) < (l.length : Int) := by omega
  have i0 : IntKind.i64.wrap (1 + (l.length : Int)) = 1 + (l.length : Int) := IntWalk.i64_in _ (by omega)
  have HH := Aside0.mk h
  have HMG := Aside0.mk hmg
  clear hmg
  go_enter Tryd.func35, Tryd.ntmps35
  go_wp2_with (first | (go_at_call 56; refine (together_any A l c true ht _ h hs (by omega)).mono ?_; rintro e w1 ⟨rfl, hb⟩; have HB := Aside0.mk hb; clear hb) | ((with_reducible refine gate_dst (N := 22) rfl ?_); refine Kd.R_make kBlock (w0 := w) w.heap.size 37 rfl (N := 22) rfl 80 _ _ rfl (1 + (l.length : Int)) rfl rfl Tryd.underlying80 zB 32 info_blockZ rfl (by decide) (by omega) zeroB (ok := fun _ => True) (okp := fun _ => True) (zB_M _ _ _) (fun _ hk => hk) trivial (by omega) (by omega) HB.out HB.out.size ?_; intro v1 w2 ho hb hg hnew; clear hg hnew; have HO := Aside0.mk ho; have HB2 := Aside0.mk hb; clear ho hb))
  go_loopg [25, 4, 5, 6, 7, 9, 10] l.length (fun gk i v4 _ _ _ _ _ wr => ∃ k g n cap : Nat, k ≤ l.length ∧ gk = l.length - k ∧ i = .int .i64 k ∧ v4 = .slice (some ⟨g, 0, none⟩) n cap ∧ Aside0 (kBlock.R 37 wr w.heap.size (fun _ => True) v4 (outTo l k)) ∧ Aside0 (Below w.heap.size w wr))
  case atStart =>
    obtain ⟨g, cap, rfl, _⟩ := Kd.R_form HO.out (by simp; omega)
    exact ⟨0, g, _, cap, Nat.zero_le _, rfl, rfl, rfl, ⟨by rw [outTo_zero, show l.length + 1 = (1 + (l.length : Int)).toNat by omega]; exact HO.out⟩, HB2⟩
  case round =>
    obtain ⟨k, g, n, cap, hk, HGK, rfl, rfl, HR, HBr⟩ := hrel
    replace HGK := Aside0.mk HGK
    by_cases hlt : k < l.length
    · obtain ⟨ad, A3, c3, rfl, g0, g1, hc3, hd⟩ := file_at h hlt
      replace g0 := cell_old HBr.out g0
      replace g1 := cell_old HBr.out g1
      obtain ⟨f, hf⟩ : ∃ f, f = gt l k := ⟨_, rfl⟩
      obtain ⟨nm, hnm⟩ : ∃ nm, nm = f.name := ⟨_, rfl⟩
      obtain ⟨m, hm⟩ : ∃ m, m = f.data.length := ⟨_, rfl⟩
      rw [← hf] at g0 g1 hd hc3
      rw [← hnm] at g0
      rw [← hm] at g1 hc3
      have HD := Aside0.mk hd
      have HF := Aside0.mk hf
      have HNM := Aside0.mk hnm
      have HM := Aside0.mk hm
      have hg : w.heap.size ≤ g := Kd.R_base HR.out g (by simp [Value.ownBlock])
      have hgw : g < wr.heap.size := Kd.R_lt HR.out g (by simp [Value.ownBlock])
      have hn : l.length + 1 ≤ n := by obtain ⟨A', c', he, _, _⟩ := Kd.R_reads HR.out; cases he; simp [outTo, tableB]; omega
      have i1 : IntKind.i64.wrap (1 + (k : Int)) = 1 + (k : Int) := IntWalk.i64_in _ (by omega)
      have i2 : (0 : Int) ≤ 1 + (k : Int) := by omega
      have i3 : 1 + (k : Int) < (n : Int) := by omega
      have i4 : (1 + (k : Int)).toNat = 1 + k := by omega
      have HS0 : Aside0 (MkSt w (wr.alloc (.cells #[.string nm, .slice A3 m c3] 56)) wr.heap.size g n cap nm A3 m c3 (outTo l k)) := ⟨Kd.R_alloc HR.out _, below_alloc HBr.out _, blk_new wr _, by omega, hg⟩
      clear hd hf hnm hm
      go_upto_region 10 with fail
      obtain ⟨Wb, hWb⟩ : ∃ Wb, wr.alloc (.cells #[.string nm, .slice A3 m c3] 56) = Wb := ⟨_, rfl⟩
      obtain ⟨X, hX⟩ : ∃ X, X = wr.heap.size := ⟨_, rfl⟩
      rw [hWb, ← hX] at HS0
      rw [hWb]
      rw [← hX]
      have HX := Aside0.mk hX
      clear hWb hX
      go_cut [] (fun wc => Aside0 (MkSt w wc X g n cap nm A3 m c3 ((outTo l k).set (1 + k) (putB (gt (outTo l k) (1 + k)) 0 nm.data.toList))))
      case first =>
        obtain ⟨W2, hcp, hS2⟩ := HS0.out.drew.copyStr (1 + k) (by omega) nm (by rw [HNM.out, HF.out]; exact tog_name ht k hlt) 3
        have z0 := HS0.out.cell0
        have HS2 := Aside0.mk hS2
        clear hS2
        go_region
        go_wp2_with fail
        go_meet
        case rel => exact HS2
      obtain ⟨out, hout⟩ : ∃ out, out = (outTo l k).set (1 + k) (putB (gt (outTo l k) (1 + k)) 0 nm.data.toList) := ⟨_, rfl⟩
      rw [← hout] at hcut
      go_upto_region 11 with fail
      go_cut [] (fun wd => Aside0 (MkSt w wd X g n cap nm A3 m c3 (out.set (1 + k) (putB (gt out (1 + k)) 12 [hi2 m, lo2 m]))))
      case first =>
        have HS0 := hcut
        clear hcut
        have z1 := HS0.out.cell1
        have hml : m ≤ 256 := by rw [HM.out, HF.out]; exact (tog_right ht k hlt).2
        have j0 : IntKind.u64.wrap (m : Int) = (m : Int) := IntWalk.u64_in _ (by omega)
        go_region_with (go_at_call 57; refine (put2_any m _ (by omega)).mono ?_; rintro e w3 ⟨v, rfl, ho, hb⟩; obtain ⟨Ap, cp, rfl⟩ := Kd.R_slice ho; obtain ⟨W4, hcp, hS4⟩ := (HS0.out.drew.later hb).copyBts (1 + k) (by omega) 12 [hi2 m, lo2 m] (by simp) Ap cp 20 20 (readsS ho).2.2 (by simp) (by simp) 3; have HS4 := Aside0.mk hS4; replace hcp : (Builtin.copy_ #[54, 54] 3 #[.slice (some ⟨g, (1 + k) * 32 + 12, none⟩) 20 20, .slice Ap 2 cp]).run Tryd.prog w3 = .ok (goInt 2) W4 := hcp; clear ho hb hS4)
        go_wp2_with fail
        go_meet
        case rel => exact HS4
      obtain ⟨out1, hout1⟩ : ∃ out1, out1 = out.set (1 + k) (putB (gt out (1 + k)) 12 [hi2 m, lo2 m]) := ⟨_, rfl⟩
      rw [← hout1] at hcut
      have HO0 := Aside0.mk hout
      have HO1 := Aside0.mk hout1
      clear hout hout1
      obtain ⟨Wd, hWd⟩ : ∃ Wd, Wd = wc := ⟨_, rfl⟩
      rw [← hWd] at hcut ⊢
      clear hWd
      have HS1 := hcut
      clear hcut
      have z1 := HS1.out.cell1
      go_upto_if 52 with fail
      go_cut [] (fun wd => Aside0 (MkSt w wd X g n cap nm A3 m c3 (if 0 < m then out1.set (1 + k) (putB (gt out1 (1 + k)) 14 [hi2 n, lo2 n]) else out1)))
      case first =>
        by_cases hm0 : 0 < m
        · have HM0 := Aside0.mk hm0
          have hn9 : n ≤ 65535 := by
            have h1 := HS1.out.len
            have h2 : out1.length = (outTo l k).length := by rw [HO1.out, HO0.out]; simp
            have h3 := outTo_len l k (by omega)
            have h4 := blocksTo_le ht k (by omega)
            omega
          have j0 : IntKind.u64.wrap (n : Int) = (n : Int) := IntWalk.u64_in _ (by omega)
          go_wp2_with fail
          go_region_with (go_at_call 57; refine (put2_any n _ (by omega)).mono ?_; rintro e w3 ⟨v, rfl, ho, hb⟩; obtain ⟨Ap, cp, rfl⟩ := Kd.R_slice ho; obtain ⟨W4, hcp, hS4⟩ := (HS1.out.drew.later hb).copyBts (1 + k) (by omega) 14 [hi2 n, lo2 n] (by simp) Ap cp 18 18 (readsS ho).2.2 (by simp) (by simp) 3; have HS4 := Aside0.mk hS4; replace hcp : (Builtin.copy_ #[54, 54] 3 #[.slice (some ⟨g, (1 + k) * 32 + 14, none⟩) 18 18, .slice Ap 2 cp]).run Tryd.prog w3 = .ok (goInt 2) W4 := hcp; clear ho hb hS4)
          go_wp2_with fail
          go_meet
          case rel => rw [if_pos HM0.out]; exact HS4
        · have HM0 := Aside0.mk hm0
          go_wp2_with fail
          go_meet
          case rel => rw [if_neg HM0.out]; exact HS1
      obtain ⟨out2, hout2⟩ : ∃ out2, out2 = if 0 < m then out1.set (1 + k) (putB (gt out1 (1 + k)) 14 [hi2 n, lo2 n]) else out1 := ⟨_, rfl⟩
      rw [← hout2] at hcut
      have HO2 := Aside0.mk hout2
      clear hout2 z1
      obtain ⟨We, hWe⟩ : ∃ We, We = wc := ⟨_, rfl⟩
      rw [← hWe] at hcut ⊢
      clear hWe
      have HS2 := hcut
      clear hcut HS1
      have z1 := HS2.out.cell1
      have hXs : X < We.heap.size := blk_lt HS2.out.file
      have HCL : Aside0 (byte.C w A3 f.data.length f.data) := HD
      have hm256 : m ≤ 256 := by rw [HM.out, HF.out]; exact (tog_right ht k hlt).2
      have x1 := blk_cell (blk_alloc (blk_new We (.cells #[.slice A3 m c3] 54)) (.cells #[.int .i64 32] 3)) 0
      have x2 := blk_cell (blk_new (We.alloc (.cells #[.slice A3 m c3] 54)) (.cells #[.int .i64 32] 3)) 0
      rw [World.size_alloc] at x2
      have HX1 : Aside0 (((We.alloc (.cells #[.slice A3 m c3] 54)).alloc (.cells #[.int .i64 32] 3)).cell? ⟨We.heap.size, 0, none⟩ = some (.slice A3 f.data.length c3)) := ⟨by rw [← HM.out, x1]; simp⟩
      have HX2 : Aside0 (((We.alloc (.cells #[.slice A3 m c3] 54)).alloc (.cells #[.int .i64 32] 3)).cell? ⟨We.heap.size + 1, 0, none⟩ = some (.int .i64 32)) := ⟨by rw [x2]; simp⟩
      clear x1 x2
      go_upto_block 3 with (first | (go_at_call 59; refine (chunk_any (.slice A3 m c3) We rfl).mono ?_; rintro e w5 ⟨rfl, rfl⟩) | (go_at_call 58; refine (collect_all w X _ _ A3 f.data c3 (by have := HM.out; omega) (by have := HM.out; omega) HCL.out _ (by simp; omega) HX1.out HX2.out).mono ?_; rintro e w6 ⟨Av, cv, g2, rfl, hAv, hg2, hg2s, hPB, hb6⟩; have HAV := Aside0.mk hAv; have HG2 := Aside0.mk hg2; have HPB := Aside0.mk hPB; have HB6 := Aside0.mk hb6; clear hAv hg2 hPB hb6))
      have hb5 : Below We.heap.size We w6 := (below_alloc (below_alloc (Below.refl _ _) _) _).trans (HB6.out.mono (by simp; omega))
      have HS3 := Aside0.mk (HS2.out.later hb5)
      have HRI : Aside0 (kBlock.R 37 w6 w.heap.size (fun k => k ≠ g2) (.slice (some ⟨g, 0, none⟩) n cap) out2) := ⟨Kd.R_below (HS2.out.away g2 (by rcases HG2.out with h | h; exact .inl h; right; simp at h; omega)) hb5⟩
      clear hb5 HX1 HX2
      obtain ⟨M, hM⟩ : ∃ M, M = manyN f.data.length := ⟨_, rfl⟩
      rw [← hM] at HAV ⊢
      have hM8 : M ≤ 8 := by rw [hM]; unfold manyN; have := HM.out; omega
      have HMM := Aside0.mk hM
      clear hM
      go_wp2_with fail
      go_loopg [66, 4, 9, 10] M (fun gk j v4 _ _ wz => ∃ q g' n' cap' : Nat, q ≤ M ∧ Aside0 (gk = M - q) ∧ j = .int .i64 q ∧ v4 = .slice (some ⟨g', 0, none⟩) n' cap' ∧ Aside0 (kBlock.R 37 wz w.heap.size (fun k => k ≠ g2) v4 (out2 ++ (dataB f).take q)) ∧ Aside0 (Below w.heap.size w wz) ∧ Aside0 (wz.heap[g2]? = w6.heap[g2]? ∧ g2 < wz.heap.size))
      case atStart => exact ⟨0, g, n, cap, Nat.zero_le _, ⟨rfl⟩, rfl, rfl, ⟨by simpa using HRI.out⟩, ⟨HS3.out.below⟩, ⟨rfl, hg2s⟩⟩
      case round =>
        obtain ⟨q, g', n', cap', hq, HGQ, rfl, rfl, HRq, HBq, HKq⟩ := hrel
        by_cases hqt : q < M
        · obtain rfl := HAV.out (by omega)
          obtain ⟨Ak, ck, zc, zd⟩ := (HPB.out.kept HKq.out.1) q (by rw [← HMM.out]; exact hqt)
          obtain ⟨pt, hpt⟩ : ∃ pt, pt = chunk f.data q := ⟨_, rfl⟩
          rw [← hpt] at zc zd
          have hp0 : 0 < pt.length := by rw [hpt, chunk_len]; have := HMM.out; unfold manyN at this; omega
          have hp32 : pt.length ≤ 32 := by rw [hpt, chunk_len]; omega
          have HZD := Aside0.mk (Kd.C_below zd HBq.out)
          have HPT := Aside0.mk hpt
          clear zd hpt
          go_upto_region 17 with fail
          go_cut [10] (fun v10 wd => ∃ N : Nat, v10 = .pointer (some ⟨N, 0, none⟩) ∧ Aside0 (N = wr.heap.size) ∧ Aside0 (wd = wr.alloc (.cells (bytesV zeroB).toArray 37)))
          case first =>
            go_wp2_with fail
            go_meet
            case rel => exact ⟨_, rfl, ⟨rfl⟩, ⟨rfl⟩⟩
          obtain ⟨N, rfl, HN, HWA⟩ := hcut
          obtain ⟨W2, hcp, hblk, hb2⟩ := copy_new wr pt hp32 hp0 Ak ck HZD.out 3
          rw [← HN.out] at hblk
          rw [← HN.out, ← HWA.out] at hcp
          have HBLK := Aside0.mk hblk
          have HB2 := Aside0.mk (below_step HBq.out hb2)
          have HR2 := Aside0.mk (Kd.R_below HRq.out hb2)
          have HK2 : Aside0 (W2.heap[g2]? = w6.heap[g2]? ∧ g2 < W2.heap.size) := ⟨(hb2.block g2 HKq.out.2).trans HKq.out.1, Nat.lt_of_lt_of_le HKq.out.2 hb2.size⟩
          have hgg : g' ≠ g2 := HRq.out.1 g' (by simp [Value.ownBlock])
          have HLEN : Aside0 (((out2 ++ (dataB f).take q).length + 1) * 32 ≤ 140737488355328) := ⟨by
            have h1 := HS2.out.len
            have h2 : out2.length = (outTo l k).length := by rw [HO2.out]; split <;> simp [HO1.out, HO0.out]
            have h3 := outTo_len l k (by omega)
            have h4 := blocksTo_le ht k (by omega)
            have h5 : ((dataB f).take q).length ≤ q := List.length_take_le _ _
            rw [List.length_append]
            omega⟩
          clear hblk hb2 z1 zc
          go_upto_region 19 with fail
          go_wp2_with (first | ((with_reducible refine gate_dst (N := 74) rfl ?_); refine load_block rfl _ rfl ⟨N, 0, none⟩ rfl (pad pt) (pad_len pt) (block_cells HBLK.out) ?_) | ((with_reducible refine gate_dst (N := 75) rfl ?_); refine build_block rfl (.tmp 74) rfl (pad pt) (pad_len pt) rfl ?_) | ((with_reducible refine gate_builtin (b := .append) (xs := #[.tmp 73, .tmp 75]) rfl ?_); at_builtin; refine Kd.R_append kBlock (w0 := w) w.heap.size rfl (.tmp 73) (.tmp 75) 80 37 zB 32 rfl Tryd.underlying80 info_blockZ rfl (by decide) (by omega) (.slice (some ⟨g', 0, none⟩) n' cap') (out2 ++ (dataB f).take q) (pad pt) (bytesV (pad pt)) (fun k => k ≠ g2) (fun _ => False) rfl rfl (kBlock_M _ _ _ (pad_len pt)) (fun _ hk => hk.elim) (fun k hk => by have := HK2.out.2; omega) HR2.out HB2.out HB2.out.size HLEN.out ?_; intro v7 w7 ho7 hb7 hg7 hat7; have HO7 := Aside0.mk ho7; have HB7 := Aside0.mk hb7; have HG7 := Aside0.mk hg7; clear ho7 hb7 hg7 hat7))
          obtain ⟨g7, cap7, rfl, hgb7, hgl7, cs7, hcs7⟩ := Kd.R_form HO7.out (by rw [List.length_append]; simp only [List.length_singleton]; omega)
          clear hgb7 hgl7 hcs7
          have HROW : Aside0 (kBlock.R 37 w7 w.heap.size (fun k => k ≠ g2) (.slice (some ⟨g7, 0, none⟩) (out2 ++ (dataB f).take q ++ [pad pt]).length cap7) (out2 ++ (dataB f).take (q + 1))) := ⟨by
            rw [dataB_take f q (by rw [← HMM.out]; exact hqt), ← HPT.out, ← List.append_assoc]
            exact HO7.out⟩
          have HK7 : Aside0 (w7.heap[g2]? = w6.heap[g2]? ∧ g2 < w7.heap.size) := ⟨(HG7.out.block g2 HK2.out.2 (by simp [Value.ownBlock]; omega)).trans HK2.out.1, Nat.lt_of_lt_of_le HK2.out.2 HG7.out.size⟩
          go_wp2_with fail
          go_roundg (M - (q + 1))
          case measure => have := HGQ.out; omega
          case rel => exact ⟨q + 1, g7, _, cap7, by omega, ⟨rfl⟩, by go_num, rfl, HROW, HB7, HK7⟩
        · have hqM : q = M := by omega
          have hrow : kBlock.R 37 wr w.heap.size (fun _ => True) (.slice (some ⟨g', 0, none⟩) n' cap') (outTo l (k + 1)) := by
            rw [← outTo_step l k hlt (by have := (tog_right ht k hlt).1; rwa [Lib.size_eq] at this) f HF.out n (by have := HS2.out.len; rw [this, HO2.out]; split <;> simp [HO1.out, HO0.out]) out out1 out2 (by rw [HO0.out, HNM.out]) (by rw [HO1.out, HM.out]) (by rw [HO2.out, HM.out])]
            have := Kd.R_mono HRq.out (ok' := fun _ => True) (fun _ _ => trivial)
            rwa [List.take_of_length_le (by rw [hqM, HMM.out]; simp [dataB])] at this
          have HROW := Aside0.mk hrow
          clear hrow hqM
          go_wp2_with fail
          go_roundg (l.length - (k + 1))
          case measure => have := HGK.out; omega
          case rel => exact ⟨k + 1, g', n', cap', by omega, rfl, by go_num, rfl, HROW, HBq⟩
    · have hkl : k = l.length := by omega
      have HROW : Aside0 (kBlock.R 37 wr w.heap.size (fun _ => True) (.slice (some ⟨g, 0, none⟩) n cap) (outTo l l.length)) := ⟨by rw [← hkl]; exact HR.out⟩
      have hgw : g < wr.heap.size := Kd.R_lt HR.out g (by simp [Value.ownBlock])
      have hg : w.heap.size ≤ g := Kd.R_base HR.out g (by simp [Value.ownBlock])
      have hn : 0 < n := by obtain ⟨A', c', he, _, _⟩ := Kd.R_reads HROW.out; cases he; simp [outTo]
      clear hkl
      go_upto_region 22 with fail
      obtain ⟨W2, hcp, hR2, hg2⟩ := copy_bts (Kd.R_drew HROW.out) 0 hn 0 magicB (by simp [magicB]) (some ⟨0, 0, none⟩) 5 32 32 (Kd.C_below (Kd.C_below HMG.out HBr.out) (below_drew1 (Below.refl _ _))) (by simp [magicB]) (by simp [magicB]) 3
      replace hcp : (Builtin.copy_ #[54, 54] 3 #[.slice (some ⟨g, 0, none⟩) 32 32, .slice (some ⟨0, 0, none⟩) 5 5]).run Tryd.prog wr.drew = .ok (goInt 5) W2 := hcp
      have HB22 : Aside0 (Below w.heap.size w W2) := ⟨pw_below_grown (below_drew1 HBr.out) (some g) (HBr.out.size) hg2 (fun q e => by cases e; exact hg)⟩
      obtain ⟨out, hout⟩ : ∃ out, out = (outTo l l.length).set 0 (putB (gt (outTo l l.length) 0) 0 magicB) := ⟨_, rfl⟩
      rw [← hout] at hR2
      have HOUT := Aside0.mk hout
      have HR2 := Aside0.mk hR2
      clear hR2 hg2 hout
      have hnI : (0 : Int) < (n : Int) := by omega
      go_region
      obtain ⟨hR3, hg3, hs3, hf3⟩ := R_copyIn HR2.out 0 hn 5 [UInt8.ofNat l.length] (by simp)
      obtain ⟨v3, hv3⟩ := Option.isSome_iff_exists.1 (hs3 0 (by simp))
      replace hf3 := hf3 0 (by simp)
      simp only [Nat.zero_mul, Nat.zero_add, Nat.add_zero] at hv3 hf3 hR3 hg3
      have HR3 := Aside0.mk hR3
      have HG3 := Aside0.mk hg3
      clear hR3 hg3 hs3 hcp
      have j0 : IntKind.u8.wrap (l.length : Int) = ((UInt8.ofNat l.length).toNat : Int) := by
        rw [IntWalk.u8_in _ (by omega)]
        simp
        omega
      go_upto_region 24 with fail
      obtain ⟨W3, hW3⟩ : ∃ W3, W2.setCell ⟨g, 5, none⟩ (.int .u8 ((l.length : Int) % 256)) = W3 := ⟨_, rfl⟩
      rw [hW3]
      have hlen8 : ((l.length : Int) % 256) = ((UInt8.ofNat l.length).toNat : Int) := by simp
      have hW3' : W2.setCells g 5 (bytesV [UInt8.ofNat l.length]) = W3 := by rw [← hW3, hlen8]; rfl
      rw [hW3'] at HR3 HG3
      have HB3 : Aside0 (Below w.heap.size w W3) := ⟨pw_below_grown HB22.out (some g) (HB22.out.size) HG3.out (fun q e => by cases e; exact hg)⟩
      clear hW3 hW3' hlen8 hv3 hf3 HG3 j0
      have hcap : n ≤ cap := by obtain ⟨A', c', he, hle, _⟩ := Kd.R_reads HROW.out; cases he; exact hle
      have hnl : 1 + l.length ≤ n := by obtain ⟨A', c', he, _, _⟩ := Kd.R_reads HROW.out; cases he; simp [outTo, tableB]; omega
      have k1 : IntKind.i64.wrap (1 + (l.length : Int)) = 1 + (l.length : Int) := IntWalk.i64_in _ (by omega)
      have k2 : (1 : Int) ≤ 1 + (l.length : Int) := by omega
      have k3 : 1 + (l.length : Int) ≤ (cap : Int) := by omega
      have k4 : (1 + (l.length : Int)).toNat = 1 + l.length := by omega
      obtain ⟨sv, hsv0⟩ : ∃ sv, sumT (tableB l) = sv := ⟨_, rfl⟩
      have hsv : sv ≤ 65535 := by rw [← hsv0]; exact sumT_le _
      have HSV := Aside0.mk hsv0
      clear hsv0
      have hout1 : out.set 0 (putB (gt out 0) 5 [UInt8.ofNat l.length]) = putB (putB zeroB 0 magicB) 5 [UInt8.ofNat l.length] :: (tableB l ++ (l.map dataB).flatten) := by
        rw [HOUT.out, outTo_full, gt_zero, List.set_cons_zero, gt_zero, List.set_cons_zero]
      have HTA := Aside0.mk (tab_C HR3.out _ _ _ hout1)
      have hfin : (out.set 0 (putB (gt out 0) 5 [UInt8.ofNat l.length])).set 0 (putB (gt (out.set 0 (putB (gt out 0) 5 [UInt8.ofNat l.length])) 0) 6 [hi2 sv, lo2 sv]) = makeB l := by
        rw [hout1, gt_zero, List.set_cons_zero, head_made, ← HSV.out]
        rfl
      have HFIN := Aside0.mk hfin
      clear hfin hout1
      by_cases hc1 : cap = 1
      · have HT : Aside0 (kBlock.C W3 (some ⟨g, 0, none⟩) (tableB l).length (tableB l)) := ⟨by have := HTA.out; rwa [if_pos hc1] at this⟩
        subst hc1
        go_region_with (first | (go_at_call 60; refine (sum_call _ (tableB l) l.length (by simp [tableB]) _ _ (Kd.C_below HT.out (below_drew1 (Below.refl _ _))) sv HSV.out).mono ?_; rintro e w4 ⟨rfl, hb4⟩; have HB4 := Aside0.mk hb4; clear hb4) | (go_at_call 57; refine (put2_any sv _ hsv).mono ?_; rintro e w5 ⟨v, rfl, ho, hb⟩; obtain ⟨Ap, cp, rfl⟩ := Kd.R_slice ho; obtain ⟨W6, hcp, hR6, hg6⟩ := copy_bts (Kd.R_below (Kd.R_below (Kd.R_drew HR3.out) HB4.out) hb) 0 hn 6 [hi2 sv, lo2 sv] (by simp) Ap cp 26 26 (readsS ho).2.2 (by simp) (by simp) 3; have HR6 := Aside0.mk hR6; have HB6 : Aside0 (Below w.heap.size w W6) := ⟨pw_below_grown (below_step (below_step (below_drew1 HB3.out) HB4.out) hb) (some g) (below_step (below_step (below_drew1 HB3.out) HB4.out) hb).size hg6 (fun q e => by cases e; exact hg)⟩; replace hcp : (Builtin.copy_ #[54, 54] 3 #[.slice (some ⟨g, 6, none⟩) 26 26, .slice Ap 2 cp]).run Tryd.prog w5 = .ok (goInt 2) W6 := hcp; clear ho hb hR6 hg6))
        go_wp2_with fail
        go_ret2
        refine ⟨_, rfl, ?_, HB6.out⟩
        have hR6 := HR6.out
        rw [HFIN.out] at hR6
        exact hR6
      · have HT : Aside0 (kBlock.C W3 (some ⟨g, 32, none⟩) (tableB l).length (tableB l)) := ⟨by have := HTA.out; rwa [if_neg hc1] at this⟩
        go_region_with (first | (go_at_call 60; refine (sum_call _ (tableB l) l.length (by simp [tableB]) _ _ (Kd.C_below HT.out (below_drew1 (Below.refl _ _))) sv HSV.out).mono ?_; rintro e w4 ⟨rfl, hb4⟩; have HB4 := Aside0.mk hb4; clear hb4) | (go_at_call 57; refine (put2_any sv _ hsv).mono ?_; rintro e w5 ⟨v, rfl, ho, hb⟩; obtain ⟨Ap, cp, rfl⟩ := Kd.R_slice ho; obtain ⟨W6, hcp, hR6, hg6⟩ := copy_bts (Kd.R_below (Kd.R_below (Kd.R_drew HR3.out) HB4.out) hb) 0 hn 6 [hi2 sv, lo2 sv] (by simp) Ap cp 26 26 (readsS ho).2.2 (by simp) (by simp) 3; have HR6 := Aside0.mk hR6; have HB6 : Aside0 (Below w.heap.size w W6) := ⟨pw_below_grown (below_step (below_step (below_drew1 HB3.out) HB4.out) hb) (some g) (below_step (below_step (below_drew1 HB3.out) HB4.out) hb).size hg6 (fun q e => by cases e; exact hg)⟩; replace hcp : (Builtin.copy_ #[54, 54] 3 #[.slice (some ⟨g, 6, none⟩) 26 26, .slice Ap 2 cp]).run Tryd.prog w5 = .ok (goInt 2) W6 := hcp; clear ho hb hR6 hg6))
        go_wp2_with fail
        go_ret2
        refine ⟨_, rfl, ?_, HB6.out⟩
        have hR6 := HR6.out
        rw [HFIN.out] at hR6
        exact hR6
end Go.Proofs.YtdobjbdkfammbaaDoor
