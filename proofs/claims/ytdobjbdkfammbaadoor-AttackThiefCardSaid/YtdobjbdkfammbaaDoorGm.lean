/-
  Chapter 55, the document's Thief, walked.
-/
import Derived.Test.YtdobjbdkfammbaaDoorGl
import Derived.Test.YtdobjbdkfammbaaDoorGk
/-
  Chapter 55, the document's Rename, walked.
-/
namespace Go.Proofs.YtdobjbdkfammbaaDoor
open Go.RowKit Go.Shelf Go.Proofs.YtdobjbdkfammbaaDoorW.PrintWords Go.Proofs.YtdobjbdkfammbaaDoorW.PrintLast Go.Proofs.YtdobjbdkfammbaaDoorW.PrintMore
set_option linter.unusedVariables false
set_option linter.unusedSimpArgs false

def renR (vol : Int) (sx : ByteArray) (l : List File) (i : Nat) : List Rd := diskR vol (mapTo (renF sx) l (i + 1))
theorem renR_dd (vol : Int) (sx : ByteArray) (l : List File) (i : Nat) : (renR vol sx l i).map ddOf = renD vol sx l i := diskR_dd _ _
theorem renR_le (vol : Int) (sx : ByteArray) (l : List File) (i : Nat) : (renR vol sx l i).length ≤ 40 := by
  have := diskR_le vol (mapTo (renF sx) l (i + 1))
  unfold renR
  omega
def renameR (vol : Int) (sx : ByteArray) (l : List File) : List Rd := if makeE l = 0 then hostR vol l (renR vol sx l) l.length else []
/-- What the program's storm of names does is what the document says. -/
theorem renameR_dd (vol : Int) (sx : ByteArray) (l : List File) : (renameR vol sx l).map ddOf = renameD vol sx l := by
  unfold renameR renameD
  split
  · next h => exact hostR_dd vol l h _ _ (renR_dd vol sx l) l.length
  · rfl
set_option maxRecDepth 4000 in
set_option maxHeartbeats 3200000 in
theorem rrename_any (A : Option Addr) (l : List File) (n : Nat) (hn : l.length = n) (c : Nat) (vol : Int) (sx : ByteArray) (hsx : sx.size ≤ 1000) (w : World) (h : kFile.C w A n l) (hs : ∀ k, k < l.length → (gt l k).name.size ≤ 9223372036854775807) :
    Calls Tryd.prog 24 #[.slice A n c, .int .i64 vol, .string sx] w fun e w' => ∃ v, e = .returned v ∧ kRd.R 73 w' w.heap.size (fun _ => True) v (renameR vol sx l) ∧ Below w.heap.size w w' := by
  obtain ⟨m1, hm1⟩ : ∃ m1, (makeV l).length = m1 := ⟨_, rfl⟩
  by_cases hE : makeE l = 0
  · have HRR : Aside0 (renameR vol sx l = hostR vol l (renR vol sx l) l.length) := ⟨by unfold renameR; rw [if_pos hE]⟩
    have HT := Aside0.mk (tog_le l hE)
    obtain ⟨hl8, -, -, hv1, hv100⟩ := makeV_le l hE
    rw [hn] at hl8
    rw [hm1] at hv100
    have HD := Aside0.mk (rdisk_any A l n hn c true (decide_eq_true hE) m1 hm1 w h hs)
    have H := Aside0.mk h
    have HN := Aside0.mk hn
    have HM1 := Aside0.mk hm1
    clear hE h hs hn hm1 hv1
    go_enter Tryd.func24, Tryd.ntmps24
    go_upto_region 6 with (first | (go_at_call 37; refine HD.out.mono ?_; rintro e w2 ⟨A2, c2, rfl, ho, hb⟩; have HC2 := Aside0.mk (Kd.R_reads' ho).2.2; have HB2 := Aside0.mk hb; clear ho hb) | (go_at_call 38; refine (put_any A2 (makeV l) m1 HM1.out c2 vol _ (by have h1 := HC2.out; rw [HM1.out] at h1; exact h1) (by omega)).mono ?_; rintro e w3 ⟨v3, rfl, ho, hb⟩; have HR3 := Aside0.mk (Kd.R_lower ho HB2.out.size); have HB3 := Aside0.mk (below_step HB2.out hb); clear ho hb) | ((with_reducible refine gate_builtin (b := .append) (xs := #[.tmp 24, .tmp 25]) rfl ?_); at_builtin; refine Kd.R_append_rows (kFileX w) (Rr := kFile.K w) (w0 := w) w.heap.size rfl (.tmp 24) (.tmp 25) 41 64 (.agg #[.string ByteArray.empty, .slice none 0 0]) 40 rfl Tryd.underlying41 info_rfile55 rfl (Nat.succ_pos _) (by omega) (.slice (some ⟨w3.heap.size, 0, none⟩) 0 0) [] l A n c (fun _ => True) (fun _ => False) rfl rfl (lit_files w3 w w.heap.size HB3.out.size) (ReadsRow.imp_ H.out (below_alloc HB3.out _) (fun _ _ hp => hp)) (fun _ _ hx => kFileX_came hx) (fun _ hk => hk.elim) (fun _ _ => trivial) (below_alloc HB3.out _) (below_alloc HB3.out _).size (by simp; omega) ?_; intro v4 w4 ho hb hg hat; rw [List.nil_append] at ho; obtain ⟨A4, c4, rfl⟩ : ∃ A c, v4 = .slice A n c := (by obtain ⟨A, c, e⟩ := Kd.R_slice ho; exact ⟨A, c, by rw [e, HN.out]⟩); have HX4 := Aside0.mk ho; have HB4 := Aside0.mk hb; have HR4 := Aside0.mk (deeds_behind HR3.out hg); clear ho hb hg hat))
    have HR0 : Aside0 (kRd.R 73 w4 w.heap.size (fun _ => True) v3 (hostR vol l (renR vol sx l) 0)) := ⟨by rw [show hostR vol l (renR vol sx l) 0 = rowsR (wrs vol (makeV l)) by simp [hostR, diskR]]; exact HR4.out⟩
    have HX0 : Aside0 ((kFileX w).R 64 w4 w.heap.size (fun _ => True) (.slice A4 n c4) (mapTo (renF sx) l 0)) := ⟨by rw [mapTo_zero]; exact HX4.out⟩
    go_wp2_with fail
    go_loopg [11, 9, 12, 13] n (fun gk i v9 _ _ wr => ∃ k : Nat, k ≤ n ∧ Aside0 (gk = n - k) ∧ i = .int .i64 k ∧ Aside0 (kRd.R 73 wr w.heap.size (fun _ => True) v9 (hostR vol l (renR vol sx l) k)) ∧ Aside0 ((kFileX w).R 64 wr w.heap.size (fun _ => True) (.slice A4 n c4) (mapTo (renF sx) l k)) ∧ Aside0 (Below w.heap.size w wr))
    case atStart => exact ⟨0, Nat.zero_le _, ⟨rfl⟩, rfl, HR0, HX0, HB4⟩
    case round =>
      obtain ⟨k, hk, HGK, rfl, HR, HX, HB⟩ := hrel
      obtain ⟨V, rfl⟩ : ∃ V, V = wr := ⟨_, rfl⟩
      by_cases hlt : k < n
      · have hkn : (k : Int) < (n : Int) := by omega
        obtain ⟨g, cap, he, hg1, hg2, cells, hcc⟩ := Kd.R_form HX.out (by rw [mapTo_len, HN.out]; omega)
        injection he with he1 he2 he3
        subst he1 he3
        clear he2
        obtain ⟨A1, d1, q0, q1, hd1, hC1⟩ := fileE_at HB.out HX.out hlt
        have hgi : gt (mapTo (renF sx) l k) k = gt l k := by rw [mapTo_at _ l k k (by rw [HN.out]; exact hlt), if_neg (by omega)]
        rw [hgi] at q0
        have q6 := blk_frozen hcc (k * 2)
        have hn0 := HT.out.1 k (by rw [HN.out]; exact hlt)
        obtain ⟨nm, hnm⟩ : ∃ nm, nm = (gt l k).name := ⟨_, rfl⟩
        rw [← hnm] at q0 hn0
        have HNM := Aside0.mk hnm
        have HCC := Aside0.mk hcc
        clear hcc hC1 hd1 q1 hnm hgi
        go_upto_region 10 with fail
        obtain ⟨V6, hV6⟩ : ∃ V6, V.setCell ⟨g, k * 2, none⟩ (.string (nm ++ sx)) = V6 := ⟨_, rfl⟩
        have HB6 : Aside0 (Below w.heap.size w V6) := ⟨by rw [← hV6]; exact HB.out.setCell (p := ⟨g, k * 2, none⟩) hg1 _⟩
        have HR6 : Aside0 (kRd.R 73 V6 w.heap.size (fun _ => True) u9 (hostR vol l (renR vol sx l) k)) := ⟨by rw [← hV6]; exact deeds_file HR.out HCC.out⟩
        have HX6 : Aside0 ((kFileX w).R 64 V6 w.heap.size (fun _ => True) (.slice (some ⟨g, 0, none⟩) n c4) (mapTo (renF sx) l (k + 1))) := ⟨by
          have hp := nameX_put HX.out hlt (nm ++ sx)
          have hset := mapTo_set (renF sx) l k (by rw [HN.out]; exact hlt)
          have hgi : gt (mapTo (renF sx) l k) k = gt l k := by rw [mapTo_at _ l k k (by rw [HN.out]; exact hlt), if_neg (by omega)]
          rw [hgi] at hp
          have hrn : renF sx (gt l k) = ⟨nm ++ sx, (gt l k).data⟩ := by rw [HNM.out]; rfl
          rw [hrn] at hset
          rw [← hV6, ← hset]
          exact hp⟩
        rw [hV6]
        clear hV6 q0 q6
        obtain ⟨L2, hL2⟩ : ∃ L2, L2 = mapTo (renF sx) l (k + 1) := ⟨_, rfl⟩
        have HLE := Aside0.mk hL2
        have HL2 : Aside0 (L2.length = n) := ⟨by rw [hL2, mapTo_len, HN.out]⟩
        have HNS : Aside0 (∀ j, j < L2.length → (gt L2 j).name.size ≤ 9223372036854775807) := ⟨fun j hj => by rw [hL2] at hj ⊢; have := mapTo_name (renF sx) (renF_size sx hsx) l HT.out.1 (k + 1) j hj; omega⟩
        obtain ⟨m2, hm2⟩ : ∃ m2, (makeV L2).length = m2 := ⟨_, rfl⟩
        have HM := Aside0.mk hm2
        have HHS : Aside0 (hostR vol l (renR vol sx l) (k + 1) = hostR vol l (renR vol sx l) k ++ rowsR (wrs vol (makeV L2))) := ⟨by rw [hostR_succ, hL2]; unfold renR diskR; rfl⟩
        rw [← hL2] at HX6
        clear hL2
        have hm100 := makeV_small L2
        rw [hm2] at hm100
        clear hm2
        by_cases e2 : makeE L2 = 0
        · have HLA : Aside0 (((hostR vol l (renR vol sx l) k).length + (rowsR (wrs vol (makeV L2))).length) * 32 ≤ 140737488355328) := ⟨by have h1 := hostR_le vol l (renR vol sx l) (renR_le vol sx l) k; have h3 := diskR_le vol L2; unfold diskR at h3; omega⟩
          have HE2 := Aside0.mk e2
          clear e2
          go_wp2_with (first | (go_at_call 37; refine (rdisk_any (some ⟨g, 0, none⟩) L2 n HL2.out c4 true (decide_eq_true HE2.out) m2 HM.out _ (HL2.out ▸ fileX_read HB6.out (Kd.R_reads' HX6.out).2.2) HNS.out).mono ?_; rintro e w8 ⟨A8, c8, rfl, ho, hb⟩; have hC8 := (Kd.R_reads' ho).2.2; rw [HM.out] at hC8; have HC8 := Aside0.mk hC8; clear hC8; have HB8 := Aside0.mk (below_step HB6.out hb); have HR8 := Aside0.mk (Kd.R_below HR6.out hb); have HX8 := Aside0.mk (Kd.R_below HX6.out hb); clear ho hb) | (go_at_call 38; refine (put_any A8 (makeV L2) m2 HM.out c8 vol _ HC8.out (by omega)).mono ?_; rintro e w9 ⟨v9, rfl, ho, hb⟩; obtain ⟨A9, c9, rfl⟩ := Kd.R_slice ho; have HO9 := Aside0.mk (Kd.R_lower ho HB8.out.size); have HB9 := Aside0.mk (below_step HB8.out hb); have HR9 := Aside0.mk (Kd.R_below HR8.out hb); have HX9 := Aside0.mk (Kd.R_below HX8.out hb); clear ho hb) | ((with_reducible refine gate_builtin (b := .append) (xs := #[.tmp 50, .tmp 53]) rfl ?_); at_builtin; refine Kd.R_append_rows kRd (Rr := kRd.M w9 w.heap.size (fun q => some q ≠ (u9).ownBlock)) (w0 := w) w.heap.size rfl (.tmp 50) (.tmp 53) 27 73 (.agg #[.slice none 0 0, .int .i64 0]) 32 rfl Tryd.underlying27 info_rd rfl (Nat.succ_pos _) (by omega) u9 (hostR vol l (renR vol sx l) k) (rowsR (wrs vol (makeV L2))) A9 (rowsR (wrs vol (makeV L2))).length c9 (fun _ => True) (fun q => some q ≠ (u9).ownBlock) rfl rfl HR9.out (rd_rows HR9.out HO9.out) (fun _ _ h => h) (fun q hq => ⟨trivial, hq⟩) (fun _ _ => trivial) HB9.out HB9.out.size HLA.out ?_; intro v10 w10 ho hb hg hat; have HR10 := Aside0.mk ho; have HB10 := Aside0.mk hb; have HX10 := Aside0.mk (files_grown HX9.out HR9.out hg); clear ho hb hg hat))
          go_roundg (n - (k + 1))
          case measure => have := HGK.out; omega
          case rel => exact ⟨k + 1, by omega, ⟨rfl⟩, by go_num, ⟨by rw [HHS.out]; exact HR10.out⟩, ⟨by rw [← HLE.out]; exact HX10.out⟩, HB10⟩
        · have HE2 := Aside0.mk e2
          have HHZ : Aside0 (hostR vol l (renR vol sx l) (k + 1) = hostR vol l (renR vol sx l) k) := ⟨by rw [HHS.out, makeV_no e2]; simp [rowsR, wrs, cut8]⟩
          clear e2
          go_wp2_with (go_at_call 37; refine (rdisk_any (some ⟨g, 0, none⟩) L2 n HL2.out c4 false (decide_eq_false HE2.out) m2 HM.out _ (HL2.out ▸ fileX_read HB6.out (Kd.R_reads' HX6.out).2.2) HNS.out).mono ?_; rintro e w8 ⟨A8, c8, rfl, ho, hb⟩; have HB8 := Aside0.mk (below_step HB6.out hb); have HR8 := Aside0.mk (Kd.R_below HR6.out hb); have HX8 := Aside0.mk (Kd.R_below HX6.out hb); clear ho hb)
          go_roundg (n - (k + 1))
          case measure => have := HGK.out; omega
          case rel => exact ⟨k + 1, by omega, ⟨rfl⟩, by go_num, ⟨by rw [HHZ.out]; exact HR8.out⟩, ⟨by rw [← HLE.out]; exact HX8.out⟩, HB8⟩
      · have hkn : ¬ (k : Int) < (n : Int) := by omega
        obtain rfl : k = n := by omega
        have HF : Aside0 (renameR vol sx l = hostR vol l (renR vol sx l) k) := ⟨by rw [HRR.out, HN.out]⟩
        go_wp2_with fail
        go_ret
        exact ⟨_, rfl, by rw [HF.out]; exact HR.out, HB.out⟩
  · have HRR : Aside0 (renameR vol sx l = []) := ⟨by unfold renameR; rw [if_neg hE]⟩
    have HD := Aside0.mk (rdisk_any A l n hn c false (decide_eq_false hE) m1 hm1 w h hs)
    clear hE h hs hn hm1
    go_enter Tryd.func24, Tryd.ntmps24
    go_wp2_with (go_at_call 37; refine HD.out.mono ?_; rintro e w2 ⟨A2, c2, rfl, ho, hb⟩; have HB2 := Aside0.mk hb; clear ho hb)
    go_ret
    exact ⟨_, rfl, by rw [HRR.out]; exact Kd.R_nil _ _ _ _ _, HB2.out⟩
end Go.Proofs.YtdobjbdkfammbaaDoor
namespace Go.Proofs.YtdobjbdkfammbaaDoor
open Go.RowKit Go.Shelf Go.Proofs.YtdobjbdkfammbaaDoorW.PrintWords Go.Proofs.YtdobjbdkfammbaaDoorW.PrintLast Go.Proofs.YtdobjbdkfammbaaDoorW.PrintMore
set_option linter.unusedVariables false
set_option linter.unusedSimpArgs false

def stealR (vol : Int) (l : List File) (i : Nat) : List Rd := rowsR (wrs vol (thiefV l i))
theorem stealR_dd (vol : Int) (l : List File) (i : Nat) : (stealR vol l i).map ddOf = stealD vol l i := rows_dd _ _
theorem stealR_le (vol : Int) (l : List File) (i : Nat) : (stealR vol l i).length ≤ 40 := by
  have h := stealD_le vol l i
  rw [← stealR_dd, List.length_map] at h
  exact h
def thiefR (vol : Int) (l : List File) : List Rd := if makeE l = 0 then hostR vol l (stealR vol l) l.length else []
/-- What the program's thief does is what the document says. -/
theorem thiefR_dd (vol : Int) (l : List File) : (thiefR vol l).map ddOf = thiefD vol l := by
  unfold thiefR thiefD
  split
  · next h => exact hostR_dd vol l h _ _ (stealR_dd vol l) l.length
  · rfl
theorem lit_blocks (W : World) (base : Nat) (h : base ≤ W.heap.size) : kBlock.R 37 (W.alloc (.cells #[] 37)) base (fun _ => True) (.slice (some ⟨W.heap.size, 0, none⟩) 0 0) [] := ⟨fun _ _ => trivial, OwnRow.lit W base (inner := []) (reps_nil _ _) h (by simp)⟩
theorem info_rfsz : (Tryd.prog.info? 64).map (·.size) = some 2 := by kernel_rfl
theorem elem_rfiles : Tryd.prog.underlying 41 = some (.slice (Tryd.prog.elem 41)) := by
  have : Tryd.prog.elem 41 = 64 := by simp [Program.elem, Tryd.underlying41]
  rw [this]
  exact Tryd.underlying41
theorem size_rfiles (W : World) : (sizeOf (Tryd.prog.elem 41)).run Tryd.prog W = .ok 2 W := by
  have : Tryd.prog.elem 41 = 64 := by simp [Program.elem, Tryd.underlying41]
  rw [this]
  cases hq : Tryd.prog.info? 64 with
  | none => have := info_rfsz; simp [hq] at this
  | some i =>
    have hs : i.size = 2 := by have := info_rfsz; simpa [hq] using this
    simp [sizeOf, typeInfo, hq, hs]
theorem slice_fromR (W : World) (A : Option Addr) (n c k : Nat) (hk : k ≤ n) : (Instr.slice 41 (.slice A n c) (some (.int .i64 (k : Int))) none none).run Tryd.prog W = .ok (.slice (if c = k then A else A.map (·.add (k * 2))) (n - k) (c - k)) W := by
  rw [run_slice_l W 41 A n c elem_rfiles .i64 (k : Int) (by omega) (by omega)]
  simp [size_rfiles W, sliced, Result.andThen]
theorem lenV (l : List File) (k : Nat) (h : k = 0) : (makeV (l.drop k)).length = (makeV l).length := by rw [h]; rfl
set_option maxRecDepth 4000 in
set_option maxHeartbeats 3200000 in
theorem rthief_any (A : Option Addr) (l : List File) (n : Nat) (hn : l.length = n) (c : Nat) (hc : n ≤ c) (vol : Int) (w : World) (h : kFile.C w A n l) (hs : ∀ k, k < l.length → (gt l k).name.size ≤ 9223372036854775807) :
    Calls Tryd.prog 22 #[.slice A n c, .int .i64 vol] w fun e w' => ∃ v, e = .returned v ∧ kRd.R 73 w' w.heap.size (fun _ => True) v (thiefR vol l) ∧ Below w.heap.size w w' := by
  obtain ⟨m1, hm1⟩ : ∃ m1, (makeV l).length = m1 := ⟨_, rfl⟩
  by_cases hE : makeE l = 0
  · have HRR : Aside0 (thiefR vol l = hostR vol l (stealR vol l) l.length) := ⟨by unfold thiefR; rw [if_pos hE]⟩
    obtain ⟨hl8, -, -, hv1, hv100⟩ := makeV_le l hE
    rw [hn] at hl8
    rw [hm1] at hv100
    have HD := Aside0.mk (rdisk_any A l n hn c true (decide_eq_true hE) m1 hm1 w h hs)
    have H := Aside0.mk h
    have HS := Aside0.mk hs
    have HE := Aside0.mk hE
    have HN := Aside0.mk hn
    have HM1 := Aside0.mk hm1
    clear hE h hs hn hm1 hv1
    go_enter Tryd.func22, Tryd.ntmps22
    go_upto_region 5 with (first | (go_at_call 37; refine HD.out.mono ?_; rintro e w2 ⟨A2, c2, rfl, ho, hb⟩; have HC2 := Aside0.mk (Kd.R_reads' ho).2.2; have HB2 := Aside0.mk hb; clear ho hb) | (go_at_call 38; refine (put_any A2 (makeV l) m1 HM1.out c2 vol _ (by have h1 := HC2.out; rw [HM1.out] at h1; exact h1) (by omega)).mono ?_; rintro e w3 ⟨v3, rfl, ho, hb⟩; have HR3 := Aside0.mk (Kd.R_lower ho HB2.out.size); have HB3 := Aside0.mk (below_step HB2.out hb); clear ho hb))
    have HR0 : Aside0 (kRd.R 73 w3 w.heap.size (fun _ => True) v3 (hostR vol l (stealR vol l) 0)) := ⟨by rw [show hostR vol l (stealR vol l) 0 = rowsR (wrs vol (makeV l)) by simp [hostR, diskR]]; exact HR3.out⟩
    go_wp2_with fail
    go_loopg [8, 5, 7, 9, 10, 11] n (fun gk i v5 v7 _ _ _ wr => ∃ (k : Nat) (A5 : Option Addr) (m5 c5 : Nat), k ≤ n ∧ Aside0 (gk = n - k) ∧ i = .int .i64 k ∧ v5 = .slice A5 m5 c5 ∧ Aside0 ((makeV (l.drop k)).length = m5) ∧ Aside0 (kRd.R 73 wr w.heap.size (fun _ => True) v7 (hostR vol l (stealR vol l) k)) ∧ Aside0 (Below w.heap.size w wr))
    case atStart => exact ⟨0, A2, m1, c2, Nat.zero_le _, ⟨rfl⟩, rfl, rfl, ⟨HM1.out⟩, HR0, HB3⟩
    case round =>
      obtain ⟨k, A5, m5, c5, hk, HGK, rfl, rfl, HM5, HR, HB⟩ := hrel
      obtain ⟨V, rfl⟩ : ∃ V, V = wr := ⟨_, rfl⟩
      by_cases hlt : k < n
      · have hkn : (k : Int) < (n : Int) := by omega
        obtain ⟨A6, hA6⟩ : ∃ A6, (if c = k + 1 then A else A.map (·.add ((k + 1) * 2))) = A6 := ⟨_, rfl⟩
        obtain ⟨n6, hn6⟩ : ∃ n6, n - (k + 1) = n6 := ⟨_, rfl⟩
        obtain ⟨c6, hc6⟩ : ∃ c6, c - (k + 1) = c6 := ⟨_, rfl⟩
        have sl2 : ∀ W : World, (Instr.slice 41 (.slice A n c) (some (.int .i64 ((k : Int) + 1))) none none).run Tryd.prog W = .ok (.slice A6 n6 c6) W := fun W => by
          have := slice_fromR W A n c (k + 1) (by omega)
          rw [hA6, hn6, hc6] at this
          exact this
        have l6 : (l.drop (k + 1)).length = n6 := by rw [List.length_drop, HN.out]; omega
        have hC := H.out
        rw [← HN.out] at hC
        have C6 := Kd.C_drop hC (m := k + 1) (by rw [HN.out]; omega) (c := c) (by rw [HN.out]; omega)
        have hC6 : kFile.C w A6 n6 (l.drop (k + 1)) := by rw [← hA6, ← l6]; exact C6
        obtain ⟨m2, hm2⟩ : ∃ m2, (makeV (l.drop (k + 1))).length = m2 := ⟨_, rfl⟩
        have hd2 := makeE_drop HE.out (k + 1)
        have HDK := Aside0.mk (fun (W : World) (hb : Below w.heap.size w W) => rdisk_any A6 (l.drop (k + 1)) n6 l6 c6 true (decide_eq_true hd2) m2 hm2 W (Kd.C_below hC6 hb) (drop_names HS.out (k + 1)))
        obtain ⟨_, _, _, hp2, hq2⟩ := makeV_le _ hd2
        rw [hm2] at hp2 hq2
        have HTV : Aside0 (thiefV l k = makeV (l.drop (k + 1)) ++ if m2 < m5 then [zeroB] else []) := ⟨by unfold thiefV; rw [HM5.out, hm2]⟩
        have HM2 := Aside0.mk hm2
        obtain ⟨n9, hn9⟩ : ∃ n9, (thiefV l k).length = n9 := ⟨_, rfl⟩
        have h9 := thiefV_le l k
        rw [hn9] at h9
        have HN9 := Aside0.mk hn9
        have HHS : Aside0 (hostR vol l (stealR vol l) (k + 1) = hostR vol l (stealR vol l) k ++ rowsR (wrs vol (thiefV l k))) := ⟨by rw [hostR_succ]; rfl⟩
        have HLA : Aside0 (((hostR vol l (stealR vol l) k).length + (rowsR (wrs vol (thiefV l k))).length) * 32 ≤ 140737488355328) := ⟨by have h1 := hostR_le vol l (stealR vol l) (stealR_le vol l) k; have h3 := stealR_le vol l k; unfold stealR at h3; omega⟩
        clear hn9 hA6 hn6 hc6 l6 hC C6 hC6 hm2 hd2
        by_cases hlt2 : m2 < m5
        · have hlt' : (m2 : Int) < (m5 : Int) := by omega
          obtain ⟨zz, hzz⟩ : ∃ zz, zz = zeroB := ⟨_, rfl⟩
          have HZZ := Aside0.mk hzz
          have HT1 : Aside0 (thiefV l k = makeV (l.drop (k + 1)) ++ [zz]) := ⟨by rw [HTV.out, if_pos hlt2, hzz]⟩
          have hz32 : zz.length = 32 := by rw [hzz]; exact zeroB_len
          clear hzz
          go_upto_region 11 with (first | (go_at_call 37; refine (HDK.out _ HB.out).mono ?_; rintro e w8 ⟨A8, c8, rfl, ho, hb⟩; have hC8 := (Kd.R_reads' ho).2.2; rw [HM2.out] at hC8; have HC8 := Aside0.mk hC8; clear hC8; have HB8 := Aside0.mk (below_step HB.out hb); have HR8 := Aside0.mk (Kd.R_below HR.out hb); clear ho hb) | ((with_reducible refine gate_builtin (b := .append) (xs := #[.tmp 36, .tmp 37]) rfl ?_); at_builtin; refine Kd.R_append_rows kBlock (Rr := kBlock.K w8) (w0 := w8) w8.heap.size rfl (.tmp 36) (.tmp 37) 80 37 zB 32 rfl Tryd.underlying80 info_blockZ rfl (by decide) (by omega) (.slice (some ⟨w8.heap.size, 0, none⟩) 0 0) [] (makeV (l.drop (k + 1))) A8 m2 c8 (fun _ => True) (fun _ => False) rfl rfl (lit_blocks w8 w8.heap.size (Nat.le_refl _)) (ReadsRow.imp_ HC8.out (below_alloc (Below.refl _ _) _) (fun _ _ hp => hp)) (fun x cs hK => block_KM hK) (fun _ hk => hk.elim) (fun _ _ => trivial) (below_alloc (Below.refl _ _) _) (below_alloc (Below.refl _ _) _).size (by simp; omega) ?_; intro v9 w9 ho hb hg hat; rw [List.nil_append] at ho; obtain ⟨A9, c9, rfl⟩ : ∃ A c, v9 = .slice A m2 c := (by obtain ⟨A, c, e⟩ := Kd.R_slice ho; exact ⟨A, c, by rw [e, HM2.out]⟩); have HX9 := Aside0.mk ho; have HW9 := Aside0.mk hb; clear ho hb hg hat))
          go_upto_region 12 with (first | ((with_reducible refine gate_dst (N := 45) rfl ?_); refine build_on rfl 37 _ rfl (bytesV zz).toArray (by rw [HZZ.out]; simp only [Array.map_empty]; exact build_zeroT) ?_) | ((with_reducible refine gate_dst (N := 46) rfl ?_); refine build_block rfl (.tmp 45) rfl zz hz32 rfl ?_) | ((with_reducible refine gate_builtin (b := .append) (xs := #[.tmp 44, .tmp 46]) rfl ?_); at_builtin; refine Kd.R_append kBlock (w0 := w8) w8.heap.size rfl (.tmp 44) (.tmp 46) 80 37 zB 32 rfl Tryd.underlying80 info_blockZ rfl (by decide) (by omega) (.slice A9 m2 c9) (makeV (l.drop (k + 1))) zz (bytesV zz) (fun _ => True) (fun _ => False) rfl rfl (kBlock_M _ _ _ hz32) (fun _ hk => hk.elim) (fun _ _ => trivial) HX9.out HW9.out HW9.out.size (by rw [HM2.out]; omega) ?_; intro v10 w10 ho hb hg hat; rw [← HT1.out] at ho; obtain ⟨A10, c10, rfl⟩ : ∃ A c, v10 = .slice A n9 c := (by obtain ⟨A, c, e⟩ := Kd.R_slice ho; exact ⟨A, c, by rw [e, HN9.out]⟩); have hc9 := (Kd.R_reads' ho).2.2; rw [HN9.out] at hc9; have HC10 := Aside0.mk hc9; have HB10 := Aside0.mk (below_step HB8.out hb); have HR10 := Aside0.mk (Kd.R_below HR8.out hb); clear ho hb hg hat hc9))
          (go_wp2_with (first | (go_at_call 38; refine (put_any A10 (thiefV l k) n9 HN9.out c10 vol _ HC10.out (by omega)).mono ?_; rintro e w11 ⟨v11, rfl, ho, hb⟩; obtain ⟨A11, c11, rfl⟩ := Kd.R_slice ho; have HO11 := Aside0.mk (Kd.R_lower ho HB10.out.size); have HB11 := Aside0.mk (below_step HB10.out hb); have HR11 := Aside0.mk (Kd.R_below HR10.out hb); clear ho hb) | ((with_reducible refine gate_builtin (b := .append) (xs := #[.tmp 48, .tmp 51]) rfl ?_); at_builtin; refine Kd.R_append_rows kRd (Rr := kRd.M w11 w.heap.size (fun q => some q ≠ (u7).ownBlock)) (w0 := w) w.heap.size rfl (.tmp 48) (.tmp 51) 27 73 (.agg #[.slice none 0 0, .int .i64 0]) 32 rfl Tryd.underlying27 info_rd rfl (Nat.succ_pos _) (by omega) u7 (hostR vol l (stealR vol l) k) (rowsR (wrs vol (thiefV l k))) A11 (rowsR (wrs vol (thiefV l k))).length c11 (fun _ => True) (fun q => some q ≠ (u7).ownBlock) rfl rfl HR11.out (rd_rows HR11.out HO11.out) (fun _ _ h => h) (fun q hq => ⟨trivial, hq⟩) (fun _ _ => trivial) HB11.out HB11.out.size HLA.out ?_; intro v12 w12 ho hb hg hat; have HR12 := Aside0.mk ho; have HB12 := Aside0.mk hb; clear ho hb hg hat)); go_roundg (n - (k + 1)); (case measure => (have := HGK.out; omega)); (case rel => exact ⟨k + 1, A8, m2, c8, by omega, ⟨rfl⟩, by go_num, rfl, HM2, ⟨by rw [HHS.out]; exact HR12.out⟩, HB12⟩))
        · have hlt' : ¬ (m2 : Int) < (m5 : Int) := by omega
          have HT1 : Aside0 (thiefV l k = makeV (l.drop (k + 1))) := ⟨by rw [HTV.out, if_neg hlt2, List.append_nil]⟩
          have HNN : Aside0 ((thiefV l k).length = m2) := ⟨by rw [HT1.out, HM2.out]⟩
          go_upto_region 12 with (first | (go_at_call 37; refine (HDK.out _ HB.out).mono ?_; rintro e w8 ⟨A8, c8, rfl, ho, hb⟩; have hC8 := (Kd.R_reads' ho).2.2; rw [HM2.out] at hC8; have HC8 := Aside0.mk hC8; clear hC8; have HB8 := Aside0.mk (below_step HB.out hb); have HR8 := Aside0.mk (Kd.R_below HR.out hb); clear ho hb) | ((with_reducible refine gate_builtin (b := .append) (xs := #[.tmp 36, .tmp 37]) rfl ?_); at_builtin; refine Kd.R_append_rows kBlock (Rr := kBlock.K w8) (w0 := w8) w8.heap.size rfl (.tmp 36) (.tmp 37) 80 37 zB 32 rfl Tryd.underlying80 info_blockZ rfl (by decide) (by omega) (.slice (some ⟨w8.heap.size, 0, none⟩) 0 0) [] (makeV (l.drop (k + 1))) A8 m2 c8 (fun _ => True) (fun _ => False) rfl rfl (lit_blocks w8 w8.heap.size (Nat.le_refl _)) (ReadsRow.imp_ HC8.out (below_alloc (Below.refl _ _) _) (fun _ _ hp => hp)) (fun x cs hK => block_KM hK) (fun _ hk => hk.elim) (fun _ _ => trivial) (below_alloc (Below.refl _ _) _) (below_alloc (Below.refl _ _) _).size (by simp; omega) ?_; intro v9 w9 ho hb hg hat; rw [List.nil_append] at ho; obtain ⟨A9, c9, rfl⟩ : ∃ A c, v9 = .slice A m2 c := (by obtain ⟨A, c, e⟩ := Kd.R_slice ho; exact ⟨A, c, by rw [e, HM2.out]⟩); have HX9 := Aside0.mk ho; have HW9 := Aside0.mk hb; clear ho hb hg hat))
          have HC10 : Aside0 (kBlock.C w9 A9 m2 (thiefV l k)) := ⟨by have h1 := (Kd.R_reads' HX9.out).2.2; rw [HM2.out] at h1; rw [HT1.out]; exact h1⟩
          have HB10 := Aside0.mk (below_step HB8.out HW9.out)
          have HR10 := Aside0.mk (Kd.R_below HR8.out HW9.out)
          obtain ⟨A10, rfl⟩ : ∃ A10, A10 = A9 := ⟨_, rfl⟩
          obtain ⟨c10, rfl⟩ : ∃ c10, c10 = c9 := ⟨_, rfl⟩
          (go_wp2_with (first | (go_at_call 38; refine (put_any A10 (thiefV l k) m2 HNN.out c10 vol _ HC10.out (by omega)).mono ?_; rintro e w11 ⟨v11, rfl, ho, hb⟩; obtain ⟨A11, c11, rfl⟩ := Kd.R_slice ho; have HO11 := Aside0.mk (Kd.R_lower ho HB10.out.size); have HB11 := Aside0.mk (below_step HB10.out hb); have HR11 := Aside0.mk (Kd.R_below HR10.out hb); clear ho hb) | ((with_reducible refine gate_builtin (b := .append) (xs := #[.tmp 48, .tmp 51]) rfl ?_); at_builtin; refine Kd.R_append_rows kRd (Rr := kRd.M w11 w.heap.size (fun q => some q ≠ (u7).ownBlock)) (w0 := w) w.heap.size rfl (.tmp 48) (.tmp 51) 27 73 (.agg #[.slice none 0 0, .int .i64 0]) 32 rfl Tryd.underlying27 info_rd rfl (Nat.succ_pos _) (by omega) u7 (hostR vol l (stealR vol l) k) (rowsR (wrs vol (thiefV l k))) A11 (rowsR (wrs vol (thiefV l k))).length c11 (fun _ => True) (fun q => some q ≠ (u7).ownBlock) rfl rfl HR11.out (rd_rows HR11.out HO11.out) (fun _ _ h => h) (fun q hq => ⟨trivial, hq⟩) (fun _ _ => trivial) HB11.out HB11.out.size HLA.out ?_; intro v12 w12 ho hb hg hat; have HR12 := Aside0.mk ho; have HB12 := Aside0.mk hb; clear ho hb hg hat)); go_roundg (n - (k + 1)); (case measure => (have := HGK.out; omega)); (case rel => exact ⟨k + 1, A8, m2, c8, by omega, ⟨rfl⟩, by go_num, rfl, HM2, ⟨by rw [HHS.out]; exact HR12.out⟩, HB12⟩))
      · have hkn : ¬ (k : Int) < (n : Int) := by omega
        obtain rfl : k = n := by omega
        have HF : Aside0 (thiefR vol l = hostR vol l (stealR vol l) k) := ⟨by rw [HRR.out, HN.out]⟩
        go_wp2_with fail
        go_ret
        exact ⟨_, rfl, by rw [HF.out]; exact HR.out, HB.out⟩
  · have HRR : Aside0 (thiefR vol l = []) := ⟨by unfold thiefR; rw [if_neg hE]⟩
    have HD := Aside0.mk (rdisk_any A l n hn c false (decide_eq_false hE) m1 hm1 w h hs)
    clear hE h hs hn hm1
    go_enter Tryd.func22, Tryd.ntmps22
    go_wp2_with (go_at_call 37; refine HD.out.mono ?_; rintro e w2 ⟨A2, c2, rfl, ho, hb⟩; have HB2 := Aside0.mk hb; clear ho hb)
    go_ret
    exact ⟨_, rfl, by rw [HRR.out]; exact Kd.R_nil _ _ _ _ _, HB2.out⟩
end Go.Proofs.YtdobjbdkfammbaaDoor
