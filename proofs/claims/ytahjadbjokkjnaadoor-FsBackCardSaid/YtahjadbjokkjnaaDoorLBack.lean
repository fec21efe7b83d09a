/-
  FsBack, walked: it returns true.
-/
import Derived.Test.YtahjadbjokkjnaaDoorLb2
namespace Go.Proofs.YtahjadbjokkjnaaDoor
open Go.RowKit Go.Proofs.YtahjadbjokkjnaaDoorW.PrintWords Go.Proofs.YtahjadbjokkjnaaDoorW.PrintLast Go.Proofs.YtahjadbjokkjnaaDoorW.PrintMore
set_option linter.unusedVariables false
set_option linter.unusedSimpArgs false

theorem same01_at (A B : Option Addr) (xs ys : List UInt8) (d c1 c2 : Nat) (hd : xs.length = d) (r : Bool) (hr : xs = ys ∧ r = true) (w : World) (h1 : byte.C w A d xs) (h2 : byte.C w B ys.length ys) :
    Calls Tryd.prog 26 #[.slice A d c1, .slice B d c2] w fun e w' => e = .returned (.bool r) ∧ ∃ n, w' = w.drewN n := by
  obtain ⟨rfl, rfl⟩ := hr
  subst hd
  exact same01_as A B xs xs c1 c2 true (by simp) w h1 h2
theorem mk_rows {W : World} {e base n c : Nat} {ok : Nat → Prop} {A : Option Addr} {L : List (List UInt8)} (h : kBlock.R e W base ok (.slice A n c) L) (hn : L.length = n) : kBlock.C W A n L := by
  subst hn
  exact readsS' h
set_option maxRecDepth 8000 in
set_option maxHeartbeats 6400000 in
theorem law_back (A : Option Addr) (l : List File) (c : Nat) (Am : Option Addr) (more : List (List UInt8)) (cm : Nat) (w : World) (h0 : kFile.C w A l.length l) (hm0 : kBlock.C w Am more.length more) (hs : ∀ k, k < l.length → (gt l k).name.size ≤ 9223372036854775807) (hmg : MagicAt w) :
    Calls Tryd.prog 10 #[.slice A l.length c, .slice Am more.length cm] w fun e w' => e = .returned (.bool true) ∧ Below w.heap.size w w' := by
  obtain ⟨N, hN⟩ : ∃ N, l.length = N := ⟨_, rfl⟩
  rw [hN] at h0 ⊢
  obtain ⟨nm, hnm⟩ : ∃ N, more.length = N := ⟨_, rfl⟩
  rw [hnm] at hm0 ⊢
  have hmx := Kd.C_max h0
  have hmx2 := Kd.C_max hm0
  have H := Aside0.mk h0
  have HMO := Aside0.mk hm0
  have HN := Aside0.mk hN
  have HNM := Aside0.mk hnm
  have HS := Aside0.mk hs
  have HMG := Aside0.mk hmg
  have HMG0 := Aside0.mk hmg
  obtain ⟨g, hg⟩ : ∃ g, greatB l = g := ⟨_, rfl⟩
  have HG := Aside0.mk hg
  clear h0 hm0 hs hmg hN hnm
  obtain ⟨E, hE⟩ : ∃ E, makeE l = E := ⟨_, rfl⟩
  obtain ⟨nb, hnb⟩ : ∃ n, (makeV l).length = n := ⟨_, rfl⟩
  have HE := Aside0.mk hE
  have HNB := Aside0.mk hnb
  clear hE hnb
  cases g
  · clear hg
    by_cases h20 : 20 < nm
    · have h20' : (20 : Int) < (nm : Int) := by omega
      go_enter Tryd.func10, Tryd.ntmps10
      go_wp2_with (first | (go_at_call 11; refine (awake_any _ HMG.out).mono ?_; rintro e w1 ⟨rfl, hb1⟩; have HB1 := Aside0.mk hb1; clear hb1) | (go_at_call 12; refine (great_at A l N c HN.out _ HG.out _ (Kd.C_below H.out HB1.out) HS.out).mono ?_; rintro e w2 ⟨rfl, rfl⟩) | (go_at_call 16; refine (make_at A l N c HN.out _ (Kd.C_below H.out HB1.out) HS.out (Kd.C_below HMG.out HB1.out) nb HNB.out _ HE.out).mono ?_; rintro e w3 ⟨Aa, ca, rfl, ho, hb⟩; have HOb := Aside0.mk ho; have HB3 := Aside0.mk (below_step HB1.out hb); clear ho hb) | ((with_reducible refine gate_dst (N := 31) rfl ?_); refine Kd.R_lit kBlock (w0 := w3) w3.heap.size 40 rfl (N := 31) rfl (xs := []) (inner := []) (ok := fun _ => True) (okp := fun _ => False) ?hr (reps_nil _ _) (fun _ hk => hk.elim) trivial (Below.refl _ _) (Nat.le_refl _) (by simp) ?_; (case hr => first | (go_simp; done) | (go_simp; rfl)); intro v4 w4 ho hb hg hat; have HO4 := Aside0.mk ho; have HBB4 := Aside0.mk hb; have HOb4 := Aside0.mk (Kd.R_below HOb.out hb); have HM4 := Aside0.mk (Kd.C_below (Kd.C_below HMO.out HB3.out) hb); have HB4 := Aside0.mk (below_step HB3.out hb); have hs4 := hb.size; clear ho hb hg hat) | ((with_reducible refine gate_builtin (b := .append) (xs := #[.tmp 31, .tmp 32]) rfl ?_); at_builtin; refine Kd.R_append_rows kBlock (Rr := kBlock.K w4) (w0 := w3) w3.heap.size rfl (.tmp 31) (.tmp 32) 33 40 zB 32 rfl Tryd.underlying33 info_blockZ rfl (by decide) (by omega) _ [] (makeV l) Aa nb ca (fun _ => True) (fun _ => False) rfl rfl HO4.out (mk_rows HOb4.out HNB.out) (fun _ _ hx => kBlock_KM _ _ hx) (fun _ hk => hk.elim) (fun _ _ => trivial) HBB4.out hs4 (by simp; omega) ?_; intro v5 w5 ho hb hg hat; have HO5 := Aside0.mk ho; have HBB5 := Aside0.mk hb; have HM5 := Aside0.mk (Kd.C_below (Kd.C_below HMO.out HB3.out) hb); have HB5 := Aside0.mk (below_step HB3.out hb); have hs5 := hb.size; clear ho hb hg hat) | ((with_reducible refine gate_builtin (b := .append) (xs := #[.tmp 33, .tmp 34]) rfl ?_); at_builtin; refine Kd.R_append_rows kBlock (Rr := kBlock.K w5) (w0 := w3) w3.heap.size rfl (.tmp 33) (.tmp 34) 33 40 zB 32 rfl Tryd.underlying33 info_blockZ rfl (by decide) (by omega) _ ([] ++ makeV l) more Am nm cm (fun _ => True) (fun _ => False) rfl rfl HO5.out HM5.out (fun _ _ hx => kBlock_KM _ _ hx) (fun _ hk => hk.elim) (fun _ _ => trivial) HBB5.out hs5 (by rw [List.nil_append, HNB.out]; omega) ?_; intro v6 w6 ho hb hg hat; obtain ⟨A6, c6, rfl⟩ := Kd.R_slice ho; obtain ⟨n6, hn6⟩ : ∃ n, n = ([] ++ makeV l ++ more).length := ⟨_, rfl⟩; rw [← hn6] at ho; rw [← hn6]; have HO6 := Aside0.mk ho; have HB6 := Aside0.mk (below_step HB3.out hb); clear ho hb hg hat hn6) | (go_at_call 24; refine (disk_nil A6 n6 c6 _).mono ?_; rintro e w7 ⟨B1, B2, rfl, k1, k2, hb⟩; have HK7 := Aside0.mk (disk_at (Kd.R_below HO6.out hb) k1 k2); have HB7 := Aside0.mk (below_step HB6.out hb); clear k1 k2 hb) | (go_at_call 22; refine (read_disk HK7.out (Kd.C_below HMG0.out HB7.out) l (back_read (row_32 HO6.out).2 HH8.out HT.out HAPP.out).1 0 (back_read (row_32 HO6.out).2 HH8.out HT.out HAPP.out).2 N HN.out).mono ?_; rintro e w8 ⟨Ax, cx, rfl, hcx, hC, hb⟩; have HX8 := Aside0.mk hC; have HB8 := Aside0.mk (below_step HB7.out hb); clear hC hb) | (go_at_call_of 19 (Value.slice Ax N cx); refine (same_at Ax A l l N N cx c HN.out HN.out true HSAME.out _ HX8.out (Kd.C_below H.out HB8.out)).mono ?_; rintro e w9 ⟨rfl, hb⟩; have HX9 := Aside0.mk (Kd.C_below HX8.out hb); have HB9 := Aside0.mk (below_step HB8.out hb); clear hb) | (go_at_call_of 19 (Value.slice A N c); refine (same_at A Ax l l N N c cx HN.out HN.out true HSAME.out _ (Kd.C_below H.out HB9.out) HX9.out).mono ?_; rintro e wa ⟨rfl, hb⟩; have HXa := Aside0.mk (Kd.C_below HX9.out hb); have HBa := Aside0.mk (below_step HB9.out hb); clear hb))
      go_ret
      exact ⟨rfl, HB1.out⟩
    · have h20' : ¬ ((20 : Int) < (nm : Int)) := by omega
      by_cases hE0 : E = 0
      · subst hE0
        obtain ⟨h8, ht, hv⟩ := makeE_zero HE.out
        have HH8 := Aside0.mk h8
        have HT := Aside0.mk ht
        have HSAME := Aside0.mk (sameB_refl l)
        have hnb9 : nb ≤ 1000 := by rw [← HNB.out, hv, makeB_size]; have := blocksTo_le ht l.length (by omega); omega
        have HAPP : Aside0 (∀ i, i < (makeB l).length → i < ([] ++ makeV l ++ more).length ∧ gt ([] ++ makeV l ++ more) i = gt (makeB l) i) := ⟨fun i hi => by
          rw [List.nil_append, hv]
          exact ⟨by rw [List.length_append]; omega, gt_left _ _ _ hi⟩⟩
        clear h8 ht hv
        go_enter Tryd.func10, Tryd.ntmps10
        go_wp2_with (first | (go_at_call 11; refine (awake_any _ HMG.out).mono ?_; rintro e w1 ⟨rfl, hb1⟩; have HB1 := Aside0.mk hb1; clear hb1) | (go_at_call 12; refine (great_at A l N c HN.out _ HG.out _ (Kd.C_below H.out HB1.out) HS.out).mono ?_; rintro e w2 ⟨rfl, rfl⟩) | (go_at_call 16; refine (make_at A l N c HN.out _ (Kd.C_below H.out HB1.out) HS.out (Kd.C_below HMG.out HB1.out) nb HNB.out _ HE.out).mono ?_; rintro e w3 ⟨Aa, ca, rfl, ho, hb⟩; have HOb := Aside0.mk ho; have HB3 := Aside0.mk (below_step HB1.out hb); clear ho hb) | ((with_reducible refine gate_dst (N := 31) rfl ?_); refine Kd.R_lit kBlock (w0 := w3) w3.heap.size 40 rfl (N := 31) rfl (xs := []) (inner := []) (ok := fun _ => True) (okp := fun _ => False) ?hr (reps_nil _ _) (fun _ hk => hk.elim) trivial (Below.refl _ _) (Nat.le_refl _) (by simp) ?_; (case hr => first | (go_simp; done) | (go_simp; rfl)); intro v4 w4 ho hb hg hat; have HO4 := Aside0.mk ho; have HBB4 := Aside0.mk hb; have HOb4 := Aside0.mk (Kd.R_below HOb.out hb); have HM4 := Aside0.mk (Kd.C_below (Kd.C_below HMO.out HB3.out) hb); have HB4 := Aside0.mk (below_step HB3.out hb); have hs4 := hb.size; clear ho hb hg hat) | ((with_reducible refine gate_builtin (b := .append) (xs := #[.tmp 31, .tmp 32]) rfl ?_); at_builtin; refine Kd.R_append_rows kBlock (Rr := kBlock.K w4) (w0 := w3) w3.heap.size rfl (.tmp 31) (.tmp 32) 33 40 zB 32 rfl Tryd.underlying33 info_blockZ rfl (by decide) (by omega) _ [] (makeV l) Aa nb ca (fun _ => True) (fun _ => False) rfl rfl HO4.out (mk_rows HOb4.out HNB.out) (fun _ _ hx => kBlock_KM _ _ hx) (fun _ hk => hk.elim) (fun _ _ => trivial) HBB4.out hs4 (by simp; omega) ?_; intro v5 w5 ho hb hg hat; have HO5 := Aside0.mk ho; have HBB5 := Aside0.mk hb; have HM5 := Aside0.mk (Kd.C_below (Kd.C_below HMO.out HB3.out) hb); have HB5 := Aside0.mk (below_step HB3.out hb); have hs5 := hb.size; clear ho hb hg hat) | ((with_reducible refine gate_builtin (b := .append) (xs := #[.tmp 33, .tmp 34]) rfl ?_); at_builtin; refine Kd.R_append_rows kBlock (Rr := kBlock.K w5) (w0 := w3) w3.heap.size rfl (.tmp 33) (.tmp 34) 33 40 zB 32 rfl Tryd.underlying33 info_blockZ rfl (by decide) (by omega) _ ([] ++ makeV l) more Am nm cm (fun _ => True) (fun _ => False) rfl rfl HO5.out HM5.out (fun _ _ hx => kBlock_KM _ _ hx) (fun _ hk => hk.elim) (fun _ _ => trivial) HBB5.out hs5 (by rw [List.nil_append, HNB.out]; omega) ?_; intro v6 w6 ho hb hg hat; obtain ⟨A6, c6, rfl⟩ := Kd.R_slice ho; obtain ⟨n6, hn6⟩ : ∃ n, n = ([] ++ makeV l ++ more).length := ⟨_, rfl⟩; rw [← hn6] at ho; rw [← hn6]; have HO6 := Aside0.mk ho; have HB6 := Aside0.mk (below_step HB3.out hb); clear ho hb hg hat hn6) | (go_at_call 24; refine (disk_nil A6 n6 c6 _).mono ?_; rintro e w7 ⟨B1, B2, rfl, k1, k2, hb⟩; have HK7 := Aside0.mk (disk_at (Kd.R_below HO6.out hb) k1 k2); have HB7 := Aside0.mk (below_step HB6.out hb); clear k1 k2 hb) | (go_at_call 22; refine (read_disk HK7.out (Kd.C_below HMG0.out HB7.out) l (back_read (row_32 HO6.out).2 HH8.out HT.out HAPP.out).1 0 (back_read (row_32 HO6.out).2 HH8.out HT.out HAPP.out).2 N HN.out).mono ?_; rintro e w8 ⟨Ax, cx, rfl, hcx, hC, hb⟩; have HX8 := Aside0.mk hC; have HB8 := Aside0.mk (below_step HB7.out hb); clear hC hb) | (go_at_call_of 19 (Value.slice Ax N cx); refine (same_at Ax A l l N N cx c HN.out HN.out true HSAME.out _ HX8.out (Kd.C_below H.out HB8.out)).mono ?_; rintro e w9 ⟨rfl, hb⟩; have HX9 := Aside0.mk (Kd.C_below HX8.out hb); have HB9 := Aside0.mk (below_step HB8.out hb); clear hb) | (go_at_call_of 19 (Value.slice A N c); refine (same_at A Ax l l N N c cx HN.out HN.out true HSAME.out _ (Kd.C_below H.out HB9.out) HX9.out).mono ?_; rintro e wa ⟨rfl, hb⟩; have HXa := Aside0.mk (Kd.C_below HX9.out hb); have HBa := Aside0.mk (below_step HB9.out hb); clear hb))
        clear HO4 HO5 HO6 HBB4 HBB5 HOb4 HOb HM4 HM5 HX8 HX9 HK7 HB1 HB3 HB4 HB5 HB6 HB7 HB8 HB9 HAPP HSAME HMO
        go_loopg [9, 10, 11] N (fun gk v9 _ _ wr => ∃ k : Nat, k ≤ N ∧ Aside0 (gk = N - k) ∧ v9 = .int .i64 k ∧ Aside0 (Below wa.heap.size wa wr))
        case atStart => exact ⟨0, Nat.zero_le _, ⟨rfl⟩, rfl, ⟨Below.refl _ _⟩⟩
        case round =>
          obtain ⟨k, hk, HGK, rfl, HBr⟩ := hrel
          have HXr := Aside0.mk (Kd.C_below HXa.out HBr.out)
          have HLr := Aside0.mk (Kd.C_below (Kd.C_below H.out HBa.out) HBr.out)
          by_cases hlt : k < N
          · obtain ⟨ad, A1, d1, hA, g0, g1, _, hd1⟩ := file_at HLr.out hlt
            obtain ⟨x, hx⟩ : ∃ x, gt l k = x := ⟨_, rfl⟩
            rw [hx] at g0 g1 hd1
            have HX := Aside0.mk hx
            have HD := Aside0.mk hd1
            have HG0 := Aside0.mk g0
            have HG1 := Aside0.mk g1
            obtain ⟨d, hd⟩ : ∃ d, x.data.length = d := ⟨_, rfl⟩
            rw [hd] at g1 HG1
            have HDL := Aside0.mk hd
            subst hA
            clear hx hd1 hd g1
            go_upto_region 15 with (go_at_call 27; refine (find_hit Ax l N cx HN.out HT.out _ HXr.out k hlt x HX.out).mono ?_; rw [HDL.out]; rintro e wb ⟨Av, cv, rfl, hC, hb⟩; have HV := Aside0.mk hC; have HBb := Aside0.mk hb; clear hC hb)
            have hn3 := blk_new wb (.cells #[.string x.name, .slice Av d cv] 28)
            have hb3 := below_alloc (Below.refl wb.heap.size wb) (.cells #[.string x.name, .slice Av d cv] 28)
            obtain ⟨W3, hW3⟩ : ∃ W3, W3 = wb.alloc (.cells #[.string x.name, .slice Av d cv] 28) := ⟨_, rfl⟩
            obtain ⟨Q, hQ⟩ : ∃ Q, Q = wb.heap.size := ⟨_, rfl⟩
            rw [← hW3] at hn3 hb3 ⊢
            rw [← hQ] at hn3 ⊢
            have z0 := blk_cell hn3 0
            have z1 := blk_cell hn3 1
            simp only [List.getElem?_toArray, List.getElem?_cons_zero, List.getElem?_cons_succ] at z0 z1
            have HB3 := Aside0.mk (below_step (below_step HBr.out HBb.out) hb3)
            have g0 := cell_old hb3 (cell_old HBb.out HG0.out)
            have g1 := cell_old hb3 (cell_old HBb.out HG1.out)
            have HV3 := Aside0.mk (Kd.C_below HV.out hb3)
            have HD3 := Aside0.mk (Kd.C_below (Kd.C_below HD.out HBb.out) hb3)
            have hk1 : (k : Int) < (N : Int) := by omega
            clear hn3 hb3 hW3 hQ
            go_quiet ((go_at_call 26; exact Calls.quiet_of (same01_at Av A1 x.data x.data d cv d1 HDL.out true ⟨rfl, rfl⟩ _ (Kd.C_drewN HV3.out _) (Kd.C_drewN HD3.out _))))
            go_wp2_with fail
            go_roundg (N - (k + 1))
            case measure => have := HGK.out; omega
            case rel => exact ⟨k + 1, by omega, ⟨rfl⟩, by go_num, ⟨pw_below_drewN HB3.out _⟩⟩
          · go_wp2_with (go_at_call 27; refine (find_miss Ax l N cx HN.out HT.out _ HXr.out).mono ?_; rintro e wb ⟨rfl, hb⟩; have HBb := Aside0.mk (below_step (below_step HBa.out HBr.out) hb); clear hb)
            go_ret
            exact ⟨rfl, below_alloc HBb.out _⟩
      · have hE1 : (E != 0) = true := bne_iff_ne.mpr hE0
        go_enter Tryd.func10, Tryd.ntmps10
        go_wp2_with (first | (go_at_call 11; refine (awake_any _ HMG.out).mono ?_; rintro e w1 ⟨rfl, hb1⟩; have HB1 := Aside0.mk hb1; clear hb1) | (go_at_call 12; refine (great_at A l N c HN.out _ HG.out _ (Kd.C_below H.out HB1.out) HS.out).mono ?_; rintro e w2 ⟨rfl, rfl⟩) | (go_at_call 16; refine (make_at A l N c HN.out _ (Kd.C_below H.out HB1.out) HS.out (Kd.C_below HMG.out HB1.out) nb HNB.out _ HE.out).mono ?_; rintro e w3 ⟨Aa, ca, rfl, ho, hb⟩; have HOb := Aside0.mk ho; have HB3 := Aside0.mk (below_step HB1.out hb); clear ho hb) | ((with_reducible refine gate_dst (N := 31) rfl ?_); refine Kd.R_lit kBlock (w0 := w3) w3.heap.size 40 rfl (N := 31) rfl (xs := []) (inner := []) (ok := fun _ => True) (okp := fun _ => False) ?hr (reps_nil _ _) (fun _ hk => hk.elim) trivial (Below.refl _ _) (Nat.le_refl _) (by simp) ?_; (case hr => first | (go_simp; done) | (go_simp; rfl)); intro v4 w4 ho hb hg hat; have HO4 := Aside0.mk ho; have HBB4 := Aside0.mk hb; have HOb4 := Aside0.mk (Kd.R_below HOb.out hb); have HM4 := Aside0.mk (Kd.C_below (Kd.C_below HMO.out HB3.out) hb); have HB4 := Aside0.mk (below_step HB3.out hb); have hs4 := hb.size; clear ho hb hg hat) | ((with_reducible refine gate_builtin (b := .append) (xs := #[.tmp 31, .tmp 32]) rfl ?_); at_builtin; refine Kd.R_append_rows kBlock (Rr := kBlock.K w4) (w0 := w3) w3.heap.size rfl (.tmp 31) (.tmp 32) 33 40 zB 32 rfl Tryd.underlying33 info_blockZ rfl (by decide) (by omega) _ [] (makeV l) Aa nb ca (fun _ => True) (fun _ => False) rfl rfl HO4.out (mk_rows HOb4.out HNB.out) (fun _ _ hx => kBlock_KM _ _ hx) (fun _ hk => hk.elim) (fun _ _ => trivial) HBB4.out hs4 (by simp; omega) ?_; intro v5 w5 ho hb hg hat; have HO5 := Aside0.mk ho; have HBB5 := Aside0.mk hb; have HM5 := Aside0.mk (Kd.C_below (Kd.C_below HMO.out HB3.out) hb); have HB5 := Aside0.mk (below_step HB3.out hb); have hs5 := hb.size; clear ho hb hg hat) | ((with_reducible refine gate_builtin (b := .append) (xs := #[.tmp 33, .tmp 34]) rfl ?_); at_builtin; refine Kd.R_append_rows kBlock (Rr := kBlock.K w5) (w0 := w3) w3.heap.size rfl (.tmp 33) (.tmp 34) 33 40 zB 32 rfl Tryd.underlying33 info_blockZ rfl (by decide) (by omega) _ ([] ++ makeV l) more Am nm cm (fun _ => True) (fun _ => False) rfl rfl HO5.out HM5.out (fun _ _ hx => kBlock_KM _ _ hx) (fun _ hk => hk.elim) (fun _ _ => trivial) HBB5.out hs5 (by rw [List.nil_append, HNB.out]; omega) ?_; intro v6 w6 ho hb hg hat; obtain ⟨A6, c6, rfl⟩ := Kd.R_slice ho; obtain ⟨n6, hn6⟩ : ∃ n, n = ([] ++ makeV l ++ more).length := ⟨_, rfl⟩; rw [← hn6] at ho; rw [← hn6]; have HO6 := Aside0.mk ho; have HB6 := Aside0.mk (below_step HB3.out hb); clear ho hb hg hat hn6) | (go_at_call 24; refine (disk_nil A6 n6 c6 _).mono ?_; rintro e w7 ⟨B1, B2, rfl, k1, k2, hb⟩; have HK7 := Aside0.mk (disk_at (Kd.R_below HO6.out hb) k1 k2); have HB7 := Aside0.mk (below_step HB6.out hb); clear k1 k2 hb) | (go_at_call 22; refine (read_disk HK7.out (Kd.C_below HMG0.out HB7.out) l (back_read (row_32 HO6.out).2 HH8.out HT.out HAPP.out).1 0 (back_read (row_32 HO6.out).2 HH8.out HT.out HAPP.out).2 N HN.out).mono ?_; rintro e w8 ⟨Ax, cx, rfl, hcx, hC, hb⟩; have HX8 := Aside0.mk hC; have HB8 := Aside0.mk (below_step HB7.out hb); clear hC hb) | (go_at_call_of 19 (Value.slice Ax N cx); refine (same_at Ax A l l N N cx c HN.out HN.out true HSAME.out _ HX8.out (Kd.C_below H.out HB8.out)).mono ?_; rintro e w9 ⟨rfl, hb⟩; have HX9 := Aside0.mk (Kd.C_below HX8.out hb); have HB9 := Aside0.mk (below_step HB8.out hb); clear hb) | (go_at_call_of 19 (Value.slice A N c); refine (same_at A Ax l l N N c cx HN.out HN.out true HSAME.out _ (Kd.C_below H.out HB9.out) HX9.out).mono ?_; rintro e wa ⟨rfl, hb⟩; have HXa := Aside0.mk (Kd.C_below HX9.out hb); have HBa := Aside0.mk (below_step HB9.out hb); clear hb))
        go_ret
        exact ⟨rfl, HB3.out⟩
  · clear hg
    go_enter Tryd.func10, Tryd.ntmps10
    go_wp2_with (first | (go_at_call 11; refine (awake_any _ HMG.out).mono ?_; rintro e w1 ⟨rfl, hb1⟩; have HB1 := Aside0.mk hb1; clear hb1) | (go_at_call 12; refine (great_at A l N c HN.out _ HG.out _ (Kd.C_below H.out HB1.out) HS.out).mono ?_; rintro e w2 ⟨rfl, rfl⟩) | (go_at_call 16; refine (make_at A l N c HN.out _ (Kd.C_below H.out HB1.out) HS.out (Kd.C_below HMG.out HB1.out) nb HNB.out _ HE.out).mono ?_; rintro e w3 ⟨Aa, ca, rfl, ho, hb⟩; have HOb := Aside0.mk ho; have HB3 := Aside0.mk (below_step HB1.out hb); clear ho hb) | ((with_reducible refine gate_dst (N := 31) rfl ?_); refine Kd.R_lit kBlock (w0 := w3) w3.heap.size 40 rfl (N := 31) rfl (xs := []) (inner := []) (ok := fun _ => True) (okp := fun _ => False) ?hr (reps_nil _ _) (fun _ hk => hk.elim) trivial (Below.refl _ _) (Nat.le_refl _) (by simp) ?_; (case hr => first | (go_simp; done) | (go_simp; rfl)); intro v4 w4 ho hb hg hat; have HO4 := Aside0.mk ho; have HBB4 := Aside0.mk hb; have HOb4 := Aside0.mk (Kd.R_below HOb.out hb); have HM4 := Aside0.mk (Kd.C_below (Kd.C_below HMO.out HB3.out) hb); have HB4 := Aside0.mk (below_step HB3.out hb); have hs4 := hb.size; clear ho hb hg hat) | ((with_reducible refine gate_builtin (b := .append) (xs := #[.tmp 31, .tmp 32]) rfl ?_); at_builtin; refine Kd.R_append_rows kBlock (Rr := kBlock.K w4) (w0 := w3) w3.heap.size rfl (.tmp 31) (.tmp 32) 33 40 zB 32 rfl Tryd.underlying33 info_blockZ rfl (by decide) (by omega) _ [] (makeV l) Aa nb ca (fun _ => True) (fun _ => False) rfl rfl HO4.out (mk_rows HOb4.out HNB.out) (fun _ _ hx => kBlock_KM _ _ hx) (fun _ hk => hk.elim) (fun _ _ => trivial) HBB4.out hs4 (by simp; omega) ?_; intro v5 w5 ho hb hg hat; have HO5 := Aside0.mk ho; have HBB5 := Aside0.mk hb; have HM5 := Aside0.mk (Kd.C_below (Kd.C_below HMO.out HB3.out) hb); have HB5 := Aside0.mk (below_step HB3.out hb); have hs5 := hb.size; clear ho hb hg hat) | ((with_reducible refine gate_builtin (b := .append) (xs := #[.tmp 33, .tmp 34]) rfl ?_); at_builtin; refine Kd.R_append_rows kBlock (Rr := kBlock.K w5) (w0 := w3) w3.heap.size rfl (.tmp 33) (.tmp 34) 33 40 zB 32 rfl Tryd.underlying33 info_blockZ rfl (by decide) (by omega) _ ([] ++ makeV l) more Am nm cm (fun _ => True) (fun _ => False) rfl rfl HO5.out HM5.out (fun _ _ hx => kBlock_KM _ _ hx) (fun _ hk => hk.elim) (fun _ _ => trivial) HBB5.out hs5 (by rw [List.nil_append, HNB.out]; omega) ?_; intro v6 w6 ho hb hg hat; obtain ⟨A6, c6, rfl⟩ := Kd.R_slice ho; obtain ⟨n6, hn6⟩ : ∃ n, n = ([] ++ makeV l ++ more).length := ⟨_, rfl⟩; rw [← hn6] at ho; rw [← hn6]; have HO6 := Aside0.mk ho; have HB6 := Aside0.mk (below_step HB3.out hb); clear ho hb hg hat hn6) | (go_at_call 24; refine (disk_nil A6 n6 c6 _).mono ?_; rintro e w7 ⟨B1, B2, rfl, k1, k2, hb⟩; have HK7 := Aside0.mk (disk_at (Kd.R_below HO6.out hb) k1 k2); have HB7 := Aside0.mk (below_step HB6.out hb); clear k1 k2 hb) | (go_at_call 22; refine (read_disk HK7.out (Kd.C_below HMG0.out HB7.out) l (back_read (row_32 HO6.out).2 HH8.out HT.out HAPP.out).1 0 (back_read (row_32 HO6.out).2 HH8.out HT.out HAPP.out).2 N HN.out).mono ?_; rintro e w8 ⟨Ax, cx, rfl, hcx, hC, hb⟩; have HX8 := Aside0.mk hC; have HB8 := Aside0.mk (below_step HB7.out hb); clear hC hb) | (go_at_call_of 19 (Value.slice Ax N cx); refine (same_at Ax A l l N N cx c HN.out HN.out true HSAME.out _ HX8.out (Kd.C_below H.out HB8.out)).mono ?_; rintro e w9 ⟨rfl, hb⟩; have HX9 := Aside0.mk (Kd.C_below HX8.out hb); have HB9 := Aside0.mk (below_step HB8.out hb); clear hb) | (go_at_call_of 19 (Value.slice A N c); refine (same_at A Ax l l N N c cx HN.out HN.out true HSAME.out _ (Kd.C_below H.out HB9.out) HX9.out).mono ?_; rintro e wa ⟨rfl, hb⟩; have HXa := Aside0.mk (Kd.C_below HX9.out hb); have HBa := Aside0.mk (below_step HB9.out hb); clear hb))
    go_ret
    exact ⟨rfl, HB1.out⟩
end Go.Proofs.YtahjadbjokkjnaaDoor
