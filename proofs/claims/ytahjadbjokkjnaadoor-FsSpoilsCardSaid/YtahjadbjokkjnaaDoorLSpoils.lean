/-
  FsSpoils, walked: it returns true.
-/
import Derived.Test.YtahjadbjokkjnaaDoorSp1
namespace Go.Proofs.YtahjadbjokkjnaaDoor
open Go.RowKit Go.Proofs.YtahjadbjokkjnaaDoorW.PrintWords Go.Proofs.YtahjadbjokkjnaaDoorW.PrintLast Go.Proofs.YtahjadbjokkjnaaDoorW.PrintMore
set_option linter.unusedVariables false
set_option linter.unusedSimpArgs false

theorem bits_xor_u8 (a b : UInt8) : bits .xor .u8 (a.toNat : Int) (b.toNat : Int) = (((a ^^^ b : UInt8).toNat : Nat) : Int) := by
  have ha := a.toNat_lt
  have hb := b.toNat_lt
  have hx : a.toNat ^^^ b.toNat < 2 ^ 8 := Nat.xor_lt_two_pow (by omega) (by omega)
  have h1 : (BitVec.ofInt 8 (a.toNat : Int)).toNat = a.toNat := by
    rw [BitVec.ofInt_natCast, BitVec.toNat_ofNat]; exact Nat.mod_eq_of_lt (by omega)
  have h2 : (BitVec.ofInt 8 (b.toNat : Int)).toNat = b.toNat := by
    rw [BitVec.ofInt_natCast, BitVec.toNat_ofNat]; exact Nat.mod_eq_of_lt (by omega)
  show IntKind.u8.wrap ((BitVec.ofInt 8 (a.toNat : Int) ^^^ BitVec.ofInt 8 (b.toNat : Int)).toNat : Int) = _
  rw [BitVec.toNat_xor, h1, h2, UInt8.toNat_xor]
  exact IntWalk.u8_in _ (by omega)
theorem xor_ne (y k : UInt8) (h : k ≠ 0) : y ^^^ k ≠ y := by
  intro e
  apply h
  have h1 : y ^^^ (y ^^^ k) = k := by rw [← UInt8.xor_assoc, UInt8.xor_self, UInt8.zero_xor]
  rw [e, UInt8.xor_self] at h1
  exact h1.symm
theorem putB_one (b : List UInt8) (j : Nat) (z : UInt8) (hj : j < b.length) : gt (putB b j [z]) j = z := by
  unfold putB
  rw [List.append_assoc, gt_right _ _ _ j (by rw [List.length_take]; omega) (Nat.le_refl _), Nat.sub_self]
  rfl
theorem spoiled_of {L : List (List UInt8)} {q r : Nat} (hq : q < L.length) (hr : r < (gt L q).length) (z : UInt8) (hz : z ≠ gt (gt L q) r) : Spoiled L (L.set q (putB (gt L q) r [z])) q where
  len := List.length_set
  at_ := hq
  ne := fun e => by
    rw [gt_set L q _ hq] at e
    have := putB_one (gt L q) r z hr
    rw [e] at this
    exact hz this.symm
  same := fun i hi => gt_set_ne _ _ _ _ (fun e => hi e.symm)
theorem mk_rowsP {W : World} {e base n c : Nat} {ok : Nat → Prop} {A : Option Addr} {L : List (List UInt8)} (h : kBlock.R e W base ok (.slice A n c) L) (hn : L.length = n) : kBlock.C W A n L := by
  subst hn
  exact readsS' h
theorem drew_add {w w' : World} {a b : Nat} (h : ∃ m, w' = (w.drewN (a + b)).drewN m) : ∃ n, w' = w.drewN (a + n) := by
  obtain ⟨m, rfl⟩ := h
  exact ⟨b + m, by rw [World.drewN_drewN, Nat.add_assoc]⟩
set_option maxRecDepth 8000 in
set_option maxHeartbeats 6400000 in
theorem law_spoils (A : Option Addr) (l : List File) (c : Nat) (X : Nat) (hX : X < 65536) (mk : UInt8) (w : World) (h0 : kFile.C w A l.length l) (hs : ∀ k, k < l.length → (gt l k).name.size ≤ 9223372036854775807) (hmg : MagicAt w) :
    Calls Tryd.prog 8 #[.slice A l.length c, .int .u16 (X : Int), .int .u8 (mk.toNat : Int)] w fun e w' => e = .returned (.bool true) ∧ Below w.heap.size w w' := by
  obtain ⟨N, hN⟩ : ∃ N, l.length = N := ⟨_, rfl⟩
  rw [hN] at h0 ⊢
  have hmx := Kd.C_max h0
  have H := Aside0.mk h0
  have HN := Aside0.mk hN
  have HS := Aside0.mk hs
  have HMG := Aside0.mk hmg
  obtain ⟨g, hg⟩ : ∃ g, greatB l = g := ⟨_, rfl⟩
  have HG := Aside0.mk hg
  clear h0 hs hmg hN
  obtain ⟨E, hE⟩ : ∃ E, makeE l = E := ⟨_, rfl⟩
  obtain ⟨nb, hnb⟩ : ∃ n, (makeV l).length = n := ⟨_, rfl⟩
  have HE := Aside0.mk hE
  have HNB := Aside0.mk hnb
  clear hE hnb
  cases g
  · clear hg
    by_cases hm0 : mk = 0
    · have hm0' : ((mk.toNat : Int) == 0) = true := by rw [hm0]; rfl
      clear hm0
      go_enter Tryd.func8, Tryd.ntmps8
      go_wp2_with (first | (go_at_call 11; refine (awake_any _ HMG.out).mono ?_; rintro e w1 ⟨rfl, hb1⟩; have HB1 := Aside0.mk hb1; clear hb1) | (go_at_call 12; refine (great_at A l N c HN.out _ HG.out _ (Kd.C_below H.out HB1.out) HS.out).mono ?_; rintro e w2 ⟨rfl, rfl⟩) | (go_at_call_of 16 (Value.slice A N c); refine (make_at A l N c HN.out _ (Kd.C_below H.out HB1.out) HS.out (Kd.C_below HMG.out HB1.out) nb HNB.out _ HE.out).mono ?_; rintro e w3 ⟨Aa, ca, rfl, ho, hb⟩; have HOb := Aside0.mk ho; have HB3 := Aside0.mk (below_step HB1.out hb); clear ho hb) | (go_at_call 24; refine (disk_nil (some ⟨ga, 0, none⟩) nb ca _).mono ?_; rintro e w10 ⟨B1, B2, rfl, k1, k2, hb⟩; have HK10 := Aside0.mk (disk_at (Kd.R_below HRL.out hb) k1 k2); have HRL10 := Aside0.mk (Kd.R_below HRL.out hb); have HB10 := Aside0.mk (below_step HB9.out hb); clear k1 k2 hb) | (go_at_call 22; refine (read_disk HK10.out (Kd.C_below HMG.out HB10.out) _ HFF.out _ HEE.out _ HNN.out).mono ?_; rintro e w11 ⟨Ax, cx, rfl, hcx, hC, hb⟩; have HX11 := Aside0.mk hC; have HRL11 := Aside0.mk (Kd.R_below HRL10.out hb); have HB11 := Aside0.mk (below_step HB10.out hb); clear hC hb) | (go_at_call_of 16 (Value.slice Ax nm cx); refine (make_at Ax m nm cx HNN.out _ HX11.out HMS.out (Kd.C_below HMG.out HB11.out) nA HNA.out 0 HME.out).mono ?_; rintro e w12 ⟨Ab, cb, rfl, ho, hb⟩; have HOA := Aside0.mk ho; have HX12 := Aside0.mk (Kd.C_below HX11.out hb); have HRL12 := Aside0.mk (Kd.R_below HRL11.out hb); have HB12 := Aside0.mk (below_step HB11.out hb); clear ho hb) | (go_at_call 19; refine (same_at Ax A m l nm N cx c HNN.out HN.out false HNE.out _ HX12.out (Kd.C_below H.out HB12.out)).mono ?_; rintro e w13 ⟨rfl, hb⟩; have HSB := Aside0.mk hb; clear hb))
      go_ret
      exact ⟨rfl, HB1.out⟩
    · have hm0' : ((mk.toNat : Int) == 0) = false := beq_eq_false_iff_ne.mpr (fun e => hm0 (UInt8.toNat_inj.mp (by simp only [UInt8.toNat_zero]; omega)))
      have HM0 := Aside0.mk hm0
      clear hm0
      by_cases hE0 : E = 0
      · subst hE0
        obtain ⟨h8, ht, hv⟩ := makeE_zero HE.out
        have hnb1 : 0 < nb := by rw [← HNB.out, hv, makeB_size]; omega
        have hnb9 : nb ≤ 1000 := by rw [← HNB.out, hv, makeB_size]; have := blocksTo_le ht l.length (by omega); omega
        have hnb0 : ((nb : Int) == 0) = false := beq_eq_false_iff_ne.mpr (by omega)
        have hN8 : N ≤ 8 := by have := HN.out; omega
        have HH8 := Aside0.mk h8
        have HT := Aside0.mk ht
        have HV := Aside0.mk hv
        obtain ⟨M, hM⟩ : ∃ M, 32 * nb = M := ⟨_, rfl⟩
        obtain ⟨K, hK⟩ : ∃ K, X % M = K := ⟨_, rfl⟩
        obtain ⟨q, hq⟩ : ∃ q, K / 32 = q := ⟨_, rfl⟩
        obtain ⟨r, hr⟩ : ∃ r, K % 32 = r := ⟨_, rfl⟩
        have hKM : K < M := by rw [← hK]; exact Nat.mod_lt _ (by omega)
        have hqn : q < nb := by omega
        have hr32 : r < 32 := by omega
        have r0 : IntKind.i64.wrap (X : Int) = (X : Int) := IntWalk.i64_in _ (by omega)
        have r1 : IntKind.i64.wrap (32 * (nb : Int)) = (M : Int) := by rw [← hM, show 32 * (nb : Int) = ((32 * nb : Nat) : Int) by omega]; exact IntWalk.i64_in _ (by omega)
        have r2 : (X : Int).tmod (M : Int) = (K : Int) := by rw [← hK]; exact (Int.ofNat_tmod X M).symm
        have r3 : IntKind.i64.wrap (K : Int) = (K : Int) := IntWalk.i64_in _ (by omega)
        have r4 : ¬ (M : Int) = 0 := by omega
        have r5 : (K : Int).tdiv 32 = (q : Int) := by rw [← hq]; exact (Int.ofNat_tdiv K 32).symm
        have r6 : (K : Int).tmod 32 = (r : Int) := by rw [← hr]; exact (Int.ofNat_tmod K 32).symm
        have r7 : IntKind.i64.wrap (q : Int) = (q : Int) := IntWalk.i64_in _ (by omega)
        have r8 : IntKind.i64.wrap (r : Int) = (r : Int) := IntWalk.i64_in _ (by omega)
        clear h8 ht hv hM hK hq hr hKM
        go_enter Tryd.func8, Tryd.ntmps8
        go_upto_region 9 with (first | (go_at_call 11; refine (awake_any _ HMG.out).mono ?_; rintro e w1 ⟨rfl, hb1⟩; have HB1 := Aside0.mk hb1; clear hb1) | (go_at_call 12; refine (great_at A l N c HN.out _ HG.out _ (Kd.C_below H.out HB1.out) HS.out).mono ?_; rintro e w2 ⟨rfl, rfl⟩) | (go_at_call_of 16 (Value.slice A N c); refine (make_at A l N c HN.out _ (Kd.C_below H.out HB1.out) HS.out (Kd.C_below HMG.out HB1.out) nb HNB.out _ HE.out).mono ?_; rintro e w3 ⟨Aa, ca, rfl, ho, hb⟩; have HOb := Aside0.mk ho; have HB3 := Aside0.mk (below_step HB1.out hb); clear ho hb) | (go_at_call 24; refine (disk_nil (some ⟨ga, 0, none⟩) nb ca _).mono ?_; rintro e w10 ⟨B1, B2, rfl, k1, k2, hb⟩; have HK10 := Aside0.mk (disk_at (Kd.R_below HRL.out hb) k1 k2); have HRL10 := Aside0.mk (Kd.R_below HRL.out hb); have HB10 := Aside0.mk (below_step HB9.out hb); clear k1 k2 hb) | (go_at_call 22; refine (read_disk HK10.out (Kd.C_below HMG.out HB10.out) _ HFF.out _ HEE.out _ HNN.out).mono ?_; rintro e w11 ⟨Ax, cx, rfl, hcx, hC, hb⟩; have HX11 := Aside0.mk hC; have HRL11 := Aside0.mk (Kd.R_below HRL10.out hb); have HB11 := Aside0.mk (below_step HB10.out hb); clear hC hb) | (go_at_call_of 16 (Value.slice Ax nm cx); refine (make_at Ax m nm cx HNN.out _ HX11.out HMS.out (Kd.C_below HMG.out HB11.out) nA HNA.out 0 HME.out).mono ?_; rintro e w12 ⟨Ab, cb, rfl, ho, hb⟩; have HOA := Aside0.mk ho; have HX12 := Aside0.mk (Kd.C_below HX11.out hb); have HRL12 := Aside0.mk (Kd.R_below HRL11.out hb); have HB12 := Aside0.mk (below_step HB11.out hb); clear ho hb) | (go_at_call 19; refine (same_at Ax A m l nm N cx c HNN.out HN.out false HNE.out _ HX12.out (Kd.C_below H.out HB12.out)).mono ?_; rintro e w13 ⟨rfl, hb⟩; have HSB := Aside0.mk hb; clear hb))
        obtain ⟨ga, hga, hg1, hg2⟩ := R_formV HOb.out hnb1
        subst hga
        have h32 := (row_32 HOb.out).2 q (by rw [HNB.out]; exact hqn)
        obtain ⟨b, hb⟩ : ∃ b, gt (makeV l) q = b := ⟨_, rfl⟩
        rw [hb] at h32
        obtain ⟨y, hy⟩ : ∃ y, gt b r = y := ⟨_, rfl⟩
        obtain ⟨z, hz⟩ : ∃ z, y ^^^ mk = z := ⟨_, rfl⟩
        obtain ⟨hR9, hG9, hc9, hf9⟩ := R_copyIn HOb.out q hqn r [z] (by simp; omega)
        have f9 := hf9 0 (by simp)
        rw [Nat.add_zero] at f9
        have c9 := (block_in (mk_rowsP HOb.out HNB.out) hqn).2 r (.int .u8 (y.toNat : Int)) (by rw [hb]; simp [bytesV, gt_some b r (by omega), hy])
        rw [show (⟨ga, q * 32, none⟩ : Addr).add r = ⟨ga, q * 32 + r, none⟩ by simp [Addr.add]] at c9
        have x9 : bits .xor .u8 (y.toNat : Int) (mk.toNat : Int) = (z.toNat : Int) := by rw [bits_xor_u8, hz]
        rw [hb] at hR9
        simp only [bytesV, List.map_cons, List.map_nil, World.setCells] at hR9 hG9
        have HR9 := Aside0.mk hR9
        have HG9 := Aside0.mk hG9
        have HY := Aside0.mk hy
        have HZ := Aside0.mk hz
        have HBK := Aside0.mk hb
        have HX32 := Aside0.mk h32
        have HGA := Aside0.mk hg1
        clear hR9 hG9 hc9 hf9 hy hz hb h32 hg1 hg2
        go_cut [] (fun wd => Aside0 (∃ L', Spoiled (makeV l) L' q ∧ kBlock.R 40 wd w1.heap.size (fun _ => True) (.slice (some ⟨ga, 0, none⟩) nb ca) L') ∧ Aside0 (Below w.heap.size w wd))
        case first =>
          go_region
          go_wp2_with fail
          go_meet
          case rel =>
            refine ⟨⟨_, ?_, Kd.R_drew HR9.out⟩, ⟨below_drew (HB3.out.setCell (p := ⟨ga, q * 32 + r, none⟩) (Nat.le_trans HB1.out.size HGA.out) _)⟩⟩
            have := spoiled_of (L := makeV l) (q := q) (r := r) (by rw [HNB.out]; exact hqn) (by rw [HBK.out, HX32.out]; exact hr32) z (by rw [HBK.out, HY.out, ← HZ.out]; exact xor_ne y mk HM0.out)
            rw [HBK.out] at this
            exact this
        obtain ⟨HCUT, HB9⟩ := hcut
        obtain ⟨L', hsp, hR⟩ := HCUT.out
        rw [HV.out] at hsp
        have HSP := Aside0.mk hsp
        have HRL := Aside0.mk hR
        have HL32 := Aside0.mk (row_32 hR).2
        have HLL : Aside0 (L'.length = nb) := ⟨by rw [hsp.len, ← HV.out]; exact HNB.out⟩
        clear hsp hR HCUT HR9 HG9 HY HZ HBK HX32 c9 f9 x9 r0 r1 r2 r4 r6 r8 HM0 HOb
        cases hrd : readB (diskT L' none)
        · have HFF : Aside0 (readF (diskT L' none) = []) := ⟨by unfold readF; rw [hrd]; rfl⟩
          have HEE : Aside0 (readE (diskT L' none) = 3) := ⟨by unfold readE; rw [hrd]; rfl⟩
          have HNN : Aside0 (([] : List File).length = 0) := ⟨rfl⟩
          clear hrd
          go_wp2_with (first | (go_at_call 11; refine (awake_any _ HMG.out).mono ?_; rintro e w1 ⟨rfl, hb1⟩; have HB1 := Aside0.mk hb1; clear hb1) | (go_at_call 12; refine (great_at A l N c HN.out _ HG.out _ (Kd.C_below H.out HB1.out) HS.out).mono ?_; rintro e w2 ⟨rfl, rfl⟩) | (go_at_call_of 16 (Value.slice A N c); refine (make_at A l N c HN.out _ (Kd.C_below H.out HB1.out) HS.out (Kd.C_below HMG.out HB1.out) nb HNB.out _ HE.out).mono ?_; rintro e w3 ⟨Aa, ca, rfl, ho, hb⟩; have HOb := Aside0.mk ho; have HB3 := Aside0.mk (below_step HB1.out hb); clear ho hb) | (go_at_call 24; refine (disk_nil (some ⟨ga, 0, none⟩) nb ca _).mono ?_; rintro e w10 ⟨B1, B2, rfl, k1, k2, hb⟩; have HK10 := Aside0.mk (disk_at (Kd.R_below HRL.out hb) k1 k2); have HRL10 := Aside0.mk (Kd.R_below HRL.out hb); have HB10 := Aside0.mk (below_step HB9.out hb); clear k1 k2 hb) | (go_at_call 22; refine (read_disk HK10.out (Kd.C_below HMG.out HB10.out) _ HFF.out _ HEE.out _ HNN.out).mono ?_; rintro e w11 ⟨Ax, cx, rfl, hcx, hC, hb⟩; have HX11 := Aside0.mk hC; have HRL11 := Aside0.mk (Kd.R_below HRL10.out hb); have HB11 := Aside0.mk (below_step HB10.out hb); clear hC hb) | (go_at_call_of 16 (Value.slice Ax nm cx); refine (make_at Ax m nm cx HNN.out _ HX11.out HMS.out (Kd.C_below HMG.out HB11.out) nA HNA.out 0 HME.out).mono ?_; rintro e w12 ⟨Ab, cb, rfl, ho, hb⟩; have HOA := Aside0.mk ho; have HX12 := Aside0.mk (Kd.C_below HX11.out hb); have HRL12 := Aside0.mk (Kd.R_below HRL11.out hb); have HB12 := Aside0.mk (below_step HB11.out hb); clear ho hb) | (go_at_call 19; refine (same_at Ax A m l nm N cx c HNN.out HN.out false HNE.out _ HX12.out (Kd.C_below H.out HB12.out)).mono ?_; rintro e w13 ⟨rfl, hb⟩; have HSB := Aside0.mk hb; clear hb))
          go_ret
          exact ⟨rfl, HB11.out⟩
        · next m =>
          have HFF : Aside0 (readF (diskT L' none) = m) := ⟨by unfold readF; rw [hrd]; rfl⟩
          have HEE : Aside0 (readE (diskT L' none) = 0) := ⟨by unfold readE; rw [hrd]; rfl⟩
          obtain ⟨nm, hnm⟩ : ∃ n, m.length = n := ⟨_, rfl⟩
          have HNN := Aside0.mk hnm
          have hL32' : ∀ i, i < L'.length → (gt L' i).length = 32 := HL32.out
          obtain ⟨hm8, htm, _, _⟩ := read_made (diskT_32 hL32' none) hrd
          have hne := spoiled_ne HSP.out hL32' hrd
          obtain ⟨hmE, hmV⟩ := makeE_of hm8 htm
          have HME := Aside0.mk hmE
          have HMV := Aside0.mk hmV
          have HNE := Aside0.mk hne
          have HAT : Aside0 (∀ i, i < (makeB m).length → i < nb → gt (makeB m) i = gt L' i) := ⟨fun i h1 h2 => spoiled_at HSP.out hL32' hrd i h1 (by rw [HLL.out]; exact h2)⟩
          have HONE : Aside0 (N < q → m.length = N ∧ (makeB m).length = nb ∧ (∀ i, i < N → (gt m i).name = (gt l i).name ∧ (gt m i).data.length = (gt l i).data.length) ∧ ∃ i0, i0 < N ∧ ∀ i, i < N → decide ((gt m i).data = (gt l i).data) = !decide (i = i0)) := ⟨fun hq => by
            have hq' : l.length < q := by rw [HN.out]; exact hq
            obtain ⟨f1, f2⟩ := spoiled_face HSP.out hL32' hrd HH8.out HT.out hq'
            obtain ⟨f3, i0, f4, f5⟩ := spoiled_one HSP.out hL32' hrd HH8.out HT.out hq'
            rw [HN.out] at f1 f2 f4 f5
            exact ⟨f1, by rw [f3, ← HNB.out, HV.out], f2, i0, f4, f5⟩⟩
          have HMS : Aside0 (∀ k, k < m.length → (gt m k).name.size ≤ 9223372036854775807) := ⟨fun k hk => by have := (tog_right htm k hk).1; omega⟩
          obtain ⟨nA, hnA⟩ : ∃ n, (makeV m).length = n := ⟨_, rfl⟩
          have HNA := Aside0.mk hnA
          have hnA9 : nA ≤ 1000 := by rw [← hnA, hmV, makeB_size]; have := blocksTo_le htm m.length (by omega); omega
          have hnm8 : nm ≤ 8 := by omega
          have hgate : ¬ (nb < nA ∧ N < q) := by
            rintro ⟨h1, h2⟩
            have := (HONE.out h2).2.1
            rw [← hmV, hnA] at this
            omega
          clear hrd hL32' hm8 htm hne hmE hmV hnA hnm HSP
          go_upto_region 14 with (first | (go_at_call 11; refine (awake_any _ HMG.out).mono ?_; rintro e w1 ⟨rfl, hb1⟩; have HB1 := Aside0.mk hb1; clear hb1) | (go_at_call 12; refine (great_at A l N c HN.out _ HG.out _ (Kd.C_below H.out HB1.out) HS.out).mono ?_; rintro e w2 ⟨rfl, rfl⟩) | (go_at_call_of 16 (Value.slice A N c); refine (make_at A l N c HN.out _ (Kd.C_below H.out HB1.out) HS.out (Kd.C_below HMG.out HB1.out) nb HNB.out _ HE.out).mono ?_; rintro e w3 ⟨Aa, ca, rfl, ho, hb⟩; have HOb := Aside0.mk ho; have HB3 := Aside0.mk (below_step HB1.out hb); clear ho hb) | (go_at_call 24; refine (disk_nil (some ⟨ga, 0, none⟩) nb ca _).mono ?_; rintro e w10 ⟨B1, B2, rfl, k1, k2, hb⟩; have HK10 := Aside0.mk (disk_at (Kd.R_below HRL.out hb) k1 k2); have HRL10 := Aside0.mk (Kd.R_below HRL.out hb); have HB10 := Aside0.mk (below_step HB9.out hb); clear k1 k2 hb) | (go_at_call 22; refine (read_disk HK10.out (Kd.C_below HMG.out HB10.out) _ HFF.out _ HEE.out _ HNN.out).mono ?_; rintro e w11 ⟨Ax, cx, rfl, hcx, hC, hb⟩; have HX11 := Aside0.mk hC; have HRL11 := Aside0.mk (Kd.R_below HRL10.out hb); have HB11 := Aside0.mk (below_step HB10.out hb); clear hC hb) | (go_at_call_of 16 (Value.slice Ax nm cx); refine (make_at Ax m nm cx HNN.out _ HX11.out HMS.out (Kd.C_below HMG.out HB11.out) nA HNA.out 0 HME.out).mono ?_; rintro e w12 ⟨Ab, cb, rfl, ho, hb⟩; have HOA := Aside0.mk ho; have HX12 := Aside0.mk (Kd.C_below HX11.out hb); have HRL12 := Aside0.mk (Kd.R_below HRL11.out hb); have HB12 := Aside0.mk (below_step HB11.out hb); clear ho hb) | (go_at_call 19; refine (same_at Ax A m l nm N cx c HNN.out HN.out false HNE.out _ HX12.out (Kd.C_below H.out HB12.out)).mono ?_; rintro e w13 ⟨rfl, hb⟩; have HSB := Aside0.mk hb; clear hb))
          go_cut [97] (fun v97 wd => v97 = .bool false ∧ Aside0 (Below w12.heap.size w12 wd))
          case first =>
            by_cases hbig : nb < nA
            · have hbig' : (nb : Int) < (nA : Int) := by omega
              have hq' : ¬ (N : Int) < (q : Int) := by omega
              have hq2 := Aside0.mk (show ¬ N < q by omega)
              clear hgate
              go_wp2_with (first | (go_at_call 11; refine (awake_any _ HMG.out).mono ?_; rintro e w1 ⟨rfl, hb1⟩; have HB1 := Aside0.mk hb1; clear hb1) | (go_at_call 12; refine (great_at A l N c HN.out _ HG.out _ (Kd.C_below H.out HB1.out) HS.out).mono ?_; rintro e w2 ⟨rfl, rfl⟩) | (go_at_call_of 16 (Value.slice A N c); refine (make_at A l N c HN.out _ (Kd.C_below H.out HB1.out) HS.out (Kd.C_below HMG.out HB1.out) nb HNB.out _ HE.out).mono ?_; rintro e w3 ⟨Aa, ca, rfl, ho, hb⟩; have HOb := Aside0.mk ho; have HB3 := Aside0.mk (below_step HB1.out hb); clear ho hb) | (go_at_call 24; refine (disk_nil (some ⟨ga, 0, none⟩) nb ca _).mono ?_; rintro e w10 ⟨B1, B2, rfl, k1, k2, hb⟩; have HK10 := Aside0.mk (disk_at (Kd.R_below HRL.out hb) k1 k2); have HRL10 := Aside0.mk (Kd.R_below HRL.out hb); have HB10 := Aside0.mk (below_step HB9.out hb); clear k1 k2 hb) | (go_at_call 22; refine (read_disk HK10.out (Kd.C_below HMG.out HB10.out) _ HFF.out _ HEE.out _ HNN.out).mono ?_; rintro e w11 ⟨Ax, cx, rfl, hcx, hC, hb⟩; have HX11 := Aside0.mk hC; have HRL11 := Aside0.mk (Kd.R_below HRL10.out hb); have HB11 := Aside0.mk (below_step HB10.out hb); clear hC hb) | (go_at_call_of 16 (Value.slice Ax nm cx); refine (make_at Ax m nm cx HNN.out _ HX11.out HMS.out (Kd.C_below HMG.out HB11.out) nA HNA.out 0 HME.out).mono ?_; rintro e w12 ⟨Ab, cb, rfl, ho, hb⟩; have HOA := Aside0.mk ho; have HX12 := Aside0.mk (Kd.C_below HX11.out hb); have HRL12 := Aside0.mk (Kd.R_below HRL11.out hb); have HB12 := Aside0.mk (below_step HB11.out hb); clear ho hb) | (go_at_call 19; refine (same_at Ax A m l nm N cx c HNN.out HN.out false HNE.out _ HX12.out (Kd.C_below H.out HB12.out)).mono ?_; rintro e w13 ⟨rfl, hb⟩; have HSB := Aside0.mk hb; clear hb))
              go_meet
              case rel => exact ⟨by rw [decide_eq_false hq2.out], HSB⟩
            · have hbig' : ¬ (nb : Int) < (nA : Int) := by omega
              clear hgate
              go_wp2_with (first | (go_at_call 11; refine (awake_any _ HMG.out).mono ?_; rintro e w1 ⟨rfl, hb1⟩; have HB1 := Aside0.mk hb1; clear hb1) | (go_at_call 12; refine (great_at A l N c HN.out _ HG.out _ (Kd.C_below H.out HB1.out) HS.out).mono ?_; rintro e w2 ⟨rfl, rfl⟩) | (go_at_call_of 16 (Value.slice A N c); refine (make_at A l N c HN.out _ (Kd.C_below H.out HB1.out) HS.out (Kd.C_below HMG.out HB1.out) nb HNB.out _ HE.out).mono ?_; rintro e w3 ⟨Aa, ca, rfl, ho, hb⟩; have HOb := Aside0.mk ho; have HB3 := Aside0.mk (below_step HB1.out hb); clear ho hb) | (go_at_call 24; refine (disk_nil (some ⟨ga, 0, none⟩) nb ca _).mono ?_; rintro e w10 ⟨B1, B2, rfl, k1, k2, hb⟩; have HK10 := Aside0.mk (disk_at (Kd.R_below HRL.out hb) k1 k2); have HRL10 := Aside0.mk (Kd.R_below HRL.out hb); have HB10 := Aside0.mk (below_step HB9.out hb); clear k1 k2 hb) | (go_at_call 22; refine (read_disk HK10.out (Kd.C_below HMG.out HB10.out) _ HFF.out _ HEE.out _ HNN.out).mono ?_; rintro e w11 ⟨Ax, cx, rfl, hcx, hC, hb⟩; have HX11 := Aside0.mk hC; have HRL11 := Aside0.mk (Kd.R_below HRL10.out hb); have HB11 := Aside0.mk (below_step HB10.out hb); clear hC hb) | (go_at_call_of 16 (Value.slice Ax nm cx); refine (make_at Ax m nm cx HNN.out _ HX11.out HMS.out (Kd.C_below HMG.out HB11.out) nA HNA.out 0 HME.out).mono ?_; rintro e w12 ⟨Ab, cb, rfl, ho, hb⟩; have HOA := Aside0.mk ho; have HX12 := Aside0.mk (Kd.C_below HX11.out hb); have HRL12 := Aside0.mk (Kd.R_below HRL11.out hb); have HB12 := Aside0.mk (below_step HB11.out hb); clear ho hb) | (go_at_call 19; refine (same_at Ax A m l nm N cx c HNN.out HN.out false HNE.out _ HX12.out (Kd.C_below H.out HB12.out)).mono ?_; rintro e w13 ⟨rfl, hb⟩; have HSB := Aside0.mk hb; clear hb))
              go_meet
              case rel => exact ⟨rfl, HSB⟩
          obtain ⟨rfl, HSB⟩ := hcut
          obtain ⟨wd, hwd⟩ : ∃ wd, wd = wc := ⟨_, rfl⟩
          rw [← hwd] at HSB ⊢
          clear hwd hgate
          go_wp2_with fail
          go_loopg [14] nA (fun gk v14 wr => ∃ i : Nat, i ≤ nA ∧ Aside0 (gk = nA - i) ∧ v14 = .int .i64 i ∧ Aside0 (Below w12.heap.size w12 wr))
          case atStart => exact ⟨0, Nat.zero_le _, ⟨rfl⟩, rfl, HSB⟩
          case round =>
            obtain ⟨i, hi, HGK, rfl, HBr⟩ := hrel
            by_cases hlt : i < nA ∧ i < nb
            · obtain ⟨hl1, hl2⟩ := hlt
              obtain ⟨gb, rfl, _, _⟩ := R_formV HOA.out (by omega)
              have h1 := block_in (Kd.C_below (mk_rowsP HOA.out HNA.out) HBr.out) hl1
              have h2 := block_in (Kd.C_below (mk_rowsP HRL12.out HLL.out) HBr.out) hl2
              have he0 := HAT.out i (by rw [← HMV.out, HNA.out]; exact hl1) hl2
              rw [← HMV.out] at he0
              rw [he0] at h1
              obtain ⟨X2, hX2⟩ : ∃ X, X = gt L' i := ⟨_, rfl⟩
              rw [← hX2] at h1 h2
              have H1 := Aside0.mk h1
              have H2 := Aside0.mk h2
              have he : ∀ w, (Op.equalIn 10000 40 (.agg (bytesV X2).toArray) (.agg (bytesV X2).toArray)).run Tryd.prog w = .ok true w := eql_block X2 X2 h1.1 h1.1 true (by simp)
              clear h1 h2 hX2 he0
              go_wp2_with fail
              (refine wp_region_quiet_lit (by kernel_rfl) (by kernel_rfl) ?_)
              repeat (first | (refine load_block_quiet rfl _ rfl ⟨ga, i * 32, none⟩ rfl X2 H2.out.1 H2.out.2 ?_; dsimp only [Act.put]; simp only [List.setIfInBounds_toArray, List.set_cons_succ, List.set_cons_zero]) | (refine load_block_quiet rfl _ rfl ⟨gb, i * 32, none⟩ rfl X2 H1.out.1 H1.out.2 ?_; dsimp only [Act.put]; simp only [List.setIfInBounds_toArray, List.set_cons_succ, List.set_cons_zero]) | go_big_quiet_step (fail))
              refine wpQuiet_nil ?_
              intro _ hw'
              obtain ⟨nq, hw''⟩ := hw'
              subst hw''
              clear he
              go_wp2_with fail
              go_roundg (nA - (i + 1))
              case measure => have := HGK.out; omega
              case rel => exact ⟨i + 1, by omega, ⟨rfl⟩, by go_num, ⟨pw_below_drewN HBr.out _⟩⟩
            · go_upto_region 17 with fail
              go_cut [107] (fun v107 wd => v107 = .bool false ∧ Aside0 (wd = wr))
              case first =>
                by_cases hl1 : i < nA
                · have hl2 : ¬ i < nb := fun h => hlt ⟨hl1, h⟩
                  clear hlt
                  go_wp2_with fail
                  go_meet
                  case rel => exact ⟨rfl, ⟨rfl⟩⟩
                · clear hlt
                  go_wp2_with fail
                  go_meet
                  case rel => exact ⟨rfl, ⟨rfl⟩⟩
              obtain ⟨rfl, HWC⟩ := hcut
              rw [HWC.out]
              clear HWC hlt
              by_cases hqN : q ≤ N
              · have hqN' : (q : Int) ≤ (N : Int) := by omega
                go_wp2_with fail
                go_ret
                exact ⟨rfl, below_step HB12.out HBr.out⟩
              · have hqN' : ¬ (q : Int) ≤ (N : Int) := by omega
                obtain ⟨hmN, _, hface, i0, hi0, hone⟩ := HONE.out (by omega)
                have hnmN : nm = N := by rw [← HNN.out]; exact hmN
                subst hnmN
                have HFACE := Aside0.mk hface
                have HONE2 := Aside0.mk hone
                have HX12' := HX12
                clear hmN hface hone hqN
                go_wp2_with fail
                go_loopg [16, 15] nm (fun gk v16 v15 wz => ∃ i u : Nat, i ≤ nm ∧ u ≤ i ∧ Aside0 (gk = nm - i) ∧ v16 = .int .i64 i ∧ v15 = .int .i64 u ∧ Aside0 (u = if i0 < i then 1 else 0) ∧ Aside0 (Below w12.heap.size w12 wz))
                case atStart => exact ⟨0, 0, Nat.zero_le _, Nat.zero_le _, ⟨rfl⟩, rfl, rfl, ⟨by rw [if_neg (by omega)]⟩, HBr⟩
                case round =>
                  clear HBr HGK
                  obtain ⟨i, u, hi, hui, HGK, rfl, rfl, HU, HBr⟩ := hrel
                  by_cases hlt : i < nm
                  · obtain ⟨ad, A1, d1, hA, g0, g1, _, hd1⟩ := file_at (Kd.C_below (Kd.C_below H.out HB12.out) HBr.out) hlt
                    obtain ⟨adx, Ax1, dx1, hAx, x0, x1, _, hdx⟩ := file_at (Kd.C_below HX12.out HBr.out) hlt
                    obtain ⟨f1, f2⟩ := HFACE.out i hlt
                    have f3 := HONE2.out i hlt
                    obtain ⟨fm, hfm⟩ : ∃ f, f = gt m i := ⟨_, rfl⟩
                    obtain ⟨fl, hfl⟩ : ∃ f, f = gt l i := ⟨_, rfl⟩
                    rw [← hfm] at x0 x1 hdx f1 f2 f3
                    rw [← hfl] at g0 g1 hd1 f1 f2 f3
                    rw [f1] at x0
                    have HD1 := Aside0.mk hd1
                    have HDX := Aside0.mk hdx
                    have HF3 := Aside0.mk f3
                    have f2' : ((fm.data.length : Int) != (fl.data.length : Int)) = false := bne_eq_false_iff_eq.mpr (by omega)
                    have hlt' : (i : Int) < (nm : Int) := by omega
                    subst hA hAx
                    clear hd1 hdx f1 f2 f3 hfm hfl
                    go_wp2_with fail
                    go_quiet (fail)
                    have i1 : IntKind.i64.wrap ((u : Int) + 1) = (u : Int) + 1 := IntWalk.i64_in _ (by omega)
                    by_cases hii : i = i0
                    · have HR0 : Aside0 (decide (fm.data = fl.data) = false) := ⟨by rw [HF3.out, decide_eq_true hii]; rfl⟩
                      have HU2 : Aside0 (u + 1 = if i0 < i + 1 then 1 else 0) := ⟨by rw [HU.out, if_neg (by omega), if_pos (by omega)]⟩
                      clear hii
                      go_wp2_with fail
                      go_quiet ((go_at_call 26; exact (same01_as Ax1 A1 fm.data fl.data dx1 d1 false HR0.out _ (Kd.C_drewN HDX.out _) (Kd.C_drewN HD1.out _)).mono (fun e w' h => ⟨h.1, drew_add h.2⟩)))
                      go_wp2_with fail
                      go_roundg (nm - (i + 1))
                      case measure => have := HGK.out; omega
                      case rel => exact ⟨i + 1, u + 1, by omega, by omega, ⟨rfl⟩, by go_num, by go_num, HU2, ⟨pw_below_drewN HBr.out _⟩⟩
                    · have HR0 : Aside0 (decide (fm.data = fl.data) = true) := ⟨by rw [HF3.out, decide_eq_false hii]; rfl⟩
                      have HU2 : Aside0 (u = if i0 < i + 1 then 1 else 0) := ⟨by rw [HU.out]; by_cases h : i0 < i; rw [if_pos h, if_pos (by omega)]; rw [if_neg h, if_neg (by omega)]⟩
                      clear hii
                      go_wp2_with fail
                      go_quiet ((go_at_call 26; exact (same01_as Ax1 A1 fm.data fl.data dx1 d1 true HR0.out _ (Kd.C_drewN HDX.out _) (Kd.C_drewN HD1.out _)).mono (fun e w' h => ⟨h.1, drew_add h.2⟩)))
                      go_wp2_with fail
                      go_roundg (nm - (i + 1))
                      case measure => have := HGK.out; omega
                      case rel => exact ⟨i + 1, u, by omega, by omega, ⟨rfl⟩, by go_num, rfl, HU2, ⟨pw_below_drewN HBr.out _⟩⟩
                  · have hu1 : u = 1 := by rw [HU.out, if_pos (by omega)]
                    have hu1' : ((u : Int) == 1) = true := by rw [hu1]; rfl
                    clear hu1
                    go_wp2_with fail
                    go_ret
                    exact ⟨rfl, below_step HB12.out HBr.out⟩
      · have hE1 : (E != 0) = true := bne_iff_ne.mpr hE0
        go_enter Tryd.func8, Tryd.ntmps8
        go_wp2_with (first | (go_at_call 11; refine (awake_any _ HMG.out).mono ?_; rintro e w1 ⟨rfl, hb1⟩; have HB1 := Aside0.mk hb1; clear hb1) | (go_at_call 12; refine (great_at A l N c HN.out _ HG.out _ (Kd.C_below H.out HB1.out) HS.out).mono ?_; rintro e w2 ⟨rfl, rfl⟩) | (go_at_call_of 16 (Value.slice A N c); refine (make_at A l N c HN.out _ (Kd.C_below H.out HB1.out) HS.out (Kd.C_below HMG.out HB1.out) nb HNB.out _ HE.out).mono ?_; rintro e w3 ⟨Aa, ca, rfl, ho, hb⟩; have HOb := Aside0.mk ho; have HB3 := Aside0.mk (below_step HB1.out hb); clear ho hb) | (go_at_call 24; refine (disk_nil (some ⟨ga, 0, none⟩) nb ca _).mono ?_; rintro e w10 ⟨B1, B2, rfl, k1, k2, hb⟩; have HK10 := Aside0.mk (disk_at (Kd.R_below HRL.out hb) k1 k2); have HRL10 := Aside0.mk (Kd.R_below HRL.out hb); have HB10 := Aside0.mk (below_step HB9.out hb); clear k1 k2 hb) | (go_at_call 22; refine (read_disk HK10.out (Kd.C_below HMG.out HB10.out) _ HFF.out _ HEE.out _ HNN.out).mono ?_; rintro e w11 ⟨Ax, cx, rfl, hcx, hC, hb⟩; have HX11 := Aside0.mk hC; have HRL11 := Aside0.mk (Kd.R_below HRL10.out hb); have HB11 := Aside0.mk (below_step HB10.out hb); clear hC hb) | (go_at_call_of 16 (Value.slice Ax nm cx); refine (make_at Ax m nm cx HNN.out _ HX11.out HMS.out (Kd.C_below HMG.out HB11.out) nA HNA.out 0 HME.out).mono ?_; rintro e w12 ⟨Ab, cb, rfl, ho, hb⟩; have HOA := Aside0.mk ho; have HX12 := Aside0.mk (Kd.C_below HX11.out hb); have HRL12 := Aside0.mk (Kd.R_below HRL11.out hb); have HB12 := Aside0.mk (below_step HB11.out hb); clear ho hb) | (go_at_call 19; refine (same_at Ax A m l nm N cx c HNN.out HN.out false HNE.out _ HX12.out (Kd.C_below H.out HB12.out)).mono ?_; rintro e w13 ⟨rfl, hb⟩; have HSB := Aside0.mk hb; clear hb))
        go_ret
        exact ⟨rfl, HB3.out⟩
  · clear hg
    go_enter Tryd.func8, Tryd.ntmps8
    go_wp2_with (first | (go_at_call 11; refine (awake_any _ HMG.out).mono ?_; rintro e w1 ⟨rfl, hb1⟩; have HB1 := Aside0.mk hb1; clear hb1) | (go_at_call 12; refine (great_at A l N c HN.out _ HG.out _ (Kd.C_below H.out HB1.out) HS.out).mono ?_; rintro e w2 ⟨rfl, rfl⟩) | (go_at_call_of 16 (Value.slice A N c); refine (make_at A l N c HN.out _ (Kd.C_below H.out HB1.out) HS.out (Kd.C_below HMG.out HB1.out) nb HNB.out _ HE.out).mono ?_; rintro e w3 ⟨Aa, ca, rfl, ho, hb⟩; have HOb := Aside0.mk ho; have HB3 := Aside0.mk (below_step HB1.out hb); clear ho hb) | (go_at_call 24; refine (disk_nil (some ⟨ga, 0, none⟩) nb ca _).mono ?_; rintro e w10 ⟨B1, B2, rfl, k1, k2, hb⟩; have HK10 := Aside0.mk (disk_at (Kd.R_below HRL.out hb) k1 k2); have HRL10 := Aside0.mk (Kd.R_below HRL.out hb); have HB10 := Aside0.mk (below_step HB9.out hb); clear k1 k2 hb) | (go_at_call 22; refine (read_disk HK10.out (Kd.C_below HMG.out HB10.out) _ HFF.out _ HEE.out _ HNN.out).mono ?_; rintro e w11 ⟨Ax, cx, rfl, hcx, hC, hb⟩; have HX11 := Aside0.mk hC; have HRL11 := Aside0.mk (Kd.R_below HRL10.out hb); have HB11 := Aside0.mk (below_step HB10.out hb); clear hC hb) | (go_at_call_of 16 (Value.slice Ax nm cx); refine (make_at Ax m nm cx HNN.out _ HX11.out HMS.out (Kd.C_below HMG.out HB11.out) nA HNA.out 0 HME.out).mono ?_; rintro e w12 ⟨Ab, cb, rfl, ho, hb⟩; have HOA := Aside0.mk ho; have HX12 := Aside0.mk (Kd.C_below HX11.out hb); have HRL12 := Aside0.mk (Kd.R_below HRL11.out hb); have HB12 := Aside0.mk (below_step HB11.out hb); clear ho hb) | (go_at_call 19; refine (same_at Ax A m l nm N cx c HNN.out HN.out false HNE.out _ HX12.out (Kd.C_below H.out HB12.out)).mono ?_; rintro e w13 ⟨rfl, hb⟩; have HSB := Aside0.mk hb; clear hb))
    go_ret
    exact ⟨rfl, HB1.out⟩
end Go.Proofs.YtahjadbjokkjnaaDoor
