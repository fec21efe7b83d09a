/-
  FsReads, walked: it returns true.
-/
import Derived.Test.YtahjadbjokkjnaaDoorRa2
namespace Go.Proofs.YtahjadbjokkjnaaDoor
open Go.RowKit Go.Proofs.YtahjadbjokkjnaaDoorW.PrintWords Go.Proofs.YtahjadbjokkjnaaDoorW.PrintLast Go.Proofs.YtahjadbjokkjnaaDoorW.PrintMore
set_option linter.unusedVariables false
set_option linter.unusedSimpArgs false

theorem equalIn_nil_nil (d : Nat) (w : World) : (Op.equalIn (d + 1) 45 .nilFunc .nilFunc).run Tryd.prog w = .ok true w := by
  simp [Op.equalIn, run_underlying Tryd.underlying45]
theorem eql_nil_nil (w : World) : (binOp .eql 45 .nilFunc .nilFunc).run Tryd.prog w = .ok (.bool true) w := by
  simp only [binOp]
  simp [Op.equal, Op.maxDepth, equalIn_nil_nil 9999 w]
set_option maxRecDepth 8000 in
theorem read_nil (w : World) : Calls Tryd.prog 22 #[.nilFunc] w fun e w' => e = .returned (.tuple #[.slice none 0 0, .int .i64 1]) ∧ Below w.heap.size w w' := by
  have hnn := eql_nil_nil
  have hb := below_alloc (below_alloc (Below.refl w.heap.size w) (.cells #[.nilFunc] 45)) (.cells #[.int .i64 0] 3)
  go_enter Tryd.func22, Tryd.ntmps22
  go_wp2
  refine bodyPost_ret (results_tmp2 rfl _ _ _) rfl ?_
  exact ⟨rfl, below_alloc (Below.refl _ _) _⟩
def rdF (tell : Nat → List UInt8) : List File := (readB tell).getD []
def rdE (tell : Nat → List UInt8) : Int := if (readB tell).isSome then 0 else 3
/-- How many blocks the disk has; 0: there is none. -/
def rdN (tell : Nat → List UInt8) : Nat := match readB tell with | some l => (makeB l).length | none => 0
theorem get_32 {w0 : World} {AB LB mb : Nat} {L : List (List UInt8)} {A : Option Addr} {N c : Nat} (h : GetAt w0 AB LB mb L A N c) (n : Nat) : (tellR L n).length = 32 := by
  unfold tellR
  split
  · next hi =>
    obtain ⟨_, _, h, _⟩ := block_at h.row (k := n) (by rw [← h.len]; exact hi)
    exact h
  · rfl
/-- fs.Read of the disk that counts. -/
theorem get_read {w0 : World} {AB LB mb : Nat} {L : List (List UInt8)} {A : Option Addr} {N c : Nat} (h : GetAt w0 AB LB mb L A N c) (hmg : MagicAt w0) (F : List File) (hF : rdF (tellR L) = F) (n : Nat) (hn : F.length = n) (E : Int) (hE : rdE (tellR L) = E) (nb : Nat) (hnb : rdN (tellR L) = nb) :
    Calls Tryd.prog 22 #[.func (.func 21) #[] #[.pointer (some ⟨AB, 0, none⟩), .pointer (some ⟨LB, 0, none⟩)]] w0 fun e w' => ∃ A' c' m, e = .returned (.tuple #[.slice A' n c', .int .i64 E]) ∧ kFile.C w' A' n F ∧ JC w0 mb m w' ∧ m ≤ 73 ∧ (0 < nb → m ≤ nb) := by
  have hl := get_32 h
  refine (read_any _ _ w0 _ (tellR L) hl (get_tells h) ⟨⟨rfl, rfl, rfl, Nat.le_refl _, fun _ _ _ => rfl⟩, h.mob⟩ hmg (fun _ W hJ => byteC_map h.mob hJ.1 hmg)).mono fun e w' hp => ?_
  subst hF hn hE hnb
  rcases hp with ⟨h1, he, m, hm, hJ⟩ | ⟨l, A', c', h1, he, hlc, hC, hJ⟩
  · refine ⟨none, 0, m, ?_, ?_, hJ, hm, ?_⟩
    · rw [he]; unfold rdF rdE; rw [h1]; rfl
    · unfold rdF; rw [h1]; exact Kd.C_nil _ _
    · unfold rdN; rw [h1]; intro h; exact absurd h (by simp)
  · obtain ⟨h8, ht, _, hlen⟩ := read_made hl h1
    have hsz := makeB_size l
    have hbt := blocksTo_le ht l.length (Nat.le_refl _)
    refine ⟨A', c', _, ?_, ?_, hJ, ?_, ?_⟩
    · rw [he]; unfold rdF rdE; rw [h1]; rfl
    · unfold rdF; rw [h1]; exact hC
    · rw [← hlen]; omega
    · unfold rdN; rw [h1]; intro _; rw [← hlen]; exact Nat.le_refl _
/-- The document's Read. -/
theorem ref_any (A : Option Addr) (L : List (List UInt8)) (N c : Nat) (hN : L.length = N) (w : World) (h : kBlock.C w A N L) (hl : ∀ n, (tellR L n).length = 32) (F : List File) (hF : rdF (tellR L) = F) (n : Nat) (hn : F.length = n) (nb : Nat) (hnb : rdN (tellR L) = nb) :
    Calls Tryd.prog 23 #[.slice A N c] w fun e w' => ∃ A' c', e = .returned (.tuple #[.slice A' n c', .int .i64 (nb : Int)]) ∧ kFile.C w' A' n F ∧ Below w.heap.size w w' := by
  refine (refRead_any A L N c hN w h).mono fun e w' hp => ?_
  subst hF hn hnb
  obtain ⟨hb, ⟨h1, he⟩ | ⟨l, A', c', h1, he, hC⟩⟩ := hp
  · rw [ref_read hl] at h1
    refine ⟨none, 0, ?_, ?_, hb⟩
    · rw [he]; unfold rdF rdN; rw [h1]; rfl
    · unfold rdF; rw [h1]; exact Kd.C_nil _ _
  · rw [ref_read hl] at h1
    refine ⟨A', c', ?_, ?_, hb⟩
    · rw [he]; unfold rdF rdN; rw [h1]; rfl
    · unfold rdF; rw [h1]; exact hC
theorem plain_as (A : Option Addr) (l : List File) (n c : Nat) (hn : l.length = n) (w : World) (h : kFile.C w A n l) (hl : n ≤ 1000000) :
    Calls Tryd.prog 15 #[.slice A n c] w fun e w' => ∃ Ap cp, e = .returned (.slice Ap n cp) ∧ kFile.C w' Ap n l ∧ Below w.heap.size w w' := by
  subst hn
  exact plain_any A l c w h hl
theorem refSame_as (A B : Option Addr) (l : List File) (n c1 c2 : Nat) (hn : l.length = n) (w : World) (h1 : kFile.C w A n l) (h2 : kFile.C w B n l) :
    Calls Tryd.prog 20 #[.slice A n c1, .slice B n c2] w fun e w' => e = .returned (.bool true) ∧ Below w.heap.size w w' := by
  subst hn
  refine (refSame_any A B l l c1 c2 true (sameB_refl l) w h1 h2).mono fun e w' hp => ?_
  obtain ⟨he, hw⟩ := hp
  exact ⟨he, by first | exact hw | (obtain ⟨q, rfl⟩ := hw; exact pw_below_drewN (Below.refl _ _) _)⟩
set_option maxRecDepth 8000 in
set_option maxHeartbeats 6400000 in
theorem law_reads (A : Option Addr) (L : List (List UInt8)) (c : Nat) (w : World) (h0 : kBlock.C w A L.length L) (hmg : MagicAt w) :
    Calls Tryd.prog 6 #[.slice A L.length c] w fun e w' => e = .returned (.bool true) ∧ Below w.heap.size w w' := by
  obtain ⟨N, hN⟩ : ∃ N, L.length = N := ⟨_, rfl⟩
  rw [hN] at h0 ⊢
  have hmx := Kd.C_max h0
  have hmm := @run_makeMap Tryd.prog
  have H := Aside0.mk h0
  have HN := Aside0.mk hN
  have HMG := Aside0.mk hmg
  have HB0 := Aside0.mk (below_alloc (Below.refl w.heap.size w) (.cells #[.slice A N c] 33))
  have l0 := blk_cell (blk_new w (.cells #[.slice A N c] 33)) 0
  simp only [List.getElem?_toArray, List.getElem?_cons_zero] at l0
  have HL0 := Aside0.mk l0
  clear h0 hmg hN l0
  by_cases h80 : 80 < N
  · have h80' : (80 : Int) < (N : Int) := by omega
    go_enter Tryd.func6, Tryd.ntmps6
    go_wp2_with (go_at_call 11; refine (awake_any _ (Kd.C_below HMG.out HB0.out)).mono ?_; rintro e w2 ⟨rfl, hb⟩; have HB2 := Aside0.mk (below_step HB0.out hb); have l2 := cell_old hb HL0.out; clear hb)
    go_ret
    exact ⟨rfl, HB2.out⟩
  · have h80' : ¬ (80 : Int) < (N : Int) := by omega
    go_enter Tryd.func6, Tryd.ntmps6
    go_upto_region 7 with (go_at_call 11; refine (awake_any _ (Kd.C_below HMG.out HB0.out)).mono ?_; rintro e w2 ⟨rfl, hb⟩; have HB2 := Aside0.mk (below_step HB0.out hb); have l2 := cell_old hb HL0.out; clear hb)
    have hcnt := Cnt.made w2
    have hb1 := below_alloc (Below.refl w2.heap.size w2) (.map #[] 0)
    have hbo := below_alloc (Below.refl (w2.alloc (.map #[] 0)).heap.size (w2.alloc (.map #[] 0))) (.cells #[.map (some w2.heap.size)] 44)
    have ha := blk_new (w2.alloc (.map #[] 0)) (.cells #[.map (some w2.heap.size)] 44)
    have hB20 := below_alloc hb1 (.cells #[.map (some w2.heap.size)] 44)
    rw [World.size_alloc] at ha hbo
    obtain ⟨w0, hw0⟩ : ∃ w0, w0 = (w2.alloc (.map #[] 0)).alloc (.cells #[.map (some w2.heap.size)] 44) := ⟨_, rfl⟩
    rw [← hw0] at hbo ha hB20 ⊢
    have HG : Aside0 (GetAt w0 (w2.heap.size + 1) w.heap.size w2.heap.size L A N c) := ⟨⟨HN.out, by rw [blk_cell ha 0]; rfl, cell_old hB20 l2, Kd.C_below (Kd.C_below H.out HB2.out) hB20, hcnt.below (Nat.lt_succ_self _) hbo⟩⟩
    have HM0 : Aside0 (MagicAt w0) := ⟨Kd.C_below (Kd.C_below HMG.out HB2.out) hB20⟩
    have HB3 := Aside0.mk (below_step HB2.out hB20)
    obtain ⟨mb, hmb⟩ : ∃ mb, mb = w2.heap.size := ⟨_, rfl⟩
    obtain ⟨AB, hAB⟩ : ∃ AB, AB = w2.heap.size + 1 := ⟨_, rfl⟩
    rw [← hAB, ← hmb] at HG
    rw [← hAB, ← hmb]
    have HWM : Aside0 (w.heap.size ≤ mb) := ⟨by rw [hmb]; exact HB2.out.size⟩
    obtain ⟨F, hF⟩ : ∃ F, rdF (tellR L) = F := ⟨_, rfl⟩
    obtain ⟨n, hn⟩ : ∃ n, F.length = n := ⟨_, rfl⟩
    obtain ⟨E, hE⟩ : ∃ E, rdE (tellR L) = E := ⟨_, rfl⟩
    obtain ⟨nb, hnb⟩ : ∃ nb, rdN (tellR L) = nb := ⟨_, rfl⟩
    have HF := Aside0.mk hF
    have HNF := Aside0.mk hn
    have HE := Aside0.mk hE
    have HNB := Aside0.mk hnb
    clear hcnt hb1 hbo ha hB20 hw0 l2 hmb hAB hF hn hE hnb hmm
    go_upto_region 8 with (go_at_call 22; refine (get_read HG.out HM0.out F HF.out n HNF.out E HE.out nb HNB.out).mono ?_; rintro e w3 ⟨Ag, cg, m, rfl, hC, hJ, hm, hmn⟩; have HC3 := Aside0.mk hC; have HJ3 := Aside0.mk hJ; have HMM := Aside0.mk hmn; clear hC hJ hmn)
    have l3 := map_cell HG.out.mob HJ3.out.1 HG.out.lcell
    go_upto_region 9 with (go_at_call 23; refine (ref_any A L N c HN.out _ (blockC_map HG.out.mob HJ3.out.1 HG.out.row) (get_32 HG.out) F HF.out n HNF.out nb HNB.out).mono ?_; rintro e w4 ⟨Ar, cr, rfl, hC, hb⟩; have HR4 := Aside0.mk hC; have HC4 := Aside0.mk (Kd.C_below HC3.out hb); have HJ4 := Aside0.mk (JC.keep HG.out.mob.lt HJ3.out (hb.mono HJ3.out.1.size)); clear hC hb)
    clear l3
    have a4 := map_cell HG.out.mob HJ4.out.1 HG.out.acell
    obtain ⟨D, left, cnt, w5, hD, hrg, hra, hsub, hg5⟩ := cnt_range HJ4.out.2
    have HD := Aside0.mk hD
    have HRA := Aside0.mk hra
    have HSUB := Aside0.mk hsub
    have hb45 : Below w4.heap.size w4 w5 := ⟨hg5.os, hg5.tape, hg5.output, hg5.size, fun k hk => hg5.block k hk (by simp)⟩
    have HB45 := Aside0.mk hb45
    have HBW4 : Aside0 (∀ W, Below w4.heap.size w4 W → Below w.heap.size w W) := ⟨fun W hb => ⟨(hb.os.trans HJ4.out.1.os).trans HB3.out.os, (hb.tape.trans HJ4.out.1.tape).trans HB3.out.tape, (hb.output.trans HJ4.out.1.output).trans HB3.out.output, Nat.le_trans HB3.out.size (Nat.le_trans HJ4.out.1.size hb.size), fun k hk =>
      (hb.block k (Nat.lt_of_lt_of_le hk (Nat.le_trans HB3.out.size HJ4.out.1.size))).trans ((HJ4.out.1.block k (Nat.lt_of_lt_of_le hk HB3.out.size) (fun e => by injection e with e; have := HWM.out; omega)).trans (HB3.out.block k hk))⟩⟩
    clear hD hra hsub hg5 hb45
    go_upto_region 10 with fail
    clear hrg a4
    go_loopg [9, 10] cnt (fun gk _ _ wr => ∃ (left' : Lit → Bool) (cnt' : Nat), Aside0 (gk = cnt') ∧ Aside0 (wr.ranges Tryd.prog 3 (plainElem Tryd.prog 3) mb w4.heap.size m D left' cnt') ∧ Aside0 (∀ kl, left' kl = true → Maps.has D kl = true) ∧ Aside0 (Below w4.heap.size w4 wr))
    case atStart => exact ⟨left, cnt, ⟨rfl⟩, HRA, HSUB, HB45⟩
    case round =>
      obtain ⟨left', cnt', HGK, HRr, HSr, HBr⟩ := hrel
      rcases cnt_next HRr.out HD.out HSr.out 0 with hrun | ⟨i, w', cnt2, left2, him, hrun, hr2, hs2, hc2, hg2, hent⟩
      · have hfin : (nb = 0 ∧ E = 3 ∧ n = 0) ∨ (0 < nb ∧ E = 0 ∧ n ≤ 8) := by
          rw [← HNB.out, ← HE.out, ← HNF.out, ← HF.out]
          unfold rdN rdE rdF
          cases hrb : readB (tellR L) with
          | none => exact .inl ⟨rfl, rfl, rfl⟩
          | some l =>
            refine .inr ⟨?_, rfl, (read_made (get_32 HG.out) hrb).1⟩
            show 0 < (makeB l).length
            rw [makeB_size]
            omega
        rcases hfin with ⟨e1, e2, e3⟩ | ⟨hp, e2, hn8⟩
        · subst e1 e2 e3
          go_wp2_with (go_at_call 22; refine (read_nil _).mono ?_; rintro e w6 ⟨rfl, hb⟩; have HB6 := Aside0.mk (below_step HBr.out hb); clear hb)
          go_ret
          exact ⟨rfl, HBW4.out _ HB6.out⟩
        · subst e2
          have q2 : ((nb : Int) == 0) = false := beq_eq_false_iff_ne.mpr (by omega)
          have q3 : ¬ ((nb : Int) = 0) := by omega
          go_wp2_with (first | (go_at_call 22; refine (read_nil _).mono ?_; rintro e w6 ⟨rfl, hb⟩; have HB6 := Aside0.mk (below_step HBr.out hb); clear hb) | (go_at_call 15; refine (plain_as Ag F n cg HNF.out _ (Kd.C_below HC4.out HB6.out) (by omega)).mono ?_; rintro e w7 ⟨Ap, cp, rfl, hC, hb⟩; have HC7 := Aside0.mk hC; have HB7 := Aside0.mk (below_step HB6.out hb); clear hC hb) | (go_at_call 20; refine (refSame_as Ap Ar F n cp cr HNF.out _ HC7.out (Kd.C_below HR4.out HB7.out)).mono ?_; rintro e w8 ⟨rfl, hb⟩; have HB8 := Aside0.mk (below_step HB7.out hb); clear hb))
          go_ret
          exact ⟨rfl, HBW4.out _ HB8.out⟩
      · have HR2 := Aside0.mk hr2
        have HS2 := Aside0.mk hs2
        have HC2 := Aside0.mk hc2
        have HB2' : Aside0 (Below w4.heap.size w4 w') := ⟨pw_below_grown HBr.out (some w4.heap.size) HBr.out.size hg2 (fun k hk => by cases hk; exact Nat.le_refl _)⟩
        have q0 : ¬ ((i : Int) < 0) := by omega
        have q1 : ¬ ((72 : Int) < (i : Int)) := by omega
        clear hr2 hs2 hc2 hg2
        by_cases hnb0 : 0 < nb
        · have q2 : (0 : Int) < (nb : Int) := by omega
          have q3 : ¬ ((nb : Int) ≤ (i : Int)) := by have := HMM.out hnb0; omega
          go_wp2_with fail
          go_roundg cnt2
          case measure => have := HGK.out; have := HC2.out; omega
          case rel => exact ⟨left2, cnt2, ⟨rfl⟩, HR2, HS2, HB2'⟩
        · have q2 : ¬ ((0 : Int) < (nb : Int)) := by omega
          go_wp2_with fail
          go_roundg cnt2
          case measure => have := HGK.out; have := HC2.out; omega
          case rel => exact ⟨left2, cnt2, ⟨rfl⟩, HR2, HS2, HB2'⟩
end Go.Proofs.YtahjadbjokkjnaaDoor
