/-
  Chapter 50, PastParts, walked: the history of the first moments is the first part of the history; moments that aren't told may be left out.
-/
import Derived.Test.YtjogpfijkhhloaaLawOf
namespace Go.Proofs.Ytjogpfijkhhloaa
open Go.RowKit Go.Proofs.YtjogpfijkhhloaaW.PrintWords Go.Proofs.YtjogpfijkhhloaaW.PrintLast Go.Proofs.YtjogpfijkhhloaaW.PrintMore
set_option linter.unusedVariables false
set_option linter.unusedSimpArgs false

theorem ofStep_pre (f : Int → List File × Bool) (nm : ByteArray) (out : List Vers) (m : Int) : out <+: ofStep f nm out m := by
  unfold ofStep
  split
  · split
    · exact List.prefix_append _ _
    · split
      · exact List.prefix_refl _
      · exact List.prefix_append _ _
  · exact List.prefix_refl _
theorem fold_pre (f : Int → List File × Bool) (nm : ByteArray) (ms : List Int) : ∀ out, out <+: ms.foldl (ofStep f nm) out := by
  induction ms with
  | nil => exact fun out => List.prefix_refl _
  | cons m ms ih => exact fun out => List.IsPrefix.trans (ofStep_pre f nm out m) (ih _)
theorem ofSpec_take (f : Int → List File × Bool) (nm : ByteArray) (ms : List Int) (k : Nat) : ofSpec f nm (ms.take k) <+: ofSpec f nm ms := by
  have : ofSpec f nm ms = (ms.drop k).foldl (ofStep f nm) (ofSpec f nm (ms.take k)) := by
    unfold ofSpec
    rw [← List.foldl_append, List.take_append_drop]
  rw [this]
  exact fold_pre f nm _ _
theorem gt_pre {α : Type} [Inhabited α] {xs ys : List α} (h : xs <+: ys) {k : Nat} (hk : k < xs.length) : gt xs k = gt ys k := by
  have hl := h.length_le
  rw [gt_eq _ _ hk, gt_eq _ _ (by omega)]
  exact h.getElem hk
def toldL (l : List Seen) : List Int := (l.filter Seen.told).map Seen.moment
theorem toldL_succ (l : List Seen) (k : Nat) (hk : k < l.length) : toldL (l.take (k + 1)) = if (gt l k).told = true then toldL (l.take k) ++ [(gt l k).moment] else toldL (l.take k) := by
  unfold toldL
  rw [List.take_add_one, gt_some l k hk]
  simp only [Option.toList_some, List.filter_append, List.map_append]
  cases h : (gt l k).told <;> simp [h]
theorem toldL_le (l : List Seen) : (toldL l).length ≤ l.length := by
  unfold toldL
  rw [List.length_map]
  exact List.length_filter_le _ _
theorem tells_told {l : List Seen} (hS : Small l) : ∀ x ∈ l, (tells l x.moment).2 = x.told := by
  intro x hx
  obtain ⟨j, hj, rfl⟩ := List.getElem_of_mem hx
  have := look_at hS hj
  rw [gt_eq l j hj] at this
  unfold tells
  rw [this]
  rfl
theorem fold_told (f : Int → List File × Bool) (nm : ByteArray) : ∀ (l' : List Seen), (∀ x ∈ l', (f x.moment).2 = x.told) → ∀ out, (toldL l').foldl (ofStep f nm) out = (l'.map Seen.moment).foldl (ofStep f nm) out := by
  intro l'
  induction l' with
  | nil => intro _ out; rfl
  | cons x l' ih =>
    intro h out
    have ih' := ih (fun y hy => h y (List.mem_cons_of_mem _ hy))
    have hx := h x List.mem_cons_self
    unfold toldL at ih' ⊢
    cases ht : x.told
    · rw [List.filter_cons_of_neg (by simp [ht]), ih']
      have : ofStep f nm out x.moment = out := by unfold ofStep; rw [if_neg (by rw [hx, ht]; decide)]
      simp only [List.map_cons, List.foldl_cons, this]
    · rw [List.filter_cons_of_pos ht]
      simp only [List.map_cons, List.foldl_cons]
      exact ih' _
theorem ofSpec_told {l : List Seen} (hS : Small l) (nm : ByteArray) : ofSpec (tells l) nm (toldL l) = ofSpec (tells l) nm (l.map Seen.moment) := fold_told _ nm l (tells_told hS) []
theorem moments_n (A : Option Addr) (n : Nat) (l : List Seen) (hn : l.length = n) (c : Nat) (L : List Int) (hL : l.map Seen.moment = L) (w : World) (h : kSeen.C w A l.length l) (hl : l.length ≤ 1000000000) :
    Calls Try.prog 14 #[.slice A n c] w fun e w' => ∃ B c', e = .returned (.slice B L.length c') ∧ (Kd.int .u64).C w' B L.length L ∧ Below w.heap.size w w' := by
  subst hn
  refine (moments_any A l c L hL w h hl).mono ?_
  rintro e w' ⟨v, rfl, ho, hb⟩
  obtain ⟨B, c', rfl⟩ := Kd.R_slice ho
  exact ⟨B, c', rfl, readsI ho, hb⟩

set_option maxHeartbeats 3200000 in
theorem law_parts (A : Option Addr) (l : List Seen) (c : Nat) (b : UInt8) (w : World) (hlc : l.length ≤ c) (h : kSeen.C w A l.length l) :
    Calls Try.prog 6 #[.slice A l.length c, .int .u8 (b.toNat : Int)] w fun e w' => e = .returned (.bool true) ∧ Below w.heap.size w w' := by
  have hmx := Kd.C_max h
  cases hgb : greatB l
  · have HGB := Aside0.mk hgb
    have HS := Aside0.mk (small_of hgb)
    have hfew := HS.out.few
    clear hgb
    have HD : Aside0 (∀ k, k < l.length → (gt l k).data.length ≤ 140737488355328) := ⟨fun k hk => Nat.le_trans (HS.out.short k hk) (by decide)⟩
    obtain ⟨L, hL⟩ : ∃ L, l.map Seen.moment = L := ⟨_, rfl⟩
    have hLl : L.length = l.length := by rw [← hL]; simp
    have hLl' : L.length ≤ 1000000000 := by omega
    obtain ⟨vs, hvs⟩ : ∃ vs, ofSpec (tells l) ⟨#[97]⟩ L = vs := ⟨_, rfl⟩
    have hvl : vs.length ≤ L.length := by rw [← hvs]; have := ofSpec_le (tells l) ⟨#[97]⟩ L L.length (Nat.le_refl _); rwa [List.take_length] at this
    obtain ⟨K, hK⟩ : ∃ K, b.toNat % (l.length + 1) = K := ⟨_, rfl⟩
    have hKl : K ≤ l.length := by rw [← hK]; have := Nat.mod_lt b.toNat (show 0 < l.length + 1 by omega); omega
    obtain ⟨M, hM⟩ : ∃ M, L.take K = M := ⟨_, rfl⟩
    have hMl : M.length ≤ 1000000000 := by rw [← hM, List.length_take]; omega
    obtain ⟨fs, hfs⟩ : ∃ fs, ofSpec (tells l) ⟨#[97]⟩ M = fs := ⟨_, rfl⟩
    have hpre : fs <+: vs := by rw [← hfs, ← hvs, ← hM]; exact ofSpec_take _ _ _ _
    have HKM : Aside0 ((l.take K).map Seen.moment = M) := ⟨by rw [← hM, ← hL, List.map_take]⟩
    have HKn : Aside0 ((l.take K).length = K) := ⟨by rw [List.length_take]; omega⟩
    have hfl := hpre.length_le
    obtain ⟨T, hT⟩ : ∃ T, toldL l = T := ⟨_, rfl⟩
    have hTl : T.length ≤ l.length := by rw [← hT]; exact toldL_le l
    have HTV : Aside0 (ofSpec (tells l) ⟨#[97]⟩ T = vs) := ⟨by rw [← hT, ← hvs, ← hL]; exact ofSpec_told HS.out _⟩
    have HL := Aside0.mk hL
    have HVS := Aside0.mk hvs
    have HFS := Aside0.mk hfs
    have HPRE := Aside0.mk hpre
    have HT := Aside0.mk hT
    have HK := Aside0.mk hK
    have hub := b.toNat_lt
    have k1 : IntKind.i64.wrap (b.toNat : Int) = (b.toNat : Int) := IntWalk.i64_in _ (by omega)
    have k2 : IntKind.i64.wrap ((l.length : Int) + 1) = (l.length : Int) + 1 := IntWalk.i64_in _ (by omega)
    have k3 : ((b.toNat : Int).tmod ((l.length : Int) + 1)) = (K : Int) := by
      rw [← hK]
      have : ((l.length : Int) + 1) = ((l.length + 1 : Nat) : Int) := by omega
      rw [this]
      exact (Int.ofNat_tmod _ _).symm
    clear hL hvs hfs hpre hT hK hLl hM
    go_enter Try.func6, Try.ntmps6
    go_wp2_with (first | (go_at_call 11; ((with_reducible refine (awake_any w).mono ?_)); rintro e w1 ⟨rfl, hb⟩; have HB1 := Aside0.mk hb; clear hb) | (go_at_call 12; refine (great_any A l c w1 (Kd.C_below h HB1.out)).mono ?_; unfold GreatPost; rw [HGB.out]; rintro e w2 ⟨rfl, n2, hw2⟩; have HB2 : Aside0 (Below w.heap.size w w2) := ⟨by rw [hw2]; exact pw_below_drewN HB1.out _⟩; clear hw2) | (go_at_call 14; ((with_reducible refine (moments_n A l.length l rfl c L HL.out w2 (Kd.C_below h HB2.out) (by omega)).mono ?_)); rintro e w3 ⟨Am, cm, rfl, ho, hb⟩; have H3 := Aside0.mk ho; have HB3 := Aside0.mk (below_step HB2.out hb); clear ho hb) | (go_at_call 15; refine (at_any _ _ rfl).mono ?_; rintro e wx ⟨rfl, rfl⟩) | (go_at_call 13; have hcc := of_n Am L.length L rfl cm w3.heap.size A l c ⟨#[97]⟩ vs _ HVS.out (Kd.C_alloc H3.out _) (blk_new w3 _) (Kd.C_below h (below_alloc HB3.out _)) HD.out hLl'; ((with_reducible refine hcc.mono ?_)); clear hcc; rintro e w5 ⟨B, c5, rfl, ho, hb⟩; have HV := Aside0.mk (readsV ho); have HB5 := Aside0.mk (below_step (below_alloc HB3.out _) hb); clear ho hb) | (go_at_call 14; have hcc := moments_n A K (l.take K) HKn.out c M HKM.out w5 (Kd.C_take (Kd.C_below h HB5.out) hKl) (by rw [HKn.out]; omega); ((with_reducible refine hcc.mono ?_)); clear hcc; rintro e w6 ⟨An, cn, rfl, ho, hb⟩; have H6 := Aside0.mk ho; have HV6 := Aside0.mk (Kd.C_below HV.out hb); have HB6 := Aside0.mk (below_step HB5.out hb); clear ho hb) | (go_at_call 13; have hcc := of_n An M.length M rfl cn w6.heap.size A l c ⟨#[97]⟩ fs _ HFS.out (Kd.C_alloc H6.out _) (blk_new w6 _) (Kd.C_below h (below_alloc HB6.out _)) HD.out hMl; ((with_reducible refine hcc.mono ?_)); clear hcc; rintro e w7 ⟨Bf, c7, rfl, ho, hb⟩; have HF7 := Aside0.mk (readsV ho); have HV7 := Aside0.mk (Kd.C_below (Kd.C_alloc HV6.out _) hb); have HB7 := Aside0.mk (below_step (below_alloc HB6.out _) hb); clear ho hb))
    go_loopw [7, 8] (fun v i wr => ∃ k : Nat, k ≤ l.length ∧ i = .int .i64 k ∧ Aside0 ((Kd.int .u64).R 32 wr w7.heap.size (fun _ => True) v (toldL (l.take k))) ∧ Aside0 (Below w7.heap.size w7 wr)) (fun _ i _ => l.length - (intOf i).toNat)
    case atStart => exact ⟨0, Nat.zero_le _, rfl, ⟨Kd.R_nil _ _ _ _ _⟩, ⟨Below.refl _ _⟩⟩
    case round =>
      obtain ⟨k, hk, rfl, HO, HB⟩ := hrel
      have HB0 := Aside0.mk (below_step HB7.out HB.out)
      by_cases hlt : k < l.length
      · obtain ⟨ad, A3, c3, rfl, g0, g1, g2, g3, hc3, hd⟩ := seen_at h hlt
        obtain ⟨x, hx⟩ : ∃ x, x = gt l k := ⟨_, rfl⟩
        have HSU := Aside0.mk (toldL_succ l k hlt)
        rw [← hx] at g0 g1 HSU
        replace g0 := cell_old HB0.out g0
        replace g1 := cell_old HB0.out g1
        clear g2 g3 hc3 hd hx
        cases ht : x.told
        · go_wp2
          go_roundw
          case rel => exact ⟨k + 1, by omega, by go_num, ⟨by rw [HSU.out, if_neg (by rw [ht]; decide)]; exact HO.out⟩, HB⟩
          case measure => simp [intOf]; omega
        · obtain ⟨TL, hTL⟩ : ∃ TL, toldL (l.take k) = TL := ⟨_, rfl⟩
          have hTll : TL.length ≤ k := by rw [← hTL]; have := toldL_le (l.take k); rw [List.length_take] at this; omega
          rw [hTL] at HO HSU
          clear hTL
          go_wp2_with ((with_reducible refine gate_builtin (b := .append) (xs := #[.tmp 46, .tmp 52]) rfl ?_); at_builtin; refine Kd.R_append (Kd.int .u64) (w0 := w7) (w7).heap.size rfl (.tmp 46) (.tmp 52) 27 32 (.int .u64 0) 8 rfl Try.underlying27 info_u64 rfl (by first | decide | exact Nat.succ_pos _) (by omega) _ TL x.moment [.int .u64 x.moment] (fun _ => True) (fun _ => False) rfl ?aX1 ?aP1 (fun _ hk => hk.elim) ?aF1 ?aO1 ?aB1 ?aS1 ?aL1 ?_; (case aX1 => first | rfl | (go_simp; done) | (simp [go_sem]; done)); (case aP1 => exact rfl); (case aB1 => exact HB.out); (case aF1 => exact (fun _ _ => trivial)); (case aO1 => exact HO.out); (case aS1 => exact (HB.out).size); (case aL1 => (first | omega | (simp; omega))); intro v1 w1 ho1 hb1 hg1 hat1; have HO1 := Aside0.mk ho1; have HB1 := Aside0.mk hb1; clear ho1 hb1 hg1 hat1)
          go_roundw
          case rel => exact ⟨k + 1, by omega, by go_num, ⟨by rw [HSU.out, if_pos ht]; exact HO1.out⟩, HB1⟩
          case measure => simp [intOf]; omega
      · have htk : l.take k = l := List.take_of_length_le (by omega)
        rw [htk, HT.out] at HO
        obtain ⟨At, ct, rfl⟩ := Kd.R_slice HO.out
        have HTr := Aside0.mk (readsI HO.out)
        have HVr := Aside0.mk (Kd.C_below HV7.out HB.out)
        have HFr := Aside0.mk (Kd.C_below HF7.out HB.out)
        clear htk HB1 HB2 HB3 HB5 HB6 HV HV6 H3 H6
        go_wp2_with (first | (go_at_call 15; refine (at_any _ _ rfl).mono ?_; rintro e wx ⟨rfl, rfl⟩) | (go_at_call 13; have hcc := of_n At T.length T rfl ct wr.heap.size A l c ⟨#[97]⟩ vs _ HTV.out (Kd.C_alloc HTr.out _) (blk_new wr _) (Kd.C_below h (below_alloc HB0.out _)) HD.out (by omega); ((with_reducible refine hcc.mono ?_)); clear hcc; rintro e w8 ⟨Bs, c8, rfl, ho, hb⟩; have HS8 := Aside0.mk (readsV ho); have HV8 := Aside0.mk (Kd.C_below (Kd.C_alloc HVr.out _) hb); have HF8 := Aside0.mk (Kd.C_below (Kd.C_alloc HFr.out _) hb); have HB8 := Aside0.mk (below_step (below_alloc HB0.out _) hb); clear ho hb))
        go_loopw [10] (fun i wr => ∃ k : Nat, k ≤ vs.length ∧ i = .int .i64 k ∧ Aside0 (kVers.C wr B vs.length vs) ∧ Aside0 (kVers.C wr Bf fs.length fs) ∧ Aside0 (kVers.C wr Bs vs.length vs) ∧ Aside0 (Below w.heap.size w wr)) (fun i _ => vs.length - (intOf i).toNat)
        case atStart => exact ⟨0, Nat.zero_le _, rfl, HV8, HF8, HS8, HB8⟩
        case round =>
          obtain ⟨k, hk, rfl, HVr, HFr, HSr, HBr⟩ := hrel
          by_cases hlt : k < vs.length
          · obtain ⟨ad1, A1, c1, rfl, p0, p1, p2, hc1, hd1⟩ := vers_at HVr.out hlt
            obtain ⟨ad2, A2, c2, rfl, q0, q1, q2, hc2, hd2⟩ := vers_at HSr.out hlt
            by_cases hlf : k < fs.length
            · obtain ⟨ad4, A4, c4, rfl, u0, u1, u2, hc4, hd4⟩ := vers_at HFr.out hlf
              rw [gt_pre HPRE.out hlf] at u0 u1 u2 hc4 hd4
              obtain ⟨x, hx⟩ : ∃ x, x = gt vs k := ⟨_, rfl⟩
              rw [← hx] at p0 p1 p2 q0 q1 q2 u0 u1 u2 hd1 hd2 hd4
              have HD1 := Aside0.mk hd1
              have HD4 := Aside0.mk hd4
              clear hd1 hd2 hd4 hx hc1 hc2 hc4 p1 q1 q2 u1
              go_wp2
              go_quiet ((go_at_call 17; exact Calls.quiet_of (same50_refl A1 A4 x.data c1 c4 _ (Kd.C_drewN HD1.out _) (Kd.C_drewN HD4.out _))))
              go_wp2
              go_roundw
              case rel => exact ⟨k + 1, by omega, by go_num, ⟨Kd.C_drewN HVr.out _⟩, ⟨Kd.C_drewN HFr.out _⟩, ⟨Kd.C_drewN HSr.out _⟩, ⟨pw_below_drewN HBr.out _⟩⟩
              case measure => simp [intOf]; omega
            · obtain ⟨x, hx⟩ : ∃ x, x = gt vs k := ⟨_, rfl⟩
              rw [← hx] at p0 p1 p2 q0 q1 q2
              clear hd1 hd2 hx hc1 hc2 p1 q1 q2
              go_wp2
              go_quiet (fail)
              go_wp2
              go_roundw
              case rel => exact ⟨k + 1, by omega, by go_num, ⟨Kd.C_drewN HVr.out _⟩, ⟨Kd.C_drewN HFr.out _⟩, ⟨Kd.C_drewN HSr.out _⟩, ⟨pw_below_drewN HBr.out _⟩⟩
              case measure => simp [intOf]; omega
          · go_wp2
            go_ret
            exact ⟨rfl, HBr.out⟩
  · have HGB := Aside0.mk hgb
    clear hgb
    go_enter Try.func6, Try.ntmps6
    go_wp2_with (first | (go_at_call 11; ((with_reducible refine (awake_any w).mono ?_)); rintro e w1 ⟨rfl, hb⟩; have HB1 := Aside0.mk hb; clear hb) | (go_at_call 12; refine (great_any A l c w1 (Kd.C_below h HB1.out)).mono ?_; unfold GreatPost; rw [HGB.out]; rintro e w2 ⟨rfl, n2, hw2⟩; have HB2 : Aside0 (Below w.heap.size w w2) := ⟨by rw [hw2]; exact pw_below_drewN HB1.out _⟩; clear hw2) | (go_at_call 11; refine (awake_any w2).mono ?_; rintro e w3 ⟨rfl, hb⟩; have HB3 := Aside0.mk (below_step HB2.out hb); clear hb))
    go_ret
    exact ⟨rfl, HB3.out⟩
end Go.Proofs.Ytjogpfijkhhloaa
