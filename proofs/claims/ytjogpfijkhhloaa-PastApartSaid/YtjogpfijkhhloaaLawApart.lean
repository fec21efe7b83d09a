/-
  Chapter 50, PastApart, walked: what past.Of answers may be written into; for whatever was seen it returns true and leaves all memory as it was.
-/
import Derived.Test.YtjogpfijkhhloaaLawOf
import Derived.Deep.Slices
namespace Go.Proofs.Ytjogpfijkhhloaa
open Go.RowKit Go.Proofs.YtjogpfijkhhloaaW.PrintWords Go.Proofs.YtjogpfijkhhloaaW.PrintLast Go.Proofs.YtjogpfijkhhloaaW.PrintMore
set_option linter.unusedVariables false
set_option linter.unusedSimpArgs false

/-- m bytes of the call's own, whatever was written into them. -/
def BytesR (w : World) (base : Nat) (A : Option Addr) (m : Nat) : Prop := 0 < m → ∃ ad g cells, A = some ad ∧ (∀ j : Nat, ad.add j = ⟨g, j, none⟩) ∧ base ≤ g ∧ w.heap[g]? = some (.cells cells 5 (0, 0)) ∧ ∀ j, j < m → ∃ b : UInt8, cells[j]? = some (.int .u8 (b.toNat : Int))
theorem BytesR.set {w : World} {base m g : Nat} {A : Option Addr} {cs : Array Value} (h : BytesR w base A m) (hc : w.heap[g]? = some (.cells cs 5 (0, 0))) (i : Nat) (b : UInt8) : BytesR (w.setCell ⟨g, i, none⟩ (.int .u8 (b.toNat : Int))) base A m := by
  intro hm
  obtain ⟨ad, g', cells, e, ha, hb, hh, hr⟩ := h hm
  by_cases hg : g' = g
  · subst hg
    rw [hh] at hc
    cases hc
    refine ⟨ad, g', _, e, ha, hb, blk_set hh i _, fun j hj => ?_⟩
    obtain ⟨b0, hb0⟩ := hr j hj
    have hjl := (Array.getElem?_eq_some_iff.1 hb0).1
    by_cases hij : i = j
    · subst hij
      exact ⟨b, by simp [hjl]⟩
    · exact ⟨b0, by rw [Array.getElem?_setIfInBounds, if_neg hij]; exact hb0⟩
  · exact ⟨ad, g', cells, e, ha, hb, blk_far hh hg _, hr⟩
/-- A row of versions of which only the shape is kept: where each one's bytes lie, and how many they are. -/
def Scrib (w : World) (base : Nat) (A : Option Addr) (n : Nat) (hdr : Nat → Option Addr × Nat × Nat) : Prop :=
  0 < n → ∃ ad, A = some ad ∧ (∃ vc, w.heap[ad.block]? = some (.cells vc 35 (0, 0))) ∧
    ∀ k, k < n → w.cell? ⟨(ad.add (k * 3)).block, (ad.add (k * 3)).off + 2, none⟩ = some (.slice (hdr k).1 (hdr k).2.1 (hdr k).2.2) ∧ (hdr k).2.1 ≤ 9223372036854775807 ∧ BytesR w base (hdr k).1 (hdr k).2.1
theorem Scrib.set {w : World} {base n g : Nat} {A : Option Addr} {hdr : Nat → Option Addr × Nat × Nat} {cs : Array Value} (h : Scrib w base A n hdr) (hc : w.heap[g]? = some (.cells cs 5 (0, 0))) (i : Nat) (b : UInt8) : Scrib (w.setCell ⟨g, i, none⟩ (.int .u8 (b.toNat : Int))) base A n hdr := by
  intro hn
  obtain ⟨ad, e, ⟨vc, hv⟩, hr⟩ := h hn
  have hne : ad.block ≠ g := blk_ne hv hc (by decide)
  refine ⟨ad, e, ⟨vc, blk_far hv hne _⟩, fun k hk => ?_⟩
  obtain ⟨h1, h2, h3⟩ := hr k hk
  exact ⟨by rw [World.cell?_setCell_far _ _ _ _ (by unfold Addr.add; first | exact fun e => hne e.symm | (split <;> exact fun e => hne e.symm))]; exact h1, h2, h3.set hc i b⟩
theorem scrib_of {w : World} {base n c : Nat} {ok : Nat → Prop} {A : Option Addr} {vs : List Vers} (h : kVers.R 35 w base ok (.slice A n c) vs) : ∃ hdr, Scrib w base A n hdr := by
  obtain ⟨hn0, _, _⟩ := Kd.R_reads' h
  rcases Nat.eq_zero_or_pos n with h0 | h0
  · exact ⟨fun _ => (none, 0, 0), fun hn => by omega⟩
  · obtain ⟨g, cap, e, hb, hlt, vc, hvc⟩ := Kd.R_form h (by omega)
    cases e
    have hall : ∀ k, k < vs.length → ∃ p : Option Addr × Nat × Nat, w.cell? ⟨((⟨g, 0, none⟩ : Addr).add (k * 3)).block, ((⟨g, 0, none⟩ : Addr).add (k * 3)).off + 2, none⟩ = some (.slice p.1 p.2.1 p.2.2) ∧ p.2.1 ≤ 9223372036854775807 ∧ BytesR w base p.1 p.2.1 := by
      intro k hk
      obtain ⟨cs, _, hM, hc, _⟩ := Kd.R_elem h default (k : Int) (by omega) (by omega)
      obtain ⟨_, _, rfl, rfl, ⟨_, _, rfl, rfl, ⟨v2, rfl, hR⟩⟩⟩ := hM
      obtain ⟨A2, c2, rfl⟩ := Kd.R_slice hR
      obtain ⟨_, _, hC2⟩ := readsS hR
      refine ⟨(A2, _, c2), ?_, Kd.C_max hC2, fun hm => ?_⟩
      · have := hc 2 _ rfl
        simp only [Int.toNat_natCast] at this
        rw [add_plain]
        exact this
      · obtain ⟨g2, cap2, e2, hb2, hlt2, cells, hcells⟩ := Kd.R_form hR hm
        cases e2
        refine ⟨_, g2, cells, rfl, fun j => add_plain _ _, hb2, hcells, fun j hj => ?_⟩
        obtain ⟨ad, e3, hj2⟩ := byte_at hC2 hj
        cases e3
        rw [add_plain, blk_cell hcells] at hj2
        exact ⟨_, hj2⟩
    obtain ⟨f, hf⟩ := Deep.choose_lt hall
    exact ⟨f, fun _ => ⟨_, rfl, ⟨vc, hvc⟩, hf⟩⟩
theorem u8_succ (b : UInt8) : ∃ b' : UInt8, IntKind.u8.wrap ((b.toNat : Int) + 1) = (b'.toNat : Int) := by
  refine ⟨b + 1, ?_⟩
  have := b.toNat_lt
  simp [IntKind.wrap, IntKind.signed, IntKind.bits, UInt8.toNat_add]

set_option maxHeartbeats 3200000 in
theorem law_apart (A : Option Addr) (l : List Seen) (c : Nat) (w : World) (h : kSeen.C w A l.length l) :
    Calls Try.prog 8 #[.slice A l.length c] w fun e w' => e = .returned (.bool true) ∧ Below w.heap.size w w' := by
  have hmx := Kd.C_max h
  cases hgb : greatB l
  · have HGB := Aside0.mk hgb
    have HS := Aside0.mk (small_of hgb)
    have hfew := HS.out.few
    clear hgb
    have HD : Aside0 (∀ k, k < l.length → (gt l k).data.length ≤ 140737488355328) := ⟨fun k hk => Nat.le_trans (HS.out.short k hk) (by decide)⟩
    obtain ⟨L, hL⟩ : ∃ L, l.map Seen.moment = L := ⟨_, rfl⟩
    have hLl : L.length = l.length := by rw [← hL]; simp
    have hLl' : L.length ≤ 1000000000 := by omega
    obtain ⟨rs, hrs⟩ : ∃ rs, refSpec l = rs := ⟨_, rfl⟩
    have hrl : rs.length ≤ l.length := refSpec_few HS.out hrs
    have HL := Aside0.mk hL
    have HRS := Aside0.mk hrs
    clear hL hrs hLl
    go_enter Try.func8, Try.ntmps8
    go_wp2_with (first | (go_at_call 11; ((with_reducible refine (awake_any w).mono ?_)); rintro e w1 ⟨rfl, hb⟩; have HB1 := Aside0.mk hb; clear hb) | (go_at_call 12; refine (great_any A l c w1 (Kd.C_below h HB1.out)).mono ?_; unfold GreatPost; rw [HGB.out]; rintro e w2 ⟨rfl, n2, hw2⟩; have HB2 : Aside0 (Below w.heap.size w w2) := ⟨by rw [hw2]; exact pw_below_drewN HB1.out _⟩; clear hw2) | (go_at_call 14; refine (moments_any A l c L HL.out w2 (Kd.C_below h HB2.out) (by omega)).mono ?_; rintro e w3 ⟨v, rfl, ho, hb⟩; obtain ⟨Am, cm, rfl⟩ := Kd.R_slice ho; have H3 := Aside0.mk (readsI ho); have HB3 := Aside0.mk (below_step HB2.out hb); clear ho hb) | (go_at_call 15; refine (at_any _ _ rfl).mono ?_; rintro e wx ⟨rfl, rfl⟩) | (go_at_call 13; refine (of_rs Am L cm w3.heap.size A l c rs _ HL.out HRS.out HS.out (Kd.C_alloc H3.out _) (blk_new w3 _) (Kd.C_below h (below_alloc HB3.out _)) HD.out hLl').mono ?_; rintro e w5 ⟨B, c5, rfl, ho, hb⟩; obtain ⟨hdr, hsc⟩ := scrib_of (Kd.R_lower ho (base' := w.heap.size) (by have := HB3.out.size; simp; omega)); have HV := Aside0.mk hsc; have HB5 := Aside0.mk (below_step (below_alloc HB3.out _) hb); clear ho hb hsc))
    go_loopw [23, 4] (fun i _ wr => ∃ k : Nat, k ≤ rs.length ∧ i = .int .i64 k ∧ Aside0 (Scrib wr w.heap.size B rs.length hdr) ∧ Aside0 (Below w.heap.size w wr)) (fun i _ _ => rs.length - (intOf i).toNat)
    case atStart => exact ⟨0, Nat.zero_le _, rfl, HV, HB5⟩
    case round =>
      obtain ⟨k, hk, rfl, HSc, HBr⟩ := hrel
      by_cases hlt : k < rs.length
      · obtain ⟨ad, rfl, ⟨vc, hvc⟩, hel⟩ := HSc.out (by omega)
        obtain ⟨q2, hm, _⟩ := hel k hlt
        obtain ⟨p, hp⟩ : ∃ p, hdr k = p := ⟨_, rfl⟩
        obtain ⟨A2, m, c2⟩ := p
        have HP := Aside0.mk hp
        rw [hp] at q2 hm
        simp only at q2 hm
        clear hvc hel hp
        go_wp2
        clear q2
        go_loopw [32, 5] (fun i _ wr => ∃ j : Nat, j ≤ m ∧ i = .int .i64 j ∧ Aside0 (Scrib wr w.heap.size (some ad) rs.length hdr) ∧ Aside0 (Below w.heap.size w wr)) (fun i _ _ => m - (intOf i).toNat)
        case atStart => exact ⟨0, Nat.zero_le _, rfl, HSc, HBr⟩
        case round =>
          obtain ⟨j, hj, rfl, HSj, HBj⟩ := hrel
          by_cases hjt : j < m
          · obtain ⟨_, e, _, hel⟩ := HSj.out (by omega)
            cases e
            obtain ⟨q2, _, hby⟩ := hel k hlt
            rw [HP.out] at q2 hby
            simp only at q2 hby
            obtain ⟨ad2, g, cells, rfl, ha, hbase, hh, hr⟩ := hby (by omega)
            obtain ⟨b, hb⟩ := hr j hjt
            obtain ⟨b', hb'⟩ := u8_succ b
            have r0 : wr.cell? (ad2.add j) = some (.int .u8 (b.toNat : Int)) := by rw [ha, blk_cell hh]; exact hb
            have r1 : wr.frozen? (ad2.add j) = false := by rw [ha]; exact blk_frozen hh _
            have HH := Aside0.mk hh
            have HA := Aside0.mk ha
            clear hel hh ha hr hb hby
            go_wp2
            go_roundw
            case rel => exact ⟨j + 1, by omega, by go_num, ⟨by rw [HA.out]; exact HSj.out.set HH.out _ _⟩, ⟨by rw [HA.out]; exact HBj.out.setCell hbase _⟩⟩
            case measure => simp [intOf]; omega
          · go_wp2
            go_roundw
            case rel => exact ⟨k + 1, by omega, by go_num, HSj, HBj⟩
            case measure => simp [intOf]; omega
      · clear HSc HV HB5 HB3 HB2 HB1 H3
        go_wp2_with (first | (go_at_call 14; refine (moments_any A l c L HL.out wr (Kd.C_below h HBr.out) (by omega)).mono ?_; rintro e w3 ⟨v, rfl, ho, hb⟩; obtain ⟨Am, cm, rfl⟩ := Kd.R_slice ho; have H3 := Aside0.mk (readsI ho); have HB3 := Aside0.mk (below_step HBr.out hb); clear ho hb) | (go_at_call 15; refine (at_any _ _ rfl).mono ?_; rintro e wx ⟨rfl, rfl⟩) | (go_at_call 13; refine (of_rs Am L cm w3.heap.size A l c rs _ HL.out HRS.out HS.out (Kd.C_alloc H3.out _) (blk_new w3 _) (Kd.C_below h (below_alloc HB3.out _)) HD.out hLl').mono ?_; rintro e w5 ⟨Bw, cw, rfl, ho, hb⟩; have HV := Aside0.mk (readsVm ho); have HB5 := Aside0.mk (below_step (below_alloc HB3.out _) hb); clear ho hb) | (go_at_call 16; refine (refOf_n A l c rs HRS.out w5 (Kd.C_below h HB5.out) (by omega)).mono ?_; rintro e w6 ⟨B6, c6, rfl, ho, hb⟩; have HR6 := Aside0.mk ho; have HV6 := Aside0.mk (Kd.C_below HV.out hb); have HB6 := Aside0.mk (below_step HB5.out hb); clear ho hb))
        go_loopw [61, 8] (fun i _ wr => ∃ k : Nat, k ≤ rs.length ∧ i = .int .i64 k ∧ Aside0 (kVers.C wr Bw rs.length (rs.map toVers)) ∧ Aside0 (kSeen.C wr B6 rs.length rs) ∧ Aside0 (Below w.heap.size w wr)) (fun i _ _ => rs.length - (intOf i).toNat)
        case atStart => exact ⟨0, Nat.zero_le _, rfl, HV6, HR6, HB6⟩
        case round =>
          obtain ⟨k, hk, rfl, HVr, HRr, HBr⟩ := hrel
          by_cases hlt : k < rs.length
          · obtain ⟨ad1, A1, c1, rfl, p0, p1, p2, hc1, hd1⟩ := verR_at HVr.out hlt
            obtain ⟨ad2, A2, c2, rfl, q0, q1, q2, q3, hc2, hd2⟩ := seen_at HRr.out hlt
            obtain ⟨x, hx⟩ : ∃ x, x = gt rs k := ⟨_, rfl⟩
            rw [← hx] at p0 p1 p2 q0 q1 q2 q3 hd1 hd2 hc1 hc2
            have HD1 := Aside0.mk hd1
            have HD2 := Aside0.mk hd2
            clear hd1 hd2 hx hc1 hc2 p0 p1 q0 q1 q2
            go_wp2
            go_quiet ((go_at_call 17; exact Calls.quiet_of (same50_refl A1 A2 x.data c1 c2 _ (Kd.C_drewN HD1.out _) (Kd.C_drewN HD2.out _))))
            go_wp2
            go_roundw
            case rel => exact ⟨k + 1, by omega, by go_num, ⟨Kd.C_drewN HVr.out _⟩, ⟨Kd.C_drewN HRr.out _⟩, ⟨pw_below_drewN HBr.out _⟩⟩
            case measure => simp [intOf]; omega
          · go_wp2
            go_ret
            exact ⟨rfl, HBr.out⟩
  · have HGB := Aside0.mk hgb
    clear hgb
    go_enter Try.func8, Try.ntmps8
    go_wp2_with (first | (go_at_call 11; ((with_reducible refine (awake_any w).mono ?_)); rintro e w1 ⟨rfl, hb⟩; have HB1 := Aside0.mk hb; clear hb) | (go_at_call 12; refine (great_any A l c w1 (Kd.C_below h HB1.out)).mono ?_; unfold GreatPost; rw [HGB.out]; rintro e w2 ⟨rfl, n2, hw2⟩; have HB2 : Aside0 (Below w.heap.size w w2) := ⟨by rw [hw2]; exact pw_below_drewN HB1.out _⟩; clear hw2) | (go_at_call 11; refine (awake_any w2).mono ?_; rintro e w3 ⟨rfl, hb⟩; have HB3 := Aside0.mk (below_step HB2.out hb); clear hb))
    go_ret
    exact ⟨rfl, HB3.out⟩
end Go.Proofs.Ytjogpfijkhhloaa
