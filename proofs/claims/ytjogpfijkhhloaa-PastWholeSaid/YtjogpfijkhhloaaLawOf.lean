/-
  Chapter 50, PastOf, walked: for whatever was seen it returns true and leaves all memory as it was.
-/
import Derived.Test.YtjogpfijkhhloaaRefOf
namespace Go.Proofs.Ytjogpfijkhhloaa
open Go.RowKit Go.Proofs.YtjogpfijkhhloaaW.PrintWords Go.Proofs.YtjogpfijkhhloaaW.PrintLast Go.Proofs.YtjogpfijkhhloaaW.PrintMore
set_option linter.unusedVariables false
set_option linter.unusedSimpArgs false

theorem same50_refl (A B : Option Addr) (xs : List UInt8) (c1 c2 : Nat) (w : World) (h1 : byte.C w A xs.length xs) (h2 : byte.C w B xs.length xs) :
    Calls Try.prog 17 #[.slice A xs.length c1, .slice B xs.length c2] w fun e w' => e = .returned (.bool true) ∧ ∃ n, w' = w.drewN n := by
  have := same50 A B xs xs c1 c2 w h1 h2
  simpa using this
theorem refOf_n (A : Option Addr) (l : List Seen) (c : Nat) (rs : List Seen) (hrs : refSpec l = rs) (w : World) (h : kSeen.C w A l.length l) (hl : l.length ≤ 1000000000) :
    Calls Try.prog 16 #[.slice A l.length c] w fun e w' => ∃ B c', e = .returned (.slice B rs.length c') ∧ kSeen.C w' B rs.length rs ∧ Below w.heap.size w w' := by
  subst hrs
  refine (refOf_any A l c w h hl).mono ?_
  rintro e w' ⟨v, rfl, ho, hb⟩
  obtain ⟨B, c', rfl⟩ := Kd.R_slice ho
  exact ⟨B, c', rfl, seenF_read hb (readsF ho), hb⟩
/-- The history of the document's file, by the document's rows. -/
theorem of_rs (A : Option Addr) (L : List Int) (c : Nat) (g : Nat) (A2 : Option Addr) (l : List Seen) (c2 : Nat) (rs : List Seen) (w : World) (hL : l.map Seen.moment = L) (hrs : refSpec l = rs) (hS : Small l)
    (hA : (Kd.int .u64).C w A L.length L) (hg : w.heap[g]? = some (.cells #[.slice A2 l.length c2] 22 (0, 0))) (hk : kSeen.C w A2 l.length l)
    (hd : ∀ k, k < l.length → (gt l k).data.length ≤ 140737488355328) (hms : L.length ≤ 1000000000) :
    Calls Try.prog 13 #[.slice A L.length c, atFn g, .string ⟨#[97]⟩] w fun e w' => ∃ B c', e = .returned (.slice B rs.length c') ∧ kVers.R 35 w' w.heap.size (fun _ => True) (.slice B rs.length c') (rs.map toVers) ∧ Below w.heap.size w w' := by
  have hv : ofSpec (tells l) nmA L = rs.map toVers := by rw [← hL, ← hrs]; exact ref_all hS
  refine (of_n A L.length L rfl c g A2 l c2 nmA (rs.map toVers) w hv hA hg hk hd hms).mono ?_
  rintro e w' ⟨B, c', rfl, ho, hb⟩
  rw [List.length_map] at ho ⊢
  exact ⟨B, c', rfl, ho, hb⟩
theorem refSpec_few {l : List Seen} (hS : Small l) {rs : List Seen} (h : refSpec l = rs) : rs.length ≤ l.length := by
  rw [← h]
  have := refSpec_le l l.length (Nat.le_refl _)
  rwa [List.take_length] at this
theorem verR_at {w : World} {A : Option Addr} {rs : List Seen} (h : kVers.C w A rs.length (rs.map toVers)) {k : Nat} (hk : k < rs.length) : ∃ ad A2 c2, A = some ad ∧ w.cell? (ad.add (k * 3)) = some (.int .u64 (gt rs k).moment) ∧ w.cell? ⟨(ad.add (k * 3)).block, (ad.add (k * 3)).off + 1, none⟩ = some (.bool (gt rs k).there) ∧
    w.cell? ⟨(ad.add (k * 3)).block, (ad.add (k * 3)).off + 2, none⟩ = some (.slice A2 (gt rs k).data.length c2) ∧ (gt rs k).data.length ≤ c2 ∧ byte.C w A2 (gt rs k).data.length (gt rs k).data := by
  obtain ⟨ad, A2, c2, e, h0, h1, h2, h3, h4⟩ := vers_at h hk
  rw [gt_map _ _ _ hk] at h0 h1 h2 h3 h4
  exact ⟨ad, A2, c2, e, h0, h1, h2, h3, h4⟩
theorem readsVm {e : Nat} {w : World} {base n c : Nat} {ok : Nat → Prop} {A : Option Addr} {rs : List Seen} (h : kVers.R e w base ok (.slice A n c) (rs.map toVers)) : kVers.C w A rs.length (rs.map toVers) := by
  have := readsV h
  rwa [List.length_map] at this

set_option maxHeartbeats 3200000 in
theorem law_of (A : Option Addr) (l : List Seen) (c : Nat) (w : World) (h : kSeen.C w A l.length l) :
    Calls Try.prog 3 #[.slice A l.length c] w fun e w' => e = .returned (.bool true) ∧ Below w.heap.size w w' := by
  have hmx := Kd.C_max h
  cases hgb : greatB l
  · have HGB := Aside0.mk hgb
    have HS := Aside0.mk (small_of hgb)
    have hfew := HS.out.few
    clear hgb
    have HD : Aside0 (∀ k, k < l.length → (gt l k).data.length ≤ 140737488355328) := ⟨fun k hk => Nat.le_trans (HS.out.short k hk) (by decide)⟩
    obtain ⟨L, hL⟩ : ∃ L, l.map Seen.moment = L := ⟨_, rfl⟩
    have hLl : L.length = l.length := by rw [← hL]; simp
    have hLl' : L.length ≤ 1000000000 := by omega
    obtain ⟨rs, hrs⟩ : ∃ rs, refSpec l = rs := ⟨_, rfl⟩
    have hrl : rs.length ≤ l.length := refSpec_few HS.out hrs
    have HL := Aside0.mk hL
    have HRS := Aside0.mk hrs
    clear hL hrs hLl
    go_enter Try.func3, Try.ntmps3
    go_wp2_with (first | (go_at_call 11; ((with_reducible refine (awake_any w).mono ?_)); rintro e w1 ⟨rfl, hb⟩; have HB1 := Aside0.mk hb; clear hb) | (go_at_call 12; refine (great_any A l c w1 (Kd.C_below h HB1.out)).mono ?_; unfold GreatPost; rw [HGB.out]; rintro e w2 ⟨rfl, n2, hw2⟩; have HB2 : Aside0 (Below w.heap.size w w2) := ⟨by rw [hw2]; exact pw_below_drewN HB1.out _⟩; clear hw2) | (go_at_call 14; refine (moments_any A l c L HL.out w2 (Kd.C_below h HB2.out) (by omega)).mono ?_; rintro e w3 ⟨v, rfl, ho, hb⟩; obtain ⟨Am, cm, rfl⟩ := Kd.R_slice ho; have H3 := Aside0.mk (readsI ho); have HB3 := Aside0.mk (below_step HB2.out hb); clear ho hb) | (go_at_call 15; refine (at_any _ _ rfl).mono ?_; rintro e wx ⟨rfl, rfl⟩) | (go_at_call 13; refine (of_rs Am L cm w3.heap.size A l c rs _ HL.out HRS.out HS.out (Kd.C_alloc H3.out _) (blk_new w3 _) (Kd.C_below h (below_alloc HB3.out _)) HD.out hLl').mono ?_; rintro e w5 ⟨B, c5, rfl, ho, hb⟩; have HV := Aside0.mk (readsVm ho); have HB5 := Aside0.mk (below_step (below_alloc HB3.out _) hb); clear ho hb) | (go_at_call 16; refine (refOf_n A l c rs HRS.out w5 (Kd.C_below h HB5.out) (by omega)).mono ?_; rintro e w6 ⟨B6, c6, rfl, ho, hb⟩; have HR6 := Aside0.mk ho; have HV6 := Aside0.mk (Kd.C_below HV.out hb); have HB6 := Aside0.mk (below_step HB5.out hb); clear ho hb))
    go_loopw [5] (fun i wr => ∃ k : Nat, k ≤ rs.length ∧ i = .int .i64 k ∧ Aside0 (kVers.C wr B rs.length (rs.map toVers)) ∧ Aside0 (kSeen.C wr B6 rs.length rs) ∧ Aside0 (Below w.heap.size w wr)) (fun i _ => rs.length - (intOf i).toNat)
    case atStart => exact ⟨0, Nat.zero_le _, rfl, HV6, HR6, HB6⟩
    case round =>
      obtain ⟨k, hk, rfl, HVr, HRr, HBr⟩ := hrel
      by_cases hlt : k < rs.length
      · obtain ⟨ad1, A1, c1, rfl, p0, p1, p2, hc1, hd1⟩ := verR_at HVr.out hlt
        obtain ⟨ad2, A2, c2, rfl, q0, q1, q2, q3, hc2, hd2⟩ := seen_at HRr.out hlt
        obtain ⟨x, hx⟩ : ∃ x, x = gt rs k := ⟨_, rfl⟩
        rw [← hx] at p0 p1 p2 q0 q1 q2 q3 hd1 hd2 hc1 hc2
        have HD1 := Aside0.mk hd1
        have HD2 := Aside0.mk hd2
        clear hd1 hd2 hx hc1 hc2
        go_wp2
        go_quiet ((go_at_call 17; exact Calls.quiet_of (same50_refl A1 A2 x.data c1 c2 _ (Kd.C_drewN HD1.out _) (Kd.C_drewN HD2.out _))))
        go_wp2
        go_roundw
        case rel => exact ⟨k + 1, by omega, by go_num, ⟨Kd.C_drewN HVr.out _⟩, ⟨Kd.C_drewN HRr.out _⟩, ⟨pw_below_drewN HBr.out _⟩⟩
        case measure => simp [intOf]; omega
      · go_wp2
        go_ret
        exact ⟨rfl, HBr.out⟩
  · have HGB := Aside0.mk hgb
    clear hgb
    go_enter Try.func3, Try.ntmps3
    go_wp2_with (first | (go_at_call 11; ((with_reducible refine (awake_any w).mono ?_)); rintro e w1 ⟨rfl, hb⟩; have HB1 := Aside0.mk hb; clear hb) | (go_at_call 12; refine (great_any A l c w1 (Kd.C_below h HB1.out)).mono ?_; unfold GreatPost; rw [HGB.out]; rintro e w2 ⟨rfl, n2, hw2⟩; have HB2 : Aside0 (Below w.heap.size w w2) := ⟨by rw [hw2]; exact pw_below_drewN HB1.out _⟩; clear hw2) | (go_at_call 11; refine (awake_any w2).mono ?_; rintro e w3 ⟨rfl, hb⟩; have HB3 := Aside0.mk (below_step HB2.out hb); clear hb))
    go_ret
    exact ⟨rfl, HB3.out⟩
end Go.Proofs.Ytjogpfijkhhloaa
