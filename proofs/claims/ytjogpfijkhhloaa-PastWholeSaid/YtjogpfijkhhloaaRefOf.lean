/-
  Chapter 50: the document's own history, walked; and that it is the program's, where the moments differ.
-/
import Derived.Test.YtjogpfijkhhloaaPlain
namespace Go.Proofs.Ytjogpfijkhhloaa
open Go.RowKit Go.Proofs.YtjogpfijkhhloaaW.PrintWords Go.Proofs.YtjogpfijkhhloaaW.PrintLast Go.Proofs.YtjogpfijkhhloaaW.PrintMore
set_option linter.unusedVariables false
set_option linter.unusedSimpArgs false

/-- What was seen, its bytes where they lay when the call began. -/
def kSeenF (w0 : World) : Kd Seen := Kd.iso (Kd.pair (Kd.int .u64) (Kd.pair Kd.bool (Kd.pair Kd.bool (Kd.fixed (Kd.slice 5 byte) w0)))) (fun x : Seen => (x.moment, x.told, x.there, x.data))
theorem kSeenF_open {w0 w : World} {x : Seen} {cs : List Value} (h : (kSeenF w0).K w x cs) : ∃ A c, cs = [.int .u64 x.moment, .bool x.told, .bool x.there, .slice A x.data.length c] ∧ x.data.length ≤ c ∧ byte.C w0 A x.data.length x.data := by
  obtain ⟨_, _, rfl, rfl, ⟨_, _, rfl, rfl, ⟨_, _, rfl, rfl, ⟨A, c, rfl, l, g⟩⟩⟩⟩ := h
  exact ⟨A, c, rfl, l, g⟩
theorem kSeenF_mkM (w0 w : World) (base : Nat) (ok : Nat → Prop) (x : Seen) {A : Option Addr} {c : Nat} (l : x.data.length ≤ c) (g : byte.C w0 A x.data.length x.data) : (kSeenF w0).M w base ok x [.int .u64 x.moment, .bool x.told, .bool x.there, .slice A x.data.length c] :=
  ⟨[.int .u64 x.moment], [.bool x.told, .bool x.there, .slice A x.data.length c], rfl, rfl, ⟨[.bool x.told], [.bool x.there, .slice A x.data.length c], rfl, rfl, ⟨[.bool x.there], [.slice A x.data.length c], rfl, rfl, ⟨A, c, rfl, l, g⟩⟩⟩⟩
theorem seenF_read {w0 w : World} (hb : Below w0.heap.size w0 w) {A : Option Addr} {n : Nat} {xs : List Seen} (h : (kSeenF w0).C w A n xs) : kSeen.C w A n xs :=
  Kd.C_read (d := kSeen) (dm := kSeenF w0) rfl (fun x cs hk => by
    obtain ⟨A, c, rfl, hl, hg⟩ := kSeenF_open hk
    exact kSeen_mk w x hl (Kd.C_below hg hb)) h
theorem readsF {e : Nat} {w0 w : World} {base n c : Nat} {ok : Nat → Prop} {A : Option Addr} {xs : List Seen} (h : (kSeenF w0).R e w base ok (.slice A n c) xs) : (kSeenF w0).C w A xs.length xs := by
  obtain ⟨A', c', he, hl, hC⟩ := Kd.R_reads h
  cases he
  exact hC

def normS (x : Seen) : Seen := if x.there = true then x else { x with data := [] }
def refStep (out : List Seen) (x : Seen) : List Seen :=
  if x.told = true then
    match out.getLast? with
    | none => out ++ [normS x]
    | some u => if (u.there == x.there && decide (u.data = (normS x).data)) = true then out else out ++ [normS x]
  else out
def refSpec (l : List Seen) : List Seen := l.foldl refStep []
theorem refStep_le (out : List Seen) (x : Seen) : (refStep out x).length ≤ out.length + 1 := by
  unfold refStep
  split
  · split
    · simp
    · split <;> simp
  · simp
theorem refSpec_succ (l : List Seen) (k : Nat) (hk : k < l.length) : refSpec (l.take (k + 1)) = refStep (refSpec (l.take k)) (gt l k) := by
  unfold refSpec
  rw [List.take_add_one, gt_some l k hk, List.foldl_append]
  rfl
theorem refSpec_le (l : List Seen) (k : Nat) (hk : k ≤ l.length) : (refSpec (l.take k)).length ≤ k := by
  induction k with
  | zero => simp [refSpec]
  | succ k ih =>
    rw [refSpec_succ l k (by omega)]
    have := refStep_le (refSpec (l.take k)) (gt l k)
    have := ih (by omega)
    omega
def toVers (x : Seen) : Vers := ⟨x.moment, x.there, x.data⟩
theorem versOf_norm (s : Seen) : versOf (filesOf (some s)) nmA s.moment = toVers (normS s) := by
  have e1 : nmA.toList = [97] := by simp [nmA]
  have e2 : nmB.toList = [98] := by simp [nmB]
  cases ht : s.there <;> simp [versOf, look49, filesOf, ht, normS, toVers, List.find?_cons, e1, e2]
theorem ref_to {l : List Seen} (hS : Small l) (k : Nat) (hk : k ≤ l.length) : ofSpec (tells l) nmA ((l.map Seen.moment).take k) = (refSpec (l.take k)).map toVers := by
  induction k with
  | zero => simp [ofSpec, refSpec]
  | succ k ih =>
    rw [ofSpec_at hS nmA (by omega), refSpec_succ l k (by omega), ih (by omega)]
    unfold ofStep refStep
    simp only
    split
    · rw [List.getLast?_map, versOf_norm]
      cases hg : (refSpec (l.take k)).getLast? with
      | none => simp
      | some u =>
        have : alikeV (toVers u) (toVers (normS (gt l k))) = (u.there == (gt l k).there && decide (u.data = (normS (gt l k)).data)) := by
          unfold alikeV toVers
          have : (normS (gt l k)).there = (gt l k).there := by unfold normS; split <;> rfl
          rw [this]
        simp only [Option.map_some, this]
        split <;> simp
    · rfl
theorem ref_all {l : List Seen} (hS : Small l) : ofSpec (tells l) nmA (l.map Seen.moment) = (refSpec l).map toVers := by
  have := ref_to hS l.length (Nat.le_refl _)
  rwa [List.take_length, List.take_of_length_le (by simp)] at this

theorem info_seen : (Try.prog.info? 37).map (fun i => (i.zero, i.size, i.bytes)) = some (some (.agg #[.int .u64 0, .bool false, .bool false, .slice none 0 0]), 4, 40) := by kernel_rfl
/-- What stands when a moment's row is made. -/
structure RefMade (w wr : World) (v : Value) (out : List Seen) (x : Seen) (B3 : Option Addr) (c3 : Nat) (wx : World) : Prop where
  box : wx.heap[wr.heap.size]? = some (.cells #[.int .u64 x.moment, .bool x.told, .bool x.there, .slice B3 x.data.length c3] 37 (0, 0))
  dat : byte.C w B3 x.data.length x.data
  le : x.data.length ≤ c3
  out : (kSeenF w).R 37 wx w.heap.size (fun k => k < wr.heap.size) v out
  below : Below w.heap.size w wx
theorem RefMade.step {w wr wx wy : World} {v : Value} {out : List Seen} {x : Seen} {B3 : Option Addr} {c3 : Nat} (h : RefMade w wr v out x B3 c3 wx) (hb : Below wx.heap.size wx wy) : RefMade w wr v out x B3 c3 wy :=
  ⟨blk_below h.box hb, h.dat, h.le, Kd.R_below h.out hb, below_step h.below hb⟩

theorem RefMade.apart {w wr wx : World} {v : Value} {out : List Seen} {x : Seen} {B3 : Option Addr} {c3 : Nat} (h : RefMade w wr v out x B3 c3 wx) (k : Nat) (hk : wr.heap.size ≤ k) : True ∧ some k ≠ v.ownBlock :=
  ⟨trivial, fun e => by have := h.out.1 k e.symm; omega⟩
set_option maxHeartbeats 4000000 in
theorem refOf_any (A : Option Addr) (l : List Seen) (c : Nat) (w : World) (h : kSeen.C w A l.length l) (hl : l.length ≤ 1000000000) :
    Calls Try.prog 16 #[.slice A l.length c] w fun e w' => ∃ v, e = .returned v ∧ (kSeenF w).R 37 w' w.heap.size (fun _ => True) v (refSpec l) ∧ Below w.heap.size w w' := by
  go_enter Try.func16, Try.ntmps16
  go_wp2
  go_loopw [3, 4] (fun v i wr => ∃ k : Nat, k ≤ l.length ∧ i = .int .i64 k ∧ Aside0 ((kSeenF w).R 37 wr w.heap.size (fun _ => True) v (refSpec (l.take k))) ∧ Aside0 (Below w.heap.size w wr)) (fun _ i _ => l.length - (intOf i).toNat)
  case atStart => exact ⟨0, Nat.zero_le _, rfl, ⟨Kd.R_nil _ _ _ _ _⟩, ⟨Below.refl _ _⟩⟩
  case round =>
    obtain ⟨k, hk, rfl, HO, HB⟩ := hrel
    by_cases hlt : k < l.length
    · obtain ⟨x, hx⟩ : ∃ x, x = gt l k := ⟨_, rfl⟩
      obtain ⟨ad, A3, c3, rfl, g0, g1, g2, g3, hc3, hd⟩ := seen_at h hlt
      rw [← hx] at g0 g1 g2 g3 hc3 hd
      replace g0 := cell_old HB.out g0
      replace g1 := cell_old HB.out g1
      replace g2 := cell_old HB.out g2
      replace g3 := cell_old HB.out g3
      obtain ⟨out, hout⟩ : ∃ o, o = refSpec (l.take k) := ⟨_, rfl⟩
      have hol : out.length ≤ k := by rw [hout]; exact refSpec_le _ _ hk
      rw [← hout] at HO
      have HST : Aside0 (refSpec (l.take (k + 1)) = refStep out x) := ⟨by rw [refSpec_succ _ _ hlt, hout, hx]⟩
      have HD := Aside0.mk hd
      clear hout hx hd
      obtain ⟨Av, cv, rfl⟩ := Kd.R_slice HO.out
      cases ht : x.told
      · go_wp2
        go_roundw
        case rel => exact ⟨k + 1, by omega, by go_num, ⟨by rw [HST.out, refStep, if_neg (by rw [ht]; decide)]; exact Kd.R_alloc HO.out _⟩, ⟨below_alloc HB.out _⟩⟩
        case measure => simp [intOf]; omega
      · go_upto_if 21 with (fail)
        go_cut [] (fun wx => ∃ B3 c3, RefMade w wr (.slice Av out.length cv) out (normS x) B3 c3 wx)
        case first =>
          cases hv : x.there
          · have hn : normS x = { x with data := [] } := by unfold normS; rw [if_neg (by rw [hv]; decide)]
            go_wp2
            go_meet
            refine ⟨none, 0, ?_⟩
            rw [hn]
            exact ⟨by simp only [ht, hv]; exact blk_new wr _, Kd.C_nil _ _, Nat.le_refl _, Kd.R_mono (Kd.R_bound (Kd.R_alloc (Kd.R_mono (Kd.R_bound HO.out) (fun _ hk => hk.2.2.1)) _)) (fun _ hk => hk.1), below_alloc HB.out _⟩
          · have hn : normS x = x := by unfold normS; rw [if_pos hv]
            go_wp2
            go_meet
            refine ⟨A3, c3, ?_⟩
            rw [hn]
            exact ⟨by simp only [ht, hv]; exact blk_new wr _, HD.out, hc3, Kd.R_mono (Kd.R_bound (Kd.R_alloc (Kd.R_mono (Kd.R_bound HO.out) (fun _ hk => hk.2.2.1)) _)) (fun _ hk => hk.1), below_alloc HB.out _⟩
        case rest =>
          obtain ⟨B3, c3, hO⟩ := hcut
          obtain ⟨y, hy⟩ : ∃ y, y = normS x := ⟨_, rfl⟩
          have hyt : y.there = x.there := by rw [hy]; unfold normS; split <;> rfl
          have HST0 : Aside0 (refStep out x = match out.getLast? with | none => out ++ [y] | some u => if (u.there == y.there && decide (u.data = y.data)) = true then out else out ++ [y]) := ⟨by rw [refStep, if_pos ht, hy, ← hyt, hy]⟩
          rw [← hy] at hO
          have HOM := Aside0.mk hO
          clear hO hy ht hyt
          rcases Nat.eq_zero_or_pos out.length with h0 | h0
          · have he : out = [] := List.eq_nil_of_length_eq_zero h0
            have HST2 : Aside0 (refSpec (l.take (k + 1)) = out ++ [y]) := ⟨by rw [HST.out, HST0.out, he]; rfl⟩
            have HZ : decide (0 < out.length) = false := by simp [he]
            have HZ2 : ¬ (0 < out.length) := by simp [he]
            clear h0 he
            go_wp2
            go_quiet (fail)
            obtain ⟨W5, hW5⟩ : ∃ W, W = wc.drewN nq := ⟨_, rfl⟩
            rw [← hW5]
            have HOM5 : Aside0 (RefMade w wr (.slice Av out.length cv) out y B3 c3 W5) := ⟨by rw [hW5]; exact HOM.out.step (pw_below_drewN (Below.refl _ _) _)⟩
            clear hW5
            (have z0 := blk_cell HOM5.out.box 0; have z1 := blk_cell HOM5.out.box 1; have z2 := blk_cell HOM5.out.box 2; have z3 := blk_cell HOM5.out.box 3; simp only [List.getElem?_toArray, List.getElem?_cons_zero, List.getElem?_cons_succ] at z0 z1 z2 z3; go_wp2_with ((with_reducible refine gate_builtin (b := .append) (xs := #[.tmp 50, .tmp 52]) rfl ?_); at_builtin; refine Kd.R_append (kSeenF w) (w0 := w) w.heap.size rfl (.tmp 50) (.tmp 52) 22 37 (.agg #[.int .u64 0, .bool false, .bool false, .slice none 0 0]) 40 rfl Try.underlying22 info_seen rfl (by first | decide | exact Nat.succ_pos _) (by omega) _ out y [.int .u64 y.moment, .bool y.told, .bool y.there, .slice B3 y.data.length c3] (fun _ => True) (fun k => wr.heap.size ≤ k) rfl ?aX6 ?aP6 ?aK6 ?aF6 ?aO6 ?aB6 ?aS6 ?aL6 ?_; (case aX6 => first | rfl | (go_simp; done) | (simp [go_sem]; done)); (case aP6 => exact (kSeenF_mkM w _ _ _ y HOM5.out.le HOM5.out.dat)); (case aK6 => exact (fun k hk => HOM5.out.apart k hk)); (case aB6 => exact HOM5.out.below); (case aF6 => exact (fun _ _ => trivial)); (case aO6 => exact (Kd.R_mono HOM5.out.out (fun _ _ => trivial))); (case aS6 => exact (HOM5.out.below).size); (case aL6 => (omega)); intro v6 w6 ho6 hb6 hg6 hat6; have HO6 := Aside0.mk ho6; have HB6 := Aside0.mk hb6; clear ho6 hb6 hg6 hat6); go_roundw; (case rel => exact ⟨k + 1, by omega, by go_num, ⟨by rw [HST2.out]; exact HO6.out⟩, HB6⟩); (case measure => (simp [intOf]; omega)))
          · have hne : out ≠ [] := fun e => by rw [e] at h0; simp at h0
            have hgl := getLast_gt out hne
            have HZ : decide (0 < out.length) = true := by simpa using h0
            obtain ⟨u, hu⟩ : ∃ u, u = gt out (out.length - 1) := ⟨_, rfl⟩
            obtain ⟨ad2, A4, c4, e4, q0, q1, q2, q3, hc4, hd4⟩ := seen_at (seenF_read HOM.out.below (readsF HOM.out.out)) (show out.length - 1 < out.length by omega)
            cases e4
            rw [← hu] at q0 q1 q2 q3 hc4 hd4 hgl
            have HD4 := Aside0.mk hd4
            have HGL := Aside0.mk hgl
            have r2 := blk_cell HOM.out.box 2
            have r3 := blk_cell HOM.out.box 3
            simp only [List.getElem?_toArray, List.getElem?_cons_zero, List.getElem?_cons_succ] at r2 r3
            have i0 : IntKind.i64.wrap ((out.length : Int) - 1) = (out.length : Int) - 1 := IntWalk.i64_in _ (by omega)
            have i1 : (0 : Int) ≤ (out.length : Int) - 1 := by omega
            have i2 : (out.length : Int) - 1 < (out.length : Int) := by omega
            have i3 : ((out.length : Int) - 1).toNat = out.length - 1 := by omega
            have i4 : (1 : Int) ≤ (out.length : Int) := by omega
            clear hne hu hd4 hgl
            cases ha : (u.there == y.there)
            · have HST2 : Aside0 (refSpec (l.take (k + 1)) = out ++ [y]) := ⟨by rw [HST.out, HST0.out, HGL.out]; simp only [ha, Bool.false_and]; rfl⟩
              go_wp2
              go_quiet (fail)
              clear ha
              obtain ⟨W5, hW5⟩ : ∃ W, W = wc.drewN nq := ⟨_, rfl⟩
              rw [← hW5]
              have HOM5 : Aside0 (RefMade w wr (.slice (some ad2) out.length cv) out y B3 c3 W5) := ⟨by rw [hW5]; exact HOM.out.step (pw_below_drewN (Below.refl _ _) _)⟩
              clear hW5
              (have z0 := blk_cell HOM5.out.box 0; have z1 := blk_cell HOM5.out.box 1; have z2 := blk_cell HOM5.out.box 2; have z3 := blk_cell HOM5.out.box 3; simp only [List.getElem?_toArray, List.getElem?_cons_zero, List.getElem?_cons_succ] at z0 z1 z2 z3; go_wp2_with ((with_reducible refine gate_builtin (b := .append) (xs := #[.tmp 50, .tmp 52]) rfl ?_); at_builtin; refine Kd.R_append (kSeenF w) (w0 := w) w.heap.size rfl (.tmp 50) (.tmp 52) 22 37 (.agg #[.int .u64 0, .bool false, .bool false, .slice none 0 0]) 40 rfl Try.underlying22 info_seen rfl (by first | decide | exact Nat.succ_pos _) (by omega) _ out y [.int .u64 y.moment, .bool y.told, .bool y.there, .slice B3 y.data.length c3] (fun _ => True) (fun k => wr.heap.size ≤ k) rfl ?aX6 ?aP6 ?aK6 ?aF6 ?aO6 ?aB6 ?aS6 ?aL6 ?_; (case aX6 => first | rfl | (go_simp; done) | (simp [go_sem]; done)); (case aP6 => exact (kSeenF_mkM w _ _ _ y HOM5.out.le HOM5.out.dat)); (case aK6 => exact (fun k hk => HOM5.out.apart k hk)); (case aB6 => exact HOM5.out.below); (case aF6 => exact (fun _ _ => trivial)); (case aO6 => exact (Kd.R_mono HOM5.out.out (fun _ _ => trivial))); (case aS6 => exact (HOM5.out.below).size); (case aL6 => (omega)); intro v6 w6 ho6 hb6 hg6 hat6; have HO6 := Aside0.mk ho6; have HB6 := Aside0.mk hb6; clear ho6 hb6 hg6 hat6); go_roundw; (case rel => exact ⟨k + 1, by omega, by go_num, ⟨by rw [HST2.out]; exact HO6.out⟩, HB6⟩); (case measure => (simp [intOf]; omega)))
            · have HST2 : Aside0 (refSpec (l.take (k + 1)) = if u.data = y.data then out else out ++ [y]) := ⟨by rw [HST.out, HST0.out, HGL.out]; simp only [ha, Bool.true_and, decide_eq_true_eq]⟩
              go_wp2
              go_quiet ((go_at_call 17; exact Calls.quiet_of (same50 A4 B3 u.data y.data c4 c3 _ (Kd.C_below HD4.out (pw_below_drewN (Below.refl _ _) _)) (Kd.C_below HOM.out.dat (pw_below_drewN HOM.out.below _)))))
              clear ha
              obtain ⟨W5, hW5⟩ : ∃ W, W = wc.drewN nq := ⟨_, rfl⟩
              rw [← hW5]
              have HOM5 : Aside0 (RefMade w wr (.slice (some ad2) out.length cv) out y B3 c3 W5) := ⟨by rw [hW5]; exact HOM.out.step (pw_below_drewN (Below.refl _ _) _)⟩
              clear hW5
              by_cases hd : u.data = y.data
              · have HST3 : Aside0 (refSpec (l.take (k + 1)) = out) := ⟨by rw [HST2.out, if_pos hd]⟩
                go_wp2
                go_roundw
                case rel => exact ⟨k + 1, by omega, by go_num, ⟨by rw [HST3.out]; exact Kd.R_mono HOM5.out.out (fun _ _ => trivial)⟩, ⟨HOM5.out.below⟩⟩
                case measure => simp [intOf]; omega
              · have HST2 : Aside0 (refSpec (l.take (k + 1)) = out ++ [y]) := ⟨by rw [HST2.out, if_neg hd]⟩
                (have z0 := blk_cell HOM5.out.box 0; have z1 := blk_cell HOM5.out.box 1; have z2 := blk_cell HOM5.out.box 2; have z3 := blk_cell HOM5.out.box 3; simp only [List.getElem?_toArray, List.getElem?_cons_zero, List.getElem?_cons_succ] at z0 z1 z2 z3; go_wp2_with ((with_reducible refine gate_builtin (b := .append) (xs := #[.tmp 50, .tmp 52]) rfl ?_); at_builtin; refine Kd.R_append (kSeenF w) (w0 := w) w.heap.size rfl (.tmp 50) (.tmp 52) 22 37 (.agg #[.int .u64 0, .bool false, .bool false, .slice none 0 0]) 40 rfl Try.underlying22 info_seen rfl (by first | decide | exact Nat.succ_pos _) (by omega) _ out y [.int .u64 y.moment, .bool y.told, .bool y.there, .slice B3 y.data.length c3] (fun _ => True) (fun k => wr.heap.size ≤ k) rfl ?aX6 ?aP6 ?aK6 ?aF6 ?aO6 ?aB6 ?aS6 ?aL6 ?_; (case aX6 => first | rfl | (go_simp; done) | (simp [go_sem]; done)); (case aP6 => exact (kSeenF_mkM w _ _ _ y HOM5.out.le HOM5.out.dat)); (case aK6 => exact (fun k hk => HOM5.out.apart k hk)); (case aB6 => exact HOM5.out.below); (case aF6 => exact (fun _ _ => trivial)); (case aO6 => exact (Kd.R_mono HOM5.out.out (fun _ _ => trivial))); (case aS6 => exact (HOM5.out.below).size); (case aL6 => (omega)); intro v6 w6 ho6 hb6 hg6 hat6; have HO6 := Aside0.mk ho6; have HB6 := Aside0.mk hb6; clear ho6 hb6 hg6 hat6); go_roundw; (case rel => exact ⟨k + 1, by omega, by go_num, ⟨by rw [HST2.out]; exact HO6.out⟩, HB6⟩); (case measure => (simp [intOf]; omega)))
    · go_wp2
      go_ret
      exact ⟨_, rfl, by have := HO.out; rwa [List.take_of_length_le (by omega)] at this, HB.out⟩
end Go.Proofs.Ytjogpfijkhhloaa
