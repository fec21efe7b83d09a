/-
  Chapter 51: Look, the document's side; files as the program's; whether files are no more than are looked at.
-/
import Derived.Test.YtoglbbonfjnmpaaDoorPf
namespace Go.Proofs.YtoglbbonfjnmpaaDoor
open Go.RowKit Go.Proofs.YtoglbbonfjnmpaaDoorW.PrintWords Go.Proofs.YtoglbbonfjnmpaaDoorW.PrintLast Go.Proofs.YtoglbbonfjnmpaaDoorW.PrintMore
set_option linter.unusedVariables false
set_option linter.unusedSimpArgs false

theorem rstate_as (s : ByteArray) (A : Option Addr) (xs : List UInt8) (n : Nat) (hn : n = xs.length) (c : Nat) (st : Nat) (hst : stateB ⟨s, xs⟩ = st) (w : World) (hs : s.size ≤ 1000000) (h : byte.C w A n xs) :
    Calls Tryd.prog 41 #[.agg #[.string s, .slice A n c]] w fun e w' => e = .returned (.int .i64 (st : Int)) ∧ Below w.heap.size w w' := by
  subst hn
  exact rstate_any s A xs c st hst w hs h
theorem rwild_as (A : Option Addr) (xs : List UInt8) (n : Nat) (hn : n = xs.length) (c : Nat) (r : Bool) (hr : wildB xs = r) (w : World) (h : byte.C w A n xs) (hl : n ≤ 1000000) :
    Calls Tryd.prog 18 #[.slice A n c] w fun e w' => e = .returned (.bool r) ∧ Below w.heap.size w w' := by
  subst hn
  exact (rwild_any A xs c r hr w h hl).mono fun e w' ⟨h, q, h2⟩ => ⟨h, by rw [h2]; exact pw_below_drewN (Below.refl _ _) _⟩
/-- The cells of a file of now and of its former self. -/
structure RcIn (w W : World) (p q : Addr) (s1 : ByteArray) (A1 : Option Addr) (n1 d1 : Nat) (s2 : ByteArray) (A2 : Option Addr) (n2 d2 : Nat) : Prop where
  out : Below w.heap.size w W
  g0 : W.cell? p = some (.string s1)
  g1 : W.cell? ⟨p.block, p.off + 1, none⟩ = some (.slice A1 n1 d1)
  f0 : W.cell? q = some (.string s2)
  f1 : W.cell? ⟨q.block, q.off + 1, none⟩ = some (.slice A2 n2 d2)
theorem RcIn.below {w W W' : World} {p q : Addr} {s1 : ByteArray} {A1 : Option Addr} {n1 d1 : Nat} {s2 : ByteArray} {A2 : Option Addr} {n2 d2 : Nat} (h : RcIn w W p q s1 A1 n1 d1 s2 A2 n2 d2) (hb : Below W.heap.size W W') : RcIn w W' p q s1 A1 n1 d1 s2 A2 n2 d2 :=
  ⟨below_step h.out hb, cell_old hb h.g0, cell_old hb h.g1, cell_old hb h.f0, cell_old hb h.f1⟩
theorem ret_bool3 {a b c a' b' c' : Bool} (h1 : a = a') (h2 : b = b') (h3 : c = c') : Ending.returned (.tuple #[.bool a, .bool b, .bool c]) = .returned (.tuple #[.bool a', .bool b', .bool c']) := by rw [h1, h2, h3]
set_option maxRecDepth 4000 in
set_option maxHeartbeats 6400000 in
theorem rlook_any (A B : Option Addr) (before now : List File) (c1 c2 : Nat) (right : Bool) (S : Sg) (hS : lookB before now right = S) (w : World) (h1 : kFile.C w A before.length before) (h2 : kFile.C w B now.length now) (hl : Mild before) (hm : Mild now) :
    Calls Tryd.prog 25 #[.slice A before.length c1, .slice B now.length c2, .bool right] w fun e w' => e = .returned (.tuple #[.bool S.a, .bool S.b, .bool S.c]) ∧ Below w.heap.size w w' := by
  have hmx := Kd.C_max h1
  have hmx2 := Kd.C_max h2
  have H1 := Aside0.mk h1
  have H2 := Aside0.mk h2
  have HSS := Aside0.mk hS
  have hrn : renN before now ≤ before.length := renTo_le before now before.length
  have hbl := hl.1
  clear h1 h2 hS
  go_enter Tryd.func25, Tryd.ntmps25
  go_wp2
  go_loopg [12, 9, 10, 11, 13] now.length (fun gk i v9 v10 v11 _ wr => ∃ k : Nat, k ≤ now.length ∧ Aside0 (gk = now.length - k) ∧ i = .int .i64 k ∧ ∃ (b : Bool) (nw nt : Nat), v9 = .bool b ∧ v10 = .int .i64 nw ∧ v11 = .int .i64 nt ∧ nw ≤ k ∧ nt ≤ k ∧ Aside0 (lkTo before now right k = ⟨b, nw, nt⟩) ∧ Aside0 (Below w.heap.size w wr))
  case atStart => exact ⟨0, Nat.zero_le _, ⟨rfl⟩, rfl, !right, 0, 0, rfl, rfl, rfl, Nat.le_refl _, Nat.le_refl _, ⟨rfl⟩, ⟨Below.refl _ _⟩⟩
  case round =>
    obtain ⟨k, hk, HGK, rfl, b, nw, nt, rfl, rfl, rfl, hnw, hnt, HLT, HB⟩ := hrel
    have hm1 := hm.1
    by_cases hlt : k < now.length
    · obtain ⟨ad, A1, d1, rfl, g0, g1, hc1, hd⟩ := file_at H2.out hlt
      obtain ⟨g, hg⟩ : ∃ g, g = gt now k := ⟨_, rfl⟩
      have hgs := hm.2 k hlt
      have HLS := Aside0.mk (lk_succ before now right k hlt)
      rw [← hg] at g0 g1 hd hc1 hgs HLS
      obtain ⟨m, hm'⟩ : ∃ m, m = g.data.length := ⟨_, rfl⟩
      rw [← hm'] at g1 hc1 hgs hd
      have HM := Aside0.mk hm'
      have HD := Aside0.mk hd
      have hgn := hgs.1
      have hgd := hgs.2
      have e0 := cell_old HB.out g0
      clear hg hd hm' hgs
      rcases idx_cases before g.name with ⟨hi, hlk⟩ | ⟨kf, hkf, hi, hlk⟩
      · have HI := Aside0.mk hi
        have HST : Aside0 (lkTo before now right (k + 1) = ⟨b, nw, nt⟩) := ⟨by rw [HLS.out, HLT.out]; unfold lkStep; rw [hlk]⟩
        clear hi hlk g0 g1
        go_wp2_with (go_at_call 36; refine (rfind_any A before c1 g.name (-1) HI.out _ (Kd.C_below H1.out HB.out)).mono ?_; rintro e w1 ⟨rfl, rfl⟩)
        go_roundg (now.length - (k + 1))
        case measure => have := HGK.out; omega
        case rel => exact ⟨k + 1, by omega, ⟨rfl⟩, by go_num, b, nw, nt, rfl, rfl, rfl, by omega, by omega, HST, HB⟩
      · obtain ⟨ad2, A2, d2, rfl, f0, f1, hc2, hd2⟩ := file_at H1.out hkf
        obtain ⟨x, hxg⟩ : ∃ x, x = gt before kf := ⟨_, rfl⟩
        have hxd := (hl.2 kf hkf).2
        rw [← hxg] at f0 f1 hc2 hd2 hlk hxd
        obtain ⟨xs, hxs⟩ : ∃ xs, xs = x.data := ⟨_, rfl⟩
        have hxe : x = ⟨g.name, xs⟩ := by rw [hxs]; exact name_of_look hlk
        have hnx : x.name = g.name := by rw [hxe]
        rw [hnx] at f0
        rw [← hxs] at f1 hc2 hd2 hxd
        obtain ⟨m2, hm2'⟩ : ∃ m2, m2 = xs.length := ⟨_, rfl⟩
        rw [← hm2'] at f1 hc2 hd2 hxd
        have HM2 := Aside0.mk hm2'
        have HD2 := Aside0.mk hd2
        have HI := Aside0.mk hi
        have HLK : Aside0 (look49 before g.name = some ⟨g.name, xs⟩) := ⟨by rw [hlk, hxe]⟩
        obtain ⟨sg, hsg⟩ : ∃ sg, stateB ⟨g.name, g.data⟩ = sg := ⟨_, rfl⟩
        obtain ⟨sf, hsf⟩ : ∃ sf, stateB ⟨g.name, xs⟩ = sf := ⟨_, rfl⟩
        obtain ⟨wf, hwf⟩ : ∃ wf, wildB xs = wf := ⟨_, rfl⟩
        obtain ⟨wg, hwg⟩ : ∃ wg, wildB g.data = wg := ⟨_, rfl⟩
        have HST : Aside0 (lkTo before now right (k + 1) = ⟨b || (decide (sg = 2) && decide (sf = 1)), nw + (if wf then 0 else if wg then 1 else 0), nt + (if wf then 0 else 1)⟩) := ⟨by rw [HLS.out, HLT.out]; unfold lkStep; rw [HLK.out, ← hsg, ← hsf, ← hwf, ← hwg]; rfl⟩
        have HSG := Aside0.mk hsg
        have HSF := Aside0.mk hsf
        have HWF := Aside0.mk hwf
        have HWG := Aside0.mk hwg
        have HRC : Aside0 (RcIn w wr (ad.add (k * 2)) (ad2.add (kf * 2)) g.name A1 m d1 g.name A2 m2 d2) := ⟨⟨HB.out, cell_old HB.out g0, cell_old HB.out g1, cell_old HB.out f0, cell_old HB.out f1⟩⟩
        obtain ⟨q0, q1, q2, q3⟩ : _ ∧ _ ∧ _ ∧ _ := ⟨HRC.out.g0, HRC.out.g1, HRC.out.f0, HRC.out.f1⟩
        clear hlk hxg hxs hxe hsg hsf hwf hwg hnx hm2' hd2 hi g0 g1 f0 f1
        clear x
        rcases (show (((sg : Int) == 2) = false ∧ decide (sg = 2) = false) ∨ (sg = 2 ∧ ((sf : Int) == 1) = false ∧ decide (sf = 1) = false) ∨ (sg = 2 ∧ sf = 1) by
          by_cases h1 : sg = 2
          · by_cases h2 : sf = 1
            · exact .inr (.inr ⟨h1, h2⟩)
            · exact .inr (.inl ⟨h1, by simp; omega, by simp [h2]⟩)
          · exact .inl ⟨by simp; omega, by simp [h1]⟩) with ⟨hs2, hs2'⟩ | ⟨rfl, hs1, hs1'⟩ | ⟨rfl, rfl⟩
        all_goals
          rcases (show (wf = true) ∨ (wf = false ∧ wg = false) ∨ (wf = false ∧ wg = true) by cases wf <;> cases wg <;> simp) with rfl | ⟨rfl, rfl⟩ | ⟨rfl, rfl⟩
        all_goals
          go_wp2_with (first | (go_at_call 36; refine (rfind_any (some ad2) before c1 g.name kf HI.out _ (Kd.C_below H1.out HB.out)).mono ?_; rintro e w1 ⟨rfl, rfl⟩) | (go_at_call_of 41 (Value.agg #[Value.string g.name, Value.slice A1 m d1]); refine (rstate_as g.name A1 g.data m HM.out d1 _ HSG.out _ hgn (Kd.C_below HD.out HRC.out.out)).mono ?_; rintro e w4 ⟨rfl, hb⟩; have HR4 := Aside0.mk (HRC.out.below hb); obtain ⟨j0, j1, j2, j3⟩ : _ ∧ _ ∧ _ ∧ _ := ⟨HR4.out.g0, HR4.out.g1, HR4.out.f0, HR4.out.f1⟩; clear hb) | (go_at_call_of 41 (Value.agg #[Value.string g.name, Value.slice A2 m2 d2]); refine (rstate_as g.name A2 xs m2 HM2.out d2 _ HSF.out _ hgn (Kd.C_below HD2.out HR4.out.out)).mono ?_; rintro e w5 ⟨rfl, hb⟩; have HR5 := Aside0.mk (HR4.out.below hb); obtain ⟨l0, l1, l2, l3⟩ : _ ∧ _ ∧ _ ∧ _ := ⟨HR5.out.g0, HR5.out.g1, HR5.out.f0, HR5.out.f1⟩; clear hb))
          go_wp2_with (first | (go_at_call_of 18 (Value.slice A2 m2 d2); (first | (refine (rwild_as A2 xs m2 HM2.out d2 _ HWF.out w5 (Kd.C_below HD2.out HR5.out.out) hxd).mono ?_; rintro e w7 ⟨rfl, hb⟩; have HR7 := Aside0.mk (HR5.out.below hb)) | (refine (rwild_as A2 xs m2 HM2.out d2 _ HWF.out w4 (Kd.C_below HD2.out HR4.out.out) hxd).mono ?_; rintro e w7 ⟨rfl, hb⟩; have HR7 := Aside0.mk (HR4.out.below hb))); obtain ⟨i0, i1, i2, i3⟩ : _ ∧ _ ∧ _ ∧ _ := ⟨HR7.out.g0, HR7.out.g1, HR7.out.f0, HR7.out.f1⟩; clear hb) | (go_at_call_of 18 (Value.slice A1 m d1); refine (rwild_as A1 g.data m HM.out d1 _ HWG.out _ (Kd.C_below HD.out HR7.out.out) hgd).mono ?_; rintro e w8 ⟨rfl, hb⟩; have HR8 := Aside0.mk (HR7.out.below hb); clear hb))
          go_roundg (now.length - (k + 1))
          case measure => have := HGK.out; omega
          case rel => first | exact ⟨k + 1, by omega, ⟨rfl⟩, by go_num, _, nw, nt, rfl, rfl, rfl, by omega, by omega, ⟨by rw [HST.out]; simp [*]⟩, ⟨HR7.out.out⟩⟩ | exact ⟨k + 1, by omega, ⟨rfl⟩, by go_num, _, nw, nt + 1, rfl, rfl, by go_num, by omega, by omega, ⟨by rw [HST.out]; simp [*]⟩, ⟨HR8.out.out⟩⟩ | exact ⟨k + 1, by omega, ⟨rfl⟩, by go_num, _, nw + 1, nt + 1, rfl, by go_num, by go_num, by omega, by omega, ⟨by rw [HST.out]; simp [*]⟩, ⟨HR8.out.out⟩⟩
    · have hkk : k = now.length := by omega
      have HLF : Aside0 (lkTo before now right now.length = ⟨b, nw, nt⟩) := ⟨by rw [← hkk]; exact HLT.out⟩
      obtain ⟨n, hn⟩ : ∃ n, renN before now = n := ⟨_, rfl⟩
      have HF : Aside0 (S = ⟨b, halfB nw nt 1, halfB n before.length 2⟩) := ⟨by rw [← HSS.out, ← hn]; unfold lookB; rw [HLF.out]⟩
      have HN := Aside0.mk hn
      rw [hn] at hrn
      have hn1 : n ≤ 1000000 := by omega
      have hn2 : nw ≤ 1000000 := by omega
      clear hn hkk
      by_cases hw0 : 0 < nw
      all_goals
        by_cases hn0 : 2 ≤ n
      all_goals
        have hw0' : decide (1 ≤ nw) = decide (0 < nw) := decide_eq_decide.mpr (by omega)
        go_wp2_with (go_at_call 23; refine (rrenames_any A B before now c1 c2 n HN.out _ (Kd.C_below H1.out HB.out) (Kd.C_below H2.out HB.out) hl hm).mono ?_; rintro e w3 ⟨rfl, rfl⟩)
        go_ret3
        refine ⟨?_, HB.out⟩
        rw [HF.out]
        refine ret_bool3 rfl ?_ ?_
        · unfold halfB
          first | (rw [decide_eq_true (show 1 ≤ nw by omega), Bool.true_and]; exact decide_eq_decide.mpr (by omega)) | (rw [decide_eq_false (show ¬ 1 ≤ nw by omega)]; rfl)
        · unfold halfB
          first | (rw [decide_eq_true (show 2 ≤ n by omega), Bool.true_and]; exact decide_eq_decide.mpr (by omega)) | (rw [decide_eq_false (show ¬ 2 ≤ n by omega)]; rfl)
def smallF (x : File) : Bool := decide (x.name.size ≤ 40) && decide (x.data.length ≤ 300)
def smallB (l : List File) : Bool := decide (l.length ≤ 12) && l.all smallF
theorem all_take_step {p : File → Bool} {l : List File} {k : Nat} (hk : k < l.length) : (l.take (k + 1)).all p = ((l.take k).all p && p (gt l k)) := by
  rw [List.take_add_one, gt_some l k hk, List.all_append]
  simp
theorem all_bad {p : File → Bool} {l : List File} {k : Nat} (hk : k < l.length) (h : p (gt l k) = false) : l.all p = false := by
  rw [List.all_eq_false]
  exact ⟨gt l k, by rw [gt_eq l k hk]; exact List.getElem_mem hk, by simp [h]⟩
theorem small_mild {l : List File} (h : smallB l = true) : l.length ≤ 12 ∧ ∀ k, k < l.length → (gt l k).name.size ≤ 40 ∧ (gt l k).data.length ≤ 300 := by
  unfold smallB at h
  simp only [Bool.and_eq_true, decide_eq_true_eq] at h
  refine ⟨h.1, fun k hk => ?_⟩
  have := List.all_eq_true.1 h.2 (gt l k) (by rw [gt_eq l k hk]; exact List.getElem_mem hk)
  unfold smallF at this
  simpa using this
theorem mild_of_small {l : List File} (h : smallB l = true) : Mild l := by
  have := small_mild h
  exact ⟨by omega, fun k hk => by have := this.2 k hk; omega⟩
set_option maxHeartbeats 1600000 in
theorem small_any (A : Option Addr) (l : List File) (c : Nat) (r : Bool) (hr : smallB l = r) (ri : Int) (hri : (if r then 1 else 0) = ri) (w : World) (h : kFile.C w A l.length l) (hs : ∀ k, k < l.length → (gt l k).name.size ≤ 9223372036854775807) :
    Calls Tryd.prog 20 #[.slice A l.length c] w fun e w' => e = .returned (.int .i64 ri) ∧ Below w.heap.size w w' := by
  have hmx := Kd.C_max h
  have HR := Aside0.mk hr
  have HH := Aside0.mk h
  have HS := Aside0.mk hs
  have HRI := Aside0.mk hri
  clear hr h hs hri
  by_cases h12 : 12 < l.length
  · have h12' : (12 : Int) < (l.length : Int) := by omega
    have HF : Aside0 (r = false) := ⟨by rw [← HR.out]; unfold smallB; rw [decide_eq_false (by omega)]; rfl⟩
    go_enter Tryd.func20, Tryd.ntmps20
    go_wp2
    go_ret
    exact ⟨by rw [← HRI.out, HF.out]; rfl, Below.refl _ _⟩
  · have h12' : ¬ (12 : Int) < (l.length : Int) := by omega
    have HSB : Aside0 (r = l.all smallF) := ⟨by rw [← HR.out]; unfold smallB; rw [decide_eq_true (by omega)]; rfl⟩
    go_enter Tryd.func20, Tryd.ntmps20
    go_wp2
    go_loopg [10, 4] l.length (fun gk i _ wr => ∃ k : Nat, k ≤ l.length ∧ Aside0 (gk = l.length - k) ∧ i = .int .i64 k ∧ Aside0 ((l.take k).all smallF = true) ∧ Aside0 (Below w.heap.size w wr))
    case atStart => exact ⟨0, Nat.zero_le _, ⟨rfl⟩, rfl, ⟨rfl⟩, ⟨Below.refl _ _⟩⟩
    case round =>
      obtain ⟨k, hk, HGK, rfl, HT, HB⟩ := hrel
      by_cases hlt : k < l.length
      · obtain ⟨ad, A1, d1, rfl, g0, g1, hc1, hd⟩ := file_at (Kd.C_below HH.out HB.out) hlt
        have hgm := Kd.C_max hd
        obtain ⟨g, hg⟩ : ∃ g, g = gt l k := ⟨_, rfl⟩
        have hgs := HS.out k hlt
        have HTS := Aside0.mk (all_take_step (p := smallF) hlt)
        have HBADD : Aside0 (smallF g = false → r = false) := ⟨fun hb => by rw [HSB.out]; exact all_bad hlt (by rw [← hg]; exact hb)⟩
        rw [← hg] at g0 g1 hc1 hgs HTS hgm
        obtain ⟨nm, hnm⟩ : ∃ nm, nm = g.name := ⟨_, rfl⟩
        obtain ⟨m, hm⟩ : ∃ m, m = g.data.length := ⟨_, rfl⟩
        have HSF : Aside0 (smallF g = (decide (nm.size ≤ 40) && decide (m ≤ 300))) := ⟨by rw [hnm, hm]; rfl⟩
        rw [← hnm] at g0 hgs
        rw [← hm] at g1 hc1 hgm
        have HB1 := Aside0.mk (below_alloc HB.out (.cells #[.string nm, .slice A1 m d1] 48))
        have z0 := blk_cell (blk_new wr (.cells #[.string nm, .slice A1 m d1] 48)) 0
        have z1 := blk_cell (blk_new wr (.cells #[.string nm, .slice A1 m d1] 48)) 1
        simp only [List.getElem?_toArray, List.getElem?_cons_zero, List.getElem?_cons_succ] at z0 z1
        clear hd hg hnm hm
        by_cases h40 : 40 < nm.size
        · have h40' : (40 : Int) < (nm.size : Int) := by omega
          have HF : Aside0 (r = false) := ⟨HBADD.out (by rw [HSF.out, decide_eq_false (by omega)]; rfl)⟩
          go_wp2
          go_ret
          exact ⟨by rw [← HRI.out, HF.out]; rfl, HB1.out⟩
        · have h40' : ¬ (40 : Int) < (nm.size : Int) := by omega
          by_cases h300 : 300 < m
          · have h300' : (300 : Int) < (m : Int) := by omega
            have HF : Aside0 (r = false) := ⟨HBADD.out (by rw [HSF.out, decide_eq_false (show ¬ m ≤ 300 by omega)]; simp)⟩
            go_wp2
            go_ret
            exact ⟨by rw [← HRI.out, HF.out]; rfl, HB1.out⟩
          · have h300' : ¬ (300 : Int) < (m : Int) := by omega
            have HF : Aside0 ((l.take (k + 1)).all smallF = true) := ⟨by rw [HTS.out, HT.out, HSF.out, decide_eq_true (show nm.size ≤ 40 by omega), decide_eq_true (show m ≤ 300 by omega)]; rfl⟩
            go_wp2
            go_roundg (l.length - (k + 1))
            case measure => have := HGK.out; omega
            case rel => exact ⟨k + 1, by omega, ⟨rfl⟩, by go_num, HF, HB1⟩
      · have HF : Aside0 (r = true) := ⟨by rw [HSB.out]; have := HT.out; rwa [List.take_of_length_le (by omega)] at this⟩
        go_wp2
        go_ret
        exact ⟨by rw [← HRI.out, HF.out]; rfl, HB.out⟩
end Go.Proofs.YtoglbbonfjnmpaaDoor
