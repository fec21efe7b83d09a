/-
  ProbeNew, walked: it returns true.
-/
import Derived.Test.YtoglbbonfjnmpaaDoorPn
namespace Go.Proofs.YtoglbbonfjnmpaaDoor
open Go.RowKit Go.Proofs.YtoglbbonfjnmpaaDoorW.PrintWords Go.Proofs.YtoglbbonfjnmpaaDoorW.PrintLast Go.Proofs.YtoglbbonfjnmpaaDoorW.PrintMore
set_option linter.unusedVariables false
set_option linter.unusedSimpArgs false

theorem smallB_one (x : File) : smallB [x] = smallF x := by
  unfold smallB
  simp
/-- The box of the file more. -/
structure NwIn (w wr : World) (x : File) (A : Option Addr) (n c : Nat) : Prop where
  out : Below w.heap.size w wr
  box : wr.heap[w.heap.size]? = some (.cells #[.string x.name, .slice A n c] 48 (0, 0))
theorem NwIn.below {w wr w1 : World} {x : File} {A : Option Addr} {n c : Nat} (h : NwIn w wr x A n c) (hb : Below wr.heap.size wr w1) : NwIn w w1 x A n c := ⟨below_step h.out hb, blk_below h.box hb⟩
theorem NwIn.cells {w wr : World} {x : File} {A : Option Addr} {n c : Nat} (h : NwIn w wr x A n c) : wr.cell? ⟨w.heap.size, 0, none⟩ = some (.string x.name) ∧ wr.cell? ⟨w.heap.size, 1, none⟩ = some (.slice A n c) := ⟨blk_cell h.box 0, blk_cell h.box 1⟩
theorem nw_set {w wr : World} {x : File} {A : Option Addr} {n c : Nat} (h : NwIn w wr x A n c) {g z : Nat} {a b cc a0 b0 c0 : Bool} (hg : wr.heap[g]? = some (.cells #[.bool a, .bool b, .bool cc] 41 (0, 0))) (hz : wr.heap[z]? = some (.cells #[.bool a0, .bool b0, .bool c0] 41 (0, 0))) (hgz : g < z) (hle : w.heap.size ≤ z) (a1 b1 c1 : Bool) :
    let W3 := ((wr.setCell ⟨z, 0, none⟩ (.bool a1)).setCell ⟨z, 1, none⟩ (.bool b1)).setCell ⟨z, 2, none⟩ (.bool c1)
    NwIn w W3 x A n c ∧ W3.heap[g]? = some (.cells #[.bool a, .bool b, .bool cc] 41 (0, 0)) ∧ W3.heap[z]? = some (.cells #[.bool a1, .bool b1, .bool c1] 41 (0, 0)) := by
  intro W3
  have hne : w.heap.size ≠ z := blk_ne h.box hz (by decide)
  refine ⟨⟨((h.out.setCell (p := ⟨z, 0, none⟩) hle _).setCell (p := ⟨z, 1, none⟩) hle _).setCell (p := ⟨z, 2, none⟩) hle _, blk_far (blk_far (blk_far h.box (p := ⟨z, 0, none⟩) hne _) (p := ⟨z, 1, none⟩) hne _) (p := ⟨z, 2, none⟩) hne _⟩, blk_far (blk_far (blk_far hg (p := ⟨z, 0, none⟩) (by show g ≠ z; omega) _) (p := ⟨z, 1, none⟩) (by show g ≠ z; omega) _) (p := ⟨z, 2, none⟩) (by show g ≠ z; omega) _, ?_⟩
  have := blk_set (blk_set (blk_set hz 0 (.bool a1)) 1 (.bool b1)) 2 (.bool c1)
  simpa using this
theorem nw_set' {w wr : World} {x : File} {A : Option Addr} {n c : Nat} (h : NwIn w wr x A n c) {g z : Nat} {a b cc a0 b0 c0 : Bool} (hg : wr.heap[g]? = some (.cells #[.bool a, .bool b, .bool cc] 41 (0, 0))) (hz : wr.heap[z]? = some (.cells #[.bool a0, .bool b0, .bool c0] 41 (0, 0))) (hgz : g < z) (hle : w.heap.size ≤ z) (a1 b1 c1 : Bool) :
    ∃ W3, W3 = ((wr.setCell ⟨z, 0, none⟩ (.bool a1)).setCell ⟨z, 1, none⟩ (.bool b1)).setCell ⟨z, 2, none⟩ (.bool c1) ∧ NwIn w W3 x A n c ∧ W3.heap[g]? = some (.cells #[.bool a, .bool b, .bool cc] 41 (0, 0)) ∧ W3.heap[z]? = some (.cells #[.bool a1, .bool b1, .bool c1] 41 (0, 0)) := ⟨_, rfl, nw_set h hg hz hgz hle a1 b1 c1⟩
theorem nw_new' {w wr : World} {x : File} {A : Option Addr} {n c : Nat} (h : NwIn w wr x A n c) {g : Nat} {a b cc : Bool} (hg : wr.heap[g]? = some (.cells #[.bool a, .bool b, .bool cc] 41 (0, 0))) (a1 b1 c1 : Bool) :
    ∃ W3, W3 = wr.alloc (.cells #[.bool a1, .bool b1, .bool c1] 41) ∧ NwIn w W3 x A n c ∧ W3.heap[g]? = some (.cells #[.bool a, .bool b, .bool cc] 41 (0, 0)) ∧ W3.heap[wr.heap.size]? = some (.cells #[.bool a1, .bool b1, .bool c1] 41 (0, 0)) := ⟨_, rfl, h.below (below_alloc (Below.refl _ _) _), blk_alloc hg _, blk_new _ _⟩
theorem nw_size {P E w2 : World} (_h : Below E.heap.size E w2) (hb : Below P.heap.size P E) : P.heap.size ≤ E.heap.size := hb.size
theorem nw_size' {P E : World} (hb : Below P.heap.size P E) : P.heap.size ≤ E.heap.size := hb.size
theorem nw_plus {W : World} {o : Obj} {xs : List File} {P : World} (h : kFile.C W (some ⟨(P.alloc o).heap.size, 0, none⟩) 1 xs) : kFile.C W (some ⟨P.heap.size + 1, 0, none⟩) 1 xs := by
  rwa [World.size_alloc] at h
theorem nw_rows {P E : World} {base : Nat} {ok : Nat → Prop} {A : Option Addr} {n c : Nat} {xs : List File} (h : kFile.R 52 P base ok (.slice A n c) xs) (hb : Below P.heap.size P E) : ReadsRow (kFile.M E base ok) kFile.sz E A n xs := by
  have h2 := Kd.R_below h hb
  obtain ⟨A', c', he, _, hr⟩ := OwnRow.reads (h2.2.imp_ (R' := kFile.M E base ok) (fun p c hp => kFile.M_mono (fun q hq => hq.1) hp))
  cases he
  exact hr
theorem small_as (A : Option Addr) (l : List File) (n c : Nat) (hn : l.length = n) (r : Bool) (hr : smallB l = r) (ri : Int) (hri : (if r then 1 else 0) = ri) (w : World) (h : kFile.C w A n l) (hs : ∀ k, k < l.length → (gt l k).name.size ≤ 9223372036854775807) :
    Calls Tryd.prog 20 #[.slice A n c] w fun e w' => e = .returned (.int .i64 ri) ∧ Below w.heap.size w w' := by
  subst hn
  exact small_any A l c r hr ri hri w h hs
theorem files_as (A : Option Addr) (l : List File) (n c : Nat) (hn : l.length = n) (w : World) (h : kFile.C w A n l) (hl : Mild l) :
    Calls Tryd.prog 22 #[.slice A n c] w fun e w' => ∃ Ap cp, e = .returned (.slice Ap n cp) ∧ kFile.R 52 w' w.heap.size (fun _ => True) (.slice Ap n cp) l ∧ Below w.heap.size w w' := by
  subst hn
  exact files_any A l c w h hl.1 (fun k hk => (hl.2 k hk).2)
theorem files_as1 (A : Option Addr) (x : File) (w : World) (h : kFile.C w A 1 [x]) (hl : Mild [x]) :
    Calls Tryd.prog 22 #[.slice A 1 1] w fun e w' => ∃ Ap cp, e = .returned (.slice Ap 1 cp) ∧ kFile.R 52 w' w.heap.size (fun _ => True) (.slice Ap 1 cp) [x] ∧ Below w.heap.size w w' := files_as A [x] 1 1 rfl w h hl
set_option maxRecDepth 4000 in
set_option maxHeartbeats 3200000 in
theorem law_pnew (A B : Option Addr) (before now : List File) (c1 c2 : Nat) (x : File) (D : Option Addr) (d : Nat) (right : Bool) (w : World) (h1 : kFile.C w A before.length before) (h2 : kFile.C w B now.length now) (hx : byte.C w D x.data.length x.data) (hxc : x.data.length ≤ d) (hxn : x.name.size ≤ 9223372036854775807)
    (hs1 : ∀ k, k < before.length → (gt before k).name.size ≤ 9223372036854775807) (hs2 : ∀ k, k < now.length → (gt now k).name.size ≤ 9223372036854775807) (he : EndAt w) (hn : NumAt w) :
    Calls Tryd.prog 10 #[.slice A before.length c1, .slice B now.length c2, .agg #[.string x.name, .slice D x.data.length d], .bool right] w fun e w' => e = .returned (.bool true) ∧ Below w.heap.size w w' := by
  obtain ⟨m, hm⟩ : ∃ m, m = x.data.length := ⟨_, rfl⟩
  rw [← hm] at hx hxc ⊢
  have HM := Aside0.mk hm
  have HX := Aside0.mk hx
  have HN0 : Aside0 (NwIn w (w.alloc (.cells #[.string x.name, .slice D m d] 48)) x D m d) := ⟨below_alloc (Below.refl _ _) _, blk_new w _⟩
  have H1 := Aside0.mk h1
  have H2 := Aside0.mk h2
  have HS1 := Aside0.mk hs1
  have HS2 := Aside0.mk hs2
  have HSN : Aside0 (∀ k, k < [x].length → (gt [x] k).name.size ≤ 9223372036854775807) := ⟨fun k hk => by
    have : k = 0 := by simpa using hk
    subst this
    exact hxn⟩
  have HEW := Aside0.mk he
  have HNW := Aside0.mk hn
  have HE := Aside0.mk (Kd.C_below he HN0.out.out)
  have HNM := Aside0.mk (Kd.C_below hn HN0.out.out)
  have hmx1 := Kd.C_max h1
  have hmx2 := Kd.C_max h2
  clear h1 h2 hs1 hs2 he hn hx hm
  cases hb1 : smallB before
  · have HSA := Aside0.mk hb1
    clear hb1
    go_enter Tryd.func10, Tryd.ntmps10
    go_wp2_with (first | (go_at_call 12; refine (awake_any _ HE.out HNM.out).mono ?_; rintro e w1 ⟨rfl, hb⟩; have HN1 := Aside0.mk (HN0.out.below hb); clear hb) | (go_at_call_of 20 (Value.slice A before.length c1); refine (small_any A before c1 _ HSA.out _ rfl _ (Kd.C_below H1.out HN1.out.out) HS1.out).mono ?_; rintro e w2 ⟨rfl, hb⟩; have HN2 := Aside0.mk (HN1.out.below hb); clear hb) | (go_at_call_of 20 (Value.slice B now.length c2); refine (small_any B now c2 _ HSB.out _ rfl _ (Kd.C_below H2.out HN2.out.out) HS2.out).mono ?_; rintro e w3 ⟨rfl, hb⟩; have HN3 := Aside0.mk (HN2.out.below hb); obtain ⟨x0, x1⟩ := HN3.out.cells; clear hb) | (go_at_call_of 20 (Value.slice (some ⟨w3.heap.size, 0, none⟩) 1 1); refine (small_as _ [x] 1 1 rfl _ HSX.out _ rfl _ (file_one51 (x := x) (blk_new w3 _) HM.out hxc (Kd.C_below HX.out (below_alloc HN3.out.out _))) (fun k hk => HSN.out k hk)).mono ?_; rintro e w4 ⟨rfl, hb⟩; have HN4 := Aside0.mk ((HN3.out.below (below_alloc (Below.refl _ _) _)).below hb); clear hb))
    go_ret
    exact ⟨rfl, HN2.out.out⟩
  · cases hb2 : smallB now
    · have HSA := Aside0.mk hb1
      have HSB := Aside0.mk hb2
      clear hb1 hb2
      go_enter Tryd.func10, Tryd.ntmps10
      go_wp2_with (first | (go_at_call 12; refine (awake_any _ HE.out HNM.out).mono ?_; rintro e w1 ⟨rfl, hb⟩; have HN1 := Aside0.mk (HN0.out.below hb); clear hb) | (go_at_call_of 20 (Value.slice A before.length c1); refine (small_any A before c1 _ HSA.out _ rfl _ (Kd.C_below H1.out HN1.out.out) HS1.out).mono ?_; rintro e w2 ⟨rfl, hb⟩; have HN2 := Aside0.mk (HN1.out.below hb); clear hb) | (go_at_call_of 20 (Value.slice B now.length c2); refine (small_any B now c2 _ HSB.out _ rfl _ (Kd.C_below H2.out HN2.out.out) HS2.out).mono ?_; rintro e w3 ⟨rfl, hb⟩; have HN3 := Aside0.mk (HN2.out.below hb); obtain ⟨x0, x1⟩ := HN3.out.cells; clear hb) | (go_at_call_of 20 (Value.slice (some ⟨w3.heap.size, 0, none⟩) 1 1); refine (small_as _ [x] 1 1 rfl _ HSX.out _ rfl _ (file_one51 (x := x) (blk_new w3 _) HM.out hxc (Kd.C_below HX.out (below_alloc HN3.out.out _))) (fun k hk => HSN.out k hk)).mono ?_; rintro e w4 ⟨rfl, hb⟩; have HN4 := Aside0.mk ((HN3.out.below (below_alloc (Below.refl _ _) _)).below hb); clear hb))
      go_ret
      exact ⟨rfl, HN3.out.out⟩
    · cases hb3 : smallB [x]
      · have HSA := Aside0.mk hb1
        have HSB := Aside0.mk hb2
        have HSX := Aside0.mk hb3
        clear hb1 hb2 hb3
        go_enter Tryd.func10, Tryd.ntmps10
        go_wp2_with (first | (go_at_call 12; refine (awake_any _ HE.out HNM.out).mono ?_; rintro e w1 ⟨rfl, hb⟩; have HN1 := Aside0.mk (HN0.out.below hb); clear hb) | (go_at_call_of 20 (Value.slice A before.length c1); refine (small_any A before c1 _ HSA.out _ rfl _ (Kd.C_below H1.out HN1.out.out) HS1.out).mono ?_; rintro e w2 ⟨rfl, hb⟩; have HN2 := Aside0.mk (HN1.out.below hb); clear hb) | (go_at_call_of 20 (Value.slice B now.length c2); refine (small_any B now c2 _ HSB.out _ rfl _ (Kd.C_below H2.out HN2.out.out) HS2.out).mono ?_; rintro e w3 ⟨rfl, hb⟩; have HN3 := Aside0.mk (HN2.out.below hb); obtain ⟨x0, x1⟩ := HN3.out.cells; clear hb) | (go_at_call_of 20 (Value.slice (some ⟨w3.heap.size, 0, none⟩) 1 1); refine (small_as _ [x] 1 1 rfl _ HSX.out _ rfl _ (file_one51 (x := x) (blk_new w3 _) HM.out hxc (Kd.C_below HX.out (below_alloc HN3.out.out _))) (fun k hk => HSN.out k hk)).mono ?_; rintro e w4 ⟨rfl, hb⟩; have HN4 := Aside0.mk ((HN3.out.below (below_alloc (Below.refl _ _) _)).below hb); clear hb))
        go_ret
        exact ⟨rfl, HN4.out.out⟩
      · have HSA := Aside0.mk hb1
        have HSB := Aside0.mk hb2
        have HSX := Aside0.mk hb3
        have HMA := Aside0.mk (mild_of_small hb1)
        have HMB := Aside0.mk (mild_of_small hb2)
        have HMX := Aside0.mk (mild_of_small hb3)
        have hxs : x.name.size ≤ 1000000 := ((mild_of_small hb3).2 0 (by simp)).1
        have hxd : m ≤ 1000000 := by rw [HM.out]; exact ((mild_of_small hb3).2 0 (by simp)).2
        have hl12 := (small_mild hb2).1
        clear hb1 hb2 hb3
        go_enter Tryd.func10, Tryd.ntmps10
        go_wp2_with (first | (go_at_call 12; refine (awake_any _ HE.out HNM.out).mono ?_; rintro e w1 ⟨rfl, hb⟩; have HN1 := Aside0.mk (HN0.out.below hb); clear hb) | (go_at_call_of 20 (Value.slice A before.length c1); refine (small_any A before c1 _ HSA.out _ rfl _ (Kd.C_below H1.out HN1.out.out) HS1.out).mono ?_; rintro e w2 ⟨rfl, hb⟩; have HN2 := Aside0.mk (HN1.out.below hb); clear hb) | (go_at_call_of 20 (Value.slice B now.length c2); refine (small_any B now c2 _ HSB.out _ rfl _ (Kd.C_below H2.out HN2.out.out) HS2.out).mono ?_; rintro e w3 ⟨rfl, hb⟩; have HN3 := Aside0.mk (HN2.out.below hb); obtain ⟨x0, x1⟩ := HN3.out.cells; clear hb) | (go_at_call_of 20 (Value.slice (some ⟨w3.heap.size, 0, none⟩) 1 1); refine (small_as _ [x] 1 1 rfl _ HSX.out _ rfl _ (file_one51 (x := x) (blk_new w3 _) HM.out hxc (Kd.C_below HX.out (below_alloc HN3.out.out _))) (fun k hk => HSN.out k hk)).mono ?_; rintro e w4 ⟨rfl, hb⟩; have HN4 := Aside0.mk ((HN3.out.below (below_alloc (Below.refl _ _) _)).below hb); clear hb))
        go_loopg [31, 10] before.length (fun gk i _ wr => ∃ k : Nat, k ≤ before.length ∧ Aside0 (gk = before.length - k) ∧ i = .int .i64 k ∧ Aside0 (∀ j, j < k → pfxB x.name (gt before j).name = false) ∧ Aside0 (NwIn w wr x D m d))
        case atStart => exact ⟨0, Nat.zero_le _, ⟨rfl⟩, rfl, ⟨fun _ h => absurd h (by omega)⟩, HN4⟩
        case round =>
          obtain ⟨k, hk, HGK, rfl, HP, HNr⟩ := hrel
          by_cases hlt : k < before.length
          · obtain ⟨ad, A1, d1, rfl, g0, g1, hc1, hd⟩ := file_at (Kd.C_below H1.out HNr.out.out) hlt
            obtain ⟨y, hy⟩ : ∃ y, y = gt before k := ⟨_, rfl⟩
            have hys := (HMA.out.2 k hlt).1
            rw [← hy] at g0 g1 hys
            have HY := Aside0.mk hy
            have HNb := Aside0.mk (HNr.out.below (below_alloc (Below.refl _ _) (.cells #[.string y.name, .slice A1 y.data.length d1] 48)))
            obtain ⟨x0, x1⟩ := HNb.out.cells
            have z0 := blk_cell (blk_new wr (.cells #[.string y.name, .slice A1 y.data.length d1] 48)) 0
            simp only [List.getElem?_toArray, List.getElem?_cons_zero] at z0
            obtain ⟨p, hp⟩ : ∃ p, p = y.name := ⟨_, rfl⟩
            obtain ⟨s, hs⟩ : ∃ s, s = x.name := ⟨_, rfl⟩
            have HPF : Aside0 (pfxB x.name (gt before k).name = decide (p.size ≤ s.size ∧ s.extract 0 p.size = p)) := ⟨by rw [← hy, ← hp, ← hs]; rfl⟩
            clear hd hy
            by_cases hsz : p.size ≤ s.size
            · have hsz' : (p.size : Int) ≤ (s.size : Int) := by omega
              rw [hp, hs] at hsz'
              have hsz2 : p.size ≤ s.size := hsz
              rw [hp, hs] at hsz2
              cases he : ((s.extract 0 p.size).toList == p.toList)
              · have HF : Aside0 (pfxB x.name (gt before k).name = false) := ⟨by rw [HPF.out]; rw [str_eql] at he; exact decide_eq_false (fun h => of_decide_eq_false he h.2)⟩
                rw [hp, hs] at he
                rw [hp, hs] at hsz
                clear hp hs
                go_wp2_with fail
                go_quiet (fail)
                go_wp2_with fail
                go_roundg (before.length - (k + 1))
                case measure => have := HGK.out; omega
                case rel => exact ⟨k + 1, by omega, ⟨rfl⟩, by go_num, ⟨fun j hj => if hq : j = k then by rw [hq]; exact HF.out else HP.out j (by omega)⟩, ⟨HNb.out.below (pw_below_drewN (Below.refl _ _) _)⟩⟩
              · rw [hp, hs] at he
                rw [hp, hs] at hsz
                clear hp hs
                go_wp2_with fail
                go_quiet (fail)
                go_wp2_with fail
                go_ret
                exact ⟨rfl, pw_below_drewN HNb.out.out _⟩
            · have HF : Aside0 (pfxB x.name (gt before k).name = false) := ⟨by rw [HPF.out]; exact decide_eq_false (fun h => hsz h.1)⟩
              have hsz' : ¬ (p.size : Int) ≤ (s.size : Int) := by omega
              have hsz2 : decide (p.size ≤ s.size) = false := decide_eq_false hsz
              rw [hp, hs] at hsz' hsz2
              clear hp hs hsz
              go_wp2_with fail
              go_quiet (fail)
              go_wp2_with fail
              go_roundg (before.length - (k + 1))
              case measure => have := HGK.out; omega
              case rel => exact ⟨k + 1, by omega, ⟨rfl⟩, by go_num, ⟨fun j hj => if hq : j = k then by rw [hq]; exact HF.out else HP.out j (by omega)⟩, ⟨HNb.out.below (pw_below_drewN (Below.refl _ _) _)⟩⟩
          · have hkk : k = before.length := by omega
            have HPA : Aside0 (∀ j, j < before.length → pfxB x.name (gt before j).name = false) := ⟨by rw [← hkk]; exact HP.out⟩
            obtain ⟨⟨a, b, cc⟩, hr⟩ : ∃ r, lookB before now right = r := ⟨_, rfl⟩
            have HR := Aside0.mk hr
            have HR2 : Aside0 (lookB before (now ++ [x]) right = ⟨a, b, cc⟩) := ⟨by rw [new_look before now x right HPA.out, hr]⟩
            have HMBX : Aside0 (Mild (now ++ [x])) := ⟨by
              refine ⟨by simp; omega, fun q hq => ?_⟩
              by_cases hqn : q < now.length
              · have : gt (now ++ [x]) q = gt now q := by rw [gt_eq _ q hq, gt_eq _ q hqn, List.getElem_append_left]
                rw [this]
                exact HMB.out.2 q hqn
              · have : gt (now ++ [x]) q = x := by
                  have hq2 : q = now.length := by simp at hq; omega
                  subst hq2
                  rw [gt_eq _ _ hq]
                  simp
                rw [this]
                exact ⟨hxs, by rw [← HM.out]; exact hxd⟩⟩
            clear hkk hr
            go_wp2_with (first | (go_at_call_of 22 (Value.slice A before.length c1); refine (files_any A before c1 _ (Kd.C_below H1.out HNr.out.out) HMA.out.1 (fun k hk => (HMA.out.2 k hk).2)).mono ?_; rintro e w5 ⟨Ap, cp, rfl, ho, hb⟩; have HO5 := Aside0.mk (Kd.R_reads' ho).2.2; have HN5 := Aside0.mk (HNr.out.below hb); clear ho hb) | (go_at_call_of 22 (Value.slice B now.length c2); refine (files_any B now c2 _ (Kd.C_below H2.out HN5.out.out) HMB.out.1 (fun k hk => (HMB.out.2 k hk).2)).mono ?_; rintro e w6 ⟨Aq, cq, rfl, ho, hb⟩; have HO6 := Aside0.mk (Kd.R_reads' ho).2.2; have HC5 := Aside0.mk (Kd.C_below HO5.out hb); have HN6 := Aside0.mk (HN5.out.below hb); clear ho hb) | (go_at_call 24; refine (look_as Ap Aq before now before.length now.length cp cq rfl rfl right a b cc HR.out _ HC5.out HO6.out HMA.out HMB.out (Kd.C_below HEW.out HN6.out.out) (Kd.C_below HNW.out HN6.out.out)).mono ?_; rintro e w7 ⟨rfl, hb⟩; have HN7 := Aside0.mk (HN6.out.below hb); clear hb))
            obtain ⟨W0, hW0⟩ : ∃ W0, (w7.alloc (.cells #[.bool a, .bool b, .bool cc] 41)).drew = W0 := ⟨_, rfl⟩
            have HN8 : Aside0 (NwIn w W0 x D m d) := ⟨by rw [← hW0]; exact HN7.out.below (below_alloc (Below.refl _ _) _).drew⟩
            have HSG : Aside0 (W0.heap[w7.heap.size]? = some (.cells #[.bool a, .bool b, .bool cc] 41 (0, 0))) := ⟨by rw [← hW0]; exact blk_drew (blk_new w7 _)⟩
            obtain ⟨n3, hn3⟩ : ∃ n3, (now ++ [x]).length = n3 := ⟨_, rfl⟩
            have HL3 := Aside0.mk hn3
            have HLT := Aside0.mk (blk_lt HSG.out)
            have HLA : Aside0 (∀ P : World, NwIn w P x D m d → kFile.C (P.alloc (.cells #[.string x.name, .slice D m d] 48)) (some ⟨P.heap.size, 0, none⟩) 1 [x]) := ⟨fun P hP => file_one51 (x := x) (blk_new P (.cells #[.string x.name, .slice D m d] 48)) HM.out hxc (Kd.C_below HX.out (below_alloc hP.out _))⟩
            have HNc := HN8
            have HSGc := HSG
            have HPs := Aside0.mk (Nat.le_refl W0.heap.size)
            clear hn3
            go_region_held3 (fun W => W.cell? ⟨w.heap.size, 0, none⟩ = some (.string x.name) ∧ W.cell? ⟨w.heap.size, 1, none⟩ = some (.slice D m d)) (first | (with_reducible exact HNc.out.cells) | (with_reducible exact (HNc.out.below (below_alloc (Below.refl _ _) _)).cells) | (with_reducible exact (HNc.out.below (below_alloc (below_alloc (Below.refl _ _) _) _)).cells) | (with_reducible exact K9) | (with_reducible exact K10) | exact HN7.out.cells | exact (HN7.out.below (below_alloc (Below.refl _ _) _).drew).cells) (first | (go_at_call_of 22 (Value.slice A before.length c1); refine (files_any A before c1 _ (Kd.C_below H1.out (below_step HNc.out.out ?hbw)) HMA.out.1 (fun k hk => (HMA.out.2 k hk).2)).mono ?_; (case hbw => (first | (with_reducible exact Below.refl _ _) | (with_reducible exact below_alloc (Below.refl _ _) _) | (with_reducible exact below_alloc (below_alloc (Below.refl _ _) _) _))); rintro e w9 ⟨Ar, cr, rfl, ho, hb⟩; have hbE := below_step (w := W0) (by (first | (with_reducible exact Below.refl _ _) | (with_reducible exact below_alloc (Below.refl _ _) _) | (with_reducible exact below_alloc (below_alloc (Below.refl _ _) _) _))) hb; have HOb := Aside0.mk (Kd.R_lower (Kd.R_mono (Kd.R_bound ho) (ok' := fun q => q < w9.heap.size) (fun q hq => hq.2.2.1)) (below_step HNc.out.out (by (first | (with_reducible exact Below.refl _ _) | (with_reducible exact below_alloc (Below.refl _ _) _) | (with_reducible exact below_alloc (below_alloc (Below.refl _ _) _) _)))).size); (first | (with_reducible have HLn := Aside0.mk (Kd.C_below HLc.out hbE)) | (with_reducible have HLn := Aside0.mk (Kd.C_below (HLA.out W0 HNc.out) hb)) | (with_reducible have HLn := Aside0.mk (Kd.C_below (Kd.C_alloc (HLA.out W0 HNc.out) (.cells #[.bool false, .bool false, .bool false] 41)) hb)) | (with_reducible have HLn := Aside0.mk (Kd.C_below (nw_plus (HLA.out (W0.alloc (.cells #[.bool false, .bool false, .bool false] 41)) (HNc.out.below (below_alloc (Below.refl _ _) _)))) hb)) | skip); (first | (with_reducible have HZn := Aside0.mk (And.intro (blk_below HZc.out.1 hbE) HZc.out.2)) | (with_reducible have HZn := Aside0.mk (And.intro (blk_below (blk_new W0 (.cells #[.bool false, .bool false, .bool false] 41)) hb) HPs.out)) | (with_reducible have HZn := Aside0.mk (And.intro (blk_below (blk_alloc (blk_new W0 (.cells #[.bool false, .bool false, .bool false] 41)) (.cells #[.string x.name, .slice D m d] 48)) hb) HPs.out)) | (with_reducible have HZn := Aside0.mk (And.intro (blk_below (blk_new2 W0 (.cells #[.string x.name, .slice D m d] 48) (.cells #[.bool false, .bool false, .bool false] 41)) hb) (Nat.le_succ_of_le HPs.out))) | skip); have HNn := Aside0.mk (HNc.out.below hbE); have HSGn := Aside0.mk (blk_below HSGc.out hbE); have HPn := Aside0.mk (Nat.le_trans HPs.out hbE.size); have HP9 := HPn; (clear HNc HSGc HPs; (first | clear HLc | skip); (first | clear HZc | skip); have HNc := HNn; have HSGc := HSGn; have HPs := HPn; (first | (have HLc := HLn; clear HLn) | skip); (first | (have HZc := HZn; clear HZn) | skip); clear HNn HSGn HPn); clear ho hb hbE) | (go_at_call_of 22 (Value.slice B now.length c2); refine (files_any B now c2 _ (Kd.C_below H2.out (below_step HNc.out.out ?hbw)) HMB.out.1 (fun k hk => (HMB.out.2 k hk).2)).mono ?_; (case hbw => (first | (with_reducible exact Below.refl _ _) | (with_reducible exact below_alloc (Below.refl _ _) _) | (with_reducible exact below_alloc (below_alloc (Below.refl _ _) _) _))); rintro e w10 ⟨As, cs, rfl, ho, hb⟩; have hbE := below_step (w := w9) (by (first | (with_reducible exact Below.refl _ _) | (with_reducible exact below_alloc (Below.refl _ _) _) | (with_reducible exact below_alloc (below_alloc (Below.refl _ _) _) _))) hb; have HOn := Aside0.mk (Kd.R_lower (Kd.R_mono (Kd.R_bound ho) (ok' := fun q => w9.heap.size ≤ q ∧ q < w10.heap.size) (fun q hq => ⟨Nat.le_trans (nw_size hb (by (first | (with_reducible exact Below.refl _ _) | (with_reducible exact below_alloc (Below.refl _ _) _) | (with_reducible exact below_alloc (below_alloc (Below.refl _ _) _) _)))) hq.2.1, hq.2.2.1⟩)) (Nat.le_trans HNc.out.out.size (nw_size hb (by (first | (with_reducible exact Below.refl _ _) | (with_reducible exact below_alloc (Below.refl _ _) _) | (with_reducible exact below_alloc (below_alloc (Below.refl _ _) _) _)))))); have HObn := Aside0.mk (Kd.R_below HOb.out hbE); clear HOb; have HOb := HObn; clear HObn; (first | (with_reducible have HLn := Aside0.mk (Kd.C_below HLc.out hbE)) | (with_reducible have HLn := Aside0.mk (Kd.C_below (HLA.out w9 HNc.out) hb)) | (with_reducible have HLn := Aside0.mk (Kd.C_below (Kd.C_alloc (HLA.out w9 HNc.out) (.cells #[.bool false, .bool false, .bool false] 41)) hb)) | (with_reducible have HLn := Aside0.mk (Kd.C_below (nw_plus (HLA.out (w9.alloc (.cells #[.bool false, .bool false, .bool false] 41)) (HNc.out.below (below_alloc (Below.refl _ _) _)))) hb)) | skip); (first | (with_reducible have HZn := Aside0.mk (And.intro (blk_below HZc.out.1 hbE) HZc.out.2)) | (with_reducible have HZn := Aside0.mk (And.intro (blk_below (blk_new w9 (.cells #[.bool false, .bool false, .bool false] 41)) hb) HPs.out)) | (with_reducible have HZn := Aside0.mk (And.intro (blk_below (blk_alloc (blk_new w9 (.cells #[.bool false, .bool false, .bool false] 41)) (.cells #[.string x.name, .slice D m d] 48)) hb) HPs.out)) | (with_reducible have HZn := Aside0.mk (And.intro (blk_below (blk_new2 w9 (.cells #[.string x.name, .slice D m d] 48) (.cells #[.bool false, .bool false, .bool false] 41)) hb) (Nat.le_succ_of_le HPs.out))) | skip); have HNn := Aside0.mk (HNc.out.below hbE); have HSGn := Aside0.mk (blk_below HSGc.out hbE); have HPn := Aside0.mk (Nat.le_trans HPs.out hbE.size); (clear HNc HSGc HPs; (first | clear HLc | skip); (first | clear HZc | skip); have HNc := HNn; have HSGc := HSGn; have HPs := HPn; (first | (have HLc := HLn; clear HLn) | skip); (first | (have HZc := HZn; clear HZn) | skip); clear HNn HSGn HPn); clear ho hb hbE) | (go_at_call 22; (first | ((with_reducible refine (files_as1 _ x _ (Kd.C_below HLc.out ?hbl) HMX.out).mono ?_); (case hbl => (first | (with_reducible exact Below.refl _ _) | (with_reducible exact below_alloc (Below.refl _ _) _) | (with_reducible exact below_alloc (below_alloc (Below.refl _ _) _) _)))) | (with_reducible refine (files_as1 _ x (w10.alloc (.cells #[.string x.name, .slice D m d] 48)) (HLA.out w10 HNc.out) HMX.out).mono ?_) | (with_reducible refine (files_as1 _ x ((w10.alloc (.cells #[.string x.name, .slice D m d] 48)).alloc (.cells #[.bool false, .bool false, .bool false] 41)) (Kd.C_alloc (HLA.out w10 HNc.out) _) HMX.out).mono ?_) | (with_reducible refine (files_as1 (some ⟨w10.heap.size + 1, 0, none⟩) x ((w10.alloc (.cells #[.bool false, .bool false, .bool false] 41)).alloc (.cells #[.string x.name, .slice D m d] 48)) (nw_plus (HLA.out (w10.alloc (.cells #[.bool false, .bool false, .bool false] 41)) (HNc.out.below (below_alloc (Below.refl _ _) _)))) HMX.out).mono ?_)); (rintro e w11 ⟨At, ct, rfl, ho, hb⟩; have hbE := below_step (w := w10) (by (first | (with_reducible exact Below.refl _ _) | (with_reducible exact below_alloc (Below.refl _ _) _) | (with_reducible exact below_alloc (below_alloc (Below.refl _ _) _) _))) hb; have HOx := Aside0.mk (Kd.R_lower (Kd.R_mono (Kd.R_bound ho) (ok' := fun q => w10.heap.size ≤ q) (fun q hq => Nat.le_trans (nw_size hb (by (first | (with_reducible exact Below.refl _ _) | (with_reducible exact below_alloc (Below.refl _ _) _) | (with_reducible exact below_alloc (below_alloc (Below.refl _ _) _) _)))) hq.2.1)) (Nat.le_trans HNc.out.out.size (nw_size hb (by (first | (with_reducible exact Below.refl _ _) | (with_reducible exact below_alloc (Below.refl _ _) _) | (with_reducible exact below_alloc (below_alloc (Below.refl _ _) _) _)))))); have HObn := Aside0.mk (Kd.R_below HOb.out hbE); have HOnn := Aside0.mk (Kd.R_below HOn.out hbE); clear HOb HOn; have HOb := HObn; have HOn := HOnn; clear HObn HOnn; (first | (with_reducible have HLn := Aside0.mk (Kd.C_below HLc.out hbE)) | (with_reducible have HLn := Aside0.mk (Kd.C_below (HLA.out w10 HNc.out) hb)) | (with_reducible have HLn := Aside0.mk (Kd.C_below (Kd.C_alloc (HLA.out w10 HNc.out) (.cells #[.bool false, .bool false, .bool false] 41)) hb)) | (with_reducible have HLn := Aside0.mk (Kd.C_below (nw_plus (HLA.out (w10.alloc (.cells #[.bool false, .bool false, .bool false] 41)) (HNc.out.below (below_alloc (Below.refl _ _) _)))) hb)) | skip); (first | (with_reducible have HZn := Aside0.mk (And.intro (blk_below HZc.out.1 hbE) HZc.out.2)) | (with_reducible have HZn := Aside0.mk (And.intro (blk_below (blk_new w10 (.cells #[.bool false, .bool false, .bool false] 41)) hb) HPs.out)) | (with_reducible have HZn := Aside0.mk (And.intro (blk_below (blk_alloc (blk_new w10 (.cells #[.bool false, .bool false, .bool false] 41)) (.cells #[.string x.name, .slice D m d] 48)) hb) HPs.out)) | (with_reducible have HZn := Aside0.mk (And.intro (blk_below (blk_new2 w10 (.cells #[.string x.name, .slice D m d] 48) (.cells #[.bool false, .bool false, .bool false] 41)) hb) (Nat.le_succ_of_le HPs.out))) | skip); have HNn := Aside0.mk (HNc.out.below hbE); have HSGn := Aside0.mk (blk_below HSGc.out hbE); have HPn := Aside0.mk (Nat.le_trans HPs.out hbE.size); (clear HNc HSGc HPs; (first | clear HLc | skip); (first | clear HZc | skip); have HNc := HNn; have HSGc := HSGn; have HPs := HPn; (first | (have HLc := HLn; clear HLn) | skip); (first | (have HZc := HZn; clear HZn) | skip); clear HNn HSGn HPn); clear ho hb hbE)) | (refine Kd.R_append_rows_step kFile (w0 := w) w.heap.size rfl (.tmp 63) (.tmp 66) 36 52 (.agg #[.string ByteArray.empty, .slice none 0 0]) 40 rfl Tryd.underlying36 info_file51 rfl (Nat.succ_pos _) (by omega) (.slice As now.length cs) now [x] At 1 ct (fun _ => True) (fun q => w10.heap.size ≤ q) rfl rfl (Kd.R_mono (Kd.R_below HOn.out ?hba) (fun _ _ => trivial)) (nw_rows HOx.out ?hba) (fun _ _ hx => hx) (fun q hq => ⟨trivial, fun e => by have h1 := HOn.out.1 q e.symm; have h2 : w10.heap.size ≤ q := hq; omega⟩) (fun _ _ => trivial) (below_step HNc.out.out ?hba) (below_step HNc.out.out ?hba).size (by omega) ?_; (case hba => (first | (with_reducible exact Below.refl _ _) | (with_reducible exact below_alloc (Below.refl _ _) _) | (with_reducible exact below_alloc (below_alloc (Below.refl _ _) _) _))); intro v2 w12 ho hb hg hat; obtain ⟨Au, cu, rfl⟩ : ∃ A c, v2 = .slice A n3 c := (by obtain ⟨A, c, e⟩ := Kd.R_slice ho; exact ⟨A, c, by rw [e, HL3.out]⟩); have HO12 := Aside0.mk (Kd.R_reads' ho).2.2; rw [HL3.out] at HO12; have HObn := Aside0.mk (Kd.R_reads' (Kd.R_grown (Kd.R_below HOb.out (by (first | (with_reducible exact Below.refl _ _) | (with_reducible exact below_alloc (Below.refl _ _) _) | (with_reducible exact below_alloc (below_alloc (Below.refl _ _) _) _)))) hg (fun q hq e => by have h1 := HOn.out.1 q e.symm; have h2 : q < w9.heap.size := hq; omega))).2.2; have HSGn := Aside0.mk (blk_grown (blk_below HSGc.out (by (first | (with_reducible exact Below.refl _ _) | (with_reducible exact below_alloc (Below.refl _ _) _) | (with_reducible exact below_alloc (below_alloc (Below.refl _ _) _) _)))) hg (fun e => by have h1 := HOn.out.1 w7.heap.size e.symm; have h2 := HLT.out; have h3 := HP9.out; omega)); (first | ((with_reducible have hz9 := blk_grown (blk_below HZc.out.1 (by (first | (with_reducible exact Below.refl _ _) | (with_reducible exact below_alloc (Below.refl _ _) _) | (with_reducible exact below_alloc (below_alloc (Below.refl _ _) _) _)))) hg); have HZn := Aside0.mk (And.intro (hz9 (OwnRow.ne_block (Kd.R_below HOn.out (by (first | (with_reducible exact Below.refl _ _) | (with_reducible exact below_alloc (Below.refl _ _) _) | (with_reducible exact below_alloc (below_alloc (Below.refl _ _) _) _)))).2 (blk_below HZc.out.1 (by (first | (with_reducible exact Below.refl _ _) | (with_reducible exact below_alloc (Below.refl _ _) _) | (with_reducible exact below_alloc (below_alloc (Below.refl _ _) _) _)))) (by decide))) HZc.out.2); clear hz9) | ((with_reducible have hz9 := blk_grown (blk_new w11 (.cells #[.bool false, .bool false, .bool false] 41)) hg); have HZn := Aside0.mk (And.intro (hz9 (OwnRow.ne_block (Kd.R_alloc HOn.out _).2 (blk_new w11 (.cells #[.bool false, .bool false, .bool false] 41)) (by decide))) HPs.out); clear hz9) | skip); have HNn : Aside0 (NwIn w w12 x D m d) := ⟨⟨hb, blk_grown (blk_below HNc.out.box (by (first | (with_reducible exact Below.refl _ _) | (with_reducible exact below_alloc (Below.refl _ _) _) | (with_reducible exact below_alloc (below_alloc (Below.refl _ _) _) _)))) hg (OwnRow.ne_block (Kd.R_below HOn.out (by (first | (with_reducible exact Below.refl _ _) | (with_reducible exact below_alloc (Below.refl _ _) _) | (with_reducible exact below_alloc (below_alloc (Below.refl _ _) _) _)))).2 (blk_below HNc.out.box (by (first | (with_reducible exact Below.refl _ _) | (with_reducible exact below_alloc (Below.refl _ _) _) | (with_reducible exact below_alloc (below_alloc (Below.refl _ _) _) _)))) (by decide))⟩⟩; have HPn := Aside0.mk (Nat.le_trans HPs.out (Nat.le_trans (nw_size' (by (first | (with_reducible exact Below.refl _ _) | (with_reducible exact below_alloc (Below.refl _ _) _) | (with_reducible exact below_alloc (below_alloc (Below.refl _ _) _) _)))) hg.size)); clear HOb HOn HLc; have HOb := HObn; clear HObn; (clear HNc HSGc HPs; (first | clear HLc | skip); (first | clear HZc | skip); have HNc := HNn; have HSGc := HSGn; have HPs := HPn; (first | (have HLc := HLn; clear HLn) | skip); (first | (have HZc := HZn; clear HZn) | skip); clear HNn HSGn HPn); clear ho hb hg hat) | (go_at_call 24; refine (look_as Ar Au before (now ++ [x]) before.length n3 cr cu rfl HL3.out right a b cc HR2.out _ (Kd.C_below HOb.out ?hbw) (Kd.C_below HO12.out ?hbw) HMA.out HMBX.out (Kd.C_below HEW.out (below_step HNc.out.out ?hbw)) (Kd.C_below HNW.out (below_step HNc.out.out ?hbw))).mono ?_; (case hbw => (first | (with_reducible exact Below.refl _ _) | (with_reducible exact below_alloc (Below.refl _ _) _) | (with_reducible exact below_alloc (below_alloc (Below.refl _ _) _) _))); rintro e w13 ⟨rfl, hb⟩; have hbE := below_step (w := w12) (by (first | (with_reducible exact Below.refl _ _) | (with_reducible exact below_alloc (Below.refl _ _) _) | (with_reducible exact below_alloc (below_alloc (Below.refl _ _) _) _))) hb; (first | (with_reducible have HLn := Aside0.mk (Kd.C_below HLc.out hbE)) | (with_reducible have HLn := Aside0.mk (Kd.C_below (HLA.out w12 HNc.out) hb)) | (with_reducible have HLn := Aside0.mk (Kd.C_below (Kd.C_alloc (HLA.out w12 HNc.out) (.cells #[.bool false, .bool false, .bool false] 41)) hb)) | (with_reducible have HLn := Aside0.mk (Kd.C_below (nw_plus (HLA.out (w12.alloc (.cells #[.bool false, .bool false, .bool false] 41)) (HNc.out.below (below_alloc (Below.refl _ _) _)))) hb)) | skip); (first | (with_reducible have HZn := Aside0.mk (And.intro (blk_below HZc.out.1 hbE) HZc.out.2)) | (with_reducible have HZn := Aside0.mk (And.intro (blk_below (blk_new w12 (.cells #[.bool false, .bool false, .bool false] 41)) hb) HPs.out)) | (with_reducible have HZn := Aside0.mk (And.intro (blk_below (blk_alloc (blk_new w12 (.cells #[.bool false, .bool false, .bool false] 41)) (.cells #[.string x.name, .slice D m d] 48)) hb) HPs.out)) | (with_reducible have HZn := Aside0.mk (And.intro (blk_below (blk_new2 w12 (.cells #[.string x.name, .slice D m d] 48) (.cells #[.bool false, .bool false, .bool false] 41)) hb) (Nat.le_succ_of_le HPs.out))) | skip); have HNn := Aside0.mk (HNc.out.below hbE); have HSGn := Aside0.mk (blk_below HSGc.out hbE); have HPn := Aside0.mk (Nat.le_trans HPs.out hbE.size); (clear HNc HSGc HPs; (first | clear HLc | skip); (first | clear HZc | skip); have HNc := HNn; have HSGc := HSGn; have HPs := HPn; (first | (have HLc := HLn; clear HLn) | skip); (first | (have HZc := HZn; clear HZn) | skip); clear HNn HSGn HPn); (first | (have HZZ := Aside0.mk HZc.out.1; have HZ3 := Aside0.mk (nw_set HNc.out HSGc.out HZc.out.1 (Nat.lt_of_lt_of_le HLT.out HZc.out.2) (Nat.le_trans HN8.out.out.size HZc.out.2) a b cc); have HZ4 := Aside0.mk (nw_set' HNc.out HSGc.out HZc.out.1 (Nat.lt_of_lt_of_le HLT.out HZc.out.2) (Nat.le_trans HN8.out.out.size HZc.out.2) a b cc)) | (have HZZ := Aside0.mk (blk_new w13 (.cells #[.bool false, .bool false, .bool false] 41)); have HZ3 := Aside0.mk (nw_set (HNc.out.below (below_alloc (Below.refl _ _) (.cells #[.bool false, .bool false, .bool false] 41))) (blk_alloc HSGc.out (.cells #[.bool false, .bool false, .bool false] 41)) (blk_new w13 (.cells #[.bool false, .bool false, .bool false] 41)) (Nat.lt_of_lt_of_le HLT.out HPs.out) (Nat.le_trans HN8.out.out.size HPs.out) a b cc); have HZ4 := Aside0.mk (nw_new' HNc.out HSGc.out a b cc); have K10 := (HNc.out.below (below_alloc (Below.refl _ _) (.cells #[.bool a, .bool b, .bool cc] 41))).cells)); have y0 := blk_cell HZZ.out 0; have y1 := blk_cell HZZ.out 1; have y2 := blk_cell HZZ.out 2; simp only [List.getElem?_toArray, List.getElem?_cons_zero, List.getElem?_cons_succ] at y0 y1 y2; have f0 := blk_frozen HZZ.out 0; have f1 := blk_frozen HZZ.out 1; have f2 := blk_frozen HZZ.out 2; have K9 := HZ3.out.1.cells; clear hb hbE))
            all_goals (
              obtain ⟨W3, hW3, hn3, hs3, hz3⟩ := HZ4.out
              rw [← hW3]
              have HN13 := Aside0.mk hn3
              have g0 := blk_cell hs3 0
              have g1 := blk_cell hs3 1
              have g2 := blk_cell hs3 2
              have e0 := blk_cell hz3 0
              have e1 := blk_cell hz3 1
              have e2 := blk_cell hz3 2
              simp only [List.getElem?_toArray, List.getElem?_cons_zero, List.getElem?_cons_succ] at g0 g1 g2 e0 e1 e2
              clear y0 y1 y2 f0 f1 f2 HZZ HZ3 HZ4 hW3 hn3 hs3 hz3 K9
              go_wp2_with fail
              go_ret
              exact ⟨rfl, HN13.out.out⟩)
end Go.Proofs.YtoglbbonfjnmpaaDoor
