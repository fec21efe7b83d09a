/-
  Chapter 55: Small and files.
-/
import Derived.Test.YtdobjbdkfammbaaDoorAw
import Derived.Deep.RegionLawGrows
namespace Go.Proofs.YtdobjbdkfammbaaDoor
open Go.RowKit Go.Proofs.YtdobjbdkfammbaaDoorW.PrintWords Go.Proofs.YtdobjbdkfammbaaDoorW.PrintLast Go.Proofs.YtdobjbdkfammbaaDoorW.PrintMore
set_option linter.unusedVariables false
set_option linter.unusedSimpArgs false

def smallF (x : File) : Bool := decide (x.name.size ≤ 40) && decide (x.data.length ≤ 300)
def smallB (l : List File) : Bool := decide (l.length ≤ 12) && l.all smallF
theorem all_take_step {p : File → Bool} {l : List File} {k : Nat} (hk : k < l.length) : (l.take (k + 1)).all p = ((l.take k).all p && p (gt l k)) := by
  rw [List.take_add_one, gt_some l k hk, List.all_append]
  simp
theorem all_bad {p : File → Bool} {l : List File} {k : Nat} (hk : k < l.length) (h : p (gt l k) = false) : l.all p = false := by
  rw [List.all_eq_false]
  exact ⟨gt l k, by rw [gt_eq l k hk]; exact List.getElem_mem hk, by simp [h]⟩
theorem small_mild {l : List File} (h : smallB l = true) : l.length ≤ 12 ∧ ∀ k, k < l.length → (gt l k).name.size ≤ 40 ∧ (gt l k).data.length ≤ 300 := by
  unfold smallB at h
  simp only [Bool.and_eq_true, decide_eq_true_eq] at h
  refine ⟨h.1, fun k hk => ?_⟩
  have := List.all_eq_true.1 h.2 (gt l k) (by rw [gt_eq l k hk]; exact List.getElem_mem hk)
  unfold smallF at this
  simpa using this
set_option maxHeartbeats 1600000 in
theorem small_any (A : Option Addr) (l : List File) (c : Nat) (r : Bool) (hr : smallB l = r) (ri : Int) (hri : (if r then 1 else 0) = ri) (w : World) (h : kFile.C w A l.length l) (hs : ∀ k, k < l.length → (gt l k).name.size ≤ 9223372036854775807) :
    Calls Tryd.prog 16 #[.slice A l.length c] w fun e w' => e = .returned (.int .i64 ri) ∧ Below w.heap.size w w' := by
  have hmx := Kd.C_max h
  have HR := Aside0.mk hr
  have HH := Aside0.mk h
  have HS := Aside0.mk hs
  have HRI := Aside0.mk hri
  clear hr h hs hri
  by_cases h12 : 12 < l.length
  · have h12' : (12 : Int) < (l.length : Int) := by omega
    have HF : Aside0 (r = false) := ⟨by rw [← HR.out]; unfold smallB; rw [decide_eq_false (by omega)]; rfl⟩
    go_enter Tryd.func16, Tryd.ntmps16
    go_wp2
    go_ret
    exact ⟨by rw [← HRI.out, HF.out]; rfl, Below.refl _ _⟩
  · have h12' : ¬ (12 : Int) < (l.length : Int) := by omega
    have HSB : Aside0 (r = l.all smallF) := ⟨by rw [← HR.out]; unfold smallB; rw [decide_eq_true (by omega)]; rfl⟩
    go_enter Tryd.func16, Tryd.ntmps16
    go_wp2
    go_loopg [10, 4] l.length (fun gk i _ wr => ∃ k : Nat, k ≤ l.length ∧ Aside0 (gk = l.length - k) ∧ i = .int .i64 k ∧ Aside0 ((l.take k).all smallF = true) ∧ Aside0 (Below w.heap.size w wr))
    case atStart => exact ⟨0, Nat.zero_le _, ⟨rfl⟩, rfl, ⟨rfl⟩, ⟨Below.refl _ _⟩⟩
    case round =>
      obtain ⟨k, hk, HGK, rfl, HT, HB⟩ := hrel
      by_cases hlt : k < l.length
      · obtain ⟨ad, A1, d1, rfl, g0, g1, hc1, hd⟩ := file_at (Kd.C_below HH.out HB.out) hlt
        have hgm := Kd.C_max hd
        obtain ⟨g, hg⟩ : ∃ g, g = gt l k := ⟨_, rfl⟩
        have hgs := HS.out k hlt
        have HTS := Aside0.mk (all_take_step (p := smallF) hlt)
        have HBADD : Aside0 (smallF g = false → r = false) := ⟨fun hb => by rw [HSB.out]; exact all_bad hlt (by rw [← hg]; exact hb)⟩
        rw [← hg] at g0 g1 hc1 hgs HTS hgm
        obtain ⟨nm, hnm⟩ : ∃ nm, nm = g.name := ⟨_, rfl⟩
        obtain ⟨m, hm⟩ : ∃ m, m = g.data.length := ⟨_, rfl⟩
        have HSF : Aside0 (smallF g = (decide (nm.size ≤ 40) && decide (m ≤ 300))) := ⟨by rw [hnm, hm]; rfl⟩
        rw [← hnm] at g0 hgs
        rw [← hm] at g1 hc1 hgm
        have HB1 := Aside0.mk (below_alloc HB.out (.cells #[.string nm, .slice A1 m d1] 64))
        have z0 := blk_cell (blk_new wr (.cells #[.string nm, .slice A1 m d1] 64)) 0
        have z1 := blk_cell (blk_new wr (.cells #[.string nm, .slice A1 m d1] 64)) 1
        simp only [List.getElem?_toArray, List.getElem?_cons_zero, List.getElem?_cons_succ] at z0 z1
        clear hd hg hnm hm
        by_cases h40 : 40 < nm.size
        · have h40' : (40 : Int) < (nm.size : Int) := by omega
          have HF : Aside0 (r = false) := ⟨HBADD.out (by rw [HSF.out, decide_eq_false (by omega)]; rfl)⟩
          go_wp2
          go_ret
          exact ⟨by rw [← HRI.out, HF.out]; rfl, HB1.out⟩
        · have h40' : ¬ (40 : Int) < (nm.size : Int) := by omega
          by_cases h300 : 300 < m
          · have h300' : (300 : Int) < (m : Int) := by omega
            have HF : Aside0 (r = false) := ⟨HBADD.out (by rw [HSF.out, decide_eq_false (show ¬ m ≤ 300 by omega)]; simp)⟩
            go_wp2
            go_ret
            exact ⟨by rw [← HRI.out, HF.out]; rfl, HB1.out⟩
          · have h300' : ¬ (300 : Int) < (m : Int) := by omega
            have HF : Aside0 ((l.take (k + 1)).all smallF = true) := ⟨by rw [HTS.out, HT.out, HSF.out, decide_eq_true (show nm.size ≤ 40 by omega), decide_eq_true (show m ≤ 300 by omega)]; rfl⟩
            go_wp2
            go_roundg (l.length - (k + 1))
            case measure => have := HGK.out; omega
            case rel => exact ⟨k + 1, by omega, ⟨rfl⟩, by go_num, HF, HB1⟩
      · have HF : Aside0 (r = true) := ⟨by rw [HSB.out]; have := HT.out; rwa [List.take_of_length_le (by omega)] at this⟩
        go_wp2
        go_ret
        exact ⟨by rw [← HRI.out, HF.out]; rfl, HB.out⟩
theorem info_file51 : (Tryd.prog.info? 56).map (fun i => (i.zero, i.size, i.bytes)) = some (some (.agg #[.string ByteArray.empty, .slice none 0 0]), 2, 40) := by kernel_rfl
theorem kFile_mkM51 (w : World) (base : Nat) (ok : Nat → Prop) (x : File) {v : Value} (g : byte.R 5 w base ok v x.data) : kFile.M w base ok x [.string x.name, v] := ⟨[.string x.name], [v], rfl, rfl, ⟨v, rfl, g⟩⟩
theorem byteR_lit (w : World) (base : Nat) (M : List UInt8) (hb : base ≤ w.heap.size) (hm : M.length ≤ 9223372036854775807) : byte.R 5 (w.alloc (.cells (bytesV M).toArray 5)) base (fun _ => True) (.slice (some ⟨w.heap.size, 0, none⟩) M.length M.length) M := by
  refine ⟨fun k hk => trivial, bytesV M, ?_, ?_⟩
  · have hl : (bytesV M).length = M.length := by simp [bytesV]
    have h2 := World.ownsRow_lit (base := base) (e := 5) (size := 1) w (bytesV M).toArray M.length hb (by simpa [maxLen] using hm) (by simp [hl])
    have h3 : (bytesV M).toArray.toList = bytesV M := by simp
    rw [h3] at h2
    exact h2
  · rw [← encs_bytes]
    exact Kd.reps_scalar M
theorem byteR_lit' (w : World) (base : Nat) (ok : Nat → Prop) (M : List UInt8) (hb : base ≤ w.heap.size) (hm : M.length ≤ 9223372036854775807) (hok : ok w.heap.size) : byte.R 5 (w.alloc (.cells (bytesV M).toArray 5)) base ok (.slice (some ⟨w.heap.size, 0, none⟩) M.length M.length) M := by
  obtain ⟨_, h2⟩ := byteR_lit w base M hb hm
  refine ⟨fun k hk => ?_, ?_⟩
  · have : w.heap.size = k := by simpa [Value.ownBlock] using hk
    exact this ▸ hok
  · obtain ⟨inner, h3, h4⟩ := h2
    exact ⟨inner, h3, h4⟩
set_option maxHeartbeats 3200000 in
theorem files_any (A : Option Addr) (l : List File) (c : Nat) (w : World) (h : kFile.C w A l.length l) (hl : l.length ≤ 1000000) (hd : ∀ k, k < l.length → (gt l k).data.length ≤ 1000000) :
    Calls Tryd.prog 17 #[.slice A l.length c] w fun e w' => ∃ Ap cp, e = .returned (.slice Ap l.length cp) ∧ kFile.R 56 w' w.heap.size (fun _ => True) (.slice Ap l.length cp) l ∧ Below w.heap.size w w' := by
  have hmx := Kd.C_max h
  have HH := Aside0.mk h
  have HDD := Aside0.mk hd
  clear h hd
  go_enter Tryd.func17, Tryd.ntmps17
  go_wp2
  go_loopg [8, 3, 5] l.length (fun gk i v3 _ wr => ∃ k : Nat, k ≤ l.length ∧ Aside0 (gk = l.length - k) ∧ i = .int .i64 k ∧ Aside0 (kFile.R 56 wr w.heap.size (fun _ => True) v3 (l.take k)) ∧ Aside0 (Below w.heap.size w wr))
  case atStart => exact ⟨0, Nat.zero_le _, ⟨rfl⟩, rfl, ⟨Kd.R_nil _ _ _ _ _⟩, ⟨Below.refl _ _⟩⟩
  case round =>
    obtain ⟨k, hk, HGK, rfl, HR, HB⟩ := hrel
    by_cases hlt : k < l.length
    · obtain ⟨ad, A1, d1, rfl, g0, g1, hc1, hd⟩ := file_at HH.out hlt
      replace g0 := cell_old HB.out g0
      replace g1 := cell_old HB.out g1
      obtain ⟨x, hx⟩ : ∃ x, x = gt l k := ⟨_, rfl⟩
      have hxd := HDD.out k hlt
      rw [← hx] at g0 g1 hd hc1 hxd
      obtain ⟨m, hm⟩ : ∃ m, m = x.data.length := ⟨_, rfl⟩
      rw [← hm] at g1 hc1 hxd hd
      have HX := Aside0.mk hx
      have HM := Aside0.mk hm
      have HD := Aside0.mk hd
      have HB1 := Aside0.mk (below_alloc HB.out (.cells #[.string x.name, .slice A1 m d1] 64))
      have q0 := blk_cell (blk_new wr (.cells #[.string x.name, .slice A1 m d1] 64)) 0
      have q1 := blk_cell (blk_new wr (.cells #[.string x.name, .slice A1 m d1] 64)) 1
      simp only [List.getElem?_toArray, List.getElem?_cons_zero, List.getElem?_cons_succ] at q0 q1
      have HLEN : Aside0 (((l.take k).length + 1) * 40 ≤ 140737488355328) := ⟨by have : (l.take k).length ≤ k := List.length_take_le _ _; omega⟩
      obtain ⟨W1, hW1⟩ : ∃ W1, (wr.alloc (.cells #[.string x.name, .slice A1 m d1] 64)).drew = W1 := ⟨_, rfl⟩
      have HBw : Aside0 (Below wr.heap.size wr W1) := ⟨by rw [← hW1]; exact (below_alloc (Below.refl _ _) _).drew⟩
      have HBX : Aside0 (W1.heap[wr.heap.size]? = some (.cells #[.string x.name, .slice A1 m d1] 64 (0, 0))) := ⟨by rw [← hW1]; exact blk_drew (blk_new wr _)⟩
      have HN1 : Aside0 (wr.heap.size < W1.heap.size) := ⟨blk_lt HBX.out⟩
      obtain ⟨N, hN⟩ : ∃ N, N = wr.heap.size := ⟨_, rfl⟩
      have HRN : Aside0 (kFile.R 56 (W1.alloc (.cells #[] 5)) w.heap.size (fun q => q < N) u3 (l.take k)) := ⟨Kd.R_alloc (Kd.R_below (Kd.R_mono (Kd.R_bound HR.out) (fun q hq => by rw [hN]; exact hq.2.2.1)) HBw.out) _⟩
      have HO0 : Aside0 (byte.R 5 (W1.alloc (.cells #[] 5)) w.heap.size (fun q => N ≤ q) (.slice (some ⟨W1.heap.size, 0, none⟩) 0 0) []) := ⟨byteR_lit' W1 w.heap.size (fun q => N ≤ q) [] (by have := HB.out.size; have := HN1.out; omega) (by simp) (by have := HN1.out; omega)⟩
      have HB2 := Aside0.mk (below_alloc (below_step HB.out HBw.out) (.cells #[] 5))
      have HD2 := Aside0.mk (Kd.C_below HD.out HB2.out)
      have HBX2 := Aside0.mk (blk_alloc HBX.out (.cells #[] 5))
      have K1 : W1.cell? ⟨wr.heap.size, 0, none⟩ = some (.string x.name) ∧ W1.cell? ⟨wr.heap.size, 1, none⟩ = some (.slice A1 m d1) := ⟨blk_cell HBX.out 0, blk_cell HBX.out 1⟩
      have K2 : (W1.alloc (.cells #[] 5)).cell? ⟨wr.heap.size, 0, none⟩ = some (.string x.name) ∧ (W1.alloc (.cells #[] 5)).cell? ⟨wr.heap.size, 1, none⟩ = some (.slice A1 m d1) := ⟨blk_cell HBX2.out 0, blk_cell HBX2.out 1⟩
      have HNN := Aside0.mk hN
      have HNE : Aside0 (∀ q, q ≤ wr.heap.size → some q ≠ (Value.slice (some ⟨W1.heap.size, 0, none⟩) 0 0).ownBlock) := ⟨fun q hq e => by have h1 := HN1.out; simp [Value.ownBlock] at e; omega⟩
      have HFR : Aside0 (∀ q, (W1.alloc (.cells #[] 5)).heap.size ≤ q → N ≤ q) := ⟨fun q hq => by have h1 := HN1.out; rw [World.size_alloc] at hq; omega⟩
      clear hd hx hm hN
      go_wp2_with fail
      go_region_held3 (fun W => W.cell? ⟨wr.heap.size, 0, none⟩ = some (.string x.name) ∧ W.cell? ⟨wr.heap.size, 1, none⟩ = some (.slice A1 m d1)) (first | exact ⟨q0, q1⟩ | exact K1 | exact K2 | exact K5 | exact K6 | exact K7) (first | (refine Kd.R_append_rows_step byte (Rr := byte.K (W1.alloc (.cells #[] 5))) (w0 := w) (W := W1.alloc (.cells #[] 5)) w.heap.size rfl (.tmp 15) (.tmp 17) 54 5 (.int .u8 0) 1 rfl Tryd.underlying54 info_byte rfl (by decide) (by omega) _ [] x.data A1 m d1 (fun q => N ≤ q) (fun _ => False) rfl rfl HO0.out HD2.out (fun _ _ hx => hx) (fun _ hk => hk.elim) HFR.out HB2.out HB2.out.size (by simp; omega) ?_; intro v2 w2 ho2 hb2 hg2 hat2; rw [List.nil_append] at ho2; obtain ⟨Av, cv, rfl⟩ := Kd.R_slice ho2; have HO2 := Aside0.mk ho2; have HB3 := Aside0.mk hb2; have hbx3 := blk_grown HBX2.out hg2 (HNE.out _ (Nat.le_refl _)); have K5 := And.intro (blk_cell hbx3 0) (blk_cell hbx3 1); have K6 := And.intro (blk_cell (blk_alloc hbx3 (.cells #[.string x.name, .slice Av x.data.length cv] 56)) 0) (blk_cell (blk_alloc hbx3 (.cells #[.string x.name, .slice Av x.data.length cv] 56)) 1); have HR3 := Aside0.mk (Kd.R_grown HRN.out hg2 (fun q hq => HNE.out q (by have h2 := HNN.out; have h3 : q < N := hq; omega))); have HBX3 := Aside0.mk hbx3; clear ho2 hb2 hg2 hat2 hbx3) | (refine Kd.R_append_step kFile (w0 := w) (W := w2) w.heap.size rfl (.tmp 12) (.tmp 20) 43 56 (.agg #[.string ByteArray.empty, .slice none 0 0]) 40 rfl Tryd.underlying43 info_file51 rfl (Nat.succ_pos _) (by omega) u3 (l.take k) x [.string x.name, .slice Av x.data.length cv] (fun _ => True) (fun q => N ≤ q) rfl rfl (kFile_mkM51 _ _ _ x HO2.out) (fun q hq => ⟨trivial, fun e => by have h1 : q < N := HR3.out.1 q e.symm; omega⟩) (fun _ _ => trivial) (Kd.R_mono HR3.out (fun _ _ => trivial)) HB3.out HB3.out.size HLEN.out ?_; intro v7 w7 ho7 hb7 hg7 hat7; have HO7 := Aside0.mk ho7; have HB7 := Aside0.mk hb7; have hbx7 := blk_grown HBX3.out hg7 (fun e => by have h1 : wr.heap.size < N := HR3.out.1 wr.heap.size e.symm; have h2 := HNN.out; omega); have K7 := And.intro (blk_cell hbx7 0) (blk_cell hbx7 1); clear ho7 hb7 hg7 hat7 hbx7))
      all_goals
        go_wp2_with fail
        go_roundg (l.length - (k + 1))
        case measure => have := HGK.out; omega
        case rel => exact ⟨k + 1, by omega, ⟨rfl⟩, by go_num, ⟨by rw [List.take_add_one, gt_some l k hlt, ← HX.out]; exact HO7.out⟩, HB7⟩
    · have hkl : k = l.length := by omega
      have hR := HR.out
      rw [hkl, List.take_of_length_le (Nat.le_refl _)] at hR
      obtain ⟨Ap, cp, rfl⟩ := Kd.R_slice hR
      have HC := Aside0.mk hR
      clear hR hkl HR
      go_wp2_with fail
      go_ret
      exact ⟨Ap, cp, rfl, HC.out, HB.out⟩
end Go.Proofs.YtdobjbdkfammbaaDoor
