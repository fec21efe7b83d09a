/-
  Chapter 51: files as the program's.
-/
import Derived.Test.YtoglbbonfjnmpaaDoorPg
namespace Go.Proofs.YtoglbbonfjnmpaaDoor
open Go.RowKit Go.Proofs.YtoglbbonfjnmpaaDoorW.PrintWords Go.Proofs.YtoglbbonfjnmpaaDoorW.PrintLast Go.Proofs.YtoglbbonfjnmpaaDoorW.PrintMore
set_option linter.unusedVariables false
set_option linter.unusedSimpArgs false

theorem info_file51 : (Tryd.prog.info? 52).map (fun i => (i.zero, i.size, i.bytes)) = some (some (.agg #[.string ByteArray.empty, .slice none 0 0]), 2, 40) := by kernel_rfl
theorem kFile_mkM51 (w : World) (base : Nat) (ok : Nat → Prop) (x : File) {v : Value} (g : byte.R 5 w base ok v x.data) : kFile.M w base ok x [.string x.name, v] := ⟨[.string x.name], [v], rfl, rfl, ⟨v, rfl, g⟩⟩
theorem byteR_lit' (w : World) (base : Nat) (ok : Nat → Prop) (M : List UInt8) (hb : base ≤ w.heap.size) (hm : M.length ≤ 9223372036854775807) (hok : ok w.heap.size) : byte.R 5 (w.alloc (.cells (bytesV M).toArray 5)) base ok (.slice (some ⟨w.heap.size, 0, none⟩) M.length M.length) M := by
  obtain ⟨_, h2⟩ := byteR_lit w base M hb hm
  refine ⟨fun k hk => ?_, ?_⟩
  · have : w.heap.size = k := by simpa [Value.ownBlock] using hk
    exact this ▸ hok
  · obtain ⟨inner, h3, h4⟩ := h2
    exact ⟨inner, h3, h4⟩
set_option maxHeartbeats 3200000 in
theorem files_any (A : Option Addr) (l : List File) (c : Nat) (w : World) (h : kFile.C w A l.length l) (hl : l.length ≤ 1000000) (hd : ∀ k, k < l.length → (gt l k).data.length ≤ 1000000) :
    Calls Tryd.prog 22 #[.slice A l.length c] w fun e w' => ∃ Ap cp, e = .returned (.slice Ap l.length cp) ∧ kFile.R 52 w' w.heap.size (fun _ => True) (.slice Ap l.length cp) l ∧ Below w.heap.size w w' := by
  have hmx := Kd.C_max h
  have HH := Aside0.mk h
  have HDD := Aside0.mk hd
  clear h hd
  go_enter Tryd.func22, Tryd.ntmps22
  go_wp2
  go_loopg [8, 3, 5] l.length (fun gk i v3 _ wr => ∃ k : Nat, k ≤ l.length ∧ Aside0 (gk = l.length - k) ∧ i = .int .i64 k ∧ Aside0 (kFile.R 52 wr w.heap.size (fun _ => True) v3 (l.take k)) ∧ Aside0 (Below w.heap.size w wr))
  case atStart => exact ⟨0, Nat.zero_le _, ⟨rfl⟩, rfl, ⟨Kd.R_nil _ _ _ _ _⟩, ⟨Below.refl _ _⟩⟩
  case round =>
    obtain ⟨k, hk, HGK, rfl, HR, HB⟩ := hrel
    by_cases hlt : k < l.length
    · obtain ⟨ad, A1, d1, rfl, g0, g1, hc1, hd⟩ := file_at HH.out hlt
      replace g0 := cell_old HB.out g0
      replace g1 := cell_old HB.out g1
      obtain ⟨x, hx⟩ : ∃ x, x = gt l k := ⟨_, rfl⟩
      have hxd := HDD.out k hlt
      rw [← hx] at g0 g1 hd hc1 hxd
      obtain ⟨m, hm⟩ : ∃ m, m = x.data.length := ⟨_, rfl⟩
      rw [← hm] at g1 hc1 hxd hd
      have HX := Aside0.mk hx
      have HM := Aside0.mk hm
      have HD := Aside0.mk hd
      have HB1 := Aside0.mk (below_alloc HB.out (.cells #[.string x.name, .slice A1 m d1] 48))
      have q0 := blk_cell (blk_new wr (.cells #[.string x.name, .slice A1 m d1] 48)) 0
      have q1 := blk_cell (blk_new wr (.cells #[.string x.name, .slice A1 m d1] 48)) 1
      simp only [List.getElem?_toArray, List.getElem?_cons_zero, List.getElem?_cons_succ] at q0 q1
      have HLEN : Aside0 (((l.take k).length + 1) * 40 ≤ 140737488355328) := ⟨by have : (l.take k).length ≤ k := List.length_take_le _ _; omega⟩
      obtain ⟨W1, hW1⟩ : ∃ W1, (wr.alloc (.cells #[.string x.name, .slice A1 m d1] 48)).drew = W1 := ⟨_, rfl⟩
      have HBw : Aside0 (Below wr.heap.size wr W1) := ⟨by rw [← hW1]; exact (below_alloc (Below.refl _ _) _).drew⟩
      have HBX : Aside0 (W1.heap[wr.heap.size]? = some (.cells #[.string x.name, .slice A1 m d1] 48 (0, 0))) := ⟨by rw [← hW1]; exact blk_drew (blk_new wr _)⟩
      have HN1 : Aside0 (wr.heap.size < W1.heap.size) := ⟨blk_lt HBX.out⟩
      obtain ⟨N, hN⟩ : ∃ N, N = wr.heap.size := ⟨_, rfl⟩
      have HRN : Aside0 (kFile.R 52 (W1.alloc (.cells #[] 5)) w.heap.size (fun q => q < N) u3 (l.take k)) := ⟨Kd.R_alloc (Kd.R_below (Kd.R_mono (Kd.R_bound HR.out) (fun q hq => by rw [hN]; exact hq.2.2.1)) HBw.out) _⟩
      have HO0 : Aside0 (byte.R 5 (W1.alloc (.cells #[] 5)) w.heap.size (fun q => N ≤ q) (.slice (some ⟨W1.heap.size, 0, none⟩) 0 0) []) := ⟨byteR_lit' W1 w.heap.size (fun q => N ≤ q) [] (by have := HB.out.size; have := HN1.out; omega) (by simp) (by have := HN1.out; omega)⟩
      have HB2 := Aside0.mk (below_alloc (below_step HB.out HBw.out) (.cells #[] 5))
      have HD2 := Aside0.mk (Kd.C_below HD.out HB2.out)
      have HBX2 := Aside0.mk (blk_alloc HBX.out (.cells #[] 5))
      have K1 : W1.cell? ⟨wr.heap.size, 0, none⟩ = some (.string x.name) ∧ W1.cell? ⟨wr.heap.size, 1, none⟩ = some (.slice A1 m d1) := ⟨blk_cell HBX.out 0, blk_cell HBX.out 1⟩
      have K2 : (W1.alloc (.cells #[] 5)).cell? ⟨wr.heap.size, 0, none⟩ = some (.string x.name) ∧ (W1.alloc (.cells #[] 5)).cell? ⟨wr.heap.size, 1, none⟩ = some (.slice A1 m d1) := ⟨blk_cell HBX2.out 0, blk_cell HBX2.out 1⟩
      have HNN := Aside0.mk hN
      have HNE : Aside0 (∀ q, q ≤ wr.heap.size → some q ≠ (Value.slice (some ⟨W1.heap.size, 0, none⟩) 0 0).ownBlock) := ⟨fun q hq e => by have h1 := HN1.out; simp [Value.ownBlock] at e; omega⟩
      have HFR : Aside0 (∀ q, (W1.alloc (.cells #[] 5)).heap.size ≤ q → N ≤ q) := ⟨fun q hq => by have h1 := HN1.out; rw [World.size_alloc] at hq; omega⟩
      clear hd hx hm hN
      go_wp2_with fail
      go_region_held3 (fun W => W.cell? ⟨wr.heap.size, 0, none⟩ = some (.string x.name) ∧ W.cell? ⟨wr.heap.size, 1, none⟩ = some (.slice A1 m d1)) (first | exact ⟨q0, q1⟩ | exact K1 | exact K2 | exact K5 | exact K6 | exact K7) (first | (refine Kd.R_append_rows_step byte (Rr := byte.K (W1.alloc (.cells #[] 5))) (w0 := w) (W := W1.alloc (.cells #[] 5)) w.heap.size rfl (.tmp 15) (.tmp 17) 22 5 (.int .u8 0) 1 rfl Tryd.underlying22 info_byte rfl (by decide) (by omega) _ [] x.data A1 m d1 (fun q => N ≤ q) (fun _ => False) rfl rfl HO0.out HD2.out (fun _ _ hx => hx) (fun _ hk => hk.elim) HFR.out HB2.out HB2.out.size (by simp; omega) ?_; intro v2 w2 ho2 hb2 hg2 hat2; rw [List.nil_append] at ho2; obtain ⟨Av, cv, rfl⟩ := Kd.R_slice ho2; have HO2 := Aside0.mk ho2; have HB3 := Aside0.mk hb2; have hbx3 := blk_grown HBX2.out hg2 (HNE.out _ (Nat.le_refl _)); have K5 := And.intro (blk_cell hbx3 0) (blk_cell hbx3 1); have K6 := And.intro (blk_cell (blk_alloc hbx3 (.cells #[.string x.name, .slice Av x.data.length cv] 52)) 0) (blk_cell (blk_alloc hbx3 (.cells #[.string x.name, .slice Av x.data.length cv] 52)) 1); have HR3 := Aside0.mk (Kd.R_grown HRN.out hg2 (fun q hq => HNE.out q (by have h2 := HNN.out; have h3 : q < N := hq; omega))); have HBX3 := Aside0.mk hbx3; clear ho2 hb2 hg2 hat2 hbx3) | (refine Kd.R_append_step kFile (w0 := w) (W := w2) w.heap.size rfl (.tmp 12) (.tmp 20) 36 52 (.agg #[.string ByteArray.empty, .slice none 0 0]) 40 rfl Tryd.underlying36 info_file51 rfl (Nat.succ_pos _) (by omega) u3 (l.take k) x [.string x.name, .slice Av x.data.length cv] (fun _ => True) (fun q => N ≤ q) rfl rfl (kFile_mkM51 _ _ _ x HO2.out) (fun q hq => ⟨trivial, fun e => by have h1 : q < N := HR3.out.1 q e.symm; omega⟩) (fun _ _ => trivial) (Kd.R_mono HR3.out (fun _ _ => trivial)) HB3.out HB3.out.size HLEN.out ?_; intro v7 w7 ho7 hb7 hg7 hat7; have HO7 := Aside0.mk ho7; have HB7 := Aside0.mk hb7; have hbx7 := blk_grown HBX3.out hg7 (fun e => by have h1 : wr.heap.size < N := HR3.out.1 wr.heap.size e.symm; have h2 := HNN.out; omega); have K7 := And.intro (blk_cell hbx7 0) (blk_cell hbx7 1); clear ho7 hb7 hg7 hat7 hbx7))
      all_goals
        go_wp2_with fail
        go_roundg (l.length - (k + 1))
        case measure => have := HGK.out; omega
        case rel => exact ⟨k + 1, by omega, ⟨rfl⟩, by go_num, ⟨by rw [List.take_add_one, gt_some l k hlt, ← HX.out]; exact HO7.out⟩, HB7⟩
    · have hkl : k = l.length := by omega
      have hR := HR.out
      rw [hkl, List.take_of_length_le (Nat.le_refl _)] at hR
      obtain ⟨Ap, cp, rfl⟩ := Kd.R_slice hR
      have HC := Aside0.mk hR
      clear hR hkl HR
      go_wp2_with fail
      go_ret
      exact ⟨Ap, cp, rfl, HC.out, HB.out⟩
end Go.Proofs.YtoglbbonfjnmpaaDoor
