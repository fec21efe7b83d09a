/-
  FsTable, walked: it returns true.
-/
import Derived.Test.YtahjadbjokkjnaaDoorFt
namespace Go.Proofs.YtahjadbjokkjnaaDoor
open Go.RowKit Go.Proofs.YtahjadbjokkjnaaDoorW.PrintWords Go.Proofs.YtahjadbjokkjnaaDoorW.PrintLast Go.Proofs.YtahjadbjokkjnaaDoorW.PrintMore
set_option linter.unusedVariables false
set_option linter.unusedSimpArgs false

/-- A file, full of one byte. -/
def fullF (x : UInt8) (f : File) : File := ⟨f.name, List.replicate f.data.length x⟩
theorem fullF_face (x : UInt8) (l : List File) (k : Nat) (hk : k < l.length) : sameFace (gt l k) (gt (l.map (fullF x)) k) := by
  rw [gt_eq (l.map (fullF x)) k (by simpa using hk), gt_eq l k hk]
  simp [sameFace, fullF]
theorem info_file : (Tryd.prog.info? 28).map (fun i => (i.zero, i.size, i.bytes)) = some (some (.agg #[.string ByteArray.empty, .slice none 0 0]), 2, 40) := by kernel_rfl
theorem kFile_mkM (w : World) (base : Nat) (ok : Nat → Prop) (x : File) {v : Value} (g : byte.R 5 w base ok v x.data) : kFile.M w base ok x [.string x.name, v] := ⟨[.string x.name], [v], rfl, rfl, ⟨v, rfl, g⟩⟩
set_option maxRecDepth 8000 in
set_option maxHeartbeats 6400000 in
theorem law_table (A : Option Addr) (l : List File) (c : Nat) (x : UInt8) (w : World) (h : kFile.C w A l.length l) (hs : ∀ k, k < l.length → (gt l k).name.size ≤ 9223372036854775807) (hmg : MagicAt w) :
    Calls Tryd.prog 4 #[.slice A l.length c, .int .u8 (x.toNat : Int)] w fun e w' => e = .returned (.bool true) ∧ Below w.heap.size w w' := by
  cases hg : greatB l
  case true =>
    have HG := Aside0.mk hg
    clear hg
    go_enter Tryd.func4, Tryd.ntmps4
    go_wp2_with (first | (go_at_call 11; refine (awake_any _ hmg).mono ?_; rintro e w1 ⟨rfl, hb1⟩; have HB1 := Aside0.mk hb1; clear hb1) | (go_at_call 12; refine (great_any A l c true HG.out _ (Kd.C_below h HB1.out) hs).mono ?_; rintro e w2 ⟨rfl, rfl⟩))
    go_ret
    exact ⟨rfl, HB1.out⟩
  case false =>
    have HG := Aside0.mk hg
    have hl12 : l.length ≤ 12 := great_len hg
    have hmx := Kd.C_max h
    have HS := Aside0.mk hs
    have HMG := Aside0.mk hmg
    have HH := Aside0.mk h
    clear hg hs hmg
    go_enter Tryd.func4, Tryd.ntmps4
    go_wp2_with (first | (go_at_call 11; refine (awake_any _ HMG.out).mono ?_; rintro e w1 ⟨rfl, hb1⟩; have HB1 := Aside0.mk hb1; clear hb1) | (go_at_call 12; refine (great_any A l c false HG.out _ (Kd.C_below h HB1.out) HS.out).mono ?_; rintro e w2 ⟨rfl, rfl⟩))
    go_loopg [6, 5, 7, 8] l.length (fun gk i v5 _ _ wr => ∃ k : Nat, k ≤ l.length ∧ Aside0 (gk = l.length - k) ∧ i = .int .i64 k ∧ Aside0 (kFile.R 28 wr w.heap.size (fun _ => True) v5 ((l.take k).map (fullF x))) ∧ Aside0 (Below w.heap.size w wr))
    case atStart => exact ⟨0, Nat.zero_le _, ⟨rfl⟩, rfl, ⟨Kd.R_nil _ _ _ _ _⟩, HB1⟩
    case round =>
      obtain ⟨k, hk, HGK, rfl, HR, HBr⟩ := hrel
      by_cases hlt : k < l.length
      · obtain ⟨ad, A3, c3, rfl, g0, g1, hc3, hd⟩ := file_at h hlt
        obtain ⟨f, hf⟩ : ∃ f, f = gt l k := ⟨_, rfl⟩
        have hm300 : (gt l k).data.length ≤ 300 := great_data HG.out k hlt
        rw [← hf] at g0 g1 hm300
        obtain ⟨m, hm⟩ : ∃ m, m = f.data.length := ⟨_, rfl⟩
        rw [← hm] at g1 hm300
        have G0 := Aside0.mk g0
        replace g0 := cell_old HBr.out g0
        replace g1 := cell_old HBr.out g1
        have HF := Aside0.mk hf
        have HM := Aside0.mk hm
        have HRN : Aside0 (kFile.R 28 wr w.heap.size (fun q => q < wr.heap.size) u5 ((l.take k).map (fullF x))) := ⟨Kd.R_mono (Kd.R_bound HR.out) (fun q hq => hq.2.2.1)⟩
        obtain ⟨N, hN⟩ : ∃ N, N = wr.heap.size := ⟨_, rfl⟩
        rw [← hN] at HRN
        have HNN := Aside0.mk hN
        clear hd hf hm hN
        go_wp2_with (first | ((with_reducible refine gate_dst (N := 30) rfl ?_); refine Kd.R_make byte (w0 := w) w.heap.size 5 rfl (N := 30) rfl 26 _ _ rfl (m : Int) rfl rfl Tryd.underlying26 (.int .u8 0) 1 info_byte rfl (by decide) (by omega) (0 : UInt8) (ok := fun q => N ≤ q) (okp := fun q => N ≤ q) rfl (fun _ hq => hq) (by have := HNN.out; omega) (by omega) (by omega) HBr.out HBr.out.size ?_; intro v1 w3 ho hb hg hnew; obtain ⟨Ad, cd, rfl⟩ := Kd.R_slice ho; have HO := Aside0.mk ho; have HB3 := Aside0.mk hb; have HG3 := Aside0.mk hg; clear ho hb hg hnew))
        have e0 : (List.replicate (m : Int).toNat (0 : UInt8)).length = m := by simp
        rw [e0] at HO
        clear e0
        have HR3 := Aside0.mk (Kd.R_grown HRN.out HG3.out (fun _ _ => by simp))
        go_loopg [8] m (fun gj j wz => ∃ q : Nat, q ≤ m ∧ Aside0 (gj = m - q) ∧ j = .int .i64 q ∧ Aside0 (byte.R 5 wz w.heap.size (fun q => N ≤ q) (.slice Ad m cd) (stg x m q)) ∧ Aside0 (kFile.R 28 wz w.heap.size (fun q => q < N) u5 ((l.take k).map (fullF x))) ∧ Aside0 (Below w.heap.size w wz))
        case atStart => exact ⟨0, Nat.zero_le _, ⟨rfl⟩, rfl, ⟨by rw [stg_zero]; have := HO.out; rwa [Int.toNat_natCast] at this⟩, HR3, HB3⟩
        case round =>
          obtain ⟨q, hq, HGJ, rfl, HD, HRq, HBq⟩ := hrel
          by_cases hqt : q < m
          · obtain ⟨gd, rfl, hgd1, _⟩ := R_formV HD.out (by omega)
            obtain ⟨rc, rf⟩ := byteR_cell HD.out q hqt
            have hNg : N ≤ gd := HD.out.1 gd (by simp [Value.ownBlock])
            have HD2 := Aside0.mk (byteR_put HD.out q x)
            rw [stg_set x m q hqt] at HD2
            have HRq2 := Aside0.mk (Kd.R_far HRq.out (p := ⟨gd, q, none⟩) (fun k hk => by have : k < N := hk; show k ≠ gd; omega) (.int .u8 (x.toNat : Int)))
            have HBq2 := Aside0.mk (HBq.out.setCell (p := ⟨gd, q, none⟩) hgd1 (.int .u8 (x.toNat : Int)))
            go_wp2
            go_roundg (m - (q + 1))
            case measure => have := HGJ.out; omega
            case rel => exact ⟨q + 1, by omega, ⟨rfl⟩, by go_num, HD2, HRq2, HBq2⟩
          · have hqm : q = m := by omega
            have HD2 : Aside0 (byte.R 5 wr w.heap.size (fun q => N ≤ q) (.slice Ad m cd) (fullF x f).data) := ⟨by have := HD.out; rw [hqm, stg_full] at this; unfold fullF; rw [← HM.out]; exact this⟩
            clear hqm g0 g1
            have g0 := cell_old HBq.out G0.out
            go_wp2_with (first | ((with_reducible refine gate_builtin (b := .append) (xs := #[.tmp 41, .tmp 49]) rfl ?_); at_builtin; refine Kd.R_append kFile (w0 := w) w.heap.size rfl (.tmp 41) (.tmp 49) 22 28 (.agg #[.string ByteArray.empty, .slice none 0 0]) 40 rfl Tryd.underlying22 info_file rfl (by decide) (by omega) _ ((l.take k).map (fullF x)) (fullF x f) [.string f.name, .slice Ad m cd] (fun _ => True) (fun q => N ≤ q) rfl rfl (kFile_mkM _ _ _ (fullF x f) HD2.out) (fun q hq => ⟨trivial, fun e => by have h1 : q < N := HRq.out.1 q e.symm; omega⟩) (fun _ _ => trivial) (Kd.R_mono HRq.out (fun _ _ => trivial)) HBq.out HBq.out.size (by simp; omega) ?_; intro v7 w7 ho7 hb7 hg7 hat7; have HO7 := Aside0.mk ho7; have HB7 := Aside0.mk hb7; clear ho7 hb7 hg7 hat7))
            go_roundg (l.length - (k + 1))
            case measure => have := HGK.out; omega
            case rel => exact ⟨k + 1, by omega, ⟨rfl⟩, by go_num, ⟨by rw [List.take_add_one, gt_some l k hlt, ← HF.out, List.map_append]; exact HO7.out⟩, HB7⟩
      · have hkl : k = l.length := by omega
        obtain ⟨ml, hml⟩ : ∃ ml, ml = l.map (fullF x) := ⟨_, rfl⟩
        have HRm := HR.out
        rw [hkl, List.take_of_length_le (Nat.le_refl _), ← hml] at HRm
        obtain ⟨Am, cm, rfl⟩ := Kd.R_slice HRm
        have hmll : ml.length = l.length := by rw [hml]; simp
        have hface := make_face (l := l) (m := ml) hmll.symm (fun k hk => by rw [hml]; exact fullF_face x l k hk)
        have HSm : Aside0 (∀ k, k < ml.length → (gt ml k).name.size ≤ 9223372036854775807) := ⟨fun k hk => by
          have hf := fullF_face x l k (by omega)
          rw [← hml] at hf
          rw [← hf.1]
          exact HS.out k (by omega)⟩
        have HCm := Aside0.mk (readsS' HRm)
        obtain ⟨n, hn⟩ : ∃ n, n = (makeV l).length := ⟨_, rfl⟩
        obtain ⟨E, hE⟩ : ∃ E, E = makeE l := ⟨_, rfl⟩
        have HN := Aside0.mk hn
        have HE := Aside0.mk hE
        have HFACE := Aside0.mk hface
        have HML := Aside0.mk hml
        clear hface hml hmll hkl hn hE HRm HR
        go_wp2_with (first | (go_at_call_of 16 (Value.slice A l.length c); refine (make_as A l c _ (Kd.C_below HH.out HBr.out) HS.out (Kd.C_below HMG.out HBr.out) n HN.out.symm E HE.out.symm).mono ?_; rintro e w5 ⟨Aa, ca, rfl, ho, hb⟩; have HOa := Aside0.mk ho; have HB5 := Aside0.mk hb; clear ho hb) | (go_at_call_of 16 (Value.slice Am ml.length cm); refine (make_as Am ml cm _ (Kd.C_below HCm.out HB5.out) HSm.out (Kd.C_below (Kd.C_below HMG.out HBr.out) HB5.out) n (by rw [← HFACE.out.2.1, ← HN.out]) E (by rw [← HFACE.out.1, ← HE.out])).mono ?_; rintro e w6 ⟨Ab, cb, rfl, ho, hb⟩; have HOb := Aside0.mk ho; have HB6 := Aside0.mk hb; clear ho hb))
        have HB6' := Aside0.mk (below_step (below_step HBr.out HB5.out) HB6.out)
        have HCa := Aside0.mk (Kd.C_below (readsS' HOa.out) HB6.out)
        have HCb := Aside0.mk (readsS' HOb.out)
        have hn9 : n ≤ 9223372036854775807 := by have := Kd.C_max HCa.out; rwa [← HN.out] at this
        go_loopg [13] (l.length + 1) (fun gk i wz => ∃ j : Nat, j ≤ l.length + 1 ∧ Aside0 (gk = l.length + 1 - j) ∧ i = .int .i64 j ∧ ∃ q, wz = w6.drewN q)
        case atStart => exact ⟨0, Nat.zero_le _, ⟨rfl⟩, rfl, 0, rfl⟩
        case round =>
          obtain ⟨j, hj, HGJ, rfl, q, rfl⟩ := hrel
          by_cases hj1 : j ≤ l.length
          · have hj1' : (j : Int) ≤ (l.length : Int) := by omega
            by_cases hj2 : j < n
            · obtain ⟨ga, rfl, _, _⟩ := R_formV HOa.out (by omega)
              obtain ⟨gb, rfl, _, _⟩ := R_formV HOb.out (by omega)
              have h1 := block_in HCa.out (k := j) (by rw [← HN.out]; exact hj2)
              have h2 := block_in HCb.out (k := j) (by rw [← HFACE.out.2.1, ← HN.out]; exact hj2)
              rw [← HFACE.out.2.2 j hj1] at h2
              obtain ⟨X, hX⟩ : ∃ X, X = gt (makeV l) j := ⟨_, rfl⟩
              rw [← hX] at h1 h2
              have H1 := Aside0.mk h1
              have H2 := Aside0.mk h2
              have he : ∀ w, (Op.equalIn 10000 40 (.agg (bytesV X).toArray) (.agg (bytesV X).toArray)).run Tryd.prog w = .ok true w := eql_block X X h1.1 h1.1 true (by simp)
              clear h1 h2 hX
              go_wp2_with fail
              (refine wp_region_quiet_lit (by kernel_rfl) (by kernel_rfl) ?_)
              repeat (first | (refine load_block_quiet rfl _ rfl ⟨ga, j * 32, none⟩ rfl X H1.out.1 H1.out.2 ?_; dsimp only [Act.put]; simp only [List.setIfInBounds_toArray, List.set_cons_succ, List.set_cons_zero]) | (refine load_block_quiet rfl _ rfl ⟨gb, j * 32, none⟩ rfl X H1.out.1 H2.out.2 ?_; dsimp only [Act.put]; simp only [List.setIfInBounds_toArray, List.set_cons_succ, List.set_cons_zero]) | go_big_quiet_step (fail))
              refine wpQuiet_nil ?_
              intro _ hw'
              obtain ⟨nq, hw''⟩ := hw'
              subst hw''
              go_wp2_with fail
              go_roundg (l.length + 1 - (j + 1))
              case measure => have := HGJ.out; omega
              case rel => exact ⟨j + 1, by omega, ⟨rfl⟩, by go_num, _, by first | rfl | exact World.drewN_drewN ..⟩
            · go_wp2_with fail
              go_ret
              exact ⟨rfl, pw_below_drewN HB6'.out _⟩
          · go_wp2_with fail
            go_ret
            exact ⟨rfl, pw_below_drewN HB6'.out _⟩
end Go.Proofs.YtahjadbjokkjnaaDoor
