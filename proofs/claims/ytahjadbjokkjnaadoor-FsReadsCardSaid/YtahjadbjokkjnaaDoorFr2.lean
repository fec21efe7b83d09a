/-
  Chapter 49: files as the document's (Plain).
-/
import Derived.Test.YtahjadbjokkjnaaDoorFr1
import Derived.Deep.RegionLaw
namespace Go.Proofs.YtahjadbjokkjnaaDoor
open Go.RowKit Go.Proofs.YtahjadbjokkjnaaDoorW.PrintWords Go.Proofs.YtahjadbjokkjnaaDoorW.PrintLast Go.Proofs.YtahjadbjokkjnaaDoorW.PrintMore
set_option linter.unusedVariables false
set_option linter.unusedSimpArgs false

/-- A file, its bytes where they lay when the call began. -/
def kFileF (w0 : World) : Kd File := Kd.iso (Kd.pair Kd.string (Kd.fixed (Kd.slice 5 byte) w0)) (fun x : File => (x.name, x.data))
theorem kFileF_open {w0 w : World} {x : File} {cs : List Value} (h : (kFileF w0).K w x cs) : ∃ A c, cs = [.string x.name, .slice A x.data.length c] ∧ x.data.length ≤ c ∧ byte.C w0 A x.data.length x.data := by
  obtain ⟨_, _, rfl, rfl, ⟨A, c, rfl, l, g⟩⟩ := h
  exact ⟨A, c, rfl, l, g⟩
theorem kFileF_mkM (w0 w : World) (base : Nat) (ok : Nat → Prop) (x : File) {A : Option Addr} {c : Nat} (l : x.data.length ≤ c) (g : byte.C w0 A x.data.length x.data) : (kFileF w0).M w base ok x [.string x.name, .slice A x.data.length c] :=
  ⟨[.string x.name], [.slice A x.data.length c], rfl, rfl, ⟨A, c, rfl, l, g⟩⟩
theorem fileF_read {w0 w : World} (hb : Below w0.heap.size w0 w) {A : Option Addr} {n : Nat} {xs : List File} (h : (kFileF w0).C w A n xs) : kFile.C w A n xs :=
  Kd.C_read (d := kFile) (dm := kFileF w0) rfl (fun x cs hk => by
    obtain ⟨A, c, rfl, hl, hg⟩ := kFileF_open hk
    exact kFile_mk w x hl (Kd.C_below hg hb)) h
theorem info_rfile : (Tryd.prog.info? 30).map (fun i => (i.zero, i.size, i.bytes)) = some (some (.agg #[.string ByteArray.empty, .slice none 0 0]), 2, 40) := by kernel_rfl
set_option maxHeartbeats 3200000 in
theorem plain_any (A : Option Addr) (l : List File) (c : Nat) (w : World) (h : kFile.C w A l.length l) (hl : l.length ≤ 1000000) :
    Calls Tryd.prog 15 #[.slice A l.length c] w fun e w' => ∃ Ap cp, e = .returned (.slice Ap l.length cp) ∧ kFile.C w' Ap l.length l ∧ Below w.heap.size w w' := by
  have hmx := Kd.C_max h
  have HH := Aside0.mk h
  clear h
  go_enter Tryd.func15, Tryd.ntmps15
  go_wp2
  go_loopg [4, 3] l.length (fun gk i v3 wr => ∃ k : Nat, k ≤ l.length ∧ Aside0 (gk = l.length - k) ∧ i = .int .i64 k ∧ Aside0 ((kFileF w).R 30 wr w.heap.size (fun _ => True) v3 (l.take k)) ∧ Aside0 (Below w.heap.size w wr))
  case atStart => exact ⟨0, Nat.zero_le _, ⟨rfl⟩, rfl, ⟨Kd.R_nil _ _ _ _ _⟩, ⟨Below.refl _ _⟩⟩
  case round =>
    obtain ⟨k, hk, HGK, rfl, HR, HB⟩ := hrel
    by_cases hlt : k < l.length
    · obtain ⟨ad, A1, c1, rfl, g0, g1, hc1, hd⟩ := file_at HH.out hlt
      replace g0 := cell_old HB.out g0
      replace g1 := cell_old HB.out g1
      obtain ⟨x, hx⟩ : ∃ x, x = gt l k := ⟨_, rfl⟩
      rw [← hx] at g0 g1 hd hc1
      have hkl : (k : Int) < (l.length : Int) := by omega
      have HM := Aside0.mk (kFileF_mkM w wr.drew w.heap.size (fun _ => False) x hc1 hd)
      have HX := Aside0.mk hx
      have HLEN : Aside0 (((l.take k).length + 1) * 40 ≤ 140737488355328) := ⟨by have : (l.take k).length ≤ k := List.length_take_le _ _; omega⟩
      have HBD := Aside0.mk (below_drew1 HB.out)
      have HRD := Aside0.mk (Kd.R_drew HR.out)
      clear hd hx hc1
      obtain ⟨n1, hn1⟩ : ∃ n1, n1 = x.data.length := ⟨_, rfl⟩
      rw [← hn1] at g1 HM
      clear hn1
      go_wp2_with fail
      go_region_law (first | (refine Kd.R_append_step (kFileF w) (w0 := w) (W := wr.drew) w.heap.size rfl (.tmp 11) (.tmp 23) 31 30 (.agg #[.string ByteArray.empty, .slice none 0 0]) 40 rfl Tryd.underlying31 info_rfile rfl (Nat.succ_pos _) (by omega) u3 (l.take k) x [.string x.name, .slice A1 n1 c1] (fun _ => True) (fun _ => False) rfl rfl HM.out (fun _ hq => hq.elim) (fun _ _ => trivial) HRD.out HBD.out HBD.out.size HLEN.out ?_; intro v7 w7 ho7 hb7 hg7 hat7; have HO7 := Aside0.mk ho7; have HB7 := Aside0.mk hb7; clear ho7 hb7 hg7 hat7))
      all_goals
        go_wp2_with fail
        go_roundg (l.length - (k + 1))
        case measure => have := HGK.out; omega
        case rel => exact ⟨k + 1, by omega, ⟨rfl⟩, by go_num, ⟨by rw [List.take_add_one, gt_some l k hlt, ← HX.out]; exact HO7.out⟩, HB7⟩
    · have hkl : k = l.length := by omega
      have hR := HR.out
      rw [hkl, List.take_of_length_le (Nat.le_refl _)] at hR
      obtain ⟨Ap, cp, rfl⟩ := Kd.R_slice hR
      have HC := Aside0.mk (fileF_read HB.out (readsS' hR))
      clear hR hkl HR
      go_wp2_with fail
      go_ret
      exact ⟨Ap, cp, rfl, HC.out, HB.out⟩
end Go.Proofs.YtahjadbjokkjnaaDoor
