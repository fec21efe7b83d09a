/-
  Chapter 55: attack.locked, slices.Clone of files, walked.
-/
import Derived.Test.YtdobjbdkfammbaaDoorAr2
import Derived.Laws.BitsAllLaws
namespace Go.Proofs.YtdobjbdkfammbaaDoor
open Go.RowKit Go.Shelf Go.Proofs.YtdobjbdkfammbaaDoorW.PrintWords Go.Proofs.YtdobjbdkfammbaaDoorW.PrintLast Go.Proofs.YtdobjbdkfammbaaDoorW.PrintMore
set_option linter.unusedVariables false
set_option linter.unusedSimpArgs false

/-- The byte at a place, locked. -/
def lockAt (key : UInt8) (xs : List UInt8) (j : Nat) : UInt8 := gt xs j ^^^ (key + UInt8.ofNat (37 * j))
/-- Data of which the first k bytes are locked. -/
def lockTo (key : UInt8) (xs : List UInt8) (k : Nat) : List UInt8 := (List.range xs.length).map (fun j => if j < k then lockAt key xs j else gt xs j)
def lockB (key : UInt8) (xs : List UInt8) : List UInt8 := (List.range xs.length).map (lockAt key xs)
theorem lockTo_len (key : UInt8) (xs : List UInt8) (k : Nat) : (lockTo key xs k).length = xs.length := by simp [lockTo]
theorem lockB_len (key : UInt8) (xs : List UInt8) : (lockB key xs).length = xs.length := by simp [lockB]
theorem lockTo_zero (key : UInt8) (xs : List UInt8) : lockTo key xs 0 = xs := by
  apply List.ext_getElem (by simp [lockTo])
  intro j h1 h2
  simp [lockTo, gt_eq xs j h2]
theorem lockTo_full (key : UInt8) (xs : List UInt8) (k : Nat) (hk : xs.length ≤ k) : lockTo key xs k = lockB key xs := by
  apply List.ext_getElem (by simp [lockTo, lockB])
  intro j h1 h2
  rw [lockTo_len] at h1
  have : j < k := by omega
  simp [lockTo, lockB, this]
theorem lockTo_gt (key : UInt8) (xs : List UInt8) (k : Nat) (hk : k < xs.length) : gt (lockTo key xs k) k = gt xs k := by
  rw [gt_eq _ _ (by rw [lockTo_len]; exact hk)]
  simp [lockTo]
theorem lockTo_set (key : UInt8) (xs : List UInt8) (k : Nat) (hk : k < xs.length) : (lockTo key xs k).set k (lockAt key xs k) = lockTo key xs (k + 1) := by
  apply List.ext_getElem (by simp [lockTo])
  intro j h1 h2
  rw [lockTo_len] at h2
  rw [List.getElem_set]
  by_cases hj : k = j
  · subst hj
    simp [lockTo]
  · rw [if_neg hj]
    simp only [lockTo, List.getElem_map, List.getElem_range]
    by_cases hl : j < k
    · rw [if_pos hl, if_pos (by omega)]
    · rw [if_neg hl, if_neg (by omega)]
theorem lock_num (key x : UInt8) (k : Nat) : bits .xor .u8 (x.toNat : Int) (((key.toNat : Int) + 37 * (k : Int)) % 256) = ((x ^^^ (key + UInt8.ofNat (37 * k))).toNat : Int) := by
  have h : ((key.toNat : Int) + 37 * (k : Int)) % 256 = ((key + UInt8.ofNat (37 * k)).toNat : Int) := by
    rw [UInt8.toNat_add, UInt8.toNat_ofNat']
    omega
  rw [h, u8_xor_nat _ _ (UInt8.toNat_lt _) (UInt8.toNat_lt _), UInt8.toNat_xor]
set_option maxHeartbeats 1600000 in
theorem locked_any (A : Option Addr) (xs : List UInt8) (c : Nat) (key : UInt8) (w : World) (h : byte.C w A xs.length xs) (hc : xs.length ≤ c) (hl : xs.length ≤ 256) :
    Calls Tryd.prog 34 #[.slice A xs.length c, .int .u8 (key.toNat : Int)] w fun e w' => ∃ v, e = .returned v ∧ byte.R 5 w' w.heap.size (fun _ => True) v (lockB key xs) ∧ Below w.heap.size w w' := by
  have HC := Aside0.mk (sclone A xs c w h hc (by omega))
  have hk8 := key.toNat_lt
  clear h
  go_enter Tryd.func34, Tryd.ntmps34
  go_wp2_with (first | (go_at_call 55; refine HC.out.mono ?_; rintro e w1 ⟨v, rfl, ho, hb⟩; obtain ⟨A1, c1, rfl⟩ := Kd.R_slice ho; have HO := Aside0.mk ho; have HB := Aside0.mk hb; clear ho hb))
  go_loopg [11, 6] xs.length (fun gk i _ wr => ∃ k : Nat, k ≤ xs.length ∧ Aside0 (gk = xs.length - k) ∧ i = .int .i64 k ∧ Aside0 (byte.R 5 wr w.heap.size (fun _ => True) (.slice A1 xs.length c1) (lockTo key xs k)) ∧ Aside0 (Below w.heap.size w wr))
  case atStart => exact ⟨0, Nat.zero_le _, ⟨rfl⟩, rfl, ⟨by rw [lockTo_zero]; exact HO.out⟩, HB⟩
  case round =>
    obtain ⟨k, hk, HGK, rfl, HR, HBr⟩ := hrel
    by_cases hlt : k < xs.length
    · obtain ⟨g, cap, he, hg1, hg2, _⟩ := Kd.R_form HR.out (by rw [lockTo_len]; omega)
      injection he with he1 _ he3
      subst he1 he3
      obtain ⟨r0, r1⟩ := Kd.R_celln (0 : UInt8) HR.out (k : Int) (by omega) (by omega)
      have hr : rdOf (0 : UInt8) (lockTo key xs k) (k : Int) = gt xs k := by
        rw [← lockTo_gt key xs k hlt]
        rfl
      rw [hr] at r0
      simp only [Int.toNat_natCast] at r0 r1
      have hp := Kd.R_putn HR.out (k : Int) (lockAt key xs k)
      simp only [Int.toNat_natCast] at hp
      rw [lockTo_set key xs k hlt] at hp
      have hx8 := (gt xs k).toNat_lt
      obtain ⟨x, hx⟩ : ∃ x, x = gt xs k := ⟨_, rfl⟩
      have hla : lockAt key xs k = x ^^^ (key + UInt8.ofNat (37 * k)) := by rw [hx]; rfl
      rw [hla] at hp
      rw [← hx] at r0 hx8
      have HNM := Aside0.mk (lock_num key x k)
      have hkn : (k : Int) < (xs.length : Int) := by omega
      have hk255 : (k : Int) ≤ 255 := by omega
      have HP := Aside0.mk hp
      have HBn := Aside0.mk (HBr.out.setCell (p := ⟨g, k, none⟩) hg1 (.int .u8 ((x ^^^ (key + UInt8.ofNat (37 * k))).toNat : Int)))
      clear hx hla hp hr
      go_wp2_with fail
      go_roundg (xs.length - (k + 1))
      case measure => have := HGK.out; omega
      case rel => exact ⟨k + 1, by omega, ⟨rfl⟩, by go_num, ⟨by rw [HNM.out]; exact HP.out⟩, ⟨by rw [HNM.out]; exact HBn.out⟩⟩
    · have hR := HR.out
      rw [lockTo_full key xs k (by omega)] at hR
      have HF := Aside0.mk hR
      have hkn : ¬ (k : Int) < (xs.length : Int) := by omega
      clear hR
      go_wp2_with fail
      go_ret
      exact ⟨_, rfl, HF.out, HBr.out⟩
/-- A file whose bytes came in with w0, or are the call's own. -/
def kFileX (w0 : World) : Kd File := Kd.iso (Kd.pair Kd.string (Kd.mix 5 byte byte w0)) (fun x : File => (x.name, x.data))
theorem kFileX_came {w0 w : World} {base : Nat} {ok : Nat → Prop} {x : File} {cs : List Value} (h : kFile.K w0 x cs) : (kFileX w0).M w base ok x cs := by
  obtain ⟨A, c, rfl, hl, hg⟩ := kFile_open h
  exact ⟨[.string x.name], [.slice A x.data.length c], rfl, rfl, Kd.mix_came hl hg⟩
theorem kFileX_made {w0 w : World} {base : Nat} {ok : Nat → Prop} {x : File} {v : Value} (h : byte.R 5 w base ok v x.data) : (kFileX w0).M w base ok x [.string x.name, v] := ⟨[.string x.name], [v], rfl, rfl, Kd.mix_made h⟩
theorem kFileX_open {w0 w : World} (hb : Below w0.heap.size w0 w) {x : File} {cs : List Value} (h : (kFileX w0).K w x cs) : ∃ A c, cs = [.string x.name, .slice A x.data.length c] ∧ x.data.length ≤ c ∧ byte.C w A x.data.length x.data := by
  obtain ⟨_, _, rfl, rfl, h2⟩ := h
  obtain ⟨A, c, rfl, hl, hg⟩ := Kd.mix_read rfl (fun _ _ hk => hk) hb h2
  exact ⟨A, c, rfl, hl, hg⟩
theorem fileX_read {w0 w : World} (hb : Below w0.heap.size w0 w) {A : Option Addr} {n : Nat} {xs : List File} (h : (kFileX w0).C w A n xs) : kFile.C w A n xs :=
  Kd.C_read (d := kFile) (dm := kFileX w0) rfl (fun x cs hk => by
    obtain ⟨A, c, rfl, hl, hg⟩ := kFileX_open hb hk
    exact kFile_mk w x hl hg) h
theorem info_file55 : (Tryd.prog.info? 56).map (fun i => (i.zero, i.size, i.bytes)) = some (some (.agg #[.string ByteArray.empty, .slice none 0 0]), 2, 40) := by kernel_rfl
set_option maxHeartbeats 800000 in
theorem fclone (A : Option Addr) (l : List File) (c : Nat) (w0 w : World) (hb0 : Below w0.heap.size w0 w) (h1 : kFile.C w0 A l.length l) (hc : l.length ≤ c) (hl : l.length ≤ 1000000) :
    Calls Tryd.prog 31 #[.slice A l.length c] w fun e w' => ∃ v, e = .returned v ∧ (kFileX w0).R 56 w' w.heap.size (fun _ => True) v l ∧ Below w.heap.size w w' := by
  have q : ∀ (w : World) (a : Option Addr) (n c n' c' : Nat), (binOp .eql 43 (.slice a n c) (.slice none n' c')).run Tryd.prog w = .ok (.bool a.isNone) w := fun w a n c n' c' => Lib.run_eql_slice_nil w _ _ a n c n' c' Tryd.underlying43
  rcases A with _ | ad
  · have h0 : l = [] := by
      rcases l with _ | ⟨x, xs⟩
      · rfl
      · obtain ⟨ad, _, e, _⟩ := C_at h1 (k := 0) (by simp)
        cases e
    subst h0
    go_enter Tryd.func31, Tryd.ntmps31
    go_wp2
    go_ret
    exact ⟨_, rfl, Kd.R_nil _ _ _ _ _, Below.refl _ _⟩
  · have HB := Aside0.mk (Below.refl w.heap.size w)
    have H1 := Aside0.mk h1
    have HB0 := Aside0.mk hb0
    clear h1 hb0
    go_enter Tryd.func31, Tryd.ntmps31
    go_wp2_with (first | ((with_reducible refine gate_dst (N := 5) rfl ?_); refine Kd.R_lit (kFileX w0) (w0 := w) w.heap.size 56 rfl (N := 5) rfl (xs := []) (inner := []) (ok := fun _ => True) (okp := fun _ => False) ?hr (reps_nil _ _) (fun _ hk => hk.elim) trivial HB.out (Nat.le_refl _) (by simp) ?_; (case hr => first | (go_simp; done) | (go_simp; rfl)); intro v1 w1 ho hb hg hat; have HO := Aside0.mk ho; have HB1 := Aside0.mk hb; have hs1 := hb.size; clear ho hb hg hat) | ((with_reducible refine gate_builtin (b := .append) (xs := #[.tmp 5, .tmp 6]) rfl ?_); at_builtin; refine Kd.R_append_rows (kFileX w0) (Rr := kFile.K w0) (w0 := w) w.heap.size rfl (.tmp 5) (.tmp 6) 43 56 (.agg #[.string ByteArray.empty, .slice none 0 0]) 40 rfl Tryd.underlying43 info_file55 rfl (Nat.succ_pos _) (by omega) _ [] l (some ad) l.length c (fun _ => True) (fun _ => False) rfl rfl HO.out (ReadsRow.imp_ H1.out (below_step HB0.out HB1.out) (fun _ _ hp => hp)) (fun _ _ hx => kFileX_came hx) (fun _ hk => hk.elim) (fun _ _ => trivial) HB1.out hs1 (by simp; omega) ?_; intro v2 w2 ho hb hg hat; have HO2 := Aside0.mk ho; have HB2 := Aside0.mk hb; clear ho hb hg hat))
    go_ret
    exact ⟨_, rfl, HO2.out, HB2.out⟩
end Go.Proofs.YtdobjbdkfammbaaDoor
