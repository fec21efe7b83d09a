/-
  Chapter 49, fs.Make, whole; what the laws of this chapter call first: awake, great.
-/
import Derived.Test.YtahjadbjokkjnaaDoorFs7
namespace Go.Proofs.YtahjadbjokkjnaaDoor
open Go.RowKit Go.Proofs.YtahjadbjokkjnaaDoorW.PrintWords Go.Proofs.YtahjadbjokkjnaaDoorW.PrintLast Go.Proofs.YtahjadbjokkjnaaDoorW.PrintMore
set_option linter.unusedVariables false
set_option linter.unusedSimpArgs false

/-- Why there is no disk; 0: there is one. -/
def makeE (l : List File) : Int := if 8 < l.length then 6 else if togB l then 0 else 3
def makeV (l : List File) : List (List UInt8) := if 8 < l.length then [] else if togB l then makeB l else []
def MakePost (w : World) (l : List File) (e : Ending) (w' : World) : Prop := ∃ A c, e = .returned (.tuple #[.slice A (makeV l).length c, .int .i64 (makeE l)]) ∧ kBlock.R 40 w' w.heap.size (fun _ => True) (.slice A (makeV l).length c) (makeV l) ∧ Below w.heap.size w w'
theorem make_any (A : Option Addr) (l : List File) (c : Nat) (w : World) (h : kFile.C w A l.length l) (hs : ∀ k, k < l.length → (gt l k).name.size ≤ 9223372036854775807) (hmg : MagicAt w) :
    Calls Tryd.prog 16 #[.slice A l.length c] w (MakePost w l) := by
  by_cases h8 : 8 < l.length
  · refine (make_full A l c w h h8).mono ?_
    rintro e w' ⟨rfl, hb⟩
    unfold MakePost makeE makeV
    simp only [if_pos h8]
    exact ⟨none, 0, rfl, Kd.R_nil _ _ _ _ _, hb⟩
  · cases ht : togB l
    · refine (make_form A l c w h (by omega) hs ht).mono ?_
      rintro e w' ⟨rfl, hb⟩
      unfold MakePost makeE makeV
      simp only [if_neg h8, ht]
      exact ⟨none, 0, rfl, Kd.R_nil _ _ _ _ _, hb⟩
    · refine (make_ok A l c w h (by omega) hs ht hmg).mono ?_
      rintro e w' ⟨v, rfl, hr, hb⟩
      obtain ⟨A', c', rfl⟩ := Kd.R_slice hr
      unfold MakePost makeE makeV
      simp only [if_neg h8, ht, if_true]
      exact ⟨A', c', rfl, hr, hb⟩
theorem make_as (A : Option Addr) (l : List File) (c : Nat) (w : World) (h : kFile.C w A l.length l) (hs : ∀ k, k < l.length → (gt l k).name.size ≤ 9223372036854775807) (hmg : MagicAt w) (n : Nat) (hn : (makeV l).length = n) (E : Int) (hE : makeE l = E) :
    Calls Tryd.prog 16 #[.slice A l.length c] w fun e w' => ∃ Aa ca, e = .returned (.tuple #[.slice Aa n ca, .int .i64 E]) ∧ kBlock.R 40 w' w.heap.size (fun _ => True) (.slice Aa n ca) (makeV l) ∧ Below w.heap.size w w' := by
  subst hn hE
  exact make_any A l c w h hs hmg
theorem block_in {w : World} {g n : Nat} {xs : List (List UInt8)} (h : kBlock.C w (some ⟨g, 0, none⟩) n xs) {k : Nat} (hk : k < n) :
    (gt xs k).length = 32 ∧ ∀ j u, (bytesV (gt xs k))[j]? = some u → w.cell? ((⟨g, k * 32, none⟩ : Addr).add j) = some u := by
  obtain ⟨ad, e, h1, h2⟩ := block_at h hk
  cases e
  rw [add_plain] at h2
  exact ⟨h1, h2⟩
/-- A row of one file that is made. -/
theorem file_one {W : World} {N : Nat} {t : TypeId} {x : File} {A : Option Addr} {c : Nat} (hb : W.heap[N]? = some (.cells #[.string x.name, .slice A x.data.length c] t (0, 0))) (hl : x.data.length ≤ c) (hC : byte.C W A x.data.length x.data) : kFile.C W (some ⟨N, 0, none⟩) 1 [x] := by
  refine C_block (d := kFile) (xs := [x]) hb ⟨rfl, fun j p hj => ?_⟩ (by simp)
  rcases j with _ | j
  · simp only [List.getElem?_cons_zero, Option.some.injEq] at hj
    subst hj
    exact kFile_mk W _ hl hC
  · simp at hj
theorem byte_blk {W : World} {N : Nat} {t : TypeId} {xs : List UInt8} (hb : W.heap[N]? = some (.cells (bytesV xs).toArray t (0, 0))) (hm : xs.length ≤ 9223372036854775807) : byte.C W (some ⟨N, 0, none⟩) xs.length xs := by
  refine C_block (d := byte) (xs := xs) hb ?_ hm
  have := Kd.reps_scalar (enc := fun x : UInt8 => Value.int .u8 (x.toNat : Int)) xs
  rw [encs_bytes] at this
  exact this
def f0 : File := ⟨⟨#[97]⟩, [7, 8]⟩
def blkA : List UInt8 := [97, 0, 0, 0, 0, 0, 0, 0, 0, 0, 0, 0, 0, 2, 0, 2, 0, 0, 0, 0, 0, 0, 0, 0, 0, 0, 0, 0, 0, 0, 0, 0]
def blkD : List UInt8 := [7, 8, 0, 0, 0, 0, 0, 0, 0, 0, 0, 0, 0, 0, 0, 0, 0, 0, 0, 0, 0, 0, 0, 0, 0, 0, 0, 0, 0, 0, 0, 0]
theorem f0_E : makeE [f0] = 0 := by decide
theorem f0_1 : gt (makeV [f0]) 1 = blkA := by decide
theorem f0_2 : gt (makeV [f0]) 2 = blkD := by decide
theorem f0_len : (makeV [f0]).length = 3 := by decide
set_option maxHeartbeats 3200000 in
theorem awake_any (w : World) (hmg : MagicAt w) : Calls Tryd.prog 11 #[] w fun e w' => e = .returned (.bool true) ∧ Below w.heap.size w w' := by
  have hb1 : Below w.heap.size w (w.alloc (.cells #[.int .u8 7, .int .u8 8] 5)) := below_alloc (Below.refl _ _) _
  have hb2 : Below w.heap.size w ((w.alloc (.cells #[.int .u8 7, .int .u8 8] 5)).alloc (.cells #[.string ⟨#[97]⟩, .slice (some ⟨w.heap.size, 0, none⟩) 2 2] 28)) := below_alloc hb1 _
  have hc1 : byte.C ((w.alloc (.cells #[.int .u8 7, .int .u8 8] 5)).alloc (.cells #[.string ⟨#[97]⟩, .slice (some ⟨w.heap.size, 0, none⟩) 2 2] 28)) (some ⟨w.heap.size, 0, none⟩) 2 [7, 8] := byte_blk (xs := [7, 8]) (blk_alloc (blk_new w _) _) (by decide)
  have hk : kFile.C ((w.alloc (.cells #[.int .u8 7, .int .u8 8] 5)).alloc (.cells #[.string ⟨#[97]⟩, .slice (some ⟨w.heap.size, 0, none⟩) 2 2] 28)) (some ⟨w.heap.size + 1, 0, none⟩) 1 [f0] := by
    have hn := blk_new (w.alloc (.cells #[.int .u8 7, .int .u8 8] 5)) (.cells #[.string ⟨#[97]⟩, .slice (some ⟨w.heap.size, 0, none⟩) 2 2] 28)
    rw [World.size_alloc] at hn
    exact file_one (x := f0) hn (Nat.le_refl _) hc1
  have HMK := Aside0.mk (make_any _ [f0] 1 _ hk (by intro k hk; rcases k with _ | k; exact (by decide); simp at hk) (Kd.C_below hmg hb2))
  have HB2 := Aside0.mk hb2
  clear hmg hb1 hb2 hc1 hk
  go_enter Tryd.func11, Tryd.ntmps11
  go_upto_region 2 with (first | (go_at_call 16; refine HMK.out.mono ?_; rintro e w3 ⟨A, c, rfl, ho, hb⟩; have HB3 := Aside0.mk (below_step HB2.out hb); have HO3 := Aside0.mk ho; clear ho hb))
  have hE := f0_E
  have hL := f0_len
  rw [hE, hL]
  rw [hL] at HO3
  obtain ⟨g, cap, he, _⟩ := Kd.R_form HO3.out (by rw [hL]; decide)
  cases he
  obtain ⟨A', c', he, _, hC⟩ := Kd.R_reads HO3.out
  cases he
  have h1 := block_in hC (k := 1) (by rw [hL]; decide)
  have h2 := block_in hC (k := 2) (by rw [hL]; decide)
  rw [f0_1] at h1
  rw [f0_2] at h2
  have H1 := Aside0.mk h1
  have H2 := Aside0.mk h2
  clear h1 h2 hC hL hE
  have he1 : ∀ w, (Op.equalIn 10000 40 (.agg (bytesV blkA).toArray) (.agg (bytesV blkA).toArray)).run Tryd.prog w = .ok true w := eql_block blkA blkA rfl rfl true (by decide)
  have he2 : ∀ w, (Op.equalIn 10000 40 (.agg (bytesV blkD).toArray) (.agg (bytesV blkD).toArray)).run Tryd.prog w = .ok true w := eql_block blkD blkD rfl rfl true (by decide)
  go_wp2_with (first | ((with_reducible refine gate_dst (N := 20) rfl ?_); refine load_block_on rfl _ rfl ⟨g, 32, none⟩ rfl blkA rfl H1.out.2 ?_) | ((with_reducible refine gate_dst (N := 21) rfl ?_); refine build_on rfl 40 _ rfl (bytesV blkA).toArray (by kernel_rfl) ?_) | ((with_reducible refine gate_dst (N := 27) rfl ?_); refine load_block_on rfl _ rfl ⟨g, 64, none⟩ rfl blkD rfl H2.out.2 ?_) | ((with_reducible refine gate_dst (N := 28) rfl ?_); refine build_on rfl 40 _ rfl (bytesV blkD).toArray (by kernel_rfl) ?_))
  go_ret
  exact ⟨rfl, HB3.out⟩
/-- A file that is more than is looked at. -/
def bigB (x : File) : Bool := decide (300 < x.data.length) || decide (20 < x.name.size)
def greatB (l : List File) : Bool := (l.take 13).any bigB || decide (12 < l.length)
theorem take_any {α : Type} [Inhabited α] (p : α → Bool) (l : List α) (k : Nat) (hk : k < l.length) : (l.take (k + 1)).any p = ((l.take k).any p || p (gt l k)) := by
  rw [List.take_add_one, gt_some l k hk, List.any_append]
  simp
theorem any_take_mono {α : Type} (p : α → Bool) (l : List α) {k n : Nat} (hk : k ≤ n) (h : (l.take k).any p = true) : (l.take n).any p = true := by
  rw [List.any_eq_true] at h ⊢
  obtain ⟨x, hx, hp⟩ := h
  exact ⟨x, List.take_subset_take_left l hk hx, hp⟩
theorem great_len {l : List File} (h : greatB l = false) : l.length ≤ 12 := by
  unfold greatB at h
  simp only [Bool.or_eq_false_iff, decide_eq_false_iff_not] at h
  omega
theorem great_file {l : List File} (h : greatB l = false) (k : Nat) (hk : k < l.length) : bigB (gt l k) = false := by
  have hl := great_len h
  unfold greatB at h
  simp only [Bool.or_eq_false_iff] at h
  have h1 := h.1
  rw [List.take_of_length_le (by omega), List.any_eq_false] at h1
  have := h1 (gt l k) (by rw [gt_eq l k hk]; exact List.getElem_mem hk)
  simpa using this
theorem great_data {l : List File} (h : greatB l = false) (k : Nat) (hk : k < l.length) : (gt l k).data.length ≤ 300 := by
  have := great_file h k hk
  unfold bigB at this
  simp only [Bool.or_eq_false_iff, decide_eq_false_iff_not] at this
  omega
theorem great_name {l : List File} (h : greatB l = false) (k : Nat) (hk : k < l.length) : (gt l k).name.size ≤ 20 := by
  have := great_file h k hk
  unfold bigB at this
  simp only [Bool.or_eq_false_iff, decide_eq_false_iff_not] at this
  omega
set_option maxHeartbeats 1600000 in
theorem great_any (A : Option Addr) (l : List File) (c : Nat) (b : Bool) (hb : greatB l = b) (w : World) (h : kFile.C w A l.length l) (hs : ∀ k, k < l.length → (gt l k).name.size ≤ 9223372036854775807) :
    Calls Tryd.prog 12 #[.slice A l.length c] w fun e w' => e = .returned (.bool b) ∧ w = w' := by
  have hmx := Kd.C_max h
  have HBB := Aside0.mk hb
  have HS := Aside0.mk hs
  clear hb hs
  go_enter Tryd.func12, Tryd.ntmps12
  go_wp2
  go_loop [3] (fun i => ∃ k : Nat, k ≤ l.length ∧ k ≤ 13 ∧ i = .int .i64 k ∧ Aside0 ((l.take k).any bigB = false)) (fun i => l.length - (intOf i).toNat)
  case atStart => exact ⟨0, Nat.zero_le _, by omega, rfl, ⟨rfl⟩⟩
  case round =>
    obtain ⟨k, hk, hk13, rfl, HK⟩ := hrel
    by_cases hlt : k < l.length
    · by_cases h13 : k < 13
      · obtain ⟨ad, A3, c3, rfl, g0, g1, hc3, hd⟩ := file_at h hlt
        have hsz := HS.out k hlt
        have hdm := Kd.C_max hd
        have HT := Aside0.mk (take_any bigB l k hlt)
        have hbig : greatB l = true ∨ bigB (gt l k) = false := by
          cases hb : bigB (gt l k)
          · exact .inr rfl
          · refine .inl ?_
            unfold greatB
            rw [any_take_mono bigB l (k := k + 1) (by omega) (by rw [HT.out, hb]; simp)]
            rfl
        obtain ⟨x, hx⟩ : ∃ x, x = gt l k := ⟨_, rfl⟩
        rw [← hx] at g0 g1 hsz hdm hbig hc3
        have HBIG := Aside0.mk hbig
        have HX := Aside0.mk hx
        clear hd hbig hx
        by_cases hd3 : 300 < x.data.length
        · have hd3' : (300 : Int) < (x.data.length : Int) := by omega
          go_wp2
          go_ret
          rcases HBIG.out with e | e
          · exact ⟨ret_bool (by rw [← HBB.out, e]), rfl⟩
          · unfold bigB at e
            simp [hd3] at e
        · have hd3' : decide ((300 : Int) < (x.data.length : Int)) = false := decide_eq_false (by omega)
          have hd4 : ¬ (300 : Int) < (x.data.length : Int) := by omega
          by_cases hn : 20 < x.name.size
          · have hn' : (20 : Int) < (x.name.size : Int) := by omega
            go_wp2
            go_ret
            rcases HBIG.out with e | e
            · exact ⟨ret_bool (by rw [← HBB.out, e]), rfl⟩
            · unfold bigB at e
              simp [hn] at e
          · have hn' : ¬ (20 : Int) < (x.name.size : Int) := by omega
            have HN : Aside0 ((l.take (k + 1)).any bigB = false) := ⟨by rw [HT.out, HK.out, ← HX.out]; unfold bigB; simp [hd3, hn]⟩
            go_wp2
            go_round
            case rel => exact ⟨k + 1, by omega, by omega, by go_num, HN⟩
            case measure => simp [intOf]; omega
      · have hk3 : k = 13 := by omega
        have hlt12 : (12 : Int) < (l.length : Int) := by omega
        have h13' : ¬ (k : Int) < 13 := by omega
        go_wp2
        go_ret
        exact ⟨ret_bool (by rw [← HBB.out]; unfold greatB; simp; omega), rfl⟩
    · have hlt' : ¬ (k : Int) < (l.length : Int) := by omega
      have HF : Aside0 (greatB l = decide (12 < l.length)) := ⟨by unfold greatB; have := HK.out; rw [List.take_of_length_le (by omega)] at this; rw [List.take_of_length_le (by omega), this]; rfl⟩
      go_wp2
      go_ret
      exact ⟨ret_bool (by rw [← HBB.out, HF.out]; exact decide_eq_decide.mpr (by omega)), rfl⟩
end Go.Proofs.YtahjadbjokkjnaaDoor
