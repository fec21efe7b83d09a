/-
  ProbeLost, walked: it returns true.
-/
import Derived.Test.YtoglbbonfjnmpaaDoorPl
import Derived.Test.YtoglbbonfjnmpaaDoorFg
import Derived.Test.YtoglbbonfjnmpaaDoorFo
import Derived.Deep.RegionLawGrows
namespace Go.Proofs.YtoglbbonfjnmpaaDoor
open Go.RowKit Go.Proofs.YtoglbbonfjnmpaaDoorW.PrintWords Go.Proofs.YtoglbbonfjnmpaaDoorW.PrintLast Go.Proofs.YtoglbbonfjnmpaaDoorW.PrintMore
set_option linter.unusedVariables false
set_option linter.unusedSimpArgs false

/-- The files of another name among the first k. -/
def otherTo (nm : ByteArray) (l : List File) (k : Nat) : List File := (l.take k).filter (fun f => !decide (f.name = nm))
theorem other_hit (nm : ByteArray) (l : List File) (k : Nat) (hk : k < l.length) (h : (gt l k).name = nm) : otherTo nm l (k + 1) = otherTo nm l k := by
  unfold otherTo
  rw [List.take_add_one, gt_some l k hk, List.filter_append]
  simp [h]
theorem other_miss (nm : ByteArray) (l : List File) (k : Nat) (hk : k < l.length) (h : (gt l k).name ≠ nm) : otherTo nm l (k + 1) = otherTo nm l k ++ [gt l k] := by
  unfold otherTo
  rw [List.take_add_one, gt_some l k hk, List.filter_append]
  simp [h]
theorem other_le (nm : ByteArray) (l : List File) (k : Nat) : (otherTo nm l k).length ≤ k := Nat.le_trans (List.length_filter_le _ _) (List.length_take_le _ _)
theorem other_mem (nm : ByteArray) (l : List File) (k j : Nat) (hj : j < (otherTo nm l k).length) : (gt (otherTo nm l k) j).name ≠ nm ∧ ∃ i, i < l.length ∧ gt (otherTo nm l k) j = gt l i := by
  have hm : gt (otherTo nm l k) j ∈ otherTo nm l k := by rw [gt_eq _ _ hj]; exact List.getElem_mem hj
  obtain ⟨z, hz⟩ : ∃ z, z = gt (otherTo nm l k) j := ⟨_, rfl⟩
  rw [← hz] at hm ⊢
  unfold otherTo at hm
  rw [List.mem_filter] at hm
  obtain ⟨h1, h2⟩ := hm
  refine ⟨by simpa using h2, ?_⟩
  obtain ⟨i, hi, e⟩ := List.getElem_of_mem (List.mem_of_mem_take h1)
  exact ⟨i, hi, by rw [gt_eq l i hi, e]⟩
theorem fileG_rr {w1 W : World} {A : Option Addr} {n : Nat} {xs : List File} (h : (kFileG w1).C W A n xs) : ReadsRow ((kFileG w1).K w1) (kFileG w1).sz W A n xs := ReadsRow.imp_ h (Below.refl _ _) (fun _ _ hp => hp)
theorem bempty (W : World) (base : Nat) (h : base ≤ W.heap.size) : byte.R 5 (W.alloc (.cells #[] 5)) base (fun _ => True) (.slice (some ⟨W.heap.size, 0, none⟩) 0 0) [] := byteR_lit' W base (fun _ => True) [] h (by decide) trivial
theorem info_fsz : (Tryd.prog.info? 52).map (·.size) = some 2 := by kernel_rfl
theorem elem_files : Tryd.prog.underlying 36 = some (.slice (Tryd.prog.elem 36)) := by
  have : Tryd.prog.elem 36 = 52 := by simp [Program.elem, Tryd.underlying36]
  rw [this]
  exact Tryd.underlying36
theorem size_files (W : World) : (sizeOf (Tryd.prog.elem 36)).run Tryd.prog W = .ok 2 W := by
  have : Tryd.prog.elem 36 = 52 := by simp [Program.elem, Tryd.underlying36]
  rw [this]
  cases hq : Tryd.prog.info? 52 with
  | none => have := info_fsz; simp [hq] at this
  | some i =>
    have hs : i.size = 2 := by have := info_fsz; simpa [hq] using this
    simp [sizeOf, typeInfo, hq, hs]
theorem slice_from (W : World) (A : Option Addr) (n c k : Nat) (hk : k ≤ n) : (Instr.slice 36 (.slice A n c) (some (.int .i64 (k : Int))) none none).run Tryd.prog W = .ok (.slice (if c = k then A else A.map (·.add (k * 2))) (n - k) (c - k)) W := by
  rw [run_slice_l W 36 A n c elem_files .i64 (k : Int) (by omega) (by omega)]
  simp [size_files W, sliced, Result.andThen]
theorem slice_front (W : World) (A : Option Addr) (n c k : Nat) (hk : k ≤ c) : (Instr.slice 36 (.slice A n c) none (some (.int .i64 (k : Int))) (some (.int .i64 (k : Int)))).run Tryd.prog W = .ok (.slice A k k) W := by
  rw [run_slice_hm W 36 A n c elem_files .i64 .i64 (k : Int) (k : Int) (by omega) (by omega) (by omega)]
  have : A.map (fun x : Addr => x.add 0) = A := by
    cases A with
    | none => rfl
    | some a => simp [Addr.add]
  simp [size_files W, sliced, Result.andThen, this]
set_option maxRecDepth 4000 in
set_option maxHeartbeats 3200000 in
theorem law_plost (A : Option Addr) (l : List File) (c1 : Nat) (ib wb : UInt8) (D : Option Addr) (data : List UInt8) (c2 : Nat) (w : World) (h1 : kFile.C w A l.length l) (hd : byte.C w D data.length data) (hdc : data.length ≤ c2) (hs1 : ∀ k, k < l.length → (gt l k).name.size ≤ 9223372036854775807) (he : EndAt w) (hn : NumAt w) :
    Calls Tryd.prog 9 #[.slice A l.length c1, .int .u8 (ib.toNat : Int), .int .u8 (wb.toNat : Int), .slice D data.length c2] w fun e w' => e = .returned (.bool true) ∧ Below w.heap.size w w' := by
  have H1 := Aside0.mk h1
  have HD := Aside0.mk hd
  have HS1 := Aside0.mk hs1
  have HE := Aside0.mk he
  have HNM := Aside0.mk hn
  have hmx1 := Kd.C_max h1
  have hmx2 := Kd.C_max hd
  clear h1 hd hs1 he hn
  cases hb1 : smallB l
  · have HS := Aside0.mk hb1
    clear hb1
    go_enter Tryd.func9, Tryd.ntmps9
    go_wp2_with (first | (go_at_call 12; refine (awake_any _ HE.out HNM.out).mono ?_; rintro e w1 ⟨rfl, hb⟩; have HB1 := Aside0.mk hb; clear hb) | (go_at_call_of 20 (Value.slice A l.length c1); refine (small_any A l c1 false HS.out 0 rfl _ (Kd.C_below H1.out HB1.out) HS1.out).mono ?_; rintro e w2 ⟨rfl, hb⟩; have HB2 := Aside0.mk (below_step HB1.out hb); clear hb))
    go_ret
    exact ⟨rfl, HB2.out⟩
  · have HSA := Aside0.mk hb1
    have HMA := Aside0.mk (mild_of_small hb1)
    have hl12 := (small_mild hb1).1
    clear hb1
    by_cases hd4 : data.length < 4
    · have hd4' : (data.length : Int) < 4 := by omega
      go_enter Tryd.func9, Tryd.ntmps9
      go_wp2_with (first | (go_at_call 12; refine (awake_any _ HE.out HNM.out).mono ?_; rintro e w1 ⟨rfl, hb⟩; have HB1 := Aside0.mk hb; clear hb) | (go_at_call_of 20 (Value.slice A l.length c1); refine (small_any A l c1 true HSA.out 1 rfl _ (Kd.C_below H1.out HB1.out) HS1.out).mono ?_; rintro e w2 ⟨rfl, hb⟩; have HB2 := Aside0.mk (below_step HB1.out hb); clear hb))
      go_ret
      exact ⟨rfl, HB2.out⟩
    · have hd4' : ¬ (data.length : Int) < 4 := by omega
      by_cases hd3 : 300 < data.length
      · have hd3' : (300 : Int) < (data.length : Int) := by omega
        go_enter Tryd.func9, Tryd.ntmps9
        go_wp2_with (first | (go_at_call 12; refine (awake_any _ HE.out HNM.out).mono ?_; rintro e w1 ⟨rfl, hb⟩; have HB1 := Aside0.mk hb; clear hb) | (go_at_call_of 20 (Value.slice A l.length c1); refine (small_any A l c1 true HSA.out 1 rfl _ (Kd.C_below H1.out HB1.out) HS1.out).mono ?_; rintro e w2 ⟨rfl, hb⟩; have HB2 := Aside0.mk (below_step HB1.out hb); clear hb))
        go_ret
        exact ⟨rfl, HB2.out⟩
      · have hd3' : ¬ (300 : Int) < (data.length : Int) := by omega
        obtain ⟨q, hq⟩ : ∃ q, q = wb.toNat % 4 := ⟨_, rfl⟩
        have hq4 : q < 4 := by omega
        have e1 : (wb.toNat : Int).tmod 4 = (q : Int) := by rw [hq]; exact (Int.ofNat_tmod _ _).symm
        have e2 : (wb.toNat : Int) % 4 = (q : Int) := by omega
        obtain ⟨en, hen⟩ : ∃ en, en = gt endL q := ⟨_, rfl⟩
        have HEN := Aside0.mk hen
        have HQ := Aside0.mk hq
        have hen3 : en.size ≤ 3 := by
          rw [hen]
          rcases (show q = 0 ∨ q = 1 ∨ q = 2 ∨ q = 3 by omega) with rfl | rfl | rfl | rfl <;> decide
        have d1 : decide ((data.length : Int) < 4) = false := decide_eq_false hd4'
        have d2 : decide ((300 : Int) < (data.length : Int)) = false := decide_eq_false hd3'
        clear hq hen
        go_enter Tryd.func9, Tryd.ntmps9
        go_upto_region 5 with (first | (go_at_call 12; refine (awake_any _ HE.out HNM.out).mono ?_; rintro e w1 ⟨rfl, hb⟩; have HB1 := Aside0.mk hb; clear hb) | (go_at_call_of 20 (Value.slice A l.length c1); refine (small_any A l c1 true HSA.out 1 rfl _ (Kd.C_below H1.out HB1.out) HS1.out).mono ?_; rintro e w2 ⟨rfl, hb⟩; have HB2 := Aside0.mk (below_step HB1.out hb); clear hb))
        obtain ⟨V, rfl⟩ : ∃ V, V = w2 := ⟨_, rfl⟩
        have hlit : Kd.string.C (V.alloc (.cells #[.string sPdf, .string sZip, .string sPng, .string sElf] 9)) (some ⟨V.heap.size, 0, none⟩) 4 endL := C_block (d := Kd.string) (xs := endL) (blk_new V _) (Kd.reps_scalar endL) (by decide)
        obtain ⟨_, e0, g0⟩ := string_at hlit hq4
        cases e0
        rw [Go.Proofs.YtoglbbonfjnmpaaDoorW.PrintWords.add_plain, ← HEN.out] at g0
        unfold sPdf sZip sPng sElf at g0
        have hq4' : (q : Int) < 4 := by omega
        have hq0 : (0 : Int) ≤ (q : Int) := by omega
        have HBL := Aside0.mk (below_alloc HB2.out (.cells #[.string sPdf, .string sZip, .string sPng, .string sElf] 9))
        unfold sPdf sZip sPng sElf at HBL
        clear hlit
        go_upto_region 7 with fail
        obtain ⟨V0, hV0⟩ : ∃ V0, V.alloc (.cells #[.string ⟨#[112, 100, 102]⟩, .string ⟨#[122, 105, 112]⟩, .string ⟨#[112, 110, 103]⟩, .string ⟨#[101, 108, 102]⟩] 9) = V0 := ⟨_, rfl⟩
        obtain ⟨nm, hnm⟩ : ∃ nm, nm = (⟨#[120, 46]⟩ : ByteArray) ++ en := ⟨_, rfl⟩
        have HNME : Aside0 (nm = lostNm q) := ⟨by rw [hnm, HEN.out]; rfl⟩
        have hnms : nm.size ≤ 5 := by rw [hnm, ByteArray.size_append]; show 2 + en.size ≤ 5; omega
        rw [hV0] at HBL ⊢
        rw [← hnm]
        have hmg : magicB51 en = magicK q := by
          unfold magicB51
          rw [HEN.out, (lost_end q hq4).2, if_neg (by omega)]
          rfl
        have HMG := Aside0.mk hmg
        have hml := magicK_len q
        obtain ⟨M, hM⟩ : ∃ M, M = magicK q := ⟨_, rfl⟩
        rw [← hM] at HMG hml
        have HM := Aside0.mk hM
        have HML := Aside0.mk hml
        clear hV0 hnm hmg hM g0 hml
        obtain ⟨bg, hbg⟩ : ∃ bg, begB data M = bg := ⟨_, rfl⟩
        have HBG := Aside0.mk hbg
        clear hbg
        cases bg
        case true =>
          go_wp2_with (first | (go_at_call 14; refine (rmagic_any en M HMG.out _).mono ?_; rintro e w3 ⟨v3, rfl, ho, hb⟩; obtain ⟨A3, c3, rfl⟩ := Kd.R_slice ho; have hC3 := (Kd.R_reads' ho).2.2; have HC3 := Aside0.mk hC3; have HB3 := Aside0.mk (below_step HBL.out hb); clear ho hb hC3) | (go_at_call 13; (with_reducible refine (begins_any D A3 data M c2 c3 true HBG.out _ (Kd.C_below HD.out HB3.out) HC3.out).mono ?_); rintro e w4 ⟨rfl, nq, rfl⟩))
          go_ret
          exact ⟨rfl, pw_below_drewN HB3.out _⟩
        case false =>
          go_upto_region 9 with (first | (go_at_call 14; refine (rmagic_any en M HMG.out _).mono ?_; rintro e w3 ⟨v3, rfl, ho, hb⟩; obtain ⟨A3, c3, rfl⟩ := Kd.R_slice ho; have hC3 := (Kd.R_reads' ho).2.2; have HC3 := Aside0.mk hC3; have HB3 := Aside0.mk (below_step HBL.out hb); clear ho hb hC3) | (go_at_call 13; (with_reducible refine (begins_any D A3 data M c2 c3 false HBG.out _ (Kd.C_below HD.out HB3.out) HC3.out).mono ?_); rintro e w4 ⟨rfl, nq, rfl⟩))
          obtain ⟨V4, hV4⟩ : ∃ V4, w3.drewN nq = V4 := ⟨_, rfl⟩
          have HB4 : Aside0 (Below w.heap.size w V4) := ⟨by rw [← hV4]; exact pw_below_drewN HB3.out _⟩
          rw [hV4]
          clear hV4
          go_wp2_with (go_at_call_of 22 (Value.slice A l.length c1); refine (files_any A l c1 _ (Kd.C_below H1.out HB4.out) HMA.out.1 (fun k hk => (HMA.out.2 k hk).2)).mono ?_; rintro e w5 ⟨Ap, cp, rfl, ho, hb⟩; have HO5 := Aside0.mk (Kd.R_reads' ho).2.2; have HB5 := Aside0.mk (below_step HB4.out hb); clear ho hb)
          obtain ⟨W1, rfl⟩ : ∃ W1, W1 = w5 := ⟨_, rfl⟩
          go_loopg [46, 11, 12, 14] l.length (fun gk i v11 v12 _ wr => ∃ k : Nat, k ≤ l.length ∧ Aside0 (gk = l.length - k) ∧ i = .int .i64 k ∧ Aside0 ((kFileG W1).R 52 wr W1.heap.size (fun _ => True) v11 (otherTo nm l k)) ∧ Aside0 ((kFileG W1).R 52 wr W1.heap.size (fun _ => True) v12 (otherTo nm l k)) ∧ Aside0 (∀ q, v11.ownBlock = some q → v12.ownBlock ≠ some q) ∧ Aside0 (Below W1.heap.size W1 wr))
          case atStart => exact ⟨0, Nat.zero_le _, ⟨rfl⟩, rfl, ⟨Kd.R_nil _ _ _ _ _⟩, ⟨Kd.R_nil _ _ _ _ _⟩, ⟨fun q hq => by simp [Value.ownBlock] at hq⟩, ⟨Below.refl _ _⟩⟩
          case round =>
            obtain ⟨k, hk, HGK, rfl, HR4, HR5, HNE, HBr⟩ := hrel
            by_cases hlt : k < l.length
            · have hkl : (k : Int) < (l.length : Int) := by omega
              obtain ⟨ad, Ax, cx, rfl, g0, g1, hcx, hCx⟩ := file_at (Kd.C_below HO5.out HBr.out) hlt
              obtain ⟨_, Ay, cy, e5, _, g1', hcy, hCy⟩ := file_at HO5.out hlt
              cases e5
              have hxx := cell_old HBr.out g1'
              rw [g1] at hxx
              injection hxx with hxx
              injection hxx with hx1 _ hx3
              subst hx1 hx3
              obtain ⟨y, hy⟩ : ∃ y, y = gt l k := ⟨_, rfl⟩
              rw [← hy] at g0 g1 hcy hCy
              obtain ⟨m, hm⟩ : ∃ m, m = y.data.length := ⟨_, rfl⟩
              rw [← hm] at g1 hcy hCy
              have HY := Aside0.mk hy
              have HMM := Aside0.mk hm.symm
              have HCy := Aside0.mk hCy
              clear hy hm hCy hCx hcx g1'
              obtain ⟨V6, hV6⟩ : ∃ V6, wr.alloc (.cells #[.string y.name, .slice Ax m cx] 52) = V6 := ⟨_, rfl⟩
              obtain ⟨Bx, hBx⟩ : ∃ Bx, Bx = wr.heap.size := ⟨_, rfl⟩
              have hbox := blk_new wr (.cells #[.string y.name, .slice Ax m cx] 52)
              rw [hV6, ← hBx] at hbox
              have bx6 := bx_cells hbox
              have z0 := bx6.1
              have HB6 : Aside0 (Below W1.heap.size W1 V6) := ⟨by rw [← hV6]; exact below_alloc HBr.out _⟩
              cases hnq : (y.name.toList == nm.toList)
              · have hyn : (gt l k).name ≠ nm := by
                  rw [← HY.out]
                  intro e
                  rw [e] at hnq
                  simp at hnq
                have HOT := Aside0.mk (other_miss nm l k hlt hyn)
                rw [← HY.out] at HOT
                obtain ⟨n3, hn3⟩ : ∃ n3, (otherTo nm l k ++ [y]).length = n3 := ⟨_, rfl⟩
                have HN3 := Aside0.mk hn3
                clear hn3
                have HLEN : Aside0 (((otherTo nm l k).length + 1) * 40 ≤ 140737488355328) := ⟨by have := other_le nm l k; omega⟩
                have hF0 : F2 W1 V6 Bx #[.string y.name, .slice Ax m cx] 52 u11 u12 (otherTo nm l k) (otherTo nm l k) := by
                  rw [← hV6]
                  refine ⟨Kd.R_alloc (fileG_ok HR4.out (fun q hq => by have := Kd.R_lt HR4.out q hq; omega)) _, Kd.R_alloc (fileG_ok HR5.out (fun q hq => by have := Kd.R_lt HR5.out q hq; omega)) _, HNE.out, below_alloc HBr.out _, by rw [hV6]; exact hbox⟩
                obtain ⟨W0, hW0⟩ : ∃ W0, V6.drew = W0 := ⟨_, rfl⟩
                have HF0 : Aside0 (F2 W1 W0 Bx #[.string y.name, .slice Ax m cx] 52 u11 u12 (otherTo nm l k) (otherTo nm l k)) := ⟨by rw [← hW0]; exact hF0.below (below_drew (Below.refl _ _))⟩
                have bx0 := bx_cells HF0.out.box
                clear hyn hF0 hbox
                go_upto_region 13 with fail
                rw [← hBx]
                clear hV6 hBx
                go_upto_region 14 with fail
                go_region_held3 (fun W => W.cell? ⟨Bx, 0, none⟩ = some (.string y.name) ∧ W.cell? ⟨Bx, 1, none⟩ = some (.slice Ax m cx)) (first | (with_reducible exact bx8) | (with_reducible exact bx7) | (with_reducible exact bx_cells (blk_alloc HF1.out.box _)) | (with_reducible exact bx0) | (with_reducible exact bx_cells (blk_alloc HF0.out.box _)) | (with_reducible exact bx_cells (blk_alloc (blk_alloc HF0.out.box _) _)) | exact bx6) (first | (have hgd := HF1; clear hgd; refine Kd.R_append_rows_step (kFileG W1) (Rr := (kFileG W1).K W1) (w0 := W1) W1.heap.size rfl (.tmp 54) (.tmp 56) 36 52 (.agg #[.string ByteArray.empty, .slice none 0 0]) 40 rfl Tryd.underlying36 info_file51 rfl (Nat.succ_pos _) (by omega) u11 (otherTo nm l k) [y] _ 1 1 (fun q => q ≠ Bx) (fun _ => False) rfl rfl ?hHO ?hHR (fun _ _ h => h) (fun _ hk => hk.elim) ?hfr ?hHB ?hsz HLEN.out ?_; (case hHO => (first | (with_reducible exact HF1.out.r4) | (with_reducible exact Kd.R_alloc HF1.out.r4 _))); (case hHR => (first | (with_reducible exact fileG_rr (fileG_one (blk_new w7 _) HMM.out hcy HCy.out)) | (with_reducible exact fileG_rr (fileG_one HXa.out HMM.out hcy HCy.out)) | (with_reducible exact fileG_rr (fileG_one HXb.out HMM.out hcy HCy.out)))); (case hfr => (intro q hq e; have h1 := blk_lt HF1.out.box; have h2 := hq; (try simp only [World.size_alloc] at h2); omega)); (case hHB => (first | (with_reducible exact HF1.out.out) | (with_reducible exact below_alloc HF1.out.out _))); (case hsz => (have h1 := HF1.out.out.size; (try simp only [World.size_alloc]); omega)); intro v8 w8 ho hb hg hat; obtain ⟨A8, c8, rfl⟩ : ∃ A c, v8 = .slice A n3 c := (by obtain ⟨A, c, e⟩ := Kd.R_slice ho; exact ⟨A, c, by rw [e, HN3.out]⟩); (first | (with_reducible have HF2 := Aside0.mk (HF1.out.app4 ho hb hg hat)) | (with_reducible have HF2 := Aside0.mk ((HF1.out.below (below_alloc (Below.refl _ _) (.cells #[.string y.name, .slice Ax m cx] 52))).app4 ho hb hg hat))); have bx8 := bx_cells HF2.out.box; clear HF1 ho hb hg hat) | (have hgd := HF1; clear hgd; refine Kd.R_append_rows_step (kFileG W1) (Rr := (kFileG W1).K W1) (w0 := W1) W1.heap.size rfl (.tmp 58) (.tmp 60) 36 52 (.agg #[.string ByteArray.empty, .slice none 0 0]) 40 rfl Tryd.underlying36 info_file51 rfl (Nat.succ_pos _) (by omega) u12 (otherTo nm l k) [y] _ 1 1 (fun q => q ≠ Bx) (fun _ => False) rfl rfl ?hHO ?hHR (fun _ _ h => h) (fun _ hk => hk.elim) ?hfr ?hHB ?hsz HLEN.out ?_; (case hHO => (first | (with_reducible exact HF1.out.r5) | (with_reducible exact Kd.R_alloc HF1.out.r5 _))); (case hHR => (first | (with_reducible exact fileG_rr (fileG_one (blk_new w7 _) HMM.out hcy HCy.out)) | (with_reducible exact fileG_rr (fileG_one HXa.out HMM.out hcy HCy.out)) | (with_reducible exact fileG_rr (fileG_one HXb.out HMM.out hcy HCy.out)))); (case hfr => (intro q hq e; have h1 := blk_lt HF1.out.box; have h2 := hq; (try simp only [World.size_alloc] at h2); omega)); (case hHB => (first | (with_reducible exact HF1.out.out) | (with_reducible exact below_alloc HF1.out.out _))); (case hsz => (have h1 := HF1.out.out.size; (try simp only [World.size_alloc]); omega)); intro v8 w8 ho hb hg hat; obtain ⟨A8, c8, rfl⟩ : ∃ A c, v8 = .slice A n3 c := (by obtain ⟨A, c, e⟩ := Kd.R_slice ho; exact ⟨A, c, by rw [e, HN3.out]⟩); (first | (with_reducible have HF2 := Aside0.mk (HF1.out.app5 ho hb hg hat)) | (with_reducible have HF2 := Aside0.mk ((HF1.out.below (below_alloc (Below.refl _ _) (.cells #[.string y.name, .slice Ax m cx] 52))).app5 ho hb hg hat))); have bx8 := bx_cells HF2.out.box; clear HF1 ho hb hg hat) | (have hgd := HF0; clear hgd; refine Kd.R_append_rows_step (kFileG W1) (Rr := (kFileG W1).K W1) (w0 := W1) W1.heap.size rfl (.tmp 58) (.tmp 60) 36 52 (.agg #[.string ByteArray.empty, .slice none 0 0]) 40 rfl Tryd.underlying36 info_file51 rfl (Nat.succ_pos _) (by omega) u12 (otherTo nm l k) [y] _ 1 1 (fun q => q ≠ Bx) (fun _ => False) rfl rfl ?hHO ?hHR (fun _ _ h => h) (fun _ hk => hk.elim) ?hfr ?hHB ?hsz HLEN.out ?_; (case hHO => (first | (with_reducible exact Kd.R_alloc HF0.out.r5 _) | (with_reducible exact Kd.R_alloc (Kd.R_alloc HF0.out.r5 _) _))); (case hHR => (first | (with_reducible exact fileG_rr (fileG_one (blk_new W0 _) HMM.out hcy HCy.out)) | (with_reducible exact fileG_rr (fileG_one (blk_alloc (blk_new W0 _) _) HMM.out hcy HCy.out)) | (with_reducible exact fileG_rr (fileG_one (blk_new2 W0 _ _) HMM.out hcy HCy.out)))); (case hfr => (intro q hq e; have h1 := blk_lt HF0.out.box; have h2 := hq; simp only [World.size_alloc] at h2; omega)); (case hHB => (first | (with_reducible exact below_alloc HF0.out.out _) | (with_reducible exact below_alloc (below_alloc HF0.out.out _) _))); (case hsz => (have h1 := HF0.out.out.size; simp only [World.size_alloc]; omega)); intro v7 w7 ho hb hg hat; obtain ⟨A7, c7, rfl⟩ : ∃ A c, v7 = .slice A n3 c := (by obtain ⟨A, c, e⟩ := Kd.R_slice ho; exact ⟨A, c, by rw [e, HN3.out]⟩); (first | (with_reducible have HXa := Aside0.mk (HF0.out.far5 hg (blk_alloc (blk_new W0 (.cells #[.string y.name, .slice Ax m cx] 52)) (.cells #[.string y.name, .slice Ax m cx] 52)) (Nat.le_refl _)); with_reducible have HXb := Aside0.mk (HF0.out.far5 hg (blk_new2 W0 (.cells #[.string y.name, .slice Ax m cx] 52) (.cells #[.string y.name, .slice Ax m cx] 52)) (Nat.le_succ _))) | skip); (first | (with_reducible have HF1 := Aside0.mk ((HF0.out.below (below_alloc (Below.refl _ _) (.cells #[.string y.name, .slice Ax m cx] 52))).app5 ho hb hg hat)) | (with_reducible have HF1 := Aside0.mk ((HF0.out.below (below_alloc (below_alloc (Below.refl _ _) (.cells #[.string y.name, .slice Ax m cx] 52)) (.cells #[.string y.name, .slice Ax m cx] 52))).app5 ho hb hg hat))); have bx7 := bx_cells HF1.out.box; clear HF0 ho hb hg hat) | (have hgd := HF0; clear hgd; refine Kd.R_append_rows_step (kFileG W1) (Rr := (kFileG W1).K W1) (w0 := W1) W1.heap.size rfl (.tmp 54) (.tmp 56) 36 52 (.agg #[.string ByteArray.empty, .slice none 0 0]) 40 rfl Tryd.underlying36 info_file51 rfl (Nat.succ_pos _) (by omega) u11 (otherTo nm l k) [y] _ 1 1 (fun q => q ≠ Bx) (fun _ => False) rfl rfl ?hHO ?hHR (fun _ _ h => h) (fun _ hk => hk.elim) ?hfr ?hHB ?hsz HLEN.out ?_; (case hHO => (first | (with_reducible exact Kd.R_alloc HF0.out.r4 _) | (with_reducible exact Kd.R_alloc (Kd.R_alloc HF0.out.r4 _) _))); (case hHR => (first | (with_reducible exact fileG_rr (fileG_one (blk_new W0 _) HMM.out hcy HCy.out)) | (with_reducible exact fileG_rr (fileG_one (blk_alloc (blk_new W0 _) _) HMM.out hcy HCy.out)) | (with_reducible exact fileG_rr (fileG_one (blk_new2 W0 _ _) HMM.out hcy HCy.out)))); (case hfr => (intro q hq e; have h1 := blk_lt HF0.out.box; have h2 := hq; simp only [World.size_alloc] at h2; omega)); (case hHB => (first | (with_reducible exact below_alloc HF0.out.out _) | (with_reducible exact below_alloc (below_alloc HF0.out.out _) _))); (case hsz => (have h1 := HF0.out.out.size; simp only [World.size_alloc]; omega)); intro v7 w7 ho hb hg hat; obtain ⟨A7, c7, rfl⟩ : ∃ A c, v7 = .slice A n3 c := (by obtain ⟨A, c, e⟩ := Kd.R_slice ho; exact ⟨A, c, by rw [e, HN3.out]⟩); (first | (with_reducible have HXa := Aside0.mk (HF0.out.far4 hg (blk_alloc (blk_new W0 (.cells #[.string y.name, .slice Ax m cx] 52)) (.cells #[.string y.name, .slice Ax m cx] 52)) (Nat.le_refl _)); with_reducible have HXb := Aside0.mk (HF0.out.far4 hg (blk_new2 W0 (.cells #[.string y.name, .slice Ax m cx] 52) (.cells #[.string y.name, .slice Ax m cx] 52)) (Nat.le_succ _))) | skip); (first | (with_reducible have HF1 := Aside0.mk ((HF0.out.below (below_alloc (Below.refl _ _) (.cells #[.string y.name, .slice Ax m cx] 52))).app4 ho hb hg hat)) | (with_reducible have HF1 := Aside0.mk ((HF0.out.below (below_alloc (below_alloc (Below.refl _ _) (.cells #[.string y.name, .slice Ax m cx] 52)) (.cells #[.string y.name, .slice Ax m cx] 52))).app4 ho hb hg hat))); have bx7 := bx_cells HF1.out.box; clear HF0 ho hb hg hat))
                all_goals
                  go_wp2_with fail
                  go_roundg (l.length - (k + 1))
                  case measure => have := HGK.out; omega
                  case rel => exact ⟨k + 1, by omega, ⟨rfl⟩, by go_num, ⟨by rw [HOT.out]; exact fileG_ok HF2.out.r4 (fun _ _ => trivial)⟩, ⟨by rw [HOT.out]; exact fileG_ok HF2.out.r5 (fun _ _ => trivial)⟩, ⟨HF2.out.ne⟩, ⟨HF2.out.out⟩⟩
              · have hyn : (gt l k).name = nm := by
                  rw [← HY.out]
                  rw [str_eql] at hnq
                  exact of_decide_eq_true hnq
                have HOT := Aside0.mk (other_hit nm l k hlt hyn)
                have HR4n : Aside0 ((kFileG W1).R 52 V6 W1.heap.size (fun _ => True) u11 (otherTo nm l k)) := ⟨by rw [← hV6]; exact Kd.R_alloc HR4.out _⟩
                have HR5n : Aside0 ((kFileG W1).R 52 V6 W1.heap.size (fun _ => True) u12 (otherTo nm l k)) := ⟨by rw [← hV6]; exact Kd.R_alloc HR5.out _⟩
                clear hyn hbox
                go_upto_region 13 with fail
                rw [← hBx]
                clear hV6 hBx
                go_wp2_with fail
                go_roundg (l.length - (k + 1))
                case measure => have := HGK.out; omega
                case rel => exact ⟨k + 1, by omega, ⟨rfl⟩, by go_num, ⟨by rw [HOT.out]; exact HR4n.out⟩, ⟨by rw [HOT.out]; exact HR5n.out⟩, HNE, HB6⟩
            · have hkl : ¬ (k : Int) < (l.length : Int) := by omega
              obtain ⟨F, hF⟩ : ∃ F, F = otherTo nm l l.length := ⟨_, rfl⟩
              obtain ⟨fl, hfl⟩ : ∃ fl, fl = F.length := ⟨_, rfl⟩
              have hfl12 : fl ≤ 12 := by have := other_le nm l l.length; rw [hfl, hF]; omega
              have hr4 := HR4.out
              have hr5 := HR5.out
              rw [show k = l.length by omega, ← hF] at hr4 hr5
              obtain ⟨A4, c4, rfl⟩ := Kd.R_slice hr4
              obtain ⟨A5, c5, rfl⟩ := Kd.R_slice hr5
              rw [← hfl] at hr4 hr5
              have hfc := (Kd.R_reads' hr4).2.1
              obtain ⟨kk, hkk⟩ : ∃ kk, kk = ib.toNat % (fl + 1) := ⟨_, rfl⟩
              have hkf : kk ≤ fl := by
                have := Nat.mod_lt ib.toNat (show 0 < fl + 1 by omega)
                omega
              have e3 : (ib.toNat : Int).tmod ((fl : Int) + 1) = (kk : Int) := by rw [hkk, show (fl : Int) + 1 = ((fl + 1 : Nat) : Int) by omega]; exact (Int.ofNat_tmod _ _).symm
              have hib := ib.toNat_lt
              have HR4f := Aside0.mk hr4
              have HR5f := Aside0.mk hr5
              have HNEf := Aside0.mk HNE.out
              have HF := Aside0.mk hF
              have HFL := Aside0.mk hfl
              rw [← hfl] at HNEf ⊢
              clear hkk hr4 hr5 hF hfl HNE HR4 HR5
              go_upto_region 17 with fail
              obtain ⟨P, rfl⟩ : ∃ P, P = wr := ⟨_, rfl⟩
              obtain ⟨A84, hA84⟩ : ∃ A84, A84 = if c4 = kk then A4 else A4.map (·.add (kk * 2)) := ⟨_, rfl⟩
              have hC84 : (kFileG W1).C P A84 (fl - kk) (F.drop kk) := by
                have h1 := (Kd.R_reads' HR4f.out).2.2
                have h2 := Kd.C_drop h1 (m := kk) (by rw [← HFL.out]; exact hkf) (c := c4) (by rw [← HFL.out]; exact hfc)
                rw [List.length_drop, ← HFL.out] at h2
                rw [hA84]
                exact h2
              have hC72 : (kFileG W1).C P A4 kk (F.take kk) := by
                have h1 := (Kd.R_reads' HR4f.out).2.2
                have h2 := Kd.C_take h1 (m := kk) (by rw [← HFL.out]; exact hkf)
                rwa [List.length_take, ← HFL.out, Nat.min_eq_left hkf] at h2
              have hsl84 : ∀ W : World, (Instr.slice 36 (.slice A4 fl c4) (some (.int .i64 (kk : Int))) none none).run Tryd.prog W = .ok (.slice A84 (fl - kk) (c4 - kk)) W := fun W => by
                rw [hA84]
                exact slice_from W A4 fl c4 kk hkf
              have hsl72 : ∀ W : World, (Instr.slice 36 (.slice A4 fl c4) none (some (.int .i64 (kk : Int))) (some (.int .i64 (kk : Int)))).run Tryd.prog W = .ok (.slice A4 kk kk) W := fun W => slice_front W A4 fl c4 kk (Nat.le_trans hkf hfc)
              have HC84 := Aside0.mk hC84
              have HC72 := Aside0.mk hC72
              have k0 : (0 : Int) ≤ (kk : Int) := by omega
              have k1 : (kk : Int) ≤ (fl : Int) := by omega
              have k2 : (fl : Int) ≤ (c4 : Int) := by omega
              have k3 : (kk : Int) ≤ (c4 : Int) := by omega
              clear hA84 hC84 hC72
              obtain ⟨x, hx⟩ : ∃ x : File, x = ⟨nm, M ++ data⟩ := ⟨_, rfl⟩
              have hxn : nm = x.name := by rw [hx]
              obtain ⟨n8, hn8⟩ : ∃ n8, ([] ++ M ++ data).length = n8 := ⟨_, rfl⟩
              obtain ⟨n9, hn9⟩ : ∃ n9, ([x] ++ F.drop kk).length = n9 := ⟨_, rfl⟩
              obtain ⟨n10, hn10⟩ : ∃ n10, (F.take kk ++ ([x] ++ F.drop kk)).length = n10 := ⟨_, rfl⟩
              have h89 : n9 = 1 + (fl - kk) ∧ n10 = fl + 1 ∧ n8 = 4 + data.length := by
                have h1 := HFL.out
                have h2 := HML.out
                refine ⟨?_, ?_, ?_⟩
                · rw [← hn9]; simp; omega
                · rw [← hn10]; simp; omega
                · rw [← hn8]; simp; omega
              have H89 := Aside0.mk h89
              have HX := Aside0.mk hx
              have HN8 := Aside0.mk hn8
              have HN9 := Aside0.mk hn9
              have HN10 := Aside0.mk hn10
              have HXN := Aside0.mk hxn
              obtain ⟨P0, hP0⟩ : ∃ P0, P.drew = P0 := ⟨_, rfl⟩
              have HP0 : Aside0 (Below P.heap.size P P0) := ⟨by rw [← hP0]; exact below_drew (Below.refl _ _)⟩
              have HWP : Aside0 (Below w.heap.size w P) := ⟨below_step HB5.out HBr.out⟩
              have hPs : P.heap.size = P0.heap.size := by rw [← hP0]; rfl
              have HPS := Aside0.mk hPs
              clear hx hxn hn8 hn9 hn10 h89 hPs
              go_region_held3 (fun W => True) (exact trivial) (first | (go_at_call 14; refine (rmagic_any en M HMG.out _).mono ?_; rintro e w6 ⟨v6, rfl, ho, hb⟩; obtain ⟨A6, c6, rfl⟩ : ∃ A c, v6 = .slice A 4 c := (by obtain ⟨A, c, e⟩ := Kd.R_slice ho; exact ⟨A, c, by rw [e, HML.out]⟩); have hC6 := (Kd.R_reads' ho).2.2; rw [HML.out] at hC6; have HC6 := Aside0.mk hC6; (first | (with_reducible have HE6 := Aside0.mk (Kd.R_below (bempty P0 P.heap.size (Nat.le_of_eq HPS.out)) hb)) | skip); have HB6 : Aside0 (Below P.heap.size P w6) := ⟨by first | (with_reducible exact below_step HP0.out hb) | (with_reducible exact below_step (below_alloc HP0.out _) hb)⟩; clear ho hb hC6) | (refine Kd.R_append_rows_step byte (Rr := byte.K P) (w0 := P) P.heap.size rfl (.tmp 77) (.tmp 78) 22 5 (.int .u8 0) 1 rfl Tryd.underlying22 info_byte rfl (by decide) (by omega) (.slice A7 4 c7) ([] ++ M) data D data.length c2 (fun _ => True) (fun _ => False) rfl rfl HO7.out ?hHR (fun _ _ h => h) (fun _ hk => hk.elim) (fun _ _ => trivial) HB7.out HB7.out.size ?hlen ?_; (case hHR => exact (Kd.C_below HD.out (below_step HWP.out HB7.out))); (case hlen => (have h1 := HML.out; simp; omega)); intro v8 w8 ho hb hg hat; obtain ⟨A8, c8, rfl⟩ : ∃ A c, v8 = .slice A n8 c := (by obtain ⟨A, c, e⟩ := Kd.R_slice ho; exact ⟨A, c, by rw [e, HN8.out]⟩); have HB8 := Aside0.mk hb; have HO8 := Aside0.mk ho; clear ho hb hg hat) | (refine Kd.R_append_rows_step (kFileY W1) (Rr := (kFileG W1).K W1) (w0 := P) P.heap.size rfl (.tmp 81) (.tmp 84) 36 52 (.agg #[.string ByteArray.empty, .slice none 0 0]) 40 rfl Tryd.underlying36 info_file51 rfl (Nat.succ_pos _) (by omega) _ [x] (F.drop kk) A84 (fl - kk) (c4 - kk) (fun _ => True) (fun _ => False) rfl rfl ?hHO ?hHR (fun _ _ h => kFileY_came h) (fun _ hk => hk.elim) (fun _ _ => trivial) (below_alloc HB8.out _) (below_alloc HB8.out _).size ?hlen ?_; (case hHO => (have h1 := fileY_lit (w0 := W1) (x := x) HB8.out.size (by rw [HX.out]; exact HO8.out); rw [← HXN.out] at h1; exact h1)); (case hHR => exact fileG_rr (Kd.C_below HC84.out (below_alloc HB8.out _))); (case hlen => (simp only [List.length_cons, List.length_nil]; omega)); intro v9 w9 ho hb hg hat; obtain ⟨A9, c9, rfl⟩ : ∃ A c, v9 = .slice A n9 c := (by obtain ⟨A, c, e⟩ := Kd.R_slice ho; exact ⟨A, c, by rw [e, HN9.out]⟩); have HB9 := Aside0.mk hb; have HO9 := Aside0.mk ho; clear ho hb hg hat) | (refine front_step (kFileY W1) P.heap.size rfl (.tmp 72) (.tmp 85) 36 52 (.agg #[.string ByteArray.empty, .slice none 0 0]) 40 rfl Tryd.underlying36 info_file51 rfl (Nat.succ_pos _) (by omega) (Rr := (kFileG W1).K W1) A4 kk (F.take kk) (fileG_rr (Kd.C_below HC72.out HB9.out)) rfl A9 n9 c9 ([x] ++ F.drop kk) rfl HO9.out ?hm (okp := fun _ => True) (fun _ _ h => kFileY_came h) HB9.out.size ?hlen ?_; (case hm => (have := H89.out; omega)); (case hlen => (have := H89.out; omega)); intro v10 w10 ho hg hq; obtain ⟨A10, c10, rfl⟩ : ∃ A c, v10 = .slice A n10 c := (by obtain ⟨A, c, e⟩ := Kd.R_slice ho; exact ⟨A, c, by rw [e, HN10.out]⟩); have HB10 : Aside0 (Below P.heap.size P w10) := ⟨pw_below_grown HB9.out none HB9.out.size hg (fun k e => by cases e)⟩; have HO10 := Aside0.mk ho; have HQ10 := Aside0.mk (fun q (h : (Value.slice A10 n10 c10).ownBlock = some q) => Nat.le_trans HB9.out.size (hq q h)); clear ho hg hq) | (have hgd := HE6; clear hgd; refine Kd.R_append_rows_step byte (Rr := byte.K P) (w0 := P) P.heap.size rfl (.tmp 74) (.tmp 76) 22 5 (.int .u8 0) 1 rfl Tryd.underlying22 info_byte rfl (by decide) (by omega) (.slice (some ⟨P0.heap.size, 0, none⟩) 0 0) [] M A6 4 c6 (fun _ => True) (fun _ => False) rfl rfl ?hHO ?hHR (fun _ _ h => h) (fun _ hk => hk.elim) (fun _ _ => trivial) ?hHB ?hsz (by decide) ?_; (case hHO => (with_reducible exact HE6.out)); (case hHR => (first | exact HC6.out | exact Kd.C_alloc HC6.out _)); (case hHB => (first | (with_reducible exact HB6.out) | (with_reducible exact below_alloc HB6.out _))); (case hsz => (have h1 := HB6.out.size; (try simp only [World.size_alloc]); omega)); intro v7 w7 ho hb hg hat; obtain ⟨A7, c7, rfl⟩ : ∃ A c, v7 = .slice A 4 c := (by obtain ⟨A, c, e⟩ := Kd.R_slice ho; exact ⟨A, c, by rw [e]; simp [HML.out]⟩); have HB7 := Aside0.mk hb; have HO7 := Aside0.mk ho; clear ho hb hg hat) | (refine Kd.R_append_rows_step byte (Rr := byte.K P) (w0 := P) P.heap.size rfl (.tmp 74) (.tmp 76) 22 5 (.int .u8 0) 1 rfl Tryd.underlying22 info_byte rfl (by decide) (by omega) (.slice (some ⟨w6.heap.size, 0, none⟩) 0 0) [] M A6 4 c6 (fun _ => True) (fun _ => False) rfl rfl ?hHO ?hHR (fun _ _ h => h) (fun _ hk => hk.elim) (fun _ _ => trivial) ?hHB ?hsz (by decide) ?_; (case hHO => (with_reducible exact bempty w6 P.heap.size HB6.out.size)); (case hHR => (first | exact HC6.out | exact Kd.C_alloc HC6.out _)); (case hHB => (first | (with_reducible exact HB6.out) | (with_reducible exact below_alloc HB6.out _))); (case hsz => (have h1 := HB6.out.size; (try simp only [World.size_alloc]); omega)); intro v7 w7 ho hb hg hat; obtain ⟨A7, c7, rfl⟩ : ∃ A c, v7 = .slice A 4 c := (by obtain ⟨A, c, e⟩ := Kd.R_slice ho; exact ⟨A, c, by rw [e]; simp [HML.out]⟩); have HB7 := Aside0.mk hb; have HO7 := Aside0.mk ho; clear ho hb hg hat))
              all_goals (
                obtain ⟨X, hX⟩ : ∃ X, X = F.take kk ++ ([x] ++ F.drop kk) := ⟨_, rfl⟩
                obtain ⟨Y, hY⟩ : ∃ Y, Y = F ++ [(⟨nm, data⟩ : File)] := ⟨_, rfl⟩
                have hFm : ∀ j, j < F.length → (gt F j).name ≠ nm ∧ ∃ i, i < l.length ∧ gt F j = gt l i := fun j hj => by rw [HF.out] at hj ⊢; exact other_mem nm l l.length j hj
                have hlk : (lookB X Y true).a = true := by
                  have h1 := lost_look F q kk hq4 (fun j hj => by rw [← HNME.out]; exact (hFm j hj).1) data (by omega) (by rw [← HM.out]; exact HBG.out)
                  rw [← HM.out, ← HNME.out, ← HX.out, ← hX, ← hY] at h1
                  exact h1
                have hall : ∀ f ∈ F, f.name.size ≤ 1000000 ∧ f.data.length ≤ 1000000 := by
                  intro f hf
                  obtain ⟨j, hj, rfl⟩ := List.getElem_of_mem hf
                  obtain ⟨_, i, hi, e⟩ := hFm j hj
                  rw [← gt_eq F j hj, e]
                  exact HMA.out.2 i hi
                have hmx : ∀ Z : List File, Z.length ≤ 1000000 → (∀ f ∈ Z, f.name.size ≤ 1000000 ∧ f.data.length ≤ 1000000) → Mild Z := fun Z hz h => ⟨hz, fun k hk => by rw [gt_eq Z k hk]; exact h _ (List.getElem_mem hk)⟩
                have HMX : Aside0 (Mild X) := ⟨hmx X (by rw [hX, HN10.out]; have := H89.out; omega) (fun f hf => by
                  rw [hX] at hf
                  simp only [List.mem_append, List.mem_singleton] at hf
                  rcases hf with hf | hf | hf
                  · exact hall f (List.mem_of_mem_take hf)
                  · rw [hf, HX.out]
                    have h1 := HML.out
                    refine ⟨?_, ?_⟩
                    · show nm.size ≤ 1000000; omega
                    · show (M ++ data).length ≤ 1000000; rw [List.length_append]; omega
                  · exact hall f (List.mem_of_mem_drop hf))⟩
                have HMY : Aside0 (Mild Y) := ⟨hmx Y (by rw [hY, List.length_append, ← HFL.out]; simp; omega) (fun f hf => by
                  rw [hY] at hf
                  simp only [List.mem_append, List.mem_singleton] at hf
                  rcases hf with hf | hf
                  · exact hall f hf
                  · rw [hf]
                    refine ⟨?_, ?_⟩
                    · show nm.size ≤ 1000000; omega
                    · show data.length ≤ 1000000; omega)⟩
                obtain ⟨n11, hn11⟩ : ∃ n11, Y.length = n11 := ⟨_, rfl⟩
                have HN11 := Aside0.mk hn11
                have HN10' : Aside0 (X.length = n10) := ⟨by rw [hX]; exact HN10.out⟩
                have HO10' := HO10.out
                rw [← hX] at HO10'
                have HXR := Aside0.mk HO10'
                have HYD := Aside0.mk hY
                have HFB : Aside0 ((F.length + 1) * 40 ≤ 140737488355328) := ⟨by rw [← HFL.out]; omega⟩
                obtain ⟨⟨a, b, c⟩, hr⟩ : ∃ r, lookB X Y true = r := ⟨_, rfl⟩
                obtain rfl : a = true := by rw [hr] at hlk; exact hlk
                have HLR := Aside0.mk hr
                have HRP := Aside0.mk (Kd.R_below HR5f.out HB10.out)
                have HWB := Aside0.mk (below_step HBr.out HB10.out)
                clear hX hY hFm hlk hall hmx hn11 HO10' hr HO10
                go_upto_region 19 with ((with_reducible refine gate_builtin (b := .append) (xs := #[.tmp 87, .tmp 91]) rfl ?_); at_builtin; refine Kd.R_append (kFileG W1) (w0 := W1) W1.heap.size rfl (.tmp 87) (.tmp 91) 36 52 (.agg #[.string ByteArray.empty, .slice none 0 0]) 40 rfl Tryd.underlying36 info_file51 rfl (Nat.succ_pos _) (by omega) (.slice A5 fl c5) F ⟨nm, data⟩ [.string nm, .slice D data.length c2] (fun _ => True) (fun _ => False) rfl rfl (kFileG_mkM W1 _ _ _ ⟨nm, data⟩ rfl hdc (Kd.C_below HD.out HB5.out)) (fun _ hk => hk.elim) (fun _ _ => trivial) HRP.out HWB.out HWB.out.size HFB.out ?_; intro v11 w11 ho hb hg hat; rw [← HYD.out] at ho; obtain ⟨A11, c11, rfl⟩ : ∃ A c, v11 = .slice A n11 c := (by obtain ⟨A, c, e⟩ := Kd.R_slice ho; exact ⟨A, c, by rw [e, HN11.out]⟩); have hC11 := fileG_read hb (Kd.R_reads' ho).2.2; rw [HN11.out] at hC11; have HC11 := Aside0.mk hC11; have hC10 := fileY_read hb (Kd.R_reads' (Kd.R_grown (Kd.R_mono (Kd.R_bound HXR.out) (ok' := fun k => some k ≠ (Value.slice A5 fl c5).ownBlock) (fun k hk e => by have h1 := Kd.R_lt HR5f.out k e.symm; have h2 := hk.2.1; omega)) hg (fun _ hk => hk))).2.2; rw [HN10'.out] at hC10; have HC10 := Aside0.mk hC10; have HB11 := Aside0.mk (below_step HB5.out hb); clear ho hb hg hat hC11 hC10)
                go_wp2_with (first | (go_at_call 26; refine (bad_any true b c true (by simp) _).mono ?_; rintro e w13 ⟨rfl, hb⟩; have HB13 := Aside0.mk (below_step (below_alloc HB12.out _) hb); clear hb) | (go_at_call 24; refine (look_as A10 A11 X Y n10 n11 c10 c11 HN10'.out HN11.out true true b c HLR.out _ HC10.out HC11.out HMX.out HMY.out (Kd.C_below HE.out HB11.out) (Kd.C_below HNM.out HB11.out)).mono ?_; rintro e w12 ⟨rfl, hb⟩; have HB12 := Aside0.mk (below_step HB11.out hb); have HS12 := blk_new w12 (.cells #[.bool true, .bool b, .bool c] 41); have s0 := blk_cell HS12 0; have s1 := blk_cell HS12 1; have s2 := blk_cell HS12 2; simp only [List.getElem?_toArray, List.getElem?_cons_zero, List.getElem?_cons_succ] at s0 s1 s2; clear hb HS12))
                go_ret
                exact ⟨rfl, HB13.out⟩)
end Go.Proofs.YtoglbbonfjnmpaaDoor
