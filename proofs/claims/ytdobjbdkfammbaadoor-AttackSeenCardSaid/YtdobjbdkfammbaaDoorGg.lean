/-
  Chapter 55: of files that may not stand together nothing is done.
-/
import Derived.Test.YtdobjbdkfammbaaDoorGd
import Derived.Test.YtdobjbdkfammbaaDoorGe
import Derived.Test.YtdobjbdkfammbaaDoorWEqStruct
import Derived.Deep.RegionLawGrows
/-
  Chapter 55: what each law calls first: awake.
-/
namespace Go.Proofs.YtdobjbdkfammbaaDoor
open Go.RowKit Go.Shelf Go.Proofs.YtdobjbdkfammbaaDoorW.PrintWords Go.Proofs.YtdobjbdkfammbaaDoorW.PrintLast Go.Proofs.YtdobjbdkfammbaaDoorW.PrintMore
set_option linter.unusedVariables false
set_option linter.unusedSimpArgs false

theorem flood_as (vol blocks many seed : Int) (w : World) (hb1 : 1 ≤ blocks) (hb2 : blocks ≤ 9223372036854775807) (hx : U64 seed) (n : Nat) (hn : n = (if many < 1000 then many else 1000).toNat) :
    Calls Tryd.prog 14 #[.int .i64 vol, .int .i64 blocks, .int .i64 many, .int .u64 seed] w fun e w' => ∃ A c, e = .returned (.slice A n c) ∧ kDd.R 33 w' w.heap.size (fun _ => True) (.slice A n c) (floodD vol blocks seed n) ∧ Below w.heap.size w w' := by
  refine (flood_any vol blocks many seed w hb1 hb2 hx n hn).mono ?_
  rintro e w' ⟨v, rfl, ho, hb⟩
  obtain ⟨A, c, rfl⟩ := Kd.R_slice ho
  rw [floodD_len] at ho
  exact ⟨A, c, by rw [floodD_len], ho, hb⟩
theorem flood_none (vol blocks many seed : Int) (w : World) (hb1 : blocks < 1) :
    Calls Tryd.prog 14 #[.int .i64 vol, .int .i64 blocks, .int .i64 many, .int .u64 seed] w fun e w' => e = .returned (.slice none 0 0) ∧ w = w' := by
  go_enter Tryd.func14, Tryd.ntmps14
  go_wp2_with fail
  go_ret
  exact ⟨rfl, rfl⟩
theorem ransom_as (A : Option Addr) (l : List File) (n : Nat) (hn : l.length = n) (c : Nat) (vol : Int) (key : UInt8) (each : Int) (w : World) (h : kFile.C w A n l) (hc : n ≤ c) (hl : n ≤ 1000000) (hs : ∀ k, k < l.length → (gt l k).name.size ≤ 9223372036854775807) (hmg : MagicAt w) (m : Nat) (hm : (ransomD vol key each l).length = m) :
    Calls Tryd.prog 18 #[.slice A n c, .int .i64 vol, .int .u8 (key.toNat : Int), .int .i64 each] w fun e w' => ∃ A2 c2, e = .returned (.slice A2 m c2) ∧ kDd.R 33 w' w.heap.size (fun _ => True) (.slice A2 m c2) (ransomD vol key each l) ∧ Below w.heap.size w w' := by
  subst hn
  refine (ransom_any A l c vol key each w h hc hl hs hmg).mono ?_
  rintro e w' ⟨v, rfl, ho, hb⟩
  obtain ⟨A2, c2, rfl⟩ := Kd.R_slice ho
  rw [hm] at ho
  exact ⟨A2, c2, by rw [hm], ho, hb⟩
theorem add_pos (a : Addr) (k : Nat) (hk : 0 < k) : a.add k = ⟨a.block, a.off + k, none⟩ := by
  unfold Addr.add
  rw [if_neg (by omega)]
/-- The k-th deed of a row of deeds: its cells, its writes. -/
theorem dd_in {w : World} {g n : Nat} {xs : List Dd} (h : kDd.C w (some ⟨g, 0, none⟩) n xs) {k : Nat} (hk : k < n) :
    ∃ A1 c1, w.cell? ⟨g, k * 3, none⟩ = some (.int .i64 (gt xs k).kind) ∧ w.cell? ⟨g, k * 3 + 1, none⟩ = some (.slice A1 (gt xs k).ws.length c1) ∧ w.cell? ⟨g, k * 3 + 2, none⟩ = some (.int .i64 (gt xs k).min) ∧ (gt xs k).ws.length ≤ c1 ∧ kWr.C w A1 (gt xs k).ws.length (gt xs k).ws := by
  obtain ⟨ad, A1, c1, e, h0, h1, h2, hl, hC⟩ := dd_at h hk
  cases e
  rw [Go.Proofs.YtdobjbdkfammbaaDoorW.PrintWords.add_plain] at h0 h1 h2
  exact ⟨A1, c1, h0, h1, h2, hl, hC⟩
def fA55 : File := ⟨⟨#[97]⟩, [5]⟩
theorem aw_len : (ransomD 1 9 4 [fA55]).length = 3 := by decide +kernel
theorem aw_1 : gt (ransomD 1 9 4 [fA55]) 1 = ⟨2, [], 4⟩ := by decide +kernel
theorem aw_2 : (gt (ransomD 1 9 4 [fA55]) 2).ws.length = 3 := by decide +kernel
theorem aw_22 : (gt (gt (ransomD 1 9 4 [fA55]) 2).ws 2).vol = 1 ∧ (gt (gt (ransomD 1 9 4 [fA55]) 2).ws 2).blk = 2 ∧ gt (gt (gt (ransomD 1 9 4 [fA55]) 2).ws 2).data 0 = 12 := by decide +kernel
set_option maxRecDepth 4000 in
set_option maxHeartbeats 3200000 in
theorem awake55 (w : World) (hmg : MagicAt w) : Calls Tryd.prog 12 #[] w fun e w' => e = .returned (.bool true) ∧ Below w.heap.size w w' := by
  have HMG := Aside0.mk hmg
  clear hmg
  go_enter Tryd.func12, Tryd.ntmps12
  go_upto_region 2 with (go_at_call 14; refine (flood_as 0 1 3 7 _ (by decide) (by decide) (by unfold U64; decide) 3 (by decide)).mono ?_; rintro e w1 ⟨A1, c1, rfl, ho, hb⟩; have HO1 := Aside0.mk ho; have HB1 := Aside0.mk hb; clear ho hb)
  obtain ⟨g1, cap1, he, hg1, hg1l, _⟩ := Kd.R_form HO1.out (by rw [floodD_len]; decide)
  injection he with he1 he2 he3
  subst he1 he3
  clear he2
  have hC1 := (Kd.R_reads' HO1.out).2.2
  rw [floodD_len] at hC1
  obtain ⟨A2, c2, a0, a1, a2, hl2, hC2⟩ := dd_in hC1 (k := 2) (by decide)
  have hk : gt (floodD 0 1 7 3) 2 = ⟨1, [floodW 0 1 (floodX 7 2)], 0⟩ := rfl
  rw [hk] at a0 a1 a2
  have hcx : byte.C ((w1.alloc (.cells #[.int .u8 5] 5)).alloc (.cells #[.string ⟨#[97]⟩, .slice (some ⟨w1.heap.size, 0, none⟩) 1 1] 56)) (some ⟨w1.heap.size, 0, none⟩) 1 [5] := byte_blk (xs := [5]) (blk_alloc (blk_new w1 _) _) (by decide)
  have hkf : kFile.C ((w1.alloc (.cells #[.int .u8 5] 5)).alloc (.cells #[.string ⟨#[97]⟩, .slice (some ⟨w1.heap.size, 0, none⟩) 1 1] 56)) (some ⟨w1.heap.size + 1, 0, none⟩) 1 [fA55] := by
    have hn := blk_new (w1.alloc (.cells #[.int .u8 5] 5)) (.cells #[.string ⟨#[97]⟩, .slice (some ⟨w1.heap.size, 0, none⟩) 1 1] 56)
    rw [World.size_alloc] at hn
    exact file_one (x := fA55) hn (Nat.le_refl _) hcx
  have hb2 : Below w1.heap.size w1 ((w1.alloc (.cells #[.int .u8 5] 5)).alloc (.cells #[.string ⟨#[97]⟩, .slice (some ⟨w1.heap.size, 0, none⟩) 1 1] 56)) := below_alloc (below_alloc (Below.refl _ _) _) _
  have HRN := Aside0.mk (ransom_as _ [fA55] 1 rfl 1 1 9 4 _ hkf (Nat.le_refl _) (by decide) (by intro k hk; rcases k with _ | k; exact (by decide); simp at hk) (Kd.C_below HMG.out (below_step HB1.out hb2)) 3 aw_len)
  have HB2 := Aside0.mk (below_step HB1.out hb2)
  have HC1 := Aside0.mk hC1
  have HD := Aside0.mk (And.intro a0 a1)
  have HBB := Aside0.mk hb2
  clear hcx hkf hb2 hC1 hC2 hk a0 a1 a2 hl2
  go_wp2_with (go_at_call 18; refine HRN.out.mono ?_; rintro e w3 ⟨A3, c3, rfl, ho, hb⟩; have HB3 := Aside0.mk (below_step HB2.out hb); have hb13 := below_step HBB.out hb; have b0 := cell_old hb13 HD.out.1; have b1 := cell_old hb13 HD.out.2; have hC3 := (Kd.R_reads' ho).2.2; rw [aw_len] at hC3; obtain ⟨g3, cap3, he, _, _, _⟩ := Kd.R_form ho (by rw [aw_len]; decide); injection he with he1 he2 he3; subst he1 he3; clear he2; obtain ⟨A5, c5, d0, d1, d2, _, _⟩ := dd_in hC3 (k := 1) (by decide); obtain ⟨A6, c6, f0, f1, f2, _, hC6⟩ := dd_in hC3 (k := 2) (by decide); rw [aw_1] at d0 d1 d2; rw [aw_2] at f1 hC6; obtain ⟨ad, rfl, hw32, hwc⟩ := wr_at hC6 (k := 2) (by decide); have e0 := hwc 0 _ rfl; have e1 := hwc 1 _ rfl; have e2 := hwc 2 _ rfl; have e3 := hwc 3 (.int .u8 12) (by simp [wrV, bytesV, gt_some _ 0 (show 0 < (gt (gt (ransomD 1 9 4 [fA55]) 2).ws 2).data.length by omega), aw_22.2.2]); rw [aw_22.1] at e1; rw [aw_22.2.1] at e2; simp only [Nat.reduceMul, Nat.reduceAdd] at d0 d1 d2 f0 f1 f2 b0 b1 e0 e1 e2 e3; rw [Deep.add_add, Nat.add_zero, add_pos ad 70 (by omega)] at e0; rw [add_pos ad 70 (by omega), add_pos _ 1 (by omega)] at e1; rw [add_pos ad 70 (by omega), add_pos _ 2 (by omega)] at e2; rw [add_pos ad 70 (by omega), add_pos _ 3 (by omega)] at e3; clear ho hb hb13 hC3 hC6 hwc hw32)
  go_ret
  exact ⟨rfl, HB3.out⟩
end Go.Proofs.YtdobjbdkfammbaaDoor
/-
  Chapter 55: the law's comparison of deeds: deeds that are as the document's are told so.
-/
namespace Go.Proofs.YtdobjbdkfammbaaDoor
open Go.RowKit Go.Shelf Go.Proofs.YtdobjbdkfammbaaDoorW.PrintWords Go.Proofs.YtdobjbdkfammbaaDoorW.PrintLast Go.Proofs.YtdobjbdkfammbaaDoorW.PrintMore
set_option linter.unusedVariables false
set_option linter.unusedSimpArgs false

theorem part_agg {t : TypeId} {n : Nat} (w : World) (hagg : (isAgg t).run Tryd.prog w = .ok true w) (hi : (Tryd.prog.info? t).map (·.size) = some n) (cs : Array Value) (off : Nat) : (part t cs off).run Tryd.prog w = .ok (.agg (cs.extract off (off + n))) w := by
  cases hq : Tryd.prog.info? t with
  | none => simp [hq] at hi
  | some i =>
    have hs : i.size = n := by simpa [hq] using hi
    simp [part, Sem.run_bind, hagg, sizeOf, typeInfo, hq, hs]
theorem agg_block (w : World) : (isAgg 37).run Tryd.prog w = .ok true w := by
  unfold isAgg
  rw [Sem.run_bind, run_underlying Tryd.underlying37 w]
  simp
theorem agg_place (w : World) : (isAgg 35).run Tryd.prog w = .ok true w := by
  unfold isAgg
  rw [Sem.run_bind, run_underlying Tryd.underlying35 w]
  simp
theorem info_place : (Tryd.prog.info? 35).map (·.size) = some 3 := by kernel_rfl
theorem part_place (w : World) (y : Wr) : (part 35 (wrV y).toArray 0).run Tryd.prog w = .ok (.agg #[.int .i64 0, .int .i64 y.vol, .int .i64 y.blk]) w := by
  rw [part_agg w (agg_place w) info_place]
  simp [wrV]
theorem part_data (w : World) (y : Wr) (hl : y.data.length = 32) : (part 37 (wrV y).toArray 3).run Tryd.prog w = .ok (.agg (bytesV y.data).toArray) w := by
  rw [part_agg w (agg_block w) info_block]
  have : (wrV y).toArray.extract 3 (3 + 32) = (bytesV y.data).toArray := by
    simp [wrV]
    rw [List.take_of_length_le (by simp [bytesV, hl])]
  rw [this]
set_option maxRecDepth 4000 in
theorem eq_place (d : Nat) (w : World) (a b : Int) : (Op.equalIn (d + 1 + 1) 35 (.agg #[.int .i64 0, .int .i64 a, .int .i64 b]) (.agg #[.int .i64 0, .int .i64 a, .int .i64 b])).run Tryd.prog w = .ok true w := by
  refine eqA_of Tryd.underlying35 (by kernel_rfl) ?_
  have h : true = (((0 : Int) == 0) && ((a == a) && (b == b))) := by simp
  rw [h]
  clear h
  refine eqf_cons (by rfl) (by go_simp; rfl) (by go_simp; rfl) (by go_simp) ?_
  refine eqf_cons (by rfl) (by go_simp; rfl) (by go_simp; rfl) (by go_simp) ?_
  exact eqf_last (by rfl) (by go_simp; rfl) (by go_simp; rfl) (by go_simp)
theorem eq_wr (y : Wr) (hl : y.data.length = 32) (w : World) : (Op.equalIn 10000 39 (.agg (wrV y).toArray) (.agg (wrV y).toArray)).run Tryd.prog w = .ok true w := by
  refine eqA_of (d := 9999) Tryd.underlying39 (by kernel_rfl) ?_
  refine eqf_cons (r := true) (s := true) (by rfl) (part_place w y) (part_place w y) (eq_place 9997 w _ _) ?_
  refine eqf_last (by rfl) (part_data w y hl) (part_data w y hl) ?_
  have := eqA_block 9997 y.data y.data hl hl w
  simpa using this
theorem load_write_quiet {ops : Array Oper} {rest : List Oper} {op : Oper} {a : Act} {w : World} {Q : Act → Prop} (hw : Region.wanted op (yielded ops a.tmps) = true) (x : Operand) (ho : op.op = .load 39 x)
    (p : Addr) (hx : a.eval x = .pointer (some p)) (y : Wr) (hl : y.data.length = 32) (hc : ∀ j u, (wrV y)[j]? = some u → w.cell? (p.add j) = some u)
    (h : wpQuiet Tryd.prog ops (fun w' => ∃ n, w' = w.drewN n) Q rest (a.put op.dst (.agg (wrV y).toArray))) : wpQuiet Tryd.prog ops (fun w' => ∃ n, w' = w.drewN n) Q (op :: rest) a :=
  wpQuiet_step fun K hK => by
    rw [if_pos hw]
    refine ⟨_, fun w' hw' => ?_, hK _ h⟩
    obtain ⟨n, rfl⟩ := hw'
    have hc' : ∀ j u, (wrV y)[j]? = some u → (w.drewN n).cell? (p.add j) = some u := fun j u hu => hc j u hu
    unfold Oper.quietAt execOp
    simp only [ho, hx, Instr.loadAt, Instr.sureAddr, Sem.run_bind, Sem.run_pure, Result.andThen_ok, run_load_write p y hl hc']
    exact ⟨rfl, rfl⟩
/-- A deed of the document, as the program has it. -/
def ddOf (x : Rd) : Dd := ⟨if x.ws = [] then 2 else 1, x.ws, x.min⟩
set_option maxRecDepth 4000 in
set_option maxHeartbeats 3200000 in
theorem same55 (A B : Option Addr) (n c1 c2 : Nat) (xs : List Dd) (ys : List Rd) (w : World) (h1 : kDd.C w A n xs) (h2 : kRd.C w B n ys) (hs : ∀ k, k < n → gt xs k = ddOf (gt ys k)) (hn : n ≤ 1000000) :
    Calls Tryd.prog 13 #[.slice A n c1, .slice B n c2] w fun e w' => e = .returned (.int .i64 1) ∧ Below w.heap.size w w' := by
  have H1 := Aside0.mk h1
  have H2 := Aside0.mk h2
  have HS := Aside0.mk hs
  clear h1 h2 hs
  go_enter Tryd.func13, Tryd.ntmps13
  go_wp2_with fail
  go_loopg [16, 5, 6, 7, 8] n (fun gk i _ _ _ _ wr => ∃ k : Nat, k ≤ n ∧ Aside0 (gk = n - k) ∧ i = .int .i64 k ∧ Aside0 (Below w.heap.size w wr))
  case atStart => exact ⟨0, Nat.zero_le _, ⟨rfl⟩, rfl, ⟨Below.refl _ _⟩⟩
  case round =>
    obtain ⟨k, hk, HGK, rfl, HB⟩ := hrel
    by_cases hlt : k < n
    · have hkn : (k : Int) < (n : Int) := by omega
      obtain ⟨ad, A1, d1, rfl, g0, g1, g2, hl1, hC1⟩ := dd_at (Kd.C_below H1.out HB.out) hlt
      obtain ⟨bd, A2, d2, rfl, r0, r1, hl2, hC2⟩ := rd_at (Kd.C_below H2.out HB.out) hlt
      have hxy := HS.out k hlt
      obtain ⟨y, hy⟩ : ∃ y, y = gt ys k := ⟨_, rfl⟩
      rw [hxy, ← hy] at g0 g1 g2 hl1 hC1
      rw [← hy] at r0 r1 hl2 hC2
      unfold ddOf at g0 g1 g2 hl1 hC1
      simp only at g0 g1 g2 hl1 hC1
      have hmx := Kd.C_max hC1
      obtain ⟨m, hm⟩ : ∃ m, m = y.ws.length := ⟨_, rfl⟩
      obtain ⟨ws, hws⟩ : ∃ ws, ws = y.ws := ⟨_, rfl⟩
      obtain ⟨mn, hmn⟩ : ∃ mn, mn = y.min := ⟨_, rfl⟩
      rw [← hm] at g1 r0 hl1 hl2 hC1 hC2 hmx
      rw [← hws] at g0 hC1 hC2
      rw [← hmn] at g2 r1
      have HC1 := Aside0.mk hC1
      have HC2 := Aside0.mk hC2
      have hwl : ws.length = m := by rw [hws, hm]
      clear hxy hy hm hmn hC1 hC2 hws
      have HWL := Aside0.mk hwl
      obtain ⟨kd, hkd⟩ : ∃ kd : Int, kd = if ws = [] then 2 else 1 := ⟨_, rfl⟩
      rw [← hkd] at g0
      have HKD := Aside0.mk hkd
      clear hwl hkd
      go_upto_region 6 with fail
      obtain ⟨W1, hW1⟩ : ∃ W1, wr.alloc (.cells #[.int .i64 kd, .slice A1 m d1, .int .i64 mn] 33) = W1 := ⟨_, rfl⟩
      have hb1 : Below wr.heap.size wr W1 := by rw [← hW1]; exact below_alloc (Below.refl _ _) _
      have hbx : W1.heap[wr.heap.size]? = some (.cells #[.int .i64 kd, .slice A1 m d1, .int .i64 mn] 33 (0, 0)) := by rw [← hW1]; exact blk_new wr _
      have z0 := blk_cell hbx 0
      have z1 := blk_cell hbx 1
      have z2 := blk_cell hbx 2
      simp only [List.getElem?_toArray, List.getElem?_cons_zero, List.getElem?_cons_succ] at z0 z1 z2
      replace r0 := cell_old hb1 r0
      replace r1 := cell_old hb1 r1
      have HB1 := Aside0.mk (below_step HB.out hb1)
      replace HC1 := Aside0.mk (Kd.C_below HC1.out hb1)
      replace HC2 := Aside0.mk (Kd.C_below HC2.out hb1)
      obtain ⟨Bd, hBd⟩ : ∃ Bd, Bd = wr.heap.size := ⟨_, rfl⟩
      rw [hW1]
      rw [← hBd] at z0 z1 z2 ⊢
      clear hW1 hb1 hbx hBd g0 g1 g2
      by_cases h0 : m = 0
      · subst h0
        have hk2 : kd = 2 := by rw [HKD.out, if_pos (List.eq_nil_of_length_eq_zero HWL.out)]
        subst hk2
        go_wp2_with fail
        go_quiet (fail)
        go_wp2_with fail
        obtain ⟨W3, hW3⟩ : ∃ W3, W1.drewN nq = W3 := ⟨_, rfl⟩
        have HB3 : Aside0 (Below w.heap.size w W3) := ⟨by rw [← hW3]; exact pw_below_drewN HB1.out _⟩
        rw [hW3]
        clear hW3
        go_loopg [57, 8] 1 (fun gj i _ wz => i = .int .i64 (0 : Nat) ∧ Aside0 (Below w.heap.size w wz))
        case atStart => exact ⟨rfl, HB3⟩
        case round =>
          obtain ⟨rfl, HBz⟩ := hrel
          go_wp2_with fail
          go_roundg (n - (k + 1))
          case measure => have := HGK.out; omega
          case rel => exact ⟨k + 1, by omega, ⟨rfl⟩, by go_num, HBz⟩
      · have hk1 : kd = 1 := by rw [HKD.out, if_neg (fun e => h0 (by rw [← HWL.out, e]; rfl))]
        have hm0 : ((m : Int) == 0) = false := by simpa using h0
        subst hk1
        go_wp2_with fail
        go_quiet (fail)
        go_wp2_with fail
        obtain ⟨W3, hW3⟩ : ∃ W3, W1.drewN nq = W3 := ⟨_, rfl⟩
        have HB3 : Aside0 (Below W1.heap.size W1 W3) := ⟨by rw [← hW3]; exact pw_below_drewN (Below.refl _ _) _⟩
        rw [hW3]
        have Z1 := Aside0.mk z1
        have R0 := Aside0.mk r0
        clear hW3 z0 z1 z2 r0 r1 hm0
        go_loopg [57, 8] m (fun gj i _ wz => ∃ j : Nat, j ≤ m ∧ Aside0 (gj = m - j) ∧ i = .int .i64 j ∧ Aside0 (Below W1.heap.size W1 wz))
        case atStart => exact ⟨0, Nat.zero_le _, ⟨rfl⟩, rfl, HB3⟩
        case round =>
          obtain ⟨j, hj, HGJ, rfl, HBz⟩ := hrel
          by_cases hjt : j < m
          · have hjm : (j : Int) < (m : Int) := by omega
            obtain ⟨a1, rfl, hy32, hca⟩ := wr_at (Kd.C_below HC1.out HBz.out) hjt
            obtain ⟨a2, rfl, _, hcb⟩ := wr_at (Kd.C_below HC2.out HBz.out) hjt
            obtain ⟨y, hy⟩ : ∃ y, y = gt ws j := ⟨_, rfl⟩
            rw [← hy] at hy32 hca hcb
            have z1 := cell_old HBz.out Z1.out
            have r0 := cell_old HBz.out R0.out
            have HY1 := Aside0.mk hca
            have HY2 := Aside0.mk hcb
            have he := eq_wr y hy32
            clear hy hca hcb
            go_wp2_with fail
            (refine wp_region_quiet_lit (by kernel_rfl) (by kernel_rfl) ?_)
            repeat (first | (refine load_write_quiet rfl _ rfl (a1.add (j * 35)) rfl y hy32 HY1.out ?_; dsimp only [Act.put]; simp only [List.setIfInBounds_toArray, List.set_cons_succ, List.set_cons_zero]) | (refine load_write_quiet rfl _ rfl (a2.add (j * 35)) rfl y hy32 HY2.out ?_; dsimp only [Act.put]; simp only [List.setIfInBounds_toArray, List.set_cons_succ, List.set_cons_zero]) | go_big_quiet_step (fail))
            refine wpQuiet_nil ?_
            intro _ hw'
            obtain ⟨nq, hw''⟩ := hw'
            subst hw''
            go_wp2_with fail
            go_roundg (m - (j + 1))
            case measure => have := HGJ.out; omega
            case rel => exact ⟨j + 1, by omega, ⟨rfl⟩, by go_num, ⟨pw_below_drewN HBz.out _⟩⟩
          · have hjm : ¬ (j : Int) < (m : Int) := by omega
            go_wp2_with fail
            go_roundg (n - (k + 1))
            case measure => have := HGK.out; omega
            case rel => exact ⟨k + 1, by omega, ⟨rfl⟩, by go_num, ⟨below_step HB1.out HBz.out⟩⟩
    · go_wp2_with fail
      go_ret
      exact ⟨rfl, HB.out⟩
end Go.Proofs.YtdobjbdkfammbaaDoor
/-
  Chapter 55: Small and files.
-/
namespace Go.Proofs.YtdobjbdkfammbaaDoor
open Go.RowKit Go.Proofs.YtdobjbdkfammbaaDoorW.PrintWords Go.Proofs.YtdobjbdkfammbaaDoorW.PrintLast Go.Proofs.YtdobjbdkfammbaaDoorW.PrintMore
set_option linter.unusedVariables false
set_option linter.unusedSimpArgs false

def smallF (x : File) : Bool := decide (x.name.size ≤ 40) && decide (x.data.length ≤ 300)
def smallB (l : List File) : Bool := decide (l.length ≤ 12) && l.all smallF
theorem all_take_step {p : File → Bool} {l : List File} {k : Nat} (hk : k < l.length) : (l.take (k + 1)).all p = ((l.take k).all p && p (gt l k)) := by
  rw [List.take_add_one, gt_some l k hk, List.all_append]
  simp
theorem all_bad {p : File → Bool} {l : List File} {k : Nat} (hk : k < l.length) (h : p (gt l k) = false) : l.all p = false := by
  rw [List.all_eq_false]
  exact ⟨gt l k, by rw [gt_eq l k hk]; exact List.getElem_mem hk, by simp [h]⟩
theorem small_mild {l : List File} (h : smallB l = true) : l.length ≤ 12 ∧ ∀ k, k < l.length → (gt l k).name.size ≤ 40 ∧ (gt l k).data.length ≤ 300 := by
  unfold smallB at h
  simp only [Bool.and_eq_true, decide_eq_true_eq] at h
  refine ⟨h.1, fun k hk => ?_⟩
  have := List.all_eq_true.1 h.2 (gt l k) (by rw [gt_eq l k hk]; exact List.getElem_mem hk)
  unfold smallF at this
  simpa using this
set_option maxHeartbeats 1600000 in
theorem small_any (A : Option Addr) (l : List File) (c : Nat) (r : Bool) (hr : smallB l = r) (ri : Int) (hri : (if r then 1 else 0) = ri) (w : World) (h : kFile.C w A l.length l) (hs : ∀ k, k < l.length → (gt l k).name.size ≤ 9223372036854775807) :
    Calls Tryd.prog 16 #[.slice A l.length c] w fun e w' => e = .returned (.int .i64 ri) ∧ Below w.heap.size w w' := by
  have hmx := Kd.C_max h
  have HR := Aside0.mk hr
  have HH := Aside0.mk h
  have HS := Aside0.mk hs
  have HRI := Aside0.mk hri
  clear hr h hs hri
  by_cases h12 : 12 < l.length
  · have h12' : (12 : Int) < (l.length : Int) := by omega
    have HF : Aside0 (r = false) := ⟨by rw [← HR.out]; unfold smallB; rw [decide_eq_false (by omega)]; rfl⟩
    go_enter Tryd.func16, Tryd.ntmps16
    go_wp2
    go_ret
    exact ⟨by rw [← HRI.out, HF.out]; rfl, Below.refl _ _⟩
  · have h12' : ¬ (12 : Int) < (l.length : Int) := by omega
    have HSB : Aside0 (r = l.all smallF) := ⟨by rw [← HR.out]; unfold smallB; rw [decide_eq_true (by omega)]; rfl⟩
    go_enter Tryd.func16, Tryd.ntmps16
    go_wp2
    go_loopg [10, 4] l.length (fun gk i _ wr => ∃ k : Nat, k ≤ l.length ∧ Aside0 (gk = l.length - k) ∧ i = .int .i64 k ∧ Aside0 ((l.take k).all smallF = true) ∧ Aside0 (Below w.heap.size w wr))
    case atStart => exact ⟨0, Nat.zero_le _, ⟨rfl⟩, rfl, ⟨rfl⟩, ⟨Below.refl _ _⟩⟩
    case round =>
      obtain ⟨k, hk, HGK, rfl, HT, HB⟩ := hrel
      by_cases hlt : k < l.length
      · obtain ⟨ad, A1, d1, rfl, g0, g1, hc1, hd⟩ := file_at (Kd.C_below HH.out HB.out) hlt
        have hgm := Kd.C_max hd
        obtain ⟨g, hg⟩ : ∃ g, g = gt l k := ⟨_, rfl⟩
        have hgs := HS.out k hlt
        have HTS := Aside0.mk (all_take_step (p := smallF) hlt)
        have HBADD : Aside0 (smallF g = false → r = false) := ⟨fun hb => by rw [HSB.out]; exact all_bad hlt (by rw [← hg]; exact hb)⟩
        rw [← hg] at g0 g1 hc1 hgs HTS hgm
        obtain ⟨nm, hnm⟩ : ∃ nm, nm = g.name := ⟨_, rfl⟩
        obtain ⟨m, hm⟩ : ∃ m, m = g.data.length := ⟨_, rfl⟩
        have HSF : Aside0 (smallF g = (decide (nm.size ≤ 40) && decide (m ≤ 300))) := ⟨by rw [hnm, hm]; rfl⟩
        rw [← hnm] at g0 hgs
        rw [← hm] at g1 hc1 hgm
        have HB1 := Aside0.mk (below_alloc HB.out (.cells #[.string nm, .slice A1 m d1] 64))
        have z0 := blk_cell (blk_new wr (.cells #[.string nm, .slice A1 m d1] 64)) 0
        have z1 := blk_cell (blk_new wr (.cells #[.string nm, .slice A1 m d1] 64)) 1
        simp only [List.getElem?_toArray, List.getElem?_cons_zero, List.getElem?_cons_succ] at z0 z1
        clear hd hg hnm hm
        by_cases h40 : 40 < nm.size
        · have h40' : (40 : Int) < (nm.size : Int) := by omega
          have HF : Aside0 (r = false) := ⟨HBADD.out (by rw [HSF.out, decide_eq_false (by omega)]; rfl)⟩
          go_wp2
          go_ret
          exact ⟨by rw [← HRI.out, HF.out]; rfl, HB1.out⟩
        · have h40' : ¬ (40 : Int) < (nm.size : Int) := by omega
          by_cases h300 : 300 < m
          · have h300' : (300 : Int) < (m : Int) := by omega
            have HF : Aside0 (r = false) := ⟨HBADD.out (by rw [HSF.out, decide_eq_false (show ¬ m ≤ 300 by omega)]; simp)⟩
            go_wp2
            go_ret
            exact ⟨by rw [← HRI.out, HF.out]; rfl, HB1.out⟩
          · have h300' : ¬ (300 : Int) < (m : Int) := by omega
            have HF : Aside0 ((l.take (k + 1)).all smallF = true) := ⟨by rw [HTS.out, HT.out, HSF.out, decide_eq_true (show nm.size ≤ 40 by omega), decide_eq_true (show m ≤ 300 by omega)]; rfl⟩
            go_wp2
            go_roundg (l.length - (k + 1))
            case measure => have := HGK.out; omega
            case rel => exact ⟨k + 1, by omega, ⟨rfl⟩, by go_num, HF, HB1⟩
      · have HF : Aside0 (r = true) := ⟨by rw [HSB.out]; have := HT.out; rwa [List.take_of_length_le (by omega)] at this⟩
        go_wp2
        go_ret
        exact ⟨by rw [← HRI.out, HF.out]; rfl, HB.out⟩
theorem info_file51 : (Tryd.prog.info? 56).map (fun i => (i.zero, i.size, i.bytes)) = some (some (.agg #[.string ByteArray.empty, .slice none 0 0]), 2, 40) := by kernel_rfl
theorem kFile_mkM51 (w : World) (base : Nat) (ok : Nat → Prop) (x : File) {v : Value} (g : byte.R 5 w base ok v x.data) : kFile.M w base ok x [.string x.name, v] := ⟨[.string x.name], [v], rfl, rfl, ⟨v, rfl, g⟩⟩
theorem byteS_lit (w : World) (base : Nat) (M : List UInt8) (hb : base ≤ w.heap.size) (hm : M.length ≤ 9223372036854775807) : byte.R 5 (w.alloc (.cells (bytesV M).toArray 5)) base (fun _ => True) (.slice (some ⟨w.heap.size, 0, none⟩) M.length M.length) M := by
  refine ⟨fun k hk => trivial, bytesV M, ?_, ?_⟩
  · have hl : (bytesV M).length = M.length := by simp [bytesV]
    have h2 := World.ownsRow_lit (base := base) (e := 5) (size := 1) w (bytesV M).toArray M.length hb (by simpa [maxLen] using hm) (by simp [hl])
    have h3 : (bytesV M).toArray.toList = bytesV M := by simp
    rw [h3] at h2
    exact h2
  · rw [← encs_bytes]
    exact Kd.reps_scalar M
theorem byteS_lit' (w : World) (base : Nat) (ok : Nat → Prop) (M : List UInt8) (hb : base ≤ w.heap.size) (hm : M.length ≤ 9223372036854775807) (hok : ok w.heap.size) : byte.R 5 (w.alloc (.cells (bytesV M).toArray 5)) base ok (.slice (some ⟨w.heap.size, 0, none⟩) M.length M.length) M := by
  obtain ⟨_, h2⟩ := byteS_lit w base M hb hm
  refine ⟨fun k hk => ?_, ?_⟩
  · have : w.heap.size = k := by simpa [Value.ownBlock] using hk
    exact this ▸ hok
  · obtain ⟨inner, h3, h4⟩ := h2
    exact ⟨inner, h3, h4⟩
set_option maxHeartbeats 3200000 in
theorem files_any (A : Option Addr) (l : List File) (c : Nat) (w : World) (h : kFile.C w A l.length l) (hl : l.length ≤ 1000000) (hd : ∀ k, k < l.length → (gt l k).data.length ≤ 1000000) :
    Calls Tryd.prog 17 #[.slice A l.length c] w fun e w' => ∃ Ap cp, e = .returned (.slice Ap l.length cp) ∧ kFile.R 56 w' w.heap.size (fun _ => True) (.slice Ap l.length cp) l ∧ Below w.heap.size w w' := by
  have hmx := Kd.C_max h
  have HH := Aside0.mk h
  have HDD := Aside0.mk hd
  clear h hd
  go_enter Tryd.func17, Tryd.ntmps17
  go_wp2
  go_loopg [8, 3, 5] l.length (fun gk i v3 _ wr => ∃ k : Nat, k ≤ l.length ∧ Aside0 (gk = l.length - k) ∧ i = .int .i64 k ∧ Aside0 (kFile.R 56 wr w.heap.size (fun _ => True) v3 (l.take k)) ∧ Aside0 (Below w.heap.size w wr))
  case atStart => exact ⟨0, Nat.zero_le _, ⟨rfl⟩, rfl, ⟨Kd.R_nil _ _ _ _ _⟩, ⟨Below.refl _ _⟩⟩
  case round =>
    obtain ⟨k, hk, HGK, rfl, HR, HB⟩ := hrel
    by_cases hlt : k < l.length
    · obtain ⟨ad, A1, d1, rfl, g0, g1, hc1, hd⟩ := file_at HH.out hlt
      replace g0 := cell_old HB.out g0
      replace g1 := cell_old HB.out g1
      obtain ⟨x, hx⟩ : ∃ x, x = gt l k := ⟨_, rfl⟩
      have hxd := HDD.out k hlt
      rw [← hx] at g0 g1 hd hc1 hxd
      obtain ⟨m, hm⟩ : ∃ m, m = x.data.length := ⟨_, rfl⟩
      rw [← hm] at g1 hc1 hxd hd
      have HX := Aside0.mk hx
      have HM := Aside0.mk hm
      have HD := Aside0.mk hd
      have HB1 := Aside0.mk (below_alloc HB.out (.cells #[.string x.name, .slice A1 m d1] 64))
      have q0 := blk_cell (blk_new wr (.cells #[.string x.name, .slice A1 m d1] 64)) 0
      have q1 := blk_cell (blk_new wr (.cells #[.string x.name, .slice A1 m d1] 64)) 1
      simp only [List.getElem?_toArray, List.getElem?_cons_zero, List.getElem?_cons_succ] at q0 q1
      have HLEN : Aside0 (((l.take k).length + 1) * 40 ≤ 140737488355328) := ⟨by have : (l.take k).length ≤ k := List.length_take_le _ _; omega⟩
      obtain ⟨W1, hW1⟩ : ∃ W1, (wr.alloc (.cells #[.string x.name, .slice A1 m d1] 64)).drew = W1 := ⟨_, rfl⟩
      have HBw : Aside0 (Below wr.heap.size wr W1) := ⟨by rw [← hW1]; exact (below_alloc (Below.refl _ _) _).drew⟩
      have HBX : Aside0 (W1.heap[wr.heap.size]? = some (.cells #[.string x.name, .slice A1 m d1] 64 (0, 0))) := ⟨by rw [← hW1]; exact blk_drew (blk_new wr _)⟩
      have HN1 : Aside0 (wr.heap.size < W1.heap.size) := ⟨blk_lt HBX.out⟩
      obtain ⟨N, hN⟩ : ∃ N, N = wr.heap.size := ⟨_, rfl⟩
      have HRN : Aside0 (kFile.R 56 (W1.alloc (.cells #[] 5)) w.heap.size (fun q => q < N) u3 (l.take k)) := ⟨Kd.R_alloc (Kd.R_below (Kd.R_mono (Kd.R_bound HR.out) (fun q hq => by rw [hN]; exact hq.2.2.1)) HBw.out) _⟩
      have HO0 : Aside0 (byte.R 5 (W1.alloc (.cells #[] 5)) w.heap.size (fun q => N ≤ q) (.slice (some ⟨W1.heap.size, 0, none⟩) 0 0) []) := ⟨byteS_lit' W1 w.heap.size (fun q => N ≤ q) [] (by have := HB.out.size; have := HN1.out; omega) (by simp) (by have := HN1.out; omega)⟩
      have HB2 := Aside0.mk (below_alloc (below_step HB.out HBw.out) (.cells #[] 5))
      have HD2 := Aside0.mk (Kd.C_below HD.out HB2.out)
      have HBX2 := Aside0.mk (blk_alloc HBX.out (.cells #[] 5))
      have K1 : W1.cell? ⟨wr.heap.size, 0, none⟩ = some (.string x.name) ∧ W1.cell? ⟨wr.heap.size, 1, none⟩ = some (.slice A1 m d1) := ⟨blk_cell HBX.out 0, blk_cell HBX.out 1⟩
      have K2 : (W1.alloc (.cells #[] 5)).cell? ⟨wr.heap.size, 0, none⟩ = some (.string x.name) ∧ (W1.alloc (.cells #[] 5)).cell? ⟨wr.heap.size, 1, none⟩ = some (.slice A1 m d1) := ⟨blk_cell HBX2.out 0, blk_cell HBX2.out 1⟩
      have HNN := Aside0.mk hN
      have HNE : Aside0 (∀ q, q ≤ wr.heap.size → some q ≠ (Value.slice (some ⟨W1.heap.size, 0, none⟩) 0 0).ownBlock) := ⟨fun q hq e => by have h1 := HN1.out; simp [Value.ownBlock] at e; omega⟩
      have HFR : Aside0 (∀ q, (W1.alloc (.cells #[] 5)).heap.size ≤ q → N ≤ q) := ⟨fun q hq => by have h1 := HN1.out; rw [World.size_alloc] at hq; omega⟩
      clear hd hx hm hN
      go_wp2_with fail
      go_region_held3 (fun W => W.cell? ⟨wr.heap.size, 0, none⟩ = some (.string x.name) ∧ W.cell? ⟨wr.heap.size, 1, none⟩ = some (.slice A1 m d1)) (first | exact ⟨q0, q1⟩ | exact K1 | exact K2 | exact K5 | exact K6 | exact K7) (first | (refine Kd.R_append_rows_step byte (Rr := byte.K (W1.alloc (.cells #[] 5))) (w0 := w) (W := W1.alloc (.cells #[] 5)) w.heap.size rfl (.tmp 15) (.tmp 17) 54 5 (.int .u8 0) 1 rfl Tryd.underlying54 info_byte rfl (by decide) (by omega) _ [] x.data A1 m d1 (fun q => N ≤ q) (fun _ => False) rfl rfl HO0.out HD2.out (fun _ _ hx => hx) (fun _ hk => hk.elim) HFR.out HB2.out HB2.out.size (by simp; omega) ?_; intro v2 w2 ho2 hb2 hg2 hat2; rw [List.nil_append] at ho2; obtain ⟨Av, cv, rfl⟩ := Kd.R_slice ho2; have HO2 := Aside0.mk ho2; have HB3 := Aside0.mk hb2; have hbx3 := blk_grown HBX2.out hg2 (HNE.out _ (Nat.le_refl _)); have K5 := And.intro (blk_cell hbx3 0) (blk_cell hbx3 1); have K6 := And.intro (blk_cell (blk_alloc hbx3 (.cells #[.string x.name, .slice Av x.data.length cv] 56)) 0) (blk_cell (blk_alloc hbx3 (.cells #[.string x.name, .slice Av x.data.length cv] 56)) 1); have HR3 := Aside0.mk (Kd.R_grown HRN.out hg2 (fun q hq => HNE.out q (by have h2 := HNN.out; have h3 : q < N := hq; omega))); have HBX3 := Aside0.mk hbx3; clear ho2 hb2 hg2 hat2 hbx3) | (refine Kd.R_append_step kFile (w0 := w) (W := w2) w.heap.size rfl (.tmp 12) (.tmp 20) 43 56 (.agg #[.string ByteArray.empty, .slice none 0 0]) 40 rfl Tryd.underlying43 info_file51 rfl (Nat.succ_pos _) (by omega) u3 (l.take k) x [.string x.name, .slice Av x.data.length cv] (fun _ => True) (fun q => N ≤ q) rfl rfl (kFile_mkM51 _ _ _ x HO2.out) (fun q hq => ⟨trivial, fun e => by have h1 : q < N := HR3.out.1 q e.symm; omega⟩) (fun _ _ => trivial) (Kd.R_mono HR3.out (fun _ _ => trivial)) HB3.out HB3.out.size HLEN.out ?_; intro v7 w7 ho7 hb7 hg7 hat7; have HO7 := Aside0.mk ho7; have HB7 := Aside0.mk hb7; have hbx7 := blk_grown HBX3.out hg7 (fun e => by have h1 : wr.heap.size < N := HR3.out.1 wr.heap.size e.symm; have h2 := HNN.out; omega); have K7 := And.intro (blk_cell hbx7 0) (blk_cell hbx7 1); clear ho7 hb7 hg7 hat7 hbx7))
      all_goals
        go_wp2_with fail
        go_roundg (l.length - (k + 1))
        case measure => have := HGK.out; omega
        case rel => exact ⟨k + 1, by omega, ⟨rfl⟩, by go_num, ⟨by rw [List.take_add_one, gt_some l k hlt, ← HX.out]; exact HO7.out⟩, HB7⟩
    · have hkl : k = l.length := by omega
      have hR := HR.out
      rw [hkl, List.take_of_length_le (Nat.le_refl _)] at hR
      obtain ⟨Ap, cp, rfl⟩ := Kd.R_slice hR
      have HC := Aside0.mk hR
      clear hR hkl HR
      go_wp2_with fail
      go_ret
      exact ⟨Ap, cp, rfl, HC.out, HB.out⟩
end Go.Proofs.YtdobjbdkfammbaaDoor
namespace Go.Proofs.YtdobjbdkfammbaaDoor
open Go.RowKit Go.Shelf Go.Proofs.YtdobjbdkfammbaaDoorW.PrintWords Go.Proofs.YtdobjbdkfammbaaDoorW.PrintLast Go.Proofs.YtdobjbdkfammbaaDoorW.PrintMore
set_option linter.unusedVariables false
set_option linter.unusedSimpArgs false
attribute [local go_sem] max2_int min2_int max_two min_two

theorem thief_none (A : Option Addr) (l : List File) (n : Nat) (hn : l.length = n) (c : Nat) (vol : Int) (w : World) (h : kFile.C w A n l) (hs : ∀ k, k < l.length → (gt l k).name.size ≤ 9223372036854775807) (hmg : MagicAt w) (hE : makeE l ≠ 0) :
    Calls Tryd.prog 21 #[.slice A n c, .int .i64 vol] w fun e w' => e = .returned (.slice none 0 0) ∧ Below w.heap.size w w' := by
  subst hn
  obtain ⟨W2, hW2⟩ : ∃ W2, (w.alloc (.cells #[.slice A l.length c] 43)).alloc (.cells #[.int .i64 vol] 3) = W2 := ⟨_, rfl⟩
  have x0 : Boxed W2 w.heap.size 43 (.slice A l.length c) := by rw [← hW2]; exact (Boxed.new w _ _).alloc _
  have x1 : Boxed W2 (w.heap.size + 1) 3 (.int .i64 vol) := by
    have := Boxed.new (w.alloc (.cells #[.slice A l.length c] 43)) 3 (.int .i64 vol)
    rw [World.size_alloc] at this
    rw [← hW2]; exact this
  have hb : Below w.heap.size w W2 := by rw [← hW2]; exact below_alloc (below_alloc (Below.refl _ _) _) _
  have HW2 := Aside0.mk hW2
  have HB2 := Aside0.mk hb
  have H := Aside0.mk h
  have HS := Aside0.mk hs
  have HMG := Aside0.mk hmg
  have HE := Aside0.mk hE
  clear hW2 hb h hs hmg hE
  obtain ⟨N5, hN5⟩ : ∃ N5, N5 = w.heap.size := ⟨_, rfl⟩
  rw [← hN5] at x0 x1
  go_enter Tryd.func21, Tryd.ntmps21
  go_upto_region 1 with fail
  rw [HW2.out, ← hN5]
  have y0 := x0.cell
  have y1 := x1.cell
  clear hN5 x0 x1
  go_wp2_with (go_at_call 32; refine (host_none 43 #[.pointer (some ⟨N5, 0, none⟩), .pointer (some ⟨N5 + 1, 0, none⟩)] A l c vol _ (Kd.C_below H.out HB2.out) HS.out (Kd.C_below HMG.out HB2.out) HE.out).mono ?_; rintro e w5 ⟨rfl, hb⟩; have HB5 := Aside0.mk (below_step HB2.out hb); clear hb)
  go_ret
  exact ⟨rfl, HB5.out⟩
theorem rename_none (A : Option Addr) (l : List File) (n : Nat) (hn : l.length = n) (c : Nat) (vol : Int) (sx : ByteArray) (w : World) (h : kFile.C w A n l) (hc : n ≤ c) (hl : n ≤ 1000000) (hs : ∀ k, k < l.length → (gt l k).name.size ≤ 9223372036854775807) (hmg : MagicAt w) (hE : makeE l ≠ 0) :
    Calls Tryd.prog 23 #[.slice A n c, .int .i64 vol, .string sx] w fun e w' => e = .returned (.slice none 0 0) ∧ Below w.heap.size w w' := by
  subst hn
  obtain ⟨W2, hW2⟩ : ∃ W2, (w.alloc (.cells #[.int .i64 vol] 3)).alloc (.cells #[.string sx] 9) = W2 := ⟨_, rfl⟩
  have x0 : Boxed W2 w.heap.size 3 (.int .i64 vol) := by rw [← hW2]; exact (Boxed.new w _ _).alloc _
  have hb : Below w.heap.size w W2 := by rw [← hW2]; exact below_alloc (below_alloc (Below.refl _ _) _) _
  have HCL := Aside0.mk (fclone A l c w W2 hb h hc hl)
  have HW2 := Aside0.mk hW2
  have HB2 := Aside0.mk hb
  have H := Aside0.mk h
  have HS := Aside0.mk hs
  have HMG := Aside0.mk hmg
  have HE := Aside0.mk hE
  have X0 := Aside0.mk x0
  clear hW2 hb h hs hmg hE hc x0
  obtain ⟨N5, hN5⟩ : ∃ N5, N5 = w.heap.size := ⟨_, rfl⟩
  rw [← hN5] at X0
  go_enter Tryd.func23, Tryd.ntmps23
  go_upto_region 1 with fail
  rw [HW2.out, ← hN5]
  clear hN5
  go_wp2_with (first | (go_at_call 31; refine HCL.out.mono ?_; rintro e w4 ⟨v4, rfl, ho, hb⟩; obtain ⟨Al, cl, rfl⟩ := Kd.R_slice ho; have z5 := (show Boxed w4 N5 _ _ from blk_below X0.out hb); have HB4 := Aside0.mk (below_alloc hb (.cells #[.slice Al l.length cl] 43)); have q5 := (z5.alloc (.cells #[.slice Al l.length cl] 43)).cell; clear ho hb z5) | (go_at_call 32; refine (host_none 44 #[.pointer (some ⟨w4.heap.size, 0, none⟩), .pointer (some ⟨N5 + 1, 0, none⟩), .pointer (some ⟨N5, 0, none⟩)] A l c vol _ (Kd.C_below H.out (below_step HB2.out HB4.out)) HS.out (Kd.C_below HMG.out (below_step HB2.out HB4.out)) HE.out).mono ?_; rintro e w5 ⟨rfl, hb⟩; have HB5 := Aside0.mk (below_step (below_step HB2.out HB4.out) hb); clear hb))
  go_ret
  exact ⟨rfl, HB5.out⟩
def fNO : File := ⟨⟨#[78, 79]⟩, []⟩
theorem no_right : rightB fNO = false := by decide +kernel
theorem no_bad (l : List File) : makeE (l ++ [fNO]) ≠ 0 := by
  unfold makeE
  split
  · decide
  · have : togB (l ++ [fNO]) = false := by
      cases ht : togB (l ++ [fNO]) with
      | false => rfl
      | true =>
        have h1 := togTo_right ht l.length (by simp)
        rw [gt_eq _ _ (by simp)] at h1
        simp only [List.getElem_concat_length] at h1
        have h2 := no_right
        rw [h1] at h2
        cases h2
    rw [this]
    decide
theorem no_ransom (vol : Int) (l : List File) : (ransomD vol 1 1 (l ++ [fNO])).length = 0 := by
  unfold ransomD
  rw [if_neg (no_bad l)]
  rfl
end Go.Proofs.YtdobjbdkfammbaaDoor
