/-
  WholeTooLong: what contradicts itself is told, with a witness: one clash looked at.
-/
import Derived.Test.YtjoafafjpmfjbaaGreatDoorGu
namespace Go.Proofs.YtjoafafjpmfjbaaGreatDoor
open Go.RowKit Go.Shelf Go.Proofs.YtjoafafjpmfjbaaGreatDoorW.PrintWords Go.Proofs.YtjoafafjpmfjbaaGreatDoorW.PrintLast Go.Proofs.YtjoafafjpmfjbaaGreatDoorW.PrintMore
set_option linter.unusedVariables false
set_option linter.unusedSimpArgs false

theorem LawOwn.lower {w : World} {base base' : Nat} {ok : Nat → Prop} {g bk fo : Nat} {A : Option Addr} {ck : Nat} {ks : List Ru} {ms : List Int} (h : LawOwn w base ok g bk fo A ck ks ms) (hb : base' ≤ base) : LawOwn w base' ok g bk fo A ck ks ms := by
  obtain ⟨v, hv⟩ := h.tab
  exact ⟨⟨v, hv.box, Kd.R_lower hv.row hb, Nat.le_trans hb hv.le⟩, h.okg, Kd.R_lower h.keep hb, h.book, h.okb, Nat.le_trans hb h.leb, h.forest, h.okf, Nat.le_trans hb h.lef⟩
/-- A law that was just made, from base on. -/
theorem LawOwn.fresh {w : World} {base base' : Nat} {g bk fo : Nat} {A : Option Addr} {ck : Nat} {ks : List Ru} {ms : List Int} (h : LawOwn w base (fun _ => True) g bk fo A ck ks ms) (hb : base' ≤ base) : LawOwn w base' (fun k => base ≤ k ∧ k < w.heap.size) g bk fo A ck ks ms := (h.bound.mono (fun k hk => hk.2)).lower hb
theorem one_lit (W : World) (base : Nat) (h : base ≤ W.heap.size) (x : Ru) : kRu.R 41 (W.alloc (.cells #[.int .i64 x.kind, .int .i64 x.len, .int .i64 x.fr] 41)) base (fun _ => True) (.slice (some ⟨W.heap.size, 0, none⟩) 1 1) [x] :=
  ⟨fun _ _ => trivial, OwnRow.lit W base (inner := [.int .i64 x.kind, .int .i64 x.len, .int .i64 x.fr]) (Reps.snoc (Reps.none _ _) (kRu_mk _ _ _ x) rfl) h (by simp)⟩
theorem LawPost.no {xs : List Ru} {gs : List UInt8} {n m : Nat} {w w' : World} {e : Ending} (h : LawPost xs gs n m w e w') (hno : ¬ (n ≤ 6 ∧ m ≤ 12 ∧ ∀ x ∈ xs, rightB x = true)) :
    Below w.heap.size w w' ∧ e = .returned (.tuple #[.agg lawZ, .slice none 0 0, .bool false]) := by
  obtain ⟨hb, h | ⟨h1, h2, h3, _⟩⟩ := h
  · exact ⟨hb, h.1⟩
  · exact absurd ⟨h1, h2, h3⟩ hno
theorem six_cells {W : World} {b : Nat} {v0 v1 v2 v3 v4 v5 : Value} {t : TypeId} (h : W.heap[b]? = some (.cells #[v0, v1, v2, v3, v4, v5] t (0, 0))) : W.cell? ⟨b, 0, none⟩ = some v0 ∧ W.cell? ⟨b, 1, none⟩ = some v1 ∧ W.cell? ⟨b, 2, none⟩ = some v2 ∧ W.cell? ⟨b, 3, none⟩ = some v3 ∧ W.cell? ⟨b, 4, none⟩ = some v4 ∧ W.cell? ⟨b, 5, none⟩ = some v5 :=
  ⟨blk_cell h 0, blk_cell h 1, blk_cell h 2, blk_cell h 3, blk_cell h 4, blk_cell h 5⟩
theorem all_law {W : World} {base : Nat} {ok : Nat → Prop} {g bk fo : Nat} {A : Option Addr} {ck : Nat} {ks : List Ru} {ms : List Int} (h : LawOwn W base ok g bk fo A ck ks ms) (hok : ∀ x ∈ ks, RuOk x ∧ x.kind ≤ 3) (nk : Nat) (hk : ks.length = nk) (hk9 : nk ≤ 12) (nv : Int) (ns : Bool) (hnv : 0 ≤ nv ∧ nv ≤ 1073741824) (hm : ∀ m ∈ ms, 0 ≤ m ∧ m ≤ 1073741824) (n : Nat) (hn : ms.length = n) (hn9 : n ≤ 100) (now : Int)
    (zs : List Int) (hz : numsOf (fun p => hasB ms n p nv ns ks now) (List.range n) = zs) :
    Calls Tryz.prog 10 #[lawV g bk fo A nk ck nv ns, .int .i64 now] W fun e w' => (∃ A' c', e = .returned (.slice A' zs.length c') ∧ (Kd.int .u64).C w' A' zs.length zs) ∧ Below W.heap.size W w' := by
  obtain ⟨TA, c, hat⟩ := h.at (by omega)
  rw [hn, hk] at hat
  refine (all_any g bk fo A nk ck ks hk nv ns hnv hok hk9 ms TA n c hm now W hat).mono ?_
  rintro e w' ⟨v, rfl, ho, hb⟩
  rw [hz] at ho
  have hR : (Kd.int .u64).R 44 w' W.heap.size (fun _ => True) v zs := Kd.R_of_own ho (fun _ _ => trivial)
  obtain ⟨A', c', rfl, _, hC⟩ := Kd.R_reads hR
  exact ⟨⟨A', c', rfl, hC⟩, hb⟩
set_option maxHeartbeats 6400000 in
set_option maxRecDepth 20000 in
theorem too_long (b : Nat) (A : Option Addr) (n c : Nat) (xs : List Ru) (hn : xs.length = n) (G : Option Addr) (m cg : Nat) (gs : List UInt8) (hm : gs.length = m) (now : Int) (w : World) (hU : UnitsAt w b) (hX : kRu.C w A n xs) (hG : byte.C w G m gs) :
    Calls Tryz.prog 3 #[.slice A n c, .slice G m cg, .int .i64 now] w fun e w' => e = .returned (.bool true) ∧ Below w.heap.size w w' := by
  have HAW := Aside0.mk (awake_any b w hU)
  have HLA := Aside0.mk (fun (W : World) (hb : Below w.heap.size w W) => law_any A n c xs hn G m cg gs hm W (Kd.C_below hX hb) (Kd.C_below hG hb))
  have HX := Aside0.mk hX
  have HG := Aside0.mk hG
  have HN := Aside0.mk hn
  have HM := Aside0.mk hm
  clear hU hX hG hn hm
  by_cases hfit : n ≤ 6 ∧ m ≤ 12 ∧ ∀ x ∈ xs, rightB x = true
  · have HFIT := Aside0.mk hfit
    have h6 := hfit.1
    have h12 := hfit.2.1
    clear hfit
    obtain ⟨nk, hnk⟩ : ∃ nk, nk = (keepers xs).length := ⟨_, rfl⟩
    obtain ⟨nev, hnev⟩ : ∃ nev, nev = nevOf xs := ⟨_, rfl⟩
    have HNK := Aside0.mk hnk
    have HNEV := Aside0.mk hnev
    obtain ⟨nv, ns⟩ := nev
    clear hnk hnev
    go_enter Tryz.func3, Tryz.ntmps3
    go_upto_region 7 with (first | (go_at_call 4; refine HAW.out.mono ?_; rintro e w1 ⟨rfl, hbb⟩; have HB1 := Aside0.mk hbb; clear hbb) | (go_at_call 5; refine (HLA.out w1 HB1.out).mono ?_; rintro e w2 hlp; obtain ⟨hbb, g, bk, fo, A', ck, v2, rfl, hlo⟩ := hlp.made HFIT.out.1 HFIT.out.2.1 HFIT.out.2.2; unfold lawV; rw [← HNK.out, ← HNEV.out]; dsimp only; have HB2 := Aside0.mk (below_alloc (below_step HB1.out hbb) (.cells #[.pointer (some ⟨g, 0, none⟩), .slice A' nk ck, .int .i64 nv, .bool ns, .pointer (some ⟨bk, 0, none⟩), .pointer (some ⟨fo, 0, none⟩)] 32)); clear hlp hbb hlo))
    obtain ⟨U2, hU2⟩ : ∃ U2, w2.alloc (.cells #[.pointer (some ⟨g, 0, none⟩), .slice A' nk ck, .int .i64 nv, .bool ns, .pointer (some ⟨bk, 0, none⟩), .pointer (some ⟨fo, 0, none⟩)] 32) = U2 := ⟨_, rfl⟩
    rw [hU2] at HB2 ⊢
    clear hU2
    go_upto_region 8 with (go_at_call 6; refine (check_any A n c xs (by omega) U2 (Kd.C_below HX.out HB2.out)).mono ?_; rintro e w3 ⟨v, rfl, L, hL, hI, hbb⟩; obtain ⟨Ac, cc, rfl, _, hC⟩ := Kd.R_reads hL; have HCL := Aside0.mk hC; have HI := Aside0.mk hI; have HB3 := Aside0.mk (below_step HB2.out hbb); clear hL hC hI hbb)
    obtain ⟨NL, hNL⟩ : ∃ NL, NL = L.length := ⟨_, rfl⟩
    rw [← hNL] at HCL ⊢
    have HNL := Aside0.mk hNL
    have hNLb : NL ≤ 1000 := by rw [hNL]; have := HI.out.len; omega
    clear hNL
    go_loopg [10, 44] NL (fun gk v10 v44 wr => ∃ (k : Nat) (tl : Bool), k ≤ NL ∧ Aside0 (gk = NL - k) ∧ v44 = .int .i64 k ∧ v10 = .bool tl ∧ Aside0 (tl = false → ∀ x ∈ L.take k, x.why ≠ 1) ∧ Aside0 (Below w3.heap.size w3 wr))
    case atStart => exact ⟨0, false, Nat.zero_le _, ⟨rfl⟩, rfl, rfl, ⟨fun _ x hx => by simp at hx⟩, ⟨Below.refl _ _⟩⟩
    case round =>
      obtain ⟨k, tl, hk, HGK, rfl, rfl, HTL, HBr⟩ := hrel
      have HBw := Aside0.mk (below_step HB3.out HBr.out)
      by_cases hlt : k < NL
      · have i1 : (k : Int) < (NL : Int) := by omega
        obtain ⟨cd, rfl, k0, k1, k2⟩ := clash_at (Kd.C_below HCL.out HBr.out) hlt
        have hok := HI.out.ok (gt L k) (gtX_mem (by rw [← HNL.out]; exact hlt))
        have htk : ∀ y, y ∈ L.take (k + 1) ↔ y ∈ L.take k ∨ y = gt L k := fun y => by
          rw [List.take_add_one, gt_some _ _ (by rw [← HNL.out]; exact hlt)]
          simp
        have HTK := Aside0.mk htk
        obtain ⟨cl, hcl⟩ : ∃ cl, cl = gt L k := ⟨_, rfl⟩
        rw [← hcl] at k0 k1 k2 hok HTK
        clear htk hcl
        by_cases hw1 : cl.why = 1
        · obtain ⟨i, j, hci, hcj, hin, hjn, hij, hwl⟩ := hok
          have hlong := hwl.1 hw1
          clear hwl
          obtain ⟨ci, cj, cw⟩ := cl
          dsimp only at k0 k1 k2 hw1 hci hcj
          subst hci hcj hw1
          have i2 : (i : Int) < (n : Int) := by omega
          have i3 : (j : Int) < (n : Int) := by omega
          obtain ⟨ad, rfl, p0, p1, p2⟩ := ru_at HX.out hin
          obtain ⟨ad2, e2, q0, q1, q2⟩ := ru_at HX.out hjn
          cases e2
          have hxr := HFIT.out.2.2 _ (gtX_mem (ms := xs) (k := i) (by rw [HN.out]; exact hin))
          have hyr := HFIT.out.2.2 _ (gtX_mem (ms := xs) (k := j) (by rw [HN.out]; exact hjn))
          obtain ⟨x, hx⟩ : ∃ x, x = gt xs i := ⟨_, rfl⟩
          obtain ⟨y, hy⟩ : ∃ y, y = gt xs j := ⟨_, rfl⟩
          rw [← hx] at p0 p1 p2 hxr hlong
          rw [← hy] at q0 q1 q2 hyr hlong
          have hlk : keepsB x = true ∧ y.kind = 4 ∧ y.fr < x.fr := by
            unfold longB at hlong
            simpa using hlong
          have hx4 : x.kind ≠ 4 := fun e => by
            have := hlk.1
            unfold keepsB at this
            rw [if_neg (by omega), if_neg (by omega), if_neg (by omega)] at this
            cases this
          have HPQ : Aside0 (∀ W, Below w3.heap.size w3 W → (W.cell? (ad.add (i * 3)) = some (.int .i64 x.kind) ∧ W.cell? ⟨(ad.add (i * 3)).block, (ad.add (i * 3)).off + 1, none⟩ = some (.int .i64 x.len) ∧ W.cell? ⟨(ad.add (i * 3)).block, (ad.add (i * 3)).off + 2, none⟩ = some (.int .i64 x.fr)) ∧
            (W.cell? (ad.add (j * 3)) = some (.int .i64 y.kind) ∧ W.cell? ⟨(ad.add (j * 3)).block, (ad.add (j * 3)).off + 1, none⟩ = some (.int .i64 y.len) ∧ W.cell? ⟨(ad.add (j * 3)).block, (ad.add (j * 3)).off + 2, none⟩ = some (.int .i64 y.fr))) := ⟨fun W hb => ⟨⟨cell_old (below_step HB3.out hb) p0, cell_old (below_step HB3.out hb) p1, cell_old (below_step HB3.out hb) p2⟩, ⟨cell_old (below_step HB3.out hb) q0, cell_old (below_step HB3.out hb) q1, cell_old (below_step HB3.out hb) q2⟩⟩⟩
          have HXR := Aside0.mk hxr
          have HYR := Aside0.mk hyr
          have HY4 := Aside0.mk hlk.2.1
          have HLT := Aside0.mk hlk.2.2
          have HX4 := Aside0.mk hx4
          have hxl := (rightB_ok hxr).l2
          have hxl0 : 0 ≤ x.len := by
            have ok := rightB_ok hxr
            by_cases e1 : x.kind = 1
            · have := hxr
              unfold rightB at this
              rw [if_pos (.inl e1)] at this
              by_cases e0 : x.len = 0
              · omega
              · rw [if_neg e0] at this; cases this
            · have := ok.k1; have := ok.k4; have := ok.l1 (by omega) (by omega); omega
          clear p0 p1 p2 q0 q1 q2 hxr hyr hlong hlk hx4 hx hy
          go_upto_region 12 with fail
          obtain ⟨U3, hU3⟩ : ∃ U3, wr.alloc (.cells #[.int .i64 i, .int .i64 j, .int .i64 1] 39) = U3 := ⟨_, rfl⟩
          have HCB : Aside0 (U3.heap[wr.heap.size]? = some (.cells #[.int .i64 i, .int .i64 j, .int .i64 1] 39 (0, 0))) := ⟨by rw [← hU3]; exact blk_new _ _⟩
          have HBU : Aside0 (Below wr.heap.size wr U3) := ⟨by rw [← hU3]; exact below_alloc (Below.refl _ _) _⟩
          rw [hU3]
          have HBU3 := Aside0.mk (below_step HBr.out HBU.out)
          clear hU3 k0 k1 k2
          have c0 := blk_cell HCB.out 0
          simp only [List.getElem?_toArray, List.getElem?_cons_zero] at c0
          obtain ⟨⟨p0, p1, p2⟩, _⟩ := HPQ.out U3 HBU3.out
          go_upto_region 13 with fail
          clear c0 p0 p1 p2
          have hone := one_lit U3 w3.heap.size HBU3.out.size x
          obtain ⟨U4, hU4⟩ : ∃ U4, U3.alloc (.cells #[.int .i64 x.kind, .int .i64 x.len, .int .i64 x.fr] 41) = U4 := ⟨_, rfl⟩
          have HB34 : Aside0 (Below U3.heap.size U3 U4) := ⟨by rw [← hU4]; exact below_alloc (Below.refl _ _) _⟩
          rw [hU4] at hone ⊢
          have HONE := Aside0.mk hone
          have HBU4 := Aside0.mk (below_step HBU3.out HB34.out)
          have HCB4 := Aside0.mk (blk_below HCB.out HB34.out)
          have HR1 : Aside0 (∀ z ∈ [x], rightB z = true) := ⟨fun z hz => by rw [List.mem_singleton] at hz; rw [hz]; exact HXR.out⟩
          have HLW1 := Aside0.mk (law_any (some ⟨U3.heap.size, 0, none⟩) 1 1 [x] rfl (some ⟨U4.heap.size, 0, none⟩) 1 1 [0] rfl (U4.alloc (.cells #[.int .u8 0] 5)) (Kd.R_reads' (Kd.R_alloc hone (.cells #[.int .u8 0] 5))).2.2 (byte_blk [0] (blk_new U4 _) rfl (by decide)))
          obtain ⟨nk1, hnk1⟩ : ∃ nk1, nk1 = (keepers [x]).length := ⟨_, rfl⟩
          obtain ⟨nev1, hnev1⟩ : ∃ nev1, nev1 = nevOf [x] := ⟨_, rfl⟩
          have HNK1 := Aside0.mk hnk1
          have HNEV1 := Aside0.mk hnev1
          obtain ⟨nv1, ns1⟩ := nev1
          obtain ⟨B1, hB1⟩ : ∃ B1, B1 = (U4.alloc (.cells #[.int .u8 0] 5)).heap.size := ⟨_, rfl⟩
          have HBB1 := Aside0.mk hB1
          have hB1' : B1 = U4.heap.size + 1 := by rw [hB1, World.size_alloc]
          have HB1s := Aside0.mk hB1'
          clear hU4 hone hnk1 hnev1 hB1 hB1'
          go_upto_region 14 with (go_at_call 5; refine HLW1.out.mono ?_; rintro e w4 hlp; obtain ⟨hbb, g1, bk1, fo1, A1, ck1, v21, rfl, hlo⟩ := hlp.made (by decide) (by decide) HR1.out; rw [← HBB1.out] at hlo; unfold lawV; rw [← HNK1.out, ← HNEV1.out]; dsimp only; have HLO1 := Aside0.mk hlo; have HB4 := Aside0.mk (below_step (below_alloc HBU4.out (.cells #[.int .u8 0] 5)) hbb); have HCB41 := Aside0.mk (blk_below (blk_alloc HCB4.out (.cells #[.int .u8 0] 5)) hbb); have HR41 := Aside0.mk (Kd.R_below (Kd.R_alloc HONE.out (.cells #[.int .u8 0] 5)) hbb); have HS41 : Aside0 (B1 ≤ w4.heap.size) := ⟨by rw [HBB1.out]; exact hbb.size⟩; clear hlp hbb hlo)
          obtain ⟨U5, hU5⟩ : ∃ U5, w4.alloc (.cells #[.pointer (some ⟨g1, 0, none⟩), .slice A1 nk1 ck1, .int .i64 nv1, .bool ns1, .pointer (some ⟨bk1, 0, none⟩), .pointer (some ⟨fo1, 0, none⟩)] 32) = U5 := ⟨_, rfl⟩
          have hb45 : Below w4.heap.size w4 U5 := by rw [← hU5]; exact below_alloc (Below.refl _ _) _
          have HX14 : Aside0 (U5.heap[w4.heap.size]? = some (.cells #[.pointer (some ⟨g1, 0, none⟩), .slice A1 nk1 ck1, .int .i64 nv1, .bool ns1, .pointer (some ⟨bk1, 0, none⟩), .pointer (some ⟨fo1, 0, none⟩)] 32 (0, 0))) := ⟨by rw [← hU5]; exact blk_new _ _⟩
          have HS5 : Aside0 (U5.heap.size = w4.heap.size + 1) := ⟨by rw [← hU5, World.size_alloc]⟩
          rw [hU5]
          have HBU5 := Aside0.mk (below_step HB4.out hb45)
          have HCB5 := Aside0.mk (blk_below HCB41.out hb45)
          have HR5 := Aside0.mk (Kd.R_below HR41.out hb45)
          have HLO5 := Aside0.mk ((HLO1.out.fresh (base' := w3.heap.size) (by rw [HB1s.out]; exact Nat.le_trans HBU4.out.size (Nat.le_succ _))).below hb45)
          have HBB45 := Aside0.mk hb45
          clear hU5 hb45
          have c1 := blk_cell HCB5.out 1
          simp only [List.getElem?_toArray, List.getElem?_cons_zero, List.getElem?_cons_succ] at c1
          obtain ⟨_, q0, q1, q2⟩ := HPQ.out U5 HBU5.out
          have HR2 : Aside0 (∀ z ∈ [x, y], rightB z = true) := ⟨fun z hz => by simp only [List.mem_cons, List.not_mem_nil, or_false] at hz; rcases hz with hz | hz; rw [hz]; exact HXR.out; rw [hz]; exact HYR.out⟩
          obtain ⟨nk2, hnk2⟩ : ∃ nk2, nk2 = (keepers [x, y]).length := ⟨_, rfl⟩
          obtain ⟨nev2, hnev2⟩ : ∃ nev2, nev2 = nevOf [x, y] := ⟨_, rfl⟩
          have HNK2 := Aside0.mk hnk2
          have HNEV2 := Aside0.mk hnev2
          obtain ⟨nv2, ns2⟩ := nev2
          have HSZ3 : Aside0 (wr.heap.size < U3.heap.size ∧ U3.heap.size < U4.heap.size) := ⟨blk_lt HCB.out, (by obtain ⟨_, _, e, _, h, _⟩ := Kd.R_form HONE.out (by simp); cases e; exact h)⟩
          clear hnk2 hnev2
          go_upto_region 15 with (first | ((with_reducible refine gate_builtin (b := .append) (xs := #[.tmp 65, .tmp 71]) rfl ?_); at_builtin; refine Kd.R_append kRu (w0 := w3) w3.heap.size rfl (.tmp 65) (.tmp 71) 22 41 (.agg #[.int .i64 0, .int .i64 0, .int .i64 0]) 24 rfl Tryz.underlying22 info_ru rfl (Nat.succ_pos _) (by omega) (.slice (some ⟨U3.heap.size, 0, none⟩) 1 1) [x] y [.int .i64 y.kind, .int .i64 y.len, .int .i64 y.fr] (fun _ => True) (fun _ => False) rfl rfl (kRu_mk _ _ _ y) (fun _ hk => hk.elim) (fun _ _ => trivial) HR5.out HBU5.out HBU5.out.size (by simp) ?_; intro v5 w5 ho hb hg hat; obtain ⟨A5, c5, rfl⟩ := Kd.R_slice ho; have HR6 := Aside0.mk ho; have HB6 := Aside0.mk hb; have hkp : Kept U5 w5 (fun k => k = U3.heap.size) := Kept.of_grown hg (Kept.refl _ _) (fun k hk => .inl (Option.some.inj hk).symm); have HLO6 := Aside0.mk (HLO5.out.kept hkp (fun k hk => by (have h1 := hk.1); (have h2 := HSZ3.out.2); (have h3 := HB1s.out); omega)); have HCB6 := Aside0.mk (blk_kept HCB5.out hkp (by have := HSZ3.out.1; omega)); have HX146 := Aside0.mk (blk_kept HX14.out hkp (by have h1 := HSZ3.out.2; have h2 := HS41.out; have h3 := HB1s.out; omega)); have HSZ6 : Aside0 (U5.heap.size ≤ w5.heap.size) := ⟨hkp.1⟩; clear ho hb hg hat hkp c1 q0 q1 q2) | (go_at_call 5; refine (law_any A5 2 c5 [x, y] rfl (some ⟨w5.heap.size, 0, none⟩) 1 1 [0] rfl (w5.alloc (.cells #[.int .u8 0] 5)) (Kd.R_reads' (Kd.R_alloc HR6.out (.cells #[.int .u8 0] 5))).2.2 (byte_blk [0] (blk_new w5 _) rfl (by decide))).mono ?_; rintro e w6 hlp; obtain ⟨hbb, g2, bk2, fo2, A2, ck2, v22, rfl, hlo⟩ := hlp.made (by decide) (by decide) HR2.out; rw [World.size_alloc] at hlo; unfold lawV; rw [← HNK2.out, ← HNEV2.out]; dsimp only; have HLO2 := Aside0.mk hlo; have HB7 := Aside0.mk (below_step (below_alloc HB6.out (.cells #[.int .u8 0] 5)) hbb); have HB67 : Aside0 (Below w5.heap.size w5 w6) := ⟨below_step (below_alloc (Below.refl _ _) (.cells #[.int .u8 0] 5)) hbb⟩; clear hlp hbb hlo))
          obtain ⟨U7, hU7⟩ : ∃ U7, w6.alloc (.cells #[.pointer (some ⟨g2, 0, none⟩), .slice A2 nk2 ck2, .int .i64 nv2, .bool ns2, .pointer (some ⟨bk2, 0, none⟩), .pointer (some ⟨fo2, 0, none⟩)] 32) = U7 := ⟨_, rfl⟩
          have hb67 : Below w6.heap.size w6 U7 := by rw [← hU7]; exact below_alloc (Below.refl _ _) _
          have HX17 : Aside0 (U7.heap[w6.heap.size]? = some (.cells #[.pointer (some ⟨g2, 0, none⟩), .slice A2 nk2 ck2, .int .i64 nv2, .bool ns2, .pointer (some ⟨bk2, 0, none⟩), .pointer (some ⟨fo2, 0, none⟩)] 32 (0, 0))) := ⟨by rw [← hU7]; exact blk_new _ _⟩
          rw [hU7]
          have hb57 := below_step HB67.out hb67
          have HBU7 := Aside0.mk (below_step HB7.out hb67)
          have HCB7 := Aside0.mk (blk_below HCB6.out hb57)
          have HX147 := Aside0.mk (blk_below HX146.out hb57)
          have HA7 := Aside0.mk (HLO6.out.below hb57)
          have HC7 := Aside0.mk ((HLO2.out.fresh (base' := w3.heap.size) (Nat.le_trans HB6.out.size (Nat.le_succ _))).below hb67)
          have HSZ7 : Aside0 (w4.heap.size < w5.heap.size ∧ w5.heap.size < w6.heap.size ∧ w6.heap.size ≤ U7.heap.size ∧ g1 < w4.heap.size) := ⟨by have := HS5.out; have := HSZ6.out; omega, by have h := HLO2.out.bound.okb; have := h.2.1; have := h.2.2; omega, hb67.size, (HLO1.out.bound).okg.2.2⟩
          clear hU7 hb67 hb57
          have c0 := blk_cell HCB7.out 0
          simp only [List.getElem?_toArray, List.getElem?_cons_zero, List.getElem?_cons_succ] at c0
          obtain ⟨⟨p0, p1, p2⟩, _⟩ := HPQ.out U7 HBU7.out
          by_cases hfar : x.len + 1 > 1073741824
          · go_wp2_with fail
            go_roundg (NL - (k + 1))
            case measure => have := HGK.out; omega
            case rel => exact ⟨k + 1, true, by omega, ⟨rfl⟩, by go_num, rfl, ⟨fun h => by cases h⟩, HBU7⟩
          · obtain ⟨far, hfe⟩ : ∃ far, x.len + 1 = far := ⟨_, rfl⟩
            have hfar2 : ¬ (far > 1073741824) := by omega
            have hfar0 : 0 ≤ far := by omega
            have hfar1 : far ≤ 1073741824 := by omega
            have HFE := Aside0.mk hfe
            go_upto_region 17 with fail
            clear c0 p0 p1 p2
            have x0 := blk_cell HX147.out 0
            simp only [List.getElem?_toArray, List.getElem?_cons_zero] at x0
            clear hfe hfar
            have hA := HA7.out.mono (ok' := fun k => (B1 ≤ k ∧ k < w4.heap.size) ∨ U7.heap.size ≤ k) (fun k hk => .inl hk)
            have HAD1 : Aside0 (Calls Tryz.prog 7 #[.pointer (some ⟨g1, 0, none⟩), .int .u64 2, .int .i64 far] U7 fun e w' => e = .returned (.int .i64 0) ∧ LawOwn w' w3.heap.size (fun k => (B1 ≤ k ∧ k < w4.heap.size) ∨ U7.heap.size ≤ k) g1 bk1 fo1 A1 ck1 (keepers [x]) [0, far] ∧ Kept U7 w' (AddW U7 (fun k => (B1 ≤ k ∧ k < w4.heap.size) ∨ U7.heap.size ≤ k) g1) ∧ Below w3.heap.size w3 w') :=
              ⟨add_law w3 w3.heap.size _ g1 bk1 fo1 A1 ck1 (keepers [x]) [0] 1 rfl far U7 hA (fun k hk => .inr hk) HBU7.out HBU7.out.size (by decide) hfar0 hfar1 (fun z hz => by rw [List.mem_singleton] at hz; omega)⟩
            have HGA := Aside0.mk hA.gblk
            clear hA
            go_upto_region 18 with (go_at_call 7; refine HAD1.out.mono ?_; rintro e w8 ⟨rfl, hlo, hkp, hbb⟩; have HA8 := Aside0.mk hlo; have HB8 := Aside0.mk hbb; have HKP8 := Aside0.mk hkp; clear hlo hkp hbb)
            clear x0
            have hgb := HGA.out.choose_spec
            have HCB8 := Aside0.mk (blk_kept HCB7.out HKP8.out (AddW.other hgb HCB7.out (by decide) (by decide)))
            have HX148 := Aside0.mk (blk_kept HX147.out HKP8.out (AddW.other hgb HX147.out (by decide) (by decide)))
            have HX178 := Aside0.mk (blk_kept HX17.out HKP8.out (AddW.other hgb HX17.out (by decide) (by decide)))
            have HC8 := Aside0.mk (HC7.out.kept HKP8.out (fun k hk h => by
              have hs := HSZ7.out
              rcases h with h | ⟨h | h, _⟩ | h <;> omega))
            have hsz8 := HKP8.out.1
            have HSZ8 := Aside0.mk hsz8
            have hC := HC8.out.mono (ok' := fun k => (w5.heap.size + 1 ≤ k ∧ k < w6.heap.size) ∨ w8.heap.size ≤ k) (fun k hk => .inl hk)
            have HAD2 : Aside0 (Calls Tryz.prog 7 #[.pointer (some ⟨g2, 0, none⟩), .int .u64 2, .int .i64 far] w8 fun e w' => e = .returned (.int .i64 0) ∧ LawOwn w' w3.heap.size (fun k => (w5.heap.size + 1 ≤ k ∧ k < w6.heap.size) ∨ w8.heap.size ≤ k) g2 bk2 fo2 A2 ck2 (keepers [x, y]) [0, far] ∧ Kept w8 w' (AddW w8 (fun k => (w5.heap.size + 1 ≤ k ∧ k < w6.heap.size) ∨ w8.heap.size ≤ k) g2) ∧ Below w3.heap.size w3 w') :=
              ⟨add_law w3 w3.heap.size _ g2 bk2 fo2 A2 ck2 (keepers [x, y]) [0] 1 rfl far w8 hC (fun k hk => .inr hk) HB8.out HB8.out.size (by decide) hfar0 hfar1 (fun z hz => by rw [List.mem_singleton] at hz; omega)⟩
            have HGC := Aside0.mk hC.gblk
            have HG2 := Aside0.mk HC8.out.okg
            clear hC hgb hsz8
            have x0 := blk_cell HX178.out 0
            simp only [List.getElem?_toArray, List.getElem?_cons_zero] at x0
            go_upto_region 19 with (go_at_call 7; refine HAD2.out.mono ?_; rintro e w9 ⟨rfl, hlo, hkp, hbb⟩; have HC9 := Aside0.mk hlo; have HB9 := Aside0.mk hbb; have HKP9 := Aside0.mk hkp; clear hlo hkp hbb)
            clear x0
            have hgb := HGC.out.choose_spec
            have HCB9 := Aside0.mk (blk_kept HCB8.out HKP9.out (AddW.other hgb HCB8.out (by decide) (by decide)))
            have HX149 := Aside0.mk (blk_kept HX148.out HKP9.out (AddW.other hgb HX148.out (by decide) (by decide)))
            have HX179 := Aside0.mk (blk_kept HX178.out HKP9.out (AddW.other hgb HX178.out (by decide) (by decide)))
            have HA9 := Aside0.mk ((HA8.out.bound.kept HKP9.out (fun k hk h => by
              have hs := HSZ7.out
              have hs8 := HSZ8.out
              have hg2 := HG2.out
              obtain ⟨hk1, hk2, hk3⟩ := hk
              rcases h with h | ⟨h | h, _⟩ | h <;> rcases hk1 with hk1 | hk1 <;> omega)))
            clear hgb
            have c1 := blk_cell HCB9.out 1
            simp only [List.getElem?_toArray, List.getElem?_cons_zero, List.getElem?_cons_succ] at c1
            obtain ⟨_, q0, q1, q2⟩ := HPQ.out w9 HB9.out
            go_upto_region 20 with fail
            clear c1 q0 q1 q2
            have hmm : ∀ z ∈ [0, far], 0 ≤ z ∧ z ≤ 1073741824 := fun z hz => by simp only [List.mem_cons, List.not_mem_nil, or_false] at hz; rcases hz with rfl | rfl <;> omega
            have hha := has_law (w0 := w9) HA9.out HR1.out (by simp) hmm 2 rfl (by omega) 0 (by omega) y.fr
            rw [← HFE.out, has_alone HXR.out HX4.out y.fr HLT.out, ← HNK1.out, ← HNEV1.out] at hha
            have hhc := fun (W : World) (hb : Below w9.heap.size w9 W) => has_law (w0 := W) (HC9.out.below hb) HR2.out (by simp) hmm 2 rfl (by omega) 0 (by omega) y.fr
            rw [← HFE.out, has_beside HXR.out HX4.out HY4.out HLT.out, ← HNK2.out, ← HNEV2.out] at hhc
            have HHA : Aside0 (Calls Tryz.prog 8 #[.agg #[.pointer (some ⟨g1, 0, none⟩), .slice A1 nk1 ck1, .int .i64 nv1, .bool ns1, .pointer (some ⟨bk1, 0, none⟩), .pointer (some ⟨fo1, 0, none⟩)], .int .u64 1, .int .i64 y.fr] w9 fun e w' => e = .returned (.bool true) ∧ Below w9.heap.size w9 w') := ⟨hha⟩
            have HHC : Aside0 (∀ W, Below w9.heap.size w9 W → Calls Tryz.prog 8 #[.agg #[.pointer (some ⟨g2, 0, none⟩), .slice A2 nk2 ck2, .int .i64 nv2, .bool ns2, .pointer (some ⟨bk2, 0, none⟩), .pointer (some ⟨fo2, 0, none⟩)], .int .u64 1, .int .i64 y.fr] W fun e w' => e = .returned (.bool false) ∧ Below W.heap.size W w') := ⟨hhc⟩
            clear hha hhc hmm
            (have bx := HX149.out; have d0 := blk_cell bx 0; have d1 := blk_cell bx 1; have d2 := blk_cell bx 2; have d3 := blk_cell bx 3; have d4 := blk_cell bx 4; have d5 := blk_cell bx 5; simp only [List.getElem?_toArray, List.getElem?_cons_zero, List.getElem?_cons_succ] at d0 d1 d2 d3 d4 d5; clear bx)
            go_wp2_with (first | (go_at_call 8; (with_reducible refine HHA.out.mono ?_); rintro e w10 ⟨rfl, hbb⟩; have HB10 := Aside0.mk (below_step HB9.out hbb); have HB910 := Aside0.mk hbb; (have bx := blk_below HX179.out hbb; have e0 := blk_cell bx 0; have e1 := blk_cell bx 1; have e2 := blk_cell bx 2; have e3 := blk_cell bx 3; have e4 := blk_cell bx 4; have e5 := blk_cell bx 5; simp only [List.getElem?_toArray, List.getElem?_cons_zero, List.getElem?_cons_succ] at e0 e1 e2 e3 e4 e5; clear bx); clear hbb d0 d1 d2 d3 d4 d5) | (go_at_call 8; (with_reducible refine (HHC.out _ HB910.out).mono ?_); rintro e w11 ⟨rfl, hbb⟩; have HB11 := Aside0.mk (below_step HB10.out hbb); clear hbb e0 e1 e2 e3 e4 e5))
            go_roundg (NL - (k + 1))
            case measure => have := HGK.out; omega
            case rel => exact ⟨k + 1, true, by omega, ⟨rfl⟩, by go_num, rfl, ⟨fun h => by cases h⟩, HB11⟩
        · have hw1' : (cl.why == 1) = false := by simpa using hw1
          obtain ⟨ci, cj, cw⟩ := cl
          dsimp only at k0 k1 k2 hw1 hw1'
          clear hok
          go_wp2_with fail
          go_roundg (NL - (k + 1))
          case measure => have := HGK.out; omega
          case rel => exact ⟨k + 1, tl, by omega, ⟨rfl⟩, by go_num, rfl, ⟨fun h y hy => by rcases (HTK.out y).1 hy with h1 | h1; exact HTL.out h y h1; rw [h1]; exact hw1⟩, ⟨below_alloc HBr.out _⟩⟩
      · have i1 : ¬ (k : Int) < (NL : Int) := by omega
        cases tl
        · have hno : ∀ i j : Nat, i < xs.length → j < xs.length → i ≠ j → longB (gt xs i) (gt xs j) = false := fun i j hi hj hij => by
            cases hl : longB (gt xs i) (gt xs j)
            · rfl
            · rw [HN.out] at hi hj
              obtain ⟨cl, hc, h1⟩ := HI.out.all i j hi hj hij (.inl hi) hl
              exact absurd h1 (HTL.out rfl cl (by rw [List.take_of_length_le (by have := HNL.out; omega)]; exact hc))
          have HNO := Aside0.mk hno
          clear hno
          go_upto_region 27 with (go_at_call 5; refine (HLA.out wr HBw.out).mono ?_; rintro e w5 hlp; obtain ⟨hbb, g5, bk5, fo5, A5, ck5, v25, rfl, hlo⟩ := hlp.made HFIT.out.1 HFIT.out.2.1 HFIT.out.2.2; unfold lawV; rw [← HNK.out, ← HNEV.out]; dsimp only; have HB5 := Aside0.mk (below_step HBw.out hbb); have HLO5 := Aside0.mk hlo; clear hlp hbb hlo)
          obtain ⟨U5, hU5⟩ : ∃ U5, w5.alloc (.cells #[.pointer (some ⟨g5, 0, none⟩), .slice A5 nk ck5, .int .i64 nv, .bool ns, .pointer (some ⟨bk5, 0, none⟩), .pointer (some ⟨fo5, 0, none⟩)] 32) = U5 := ⟨_, rfl⟩
          have hb55 : Below w5.heap.size w5 U5 := by rw [← hU5]; exact below_alloc (Below.refl _ _) _
          have HX22 : Aside0 (U5.heap[w5.heap.size]? = some (.cells #[.pointer (some ⟨g5, 0, none⟩), .slice A5 nk ck5, .int .i64 nv, .bool ns, .pointer (some ⟨bk5, 0, none⟩), .pointer (some ⟨fo5, 0, none⟩)] 32 (0, 0))) := ⟨by rw [← hU5]; exact blk_new _ _⟩
          rw [hU5]
          have HBU5 := Aside0.mk (below_step HB5.out hb55)
          have HLA5 := Aside0.mk (HLO5.out.below hb55)
          clear hU5 hb55
          go_wp2_with fail
          go_loopg [25, 26] n (fun gk v25' v26 wq => ∃ q : Nat, q ≤ n ∧ Aside0 (gk = n - q) ∧ v26 = .int .i64 q ∧ Aside0 (kRu.R 41 wq U5.heap.size (fun _ => True) v25' (keepers (xs.take q))) ∧ Aside0 (Below U5.heap.size U5 wq))
          case atStart => exact ⟨0, Nat.zero_le _, ⟨rfl⟩, rfl, ⟨Kd.R_nil _ _ _ _ _⟩, ⟨Below.refl _ _⟩⟩
          case round =>
            obtain ⟨q, hq, HGQ, rfl, HRq, HBq⟩ := hrel
            have HBwq := Aside0.mk (below_step HBU5.out HBq.out)
            by_cases hlq : q < n
            · have i2 : (q : Int) < (n : Int) := by omega
              obtain ⟨ad, rfl, p0, p1, p2⟩ := ru_at (Kd.C_below HX.out HBwq.out) hlq
              have hks := keepers_succ xs q (by rw [HN.out]; exact hlq)
              obtain ⟨x, hx⟩ : ∃ x, x = gt xs q := ⟨_, rfl⟩
              rw [← hx] at p0 p1 p2 hks
              have hkl : (keepers (xs.take q)).length ≤ 6 := by have := keepers_len (xs.take q); have := List.length_take_le q xs; omega
              have HKL := Aside0.mk hkl
              clear hx hkl
              by_cases h4 : x.kind = 4
              · rw [if_pos h4] at hks
                have HKS := Aside0.mk hks
                rw [h4] at p0
                clear hks h4
                go_wp2_with fail
                go_roundg (n - (q + 1))
                case measure => have := HGQ.out; omega
                case rel => exact ⟨q + 1, by omega, ⟨rfl⟩, by go_num, ⟨by rw [HKS.out]; exact HRq.out⟩, HBq⟩
              · rw [if_neg h4] at hks
                have HKS := Aside0.mk hks
                have h4' : (x.kind == 4) = false := by simpa using h4
                clear hks
                go_wp2_with ((with_reducible refine gate_builtin (b := .append) (xs := #[.tmp 131, .tmp 136]) rfl ?_); at_builtin; refine Kd.R_append kRu (w0 := U5) U5.heap.size rfl (.tmp 131) (.tmp 136) 22 41 (.agg #[.int .i64 0, .int .i64 0, .int .i64 0]) 24 rfl Tryz.underlying22 info_ru rfl (Nat.succ_pos _) (by omega) _ (keepers (xs.take q)) x [.int .i64 x.kind, .int .i64 x.len, .int .i64 x.fr] (fun _ => True) (fun _ => False) rfl rfl (kRu_mk _ _ _ x) (fun _ hk => hk.elim) (fun _ _ => trivial) HRq.out HBq.out HBq.out.size (by have := HKL.out; omega) ?_; intro v6 w6 ho hb hg hat; have HR6 := Aside0.mk ho; have HB6 := Aside0.mk hb; clear ho hb hg hat)
                go_roundg (n - (q + 1))
                case measure => have := HGQ.out; omega
                case rel => exact ⟨q + 1, by omega, ⟨rfl⟩, by go_num, ⟨by rw [HKS.out]; exact HR6.out⟩, HB6⟩
            · have i2 : ¬ (q : Int) < (n : Int) := by omega
              have hfull : xs.take q = xs := List.take_of_length_le (by rw [HN.out]; omega)
              rw [hfull] at HRq
              obtain ⟨Aw, cw, rfl, _, hCw⟩ := Kd.R_reads HRq.out
              rw [← HNK.out] at hCw ⊢
              have hbU : Below w.heap.size w wr := HBwq.out
              have HLWB := Aside0.mk (law_any Aw nk cw (keepers xs) HNK.out.symm G m cg gs HM.out wr hCw (Kd.C_below HG.out hbU))
              have HRK : Aside0 (∀ z ∈ keepers xs, rightB z = true) := ⟨fun z hz => HFIT.out.2.2 z (keepers_mem hz).1⟩
              have hnk6 : nk ≤ 6 := by have := keepers_len xs; have := HNK.out; have := HN.out; omega
              clear hfull hCw hbU HGQ
              go_upto_region 33 with (go_at_call 5; refine HLWB.out.mono ?_; rintro e w7 hlp; obtain ⟨hbb, g7, bk7, fo7, A7, ck7, v27, rfl, hlo⟩ := hlp.made hnk6 HFIT.out.2.1 HRK.out; unfold lawV; rw [keepers_keepers, nevOf_keepers] at *; rw [← HNK.out]; dsimp only; have HB7 := Aside0.mk (below_step HBwq.out hbb); have HB57 := Aside0.mk (below_step HBq.out hbb); have HLO7 := Aside0.mk hlo; clear hlp hbb hlo)
              obtain ⟨U7, hU7⟩ : ∃ U7, w7.alloc (.cells #[.pointer (some ⟨g7, 0, none⟩), .slice A7 nk ck7, .int .i64 0, .bool false, .pointer (some ⟨bk7, 0, none⟩), .pointer (some ⟨fo7, 0, none⟩)] 32) = U7 := ⟨_, rfl⟩
              have hb77 : Below w7.heap.size w7 U7 := by rw [← hU7]; exact below_alloc (Below.refl _ _) _
              have HX27 : Aside0 (U7.heap[w7.heap.size]? = some (.cells #[.pointer (some ⟨g7, 0, none⟩), .slice A7 nk ck7, .int .i64 0, .bool false, .pointer (some ⟨bk7, 0, none⟩), .pointer (some ⟨fo7, 0, none⟩)] 32 (0, 0))) := ⟨by rw [← hU7]; exact blk_new _ _⟩
              rw [hU7]
              have hb57 := below_step HB57.out hb77
              have HBU7 := Aside0.mk (below_step HB7.out hb77)
              have HX22' := Aside0.mk (blk_below HX22.out hb57)
              have hla := HLA5.out.below hb57
              have hlb := HLO7.out.below hb77
              obtain ⟨zs, hzs⟩ : ∃ zs, numsOf (fun p => hasB (minsTo gs m) m p 0 false (keepers xs) now) (List.range m) = zs := ⟨_, rfl⟩
              have hza : numsOf (fun p => hasB (minsTo gs m) m p nv ns (keepers xs) now) (List.range m) = zs := by
                rw [← hzs]
                congr 1
                funext p
                have := has_same HFIT.out.2.2 HNO.out (minsTo gs m) m p now
                rw [← HNEV.out] at this
                exact this
              have hzl : zs.length ≤ 1000000 := by
                rw [← hzs]
                have := numsOf_len (fun p => hasB (minsTo gs m) m p 0 false (keepers xs) now) (List.range m)
                rw [List.length_range] at this
                omega
              have hnvok : 0 ≤ nv ∧ nv ≤ 1073741824 := by have := nevOf_ok HFIT.out.2.2; rw [← HNEV.out] at this; exact this
              have HALA : Aside0 (∀ W, Below U7.heap.size U7 W → Calls Tryz.prog 10 #[.agg #[.pointer (some ⟨g5, 0, none⟩), .slice A5 nk ck5, .int .i64 nv, .bool ns, .pointer (some ⟨bk5, 0, none⟩), .pointer (some ⟨fo5, 0, none⟩)], .int .i64 now] W fun e w' => (∃ A' c', e = .returned (.slice A' zs.length c') ∧ (Kd.int .u64).C w' A' zs.length zs) ∧ Below W.heap.size W w') :=
                ⟨fun W hb => all_law (hla.below hb) (keepers_ok HFIT.out.2.2) nk HNK.out.symm (by omega) nv ns hnvok (minsTo_ok _ _ (by omega)) m (minsTo_len _ _) (by omega) now zs hza⟩
              have HALB : Aside0 (∀ W, Below U7.heap.size U7 W → Calls Tryz.prog 10 #[.agg #[.pointer (some ⟨g7, 0, none⟩), .slice A7 nk ck7, .int .i64 0, .bool false, .pointer (some ⟨bk7, 0, none⟩), .pointer (some ⟨fo7, 0, none⟩)], .int .i64 now] W fun e w' => (∃ A' c', e = .returned (.slice A' zs.length c') ∧ (Kd.int .u64).C w' A' zs.length zs) ∧ Below W.heap.size W w') :=
                ⟨fun W hb => all_law (hlb.below hb) (keepers_ok HFIT.out.2.2) nk HNK.out.symm (by omega) 0 false (by omega) (minsTo_ok _ _ (by omega)) m (minsTo_len _ _) (by omega) now zs hzs⟩
              have HZL := Aside0.mk hzl
              have HKP : Aside0 (∀ W, Below U7.heap.size U7 W → (W.heap[w5.heap.size]? = some (.cells #[.pointer (some ⟨g5, 0, none⟩), .slice A5 nk ck5, .int .i64 nv, .bool ns, .pointer (some ⟨bk5, 0, none⟩), .pointer (some ⟨fo5, 0, none⟩)] 32 (0, 0))) ∧ (W.heap[w7.heap.size]? = some (.cells #[.pointer (some ⟨g7, 0, none⟩), .slice A7 nk ck7, .int .i64 0, .bool false, .pointer (some ⟨bk7, 0, none⟩), .pointer (some ⟨fo7, 0, none⟩)] 32 (0, 0)))) := ⟨fun W hb => ⟨blk_below HX22'.out hb, blk_below HX27.out hb⟩⟩
              clear hU7 hb77 hb57 hla hlb hzs hza hzl hnvok
              go_region_held3 (fun W => (W.cell? ⟨w5.heap.size, 0, none⟩ = some (.pointer (some ⟨g5, 0, none⟩)) ∧ W.cell? ⟨w5.heap.size, 1, none⟩ = some (.slice A5 nk ck5) ∧ W.cell? ⟨w5.heap.size, 2, none⟩ = some (.int .i64 nv) ∧ W.cell? ⟨w5.heap.size, 3, none⟩ = some (.bool ns) ∧ W.cell? ⟨w5.heap.size, 4, none⟩ = some (.pointer (some ⟨bk5, 0, none⟩)) ∧ W.cell? ⟨w5.heap.size, 5, none⟩ = some (.pointer (some ⟨fo5, 0, none⟩))) ∧
                (W.cell? ⟨w7.heap.size, 0, none⟩ = some (.pointer (some ⟨g7, 0, none⟩)) ∧ W.cell? ⟨w7.heap.size, 1, none⟩ = some (.slice A7 nk ck7) ∧ W.cell? ⟨w7.heap.size, 2, none⟩ = some (.int .i64 0) ∧ W.cell? ⟨w7.heap.size, 3, none⟩ = some (.bool false) ∧ W.cell? ⟨w7.heap.size, 4, none⟩ = some (.pointer (some ⟨bk7, 0, none⟩)) ∧ W.cell? ⟨w7.heap.size, 5, none⟩ = some (.pointer (some ⟨fo7, 0, none⟩)))) (first | exact ⟨six_cells (HKP.out _ (below_drew (Below.refl _ _))).1, six_cells (HKP.out _ (below_drew (Below.refl _ _))).2⟩ | exact ⟨six_cells (HKP.out _ HB10.out).1, six_cells (HKP.out _ HB10.out).2⟩ | exact ⟨six_cells (HKP.out _ HB11.out).1, six_cells (HKP.out _ HB11.out).2⟩ | exact ⟨six_cells (HKP.out _ HB12.out).1, six_cells (HKP.out _ HB12.out).2⟩) (first | (go_at_call 10; (with_reducible refine (HALA.out _ (below_drew (Below.refl _ _))).mono ?_); rintro e w10 ⟨⟨Aa, ca, rfl, hCa⟩, hbb⟩; have HB10 := Aside0.mk (below_step (below_drew (Below.refl U7.heap.size U7)) hbb); have HCa := Aside0.mk hCa; clear hCa hbb) | (go_at_call 10; (with_reducible refine (HALB.out _ HB10.out).mono ?_); rintro e w11 ⟨⟨Ab, cb, rfl, hCb⟩, hbb⟩; have HB11 := Aside0.mk (below_step HB10.out hbb); have HCb := Aside0.mk hCb; have HCa2 := Aside0.mk (Kd.C_below HCa.out hbb); clear hCb hbb) | (go_at_call 9; refine (nums_same Aa Ab zs.length ca cb zs w11 HCa2.out HCb.out HZL.out).mono ?_; rintro e w12 ⟨rfl, hbb⟩; have HB12 := Aside0.mk (below_step HB11.out hbb); clear hbb))
              go_wp2_with fail
              go_ret
              exact ⟨rfl, below_step HBU7.out HB12.out⟩
        · go_wp2_with fail
          go_ret
          exact ⟨rfl, HBw.out⟩
  · have HNO := Aside0.mk hfit
    clear hfit
    go_enter Tryz.func3, Tryz.ntmps3
    go_wp2_with (first | (go_at_call 4; refine HAW.out.mono ?_; rintro e w1 ⟨rfl, hbb⟩; have HB1 := Aside0.mk hbb; clear hbb) | (go_at_call 5; refine (HLA.out w1 HB1.out).mono ?_; rintro e w2 hlp; obtain ⟨hbb, rfl⟩ := hlp.no HNO.out; unfold lawZ; have HB2 := Aside0.mk (below_step HB1.out hbb); clear hlp hbb))
    go_ret
    exact ⟨rfl, below_alloc HB2.out _⟩
end Go.Proofs.YtjoafafjpmfjbaaGreatDoor
