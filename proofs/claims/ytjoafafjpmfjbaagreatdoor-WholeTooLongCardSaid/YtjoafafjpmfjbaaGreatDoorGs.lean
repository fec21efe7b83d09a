/-
  WholeTooLong: the rule of a whole line.
-/
import Derived.Test.YtjoafafjpmfjbaaGreatDoorGr
namespace Go.Proofs.YtjoafafjpmfjbaaGreatDoor
open Go.RowKit Go.Shelf Go.Proofs.YtjoafafjpmfjbaaGreatDoorW.PrintWords Go.Proofs.YtjoafafjpmfjbaaGreatDoorW.PrintLast Go.Proofs.YtjoafafjpmfjbaaGreatDoorW.PrintMore
set_option linter.unusedVariables false
set_option linter.unusedSimpArgs false

theorem info_ruS : (Tryz.prog.info? 41).map (·.size) = some 3 := by kernel_rfl
set_option maxHeartbeats 3200000 in
set_option maxRecDepth 20000 in
theorem whole_any (X M K : Nat) (S : Int → Bool) (p : Nat) (rk rl rf : Int) (w : World) (h : RdAt w X M K S p rk rl rf) (m0 : Int) (hm0 : S m0 = true) (hone : ∀ m, S m = true → m = m0) (hp : p = (wordsI m0).length) :
    Calls Tryz.prog 28 #[.pointer (some ⟨X, 0, none⟩)] w fun e w' => e = .returned (.tuple #[.agg #[.int .i64 m0, .int .i64 rl, .int .i64 rf], .bool true]) ∧ Kept w w' (fun k => k = X) ∧ ∀ base W0, base ≤ X → base ≤ w.heap.size → Below base W0 w → Below base W0 w' := by
  have hrb := blk_new w (.cells #[.int .i64 0, .int .i64 0, .int .i64 0] 41)
  have hb2 := below_alloc (Below.refl w.heap.size w) (.cells #[.int .i64 0, .int .i64 0, .int .i64 0] 41)
  have e1 := World.size_alloc w (.cells #[.int .i64 0, .int .i64 0, .int .i64 0] 41)
  obtain ⟨W2, hW2⟩ : ∃ W2, w.alloc (.cells #[.int .i64 0, .int .i64 0, .int .i64 0] 41) = W2 := ⟨_, rfl⟩
  rw [hW2] at hrb hb2 e1
  have h2 := h.below hb2
  obtain ⟨nK, hnK, hkm⟩ := h2.kinds
  obtain ⟨w5, cnt, hrg, hra, hc4, hb5, hs5⟩ := hkm.range Tryz.underlying83
  rw [e1] at hrg hra
  have HW2 := Aside0.mk hW2
  have HH := Aside0.mk h
  have HRA := Aside0.mk hra
  have HRB := Aside0.mk (blk_below hrb hb5)
  have HB5 := Aside0.mk (below_step hb2 hb5)
  have HONE := Aside0.mk hone
  have HM0 := Aside0.mk hm0
  have HP := Aside0.mk hp
  have HX2 := Aside0.mk h2.box
  have hXlt := blk_lt h.box
  (have bx := HX2.out; have x0 := blk_cell bx 0; have x1 := blk_cell bx 1; have x2 := blk_cell bx 2; simp only [List.getElem?_toArray, List.getElem?_cons_zero, List.getElem?_cons_succ] at x0 x1 x2; clear bx)
  clear hrb hb2 e1 hW2 h2 hkm hra hb5 hs5 hone hm0 hp h
  go_enter Tryz.func28, Tryz.ntmps28
  go_upto_region 1 with fail
  rw [HW2.out]
  go_upto_region 2 with fail
  clear hrg x0 x1 x2
  go_loopg [4] 1 (fun gk v4 wr => wr = w5)
  case atStart => rfl
  case round =>
    subst hrel
    rcases HRA.out.next 0 with ⟨hdone, hrun⟩ | ⟨x, v, w', cnt2, hxv, hlx, hfx, hrun, hr2, hc2, hg2, hent⟩
    · exfalso
      have h14 := HH.out.sub m0 HM0.out
      have := hdone m0 ⟨by omega, by omega⟩
      simp [setF, HM0.out] at this
    · have hsx : S x = true := by
        cases hs : S x with
        | true => rfl
        | false => simp [setF, hs] at hlx
      have hx14 := HH.out.sub x hsx
      obtain rfl : x = m0 := HONE.out x hsx
      have hbb := pw_below_grown HB5.out (some (w.heap.size + 1)) HB5.out.size hg2 (fun k hk => by cases hk; omega)
      have HB2 := Aside0.mk hbb
      have HR2 := Aside0.mk (blk_grown HRB.out hg2 (fun e => by injection e with e; omega))
      have hrd := HH.out.below hbb
      obtain ⟨f, hfM, hfs⟩ := hrd.all
      obtain ⟨b8, c8, hf8, hw8⟩ := (hfs x hxv).1 hx14
      have hlook := fun n => (hfM.below (pw_below_drewN (Below.refl w'.heap.size w') n)).look Tryz.underlying82 (zero_strs (w'.drewN n)) x hxv
      rw [hf8] at hlook
      simp only [Option.getD_some] at hlook
      rw [← HP.out] at hlook
      have HXB := Aside0.mk hrd.box
      have bx := HXB.out
      have z0 := blk_cell bx 0
      have z2 := blk_cell bx 2
      have z3 := blk_cell bx 3
      have z4 := blk_cell bx 4
      have z5 := blk_cell bx 5
      simp only [List.getElem?_toArray, List.getElem?_cons_zero, List.getElem?_cons_succ] at z0 z2 z3 z4 z5
      have g3 := blk_frozen bx 3
      have by_ := HR2.out
      have y0 := blk_cell by_ 0
      have y1 := blk_cell by_ 1
      have y2 := blk_cell by_ 2
      simp only [List.getElem?_toArray, List.getElem?_cons_zero, List.getElem?_cons_succ] at y0 y1 y2
      have f0 := blk_frozen by_ 0
      have f1 := blk_frozen by_ 1
      have f2 := blk_frozen by_ 2
      have hne : w.heap.size ≠ X := by omega
      have hne2 : X ≠ w.heap.size := by omega
      clear hr2 hc2 hg2 hbb hrd hfM hfs hf8 hw8 hxv hlx hfx hsx bx by_
      go_upto_region 4 with fail
      go_quiet (fail)
      clear hlook
      go_wp2_with fail
      have hr0 := blk_far (blk_drewN HR2.out nq) (p := ⟨X, 3, none⟩) hne (.int .i64 x)
      refine bodyPost_ret (results_ct rfl _ _ w.heap.size 41 #[.int .i64 x, .int .i64 rl, .int .i64 rf] (0, 0) _ rfl (blk_put (blk_put (blk_put hr0 0 _ rfl) 1 _ rfl) 2 _ rfl) Tryz.underlying41 rfl info_ruS) rfl ?_
      exact ⟨rfl, (((Kept.setCell (Kept.drewN (Kept.of_below HB2.out (fun k => k = X)) nq) (p := ⟨X, 3, none⟩) (.inl rfl) _).setCell (p := ⟨w.heap.size, 0, none⟩) (.inr (Nat.le_refl _)) _).setCell (p := ⟨w.heap.size, 1, none⟩) (.inr (Nat.le_refl _)) _).setCell (p := ⟨w.heap.size, 2, none⟩) (.inr (Nat.le_refl _)) _, fun base W0 h1 h2 h3 => ((((pw_below_drewN (h3.trans (HB2.out.mono h2)) nq).setCell (p := ⟨X, 3, none⟩) h1 _).setCell (p := ⟨w.heap.size, 0, none⟩) h2 _).setCell (p := ⟨w.heap.size, 1, none⟩) h2 _).setCell (p := ⟨w.heap.size, 2, none⟩) h2 _⟩
end Go.Proofs.YtjoafafjpmfjbaaGreatDoor
