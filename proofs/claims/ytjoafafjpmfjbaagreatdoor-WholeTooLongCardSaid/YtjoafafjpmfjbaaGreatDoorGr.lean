/-
  WholeTooLong: a token of a line.
-/
import Derived.Test.YtjoafafjpmfjbaaGreatDoorGq
import Derived.Deep.RegionHeld3
namespace Go.Proofs.YtjoafafjpmfjbaaGreatDoor
open Go.RowKit Go.Shelf Go.Proofs.YtjoafafjpmfjbaaGreatDoorW.PrintWords Go.Proofs.YtjoafafjpmfjbaaGreatDoorW.PrintLast Go.Proofs.YtjoafafjpmfjbaaGreatDoorW.PrintMore
set_option linter.unusedVariables false
set_option linter.unusedSimpArgs false

/-- Does a token stand where a kind's line has a word? -/
def fitsAt (kind : Int) (text : ByteArray) (p : Nat) (m : Int) : Bool := decide (p < (wordsI m).length) && fitsB kind text (gt (wordsI m) p)
/-- Is that word the length's? -/
def longAt (p : Nat) (m : Int) : Bool := decide (gt (wordsI m) p = ⟨#[35]⟩)
theorem zero_strs (w : World) : (zeroValue 124).run Tryz.prog w = .ok (.slice none 0 0) w := by kernel_rfl
theorem word_cell {w : World} {b : Nat} {m : Int} {p : Nat} (h : w.heap[b]? = some (.cells ((wordsI m).map Value.string).toArray 9 (0, 0))) (hp : p < (wordsI m).length) : w.cell? ⟨b, p, none⟩ = some (.string (gt (wordsI m) p)) := by
  rw [blk_cell h p, List.getElem?_toArray, List.getElem?_map, gt_some _ _ hp]
  rfl
set_option maxHeartbeats 3200000 in
set_option maxRecDepth 20000 in
theorem next_any (X M K : Nat) (S : Int → Bool) (p : Nat) (rk rl rf : Int) (hp9 : p ≤ 9) (kind : Int) (text : ByteArray) (n a : Int) (b0 : Bool) (w : World) (h : RdAt w X M K S p rk rl rf)
    (hlong : ∀ m, I64V m → S m = true → fitsAt kind text p m = true → longAt p m = b0) (i0 : Int) (hi0 : S i0 = true) (hf0 : fitsAt kind text p i0 = true) (hn : kind = 2 → n ≠ 0) :
    Calls Tryz.prog 27 #[.pointer (some ⟨X, 0, none⟩), .agg #[.int .i64 kind, .string text, .int .i64 n, .int .i64 a]] w fun e w' => e = .returned (.int .i64 0) ∧ (∃ K', RdAt w' X M K' (fun m => S m && fitsAt kind text p m) ((p : Int) + 1) rk (if kind = 2 ∧ b0 = true then n else rl) (if kind = 2 ∧ b0 = false then n else rf)) ∧
      Kept w w' (fun k => k = X) ∧ ∀ base W0, base ≤ X → base ≤ w.heap.size → Below base W0 w → Below base W0 w' := by
  have hmm := @run_makeMap Tryz.prog
  obtain ⟨T0, hT0⟩ : ∃ T0 : Array Value, T0 = #[.int .i64 kind, .string text, .int .i64 n, .int .i64 a] := ⟨_, rfl⟩
  have htb := blk_alloc (blk_new w (.cells #[.int .i64 kind, .string text, .int .i64 n, .int .i64 a] 81)) (.map #[] 0)
  have hlm := MapAt.made (w.alloc (.cells #[.int .i64 kind, .string text, .int .i64 n, .int .i64 a] 81))
  have hb2 := below_alloc (below_alloc (Below.refl w.heap.size w) (.cells #[.int .i64 kind, .string text, .int .i64 n, .int .i64 a] 81)) (.map #[] 0)
  have e1 := World.size_alloc w (.cells #[.int .i64 kind, .string text, .int .i64 n, .int .i64 a] 81)
  have e2 := World.size_alloc (w.alloc (.cells #[.int .i64 kind, .string text, .int .i64 n, .int .i64 a] 81)) (.map #[] 0)
  rw [e1] at e2 hlm
  obtain ⟨W2, hW2⟩ : ∃ W2, (w.alloc (.cells #[.int .i64 kind, .string text, .int .i64 n, .int .i64 a] 81)).alloc (.map #[] 0) = W2 := ⟨_, rfl⟩
  rw [hW2] at htb hlm hb2 e2
  have h2 := h.below hb2
  obtain ⟨nK, hnK, hkm⟩ := h2.kinds
  obtain ⟨w5, cnt, hrg, hra, hc4, hb5, hs5⟩ := hkm.range Tryz.underlying83
  rw [e2] at hrg hra
  have HW2 := Aside0.mk hW2
  have HH := Aside0.mk h
  have HRA := Aside0.mk hra
  have HTB := Aside0.mk (blk_below htb hb5)
  have HLM := Aside0.mk (hlm.below hb5)
  have HB5 := Aside0.mk (below_step hb2 hb5)
  have HLONG := Aside0.mk hlong
  have HN := Aside0.mk hn
  have HX2 := Aside0.mk h2.box
  have hXlt := blk_lt h.box
  have hKlt : K < w.heap.size := by obtain ⟨_, _, hk⟩ := h.kinds; exact hk.lt
  (have bx := HX2.out; have x0 := blk_cell bx 0; have x1 := blk_cell bx 1; have x2 := blk_cell bx 2; simp only [List.getElem?_toArray, List.getElem?_cons_zero, List.getElem?_cons_succ] at x0 x1 x2; clear bx)
  clear hT0 T0 htb hlm hb2 e1 e2 hW2 h2 hkm hra hb5 hs5 hlong hn h
  go_enter Tryz.func27, Tryz.ntmps27
  go_upto_region 2 with fail
  rw [HW2.out]
  clear hmm
  go_upto_region 4 with fail
  clear hrg x0 x1 x2
  go_loopg [6] cnt (fun gk v6 wr => ∃ (left : Int → Bool) (cnt' nn : Nat) (lb : Bool), Aside0 (gk = cnt') ∧ v6 = .bool lb ∧ Aside0 (RangeAt wr K (w.heap.size + 1 + 1) nK (setF S) left cnt') ∧ Aside0 (MapAt wr (w.heap.size + 1) nn (setF (fun m => (S m && fitsAt kind text p m) && !left m))) ∧ Aside0 (nn + cnt' ≤ nK) ∧
    Aside0 (∀ m, I64V m → left m = true → S m = true) ∧ Aside0 (∀ m, I64V m → S m = true → fitsAt kind text p m = true → left m = false → lb = b0) ∧ Aside0 (wr.heap[w.heap.size]? = some (.cells #[.int .i64 kind, .string text, .int .i64 n, .int .i64 a] 81 (0, 0))) ∧ Aside0 (Below w.heap.size w wr))
  case atStart =>
    have hS : ∀ m, ((setF S) m).isSome = S m := fun m => by unfold setF; cases S m <;> rfl
    refine ⟨_, cnt, 0, false, ⟨rfl⟩, rfl, HRA, ⟨?_⟩, ⟨by omega⟩, ⟨fun m hm h => by rw [← hS m]; exact h⟩, ⟨fun m hm h1 h2 h3 => by rw [show ((setF S) m).isSome = true by rw [hS m]; exact h1] at h3; cases h3⟩, HTB, HB5⟩
    have h0 : (fun _ : Int => (none : Option Value)) = setF (fun _ => false) := by funext m; unfold setF; rw [if_neg (by simp)]
    have hk := HLM.out
    rw [h0] at hk
    exact setF_congr hk (fun m hm => by rw [hS m]; cases S m <;> simp)
  case round =>
    obtain ⟨left, cnt', nn, lb, HGK, rfl, HRr, HLr, HNN, HSUB, HLB, HTr, HBr⟩ := hrel
    rcases HRr.out.next 0 with ⟨hdone, hrun⟩ | ⟨x, v, w', cnt2, hxv, hlx, hfx, hrun, hr2, hc2, hg2, hent⟩
    · have hi14 := HH.out.sub i0 hi0
      have hiv : I64V i0 := ⟨by omega, by omega⟩
      have hLk : MapAt wr (w.heap.size + 1) nn (setF (fun m => S m && fitsAt kind text p m)) := setF_congr HLr.out (fun m hm => by rw [hdone m hm]; simp)
      obtain ⟨k, hk1, hk2, hlen⟩ := hLk.len Tryz.underlying83 hiv (v := .bool true) (by simp [setF, hi0, hf0])
      have hk0 : ¬ ((k : Int) = 0) := by omega
      have hk0' : ((k : Int) == 0) = false := by simpa using hk0
      obtain rfl : lb = b0 := HLB.out i0 hiv hi0 hf0 (hdone i0 hiv)
      have hrd := HH.out.below HBr.out
      have hxb := hrd.box
      have HXB := Aside0.mk hxb
      have HLI := Aside0.mk hrd.all
      have HSU := Aside0.mk hrd.sub
      have HLK := Aside0.mk hLk
      have HNK : Aside0 (nn ≤ 4) := ⟨by have := HNN.out; omega⟩
      have z1 := blk_cell hxb 1
      have z2 := blk_cell hxb 2
      have z4 := blk_cell hxb 4
      have z5 := blk_cell hxb 5
      simp only [List.getElem?_toArray, List.getElem?_cons_zero, List.getElem?_cons_succ] at z1 z2 z4 z5
      have g1 := blk_frozen hxb 1
      have g2 := blk_frozen hxb 2
      have g4 := blk_frozen hxb 4
      have g5 := blk_frozen hxb 5
      have t0 := blk_cell HTr.out 0
      have t2 := blk_cell HTr.out 2
      simp only [List.getElem?_toArray, List.getElem?_cons_zero, List.getElem?_cons_succ] at t0 t2
      have hnX : w.heap.size ≠ X := by omega
      clear hrd hxb hLk hdone hiv hi14 hf0 hi0
      by_cases hk : kind = 2
      · subst hk
        have hn0 := HN.out rfl
        have hn0' : (n == 0) = false := by simpa using hn0
        cases lb
        · go_wp2_with fail
          go_ret
          (have x0' := blk_set HXB.out 5 (.int .i64 n); have x1 := blk_set x0' 1 (.map (some (w.heap.size + 1))); refine ⟨rfl, ⟨w.heap.size + 1, ?_, ((HLI.out.set HXB.out 5 _).set x0' 1 _).set x1 2 _, ⟨nn, HNK.out, ((HLK.out.same (Below.heap_setCell _ _ _ _ (by simp; omega))).same (Below.heap_setCell _ _ _ _ (by simp; omega))).same (Below.heap_setCell _ _ _ _ (by simp; omega))⟩, fun m h => HSU.out m (by simp only [Bool.and_eq_true] at h; exact h.1)⟩, (((Kept.of_below HBr.out (fun k => k = X)).setCell (p := ⟨X, 5, none⟩) (.inl rfl) _).setCell (p := ⟨X, 1, none⟩) (.inl rfl) _).setCell (p := ⟨X, 2, none⟩) (.inl rfl) _, fun base W0 h1 h2 h3 => (((h3.trans (HBr.out.mono h2)).setCell (p := ⟨X, 5, none⟩) h1 _).setCell (p := ⟨X, 1, none⟩) h1 _).setCell (p := ⟨X, 2, none⟩) h1 _⟩; exact (by exact blk_put (blk_put (blk_put HXB.out 5 _ rfl) 1 _ rfl) 2 _ rfl))
        · go_wp2_with fail
          go_ret
          (have x0' := blk_set HXB.out 4 (.int .i64 n); have x1 := blk_set x0' 1 (.map (some (w.heap.size + 1))); refine ⟨rfl, ⟨w.heap.size + 1, ?_, ((HLI.out.set HXB.out 4 _).set x0' 1 _).set x1 2 _, ⟨nn, HNK.out, ((HLK.out.same (Below.heap_setCell _ _ _ _ (by simp; omega))).same (Below.heap_setCell _ _ _ _ (by simp; omega))).same (Below.heap_setCell _ _ _ _ (by simp; omega))⟩, fun m h => HSU.out m (by simp only [Bool.and_eq_true] at h; exact h.1)⟩, (((Kept.of_below HBr.out (fun k => k = X)).setCell (p := ⟨X, 4, none⟩) (.inl rfl) _).setCell (p := ⟨X, 1, none⟩) (.inl rfl) _).setCell (p := ⟨X, 2, none⟩) (.inl rfl) _, fun base W0 h1 h2 h3 => (((h3.trans (HBr.out.mono h2)).setCell (p := ⟨X, 4, none⟩) h1 _).setCell (p := ⟨X, 1, none⟩) h1 _).setCell (p := ⟨X, 2, none⟩) h1 _⟩; exact (by exact blk_put (blk_put (blk_put HXB.out 4 _ rfl) 1 _ rfl) 2 _ rfl))
      · have hk' : (kind == 2) = false := by simpa using hk
        go_wp2_with fail
        go_ret
        have x1 := blk_set HXB.out 1 (.map (some (w.heap.size + 1)))
        refine ⟨rfl, ⟨w.heap.size + 1, ?_, (HLI.out.set HXB.out 1 _).set x1 2 _, ⟨nn, HNK.out, (HLK.out.same (Below.heap_setCell _ _ _ _ (by simp; omega))).same (Below.heap_setCell _ _ _ _ (by simp; omega))⟩, fun m h => HSU.out m (by simp only [Bool.and_eq_true] at h; exact h.1)⟩, ((Kept.of_below HBr.out (fun k => k = X)).setCell (p := ⟨X, 1, none⟩) (.inl rfl) _).setCell (p := ⟨X, 2, none⟩) (.inl rfl) _, fun base W0 h1 h2 h3 => ((h3.trans (HBr.out.mono h2)).setCell (p := ⟨X, 1, none⟩) h1 _).setCell (p := ⟨X, 2, none⟩) h1 _⟩
        exact blk_put (blk_put HXB.out 1 _ rfl) 2 _ rfl
    · have hsx := HSUB.out x hxv hlx
      have hx14 := HH.out.sub x hsx
      have HR2 := Aside0.mk hr2
      have HC2 := Aside0.mk hc2
      have HXV := Aside0.mk hxv
      have HSX := Aside0.mk hsx
      have HL2 := Aside0.mk (HLr.out.grown hg2 (fun e => by injection e with e; omega))
      have HT2 := Aside0.mk (blk_grown HTr.out hg2 (fun e => by injection e with e; omega))
      have hbb := pw_below_grown HBr.out (some (w.heap.size + 1 + 1)) HBr.out.size hg2 (fun k hk => by cases hk; omega)
      have HB2 := Aside0.mk hbb
      have hrd := HH.out.below hbb
      obtain ⟨f, hfM, hfs⟩ := hrd.all
      obtain ⟨b8, c8, hf8, hw8⟩ := (hfs x hxv).1 hx14
      have hlook := hfM.look Tryz.underlying82 (zero_strs w') x hxv
      rw [hf8, Option.getD_some] at hlook
      have HW8 := Aside0.mk hw8
      have HXB := Aside0.mk hrd.box
      obtain ⟨ln, hln⟩ : ∃ ln, ln = (wordsI x).length := ⟨_, rfl⟩
      rw [← hln] at hlook
      have HLN := Aside0.mk hln
      (have bx := HXB.out; have x0 := blk_cell bx 0; have x1 := blk_cell bx 1; have x2 := blk_cell bx 2; simp only [List.getElem?_toArray, List.getElem?_cons_zero, List.getElem?_cons_succ] at x0 x1 x2; clear bx)
      clear hr2 hc2 hg2 hbb hrd hfM hfs hf8 hw8 hln hxv hlx hfx hsx
      go_upto_region 7 with fail
      go_cut [42] (fun v42 wd => v42 = .bool (fitsAt kind text p x) ∧ Aside0 (Below w'.heap.size w' wd))
      case first =>
        by_cases hpl : p < ln
        · have i1 : (p : Int) < (ln : Int) := by omega
          have hwc := word_cell HW8.out (by rw [← HLN.out]; exact hpl)
          obtain ⟨ws, hws⟩ : ∃ ws, ws = gt (wordsI x) p := ⟨_, rfl⟩
          rw [← hws] at hwc
          have HWS := Aside0.mk hws
          have t0 := blk_cell HT2.out 0
          have t1 := blk_cell HT2.out 1
          have t2 := blk_cell HT2.out 2
          have t3 := blk_cell HT2.out 3
          simp only [List.getElem?_toArray, List.getElem?_cons_zero, List.getElem?_cons_succ] at t0 t1 t2 t3
          clear hws hlook hrun hent
          have HKP : Aside0 (∀ W, Below w'.heap.size w' W → W.cell? ⟨X, 2, none⟩ = some (.int .i64 p) ∧ W.cell? ⟨w.heap.size, 0, none⟩ = some (.int .i64 kind) ∧ W.cell? ⟨w.heap.size, 1, none⟩ = some (.string text) ∧ W.cell? ⟨w.heap.size, 2, none⟩ = some (.int .i64 n) ∧ W.cell? ⟨w.heap.size, 3, none⟩ = some (.int .i64 a) ∧ W.cell? ⟨b8, p, none⟩ = some (.string ws)) := ⟨fun W hb => ⟨cell_old hb x2, cell_old hb t0, cell_old hb t1, cell_old hb t2, cell_old hb t3, cell_old hb hwc⟩⟩
          go_region_held3 (fun W => W.cell? ⟨X, 2, none⟩ = some (.int .i64 p) ∧ W.cell? ⟨w.heap.size, 0, none⟩ = some (.int .i64 kind) ∧ W.cell? ⟨w.heap.size, 1, none⟩ = some (.string text) ∧ W.cell? ⟨w.heap.size, 2, none⟩ = some (.int .i64 n) ∧ W.cell? ⟨w.heap.size, 3, none⟩ = some (.int .i64 a) ∧ W.cell? ⟨b8, p, none⟩ = some (.string ws)) (first | exact HKP.out _ (below_drew (Below.refl _ _)) | exact HKP.out _ HB6.out) (first | (go_at_call 56; refine (fits_any _ _ _ _ _ _).mono ?_; rintro e w6 ⟨rfl, hbb⟩; have HB6 := Aside0.mk (below_step (below_drew (Below.refl w'.heap.size w')) hbb); clear hbb))
          all_goals (go_wp2_with fail)
          all_goals go_meet
          all_goals exact ⟨by unfold fitsAt; rw [← HLN.out, decide_eq_true hpl, ← HWS.out]; rfl, HB6⟩
        · have i1 : ¬ (p : Int) < (ln : Int) := by omega
          have i1' : decide ((p : Int) < (ln : Int)) = false := decide_eq_false i1
          go_quiet (fail)
          go_wp2_with fail
          go_meet
          case rel => exact ⟨by unfold fitsAt; rw [← HLN.out, decide_eq_false hpl]; rfl, ⟨pw_below_drewN (Below.refl _ _) _⟩⟩
      obtain ⟨rfl, HBC⟩ := hcut
      clear hrun hent hlook x0 x1 x2
      have HRC := Aside0.mk (HR2.out.below HBC.out)
      have HLC := Aside0.mk (HL2.out.below HBC.out)
      have HTC := Aside0.mk (blk_below HT2.out HBC.out)
      have HBW := Aside0.mk (below_step HB2.out HBC.out)
      obtain ⟨F, hF⟩ : ∃ F, F = fitsAt kind text p x := ⟨_, rfl⟩
      rw [← hF]
      have HF := Aside0.mk hF
      clear hF
      cases F
      · go_wp2_with fail
        go_roundg cnt2
        case measure => rw [HGK.out]; exact HC2.out
        case rel =>
          refine ⟨_, cnt2, nn, lb, ⟨rfl⟩, rfl, HRC, ⟨setF_congr HLC.out (fun m hm => ?_)⟩, ⟨by have := HNN.out; have := HC2.out; omega⟩, ⟨fun m hm h => HSUB.out m hm (by simp only [Bool.and_eq_true] at h; exact h.1)⟩, ⟨fun m hm h1 h2 h3 => ?_⟩, HTC, HBW⟩
          · by_cases e : m = x
            · subst e
              rw [← HF.out]; simp
            · have e2 : (m == x) = false := by simpa using e
              rw [e2]; simp
          · by_cases e : m = x
            · subst e
              rw [← HF.out] at h2; cases h2
            · have e2 : (m == x) = false := by simpa using e
              rw [e2] at h3
              exact HLB.out m hm h1 h2 (by simpa using h3)
      · have hpl : p < ln := by
          have := HF.out
          unfold fitsAt at this
          rw [← HLN.out] at this
          by_cases h : p < ln
          · exact h
          · rw [decide_eq_false h] at this; cases this
        have i1 : (p : Int) < (ln : Int) := by omega
        have hwc := blk_below HW8.out HBC.out
        have HWC := Aside0.mk hwc
        obtain ⟨ws, hws⟩ : ∃ ws, ws = gt (wordsI x) p := ⟨_, rfl⟩
        have hq : (ws.toList == [35]) = b0 := by
          rw [← HLONG.out x HXV.out HSX.out HF.out.symm]
          unfold longAt
          rw [← hws]
          by_cases h : ws = ⟨#[35]⟩
          · rw [str_same rfl h, decide_eq_true h]
          · rw [str_ne rfl h, decide_eq_false h]
        have HWS := Aside0.mk hws
        have HXC := Aside0.mk (blk_below HXB.out HBC.out)
        clear hwc hws
        go_wp2_with (refine put_map rfl 83 (.tmp 43) (.tmp 44) (.const (.bool true)) (.inl rfl) Tryz.underlying83 (w.heap.size + 1) nn _ HLC.out (by have := HNN.out; omega) rfl x HXV.out rfl (.bool true) rfl ?_; intro w7 hm7 hg7; have HL7 := Aside0.mk hm7; have HG7 := Aside0.mk hg7; have y2 := blk_cell (blk_grown HXC.out hg7 (fun e => by injection e with e; omega)) 2; have y5 := word_cell (blk_grown HWC.out hg7 (fun e => by injection e with e; exact HLC.out.ne HWC.out e.symm)) (by rw [← HLN.out]; exact hpl); rw [← HWS.out] at y5; simp only [List.getElem?_toArray, List.getElem?_cons_zero, List.getElem?_cons_succ] at y2; clear hm7 hg7)
        go_roundg cnt2
        case measure => rw [HGK.out]; exact HC2.out
        case rel =>
          refine ⟨_, cnt2, nn + 1, b0, ⟨rfl⟩, rfl, ⟨HRC.out.same HG7.out (fun e => by injection e with e; omega) (fun e => by injection e with e; omega)⟩, ⟨?_⟩, ⟨by have := HNN.out; have := HC2.out; omega⟩, ⟨fun m hm h => HSUB.out m hm (by simp only [Bool.and_eq_true] at h; exact h.1)⟩, ⟨fun m hm h1 h2 h3 => rfl⟩, ⟨blk_grown HTC.out HG7.out (fun e => by injection e with e; omega)⟩, ⟨pw_below_grown HBW.out (some (w.heap.size + 1)) HBW.out.size HG7.out (fun k hk => by cases hk; omega)⟩⟩
          have h3 := HL7.out
          rw [setF_put] at h3
          refine setF_congr h3 (fun m hm => ?_)
          by_cases e : m = x
          · subst e
            rw [← HF.out, HSX.out]; simp
          · have e2 : (m == x) = false := by simpa using e
            rw [e2]; simp
end Go.Proofs.YtjoafafjpmfjbaaGreatDoor
