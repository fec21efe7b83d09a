/-
  Chapter 51: the law's own disks (ProbeMounted), walked: files that were made are read back.
-/
import Derived.Test.YtoglbbonfjnmpaaDoorRp4
import Derived.Test.YtoglbbonfjnmpaaDoorRd4
namespace Go.Proofs.YtoglbbonfjnmpaaDoor
open Go.RowKit Go.Proofs.YtoglbbonfjnmpaaDoorW.PrintWords Go.Proofs.YtoglbbonfjnmpaaDoorW.PrintLast Go.Proofs.YtoglbbonfjnmpaaDoorW.PrintMore
set_option linter.unusedVariables false
set_option linter.unusedSimpArgs false

theorem results_ct {fn : Func} {p u : Tmp} (h : fn.results = #[.cell p 24, .tmp u]) (tmps : Array Value) (w : World) (g : Nat) (xs : List UInt8) (hl : xs.length = 32)
    (hp : tmps.getD p undef = .pointer (some ⟨g, 0, none⟩)) (hg : w.heap[g]? = some (.cells (bytesV xs).toArray 24 (0, 0))) : (results fn tmps).run Tryd.prog w = .ok (.tuple #[.agg (bytesV xs).toArray, tmps.getD u undef]) w := by
  have hp' : tmps[p]?.getD undef = .pointer (some ⟨g, 0, none⟩) := by simpa using hp
  simp [results, h, hp', asAddr, run_load_block (⟨g, 0, none⟩ : Addr) xs hl (block_cells hg)]
/-- What the law's disk tells. -/
def tellL (L : List (List UInt8)) (n : Nat) : List UInt8 := if n < L.length then gt L n else zeroB
/-- The box of the law's disk. -/
structure MntAt (w : World) (B1 : Nat) (L : List (List UInt8)) (A : Option Addr) (n c : Nat) : Prop where
  len : L.length = n
  cell1 : w.cell? ⟨B1, 0, none⟩ = some (.slice A n c)
  row : kBlock.C w A n L
  form : 0 < n → ∃ g, A = some ⟨g, 0, none⟩
theorem MntAt.below {w w' : World} {B1 : Nat} {L : List (List UInt8)} {A : Option Addr} {n c : Nat} (h : MntAt w B1 L A n c) (hb : Below w.heap.size w w') : MntAt w' B1 L A n c :=
  ⟨h.len, cell_old hb h.cell1, Kd.C_below h.row hb, h.form⟩
def Mt1Post (L : List (List UInt8)) (n : Nat) (w : World) (e : Ending) (w' : World) : Prop := ∃ b ok, e = .returned (.tuple #[.agg (bytesV b).toArray, .bool ok]) ∧ b.length = 32 ∧ (if ok = true then b else zeroB) = tellL L n ∧ Below w.heap.size w w'
set_option maxRecDepth 8000 in
set_option maxHeartbeats 3200000 in
theorem mount11_any (B1 n m : Nat) (L : List (List UInt8)) (A : Option Addr) (c : Nat) (w : World) (h : MntAt w B1 L A m c) (hn : n ≤ 1000) :
    Calls Tryd.prog 30 #[.int .i64 (n : Int), .pointer (some ⟨B1, 0, none⟩)] w (Mt1Post L n w) := by
  have hb1 := below_alloc (Below.refl w.heap.size w) (.cells (bytesV zeroB).toArray 24)
  have hz := blk_new w (.cells (bytesV zeroB).toArray 24)
  obtain ⟨W1, hW1⟩ : ∃ W1, W1 = w.alloc (.cells (bytesV zeroB).toArray 24) := ⟨_, rfl⟩
  rw [← hW1] at hb1 hz
  have h1 := h.below hb1
  obtain ⟨R, hR⟩ : ∃ R, R = w.heap.size := ⟨_, rfl⟩
  rw [← hR] at hz
  have HW1 := Aside0.mk hW1
  have HR := Aside0.mk hR
  have HZ := Aside0.mk hz
  have HB1 := Aside0.mk hb1
  have H1 := Aside0.mk h1
  have HFIN : Aside0 (∀ W5, W1.grownBy W5 (some R) → Below w.heap.size w W5) := ⟨fun W5 hg => pw_below_grown hb1 (some R) hb1.size hg (fun k hk => by cases hk; omega)⟩
  clear hb1 hz h1 h
  go_enter Tryd.func30, Tryd.ntmps30
  go_upto_region 0 with fail
  go_cut [3, 4] (fun v4 v5 wd => v4 = .pointer (some ⟨R, 0, none⟩) ∧ Aside0 (wd = W1))
  case first =>
    go_wp2_with fail
    go_meet
    case rel => exact ⟨by rw [HR.out], ⟨HW1.out.symm⟩⟩
  obtain ⟨rfl, HWC⟩ := hcut
  rw [HWC.out]
  clear HWC hW1 hR
  have y1 := H1.out.cell1
  have h0 : ¬ ((n : Int) < 0) := by omega
  by_cases hlt : n < m
  · have hge : ¬ ((m : Int) ≤ (n : Int)) := by omega
    obtain ⟨g, hg⟩ := H1.out.form (by omega)
    have hro := H1.out.row
    rw [hg] at y1 hro
    have hbi := block_in hro hlt
    obtain ⟨b, hb⟩ : ∃ b, b = gt L n := ⟨_, rfl⟩
    rw [← hb] at hbi
    have HB := Aside0.mk hb
    have hb32 := hbi.1
    have HBI := Aside0.mk hbi.2
    have HT : Aside0 (tellL L n = b) := ⟨by unfold tellL; rw [if_pos (by rw [H1.out.len]; exact hlt), HB.out]⟩
    clear hb hbi hro
    go_wp2_with (first | ((with_reducible refine gate_dst (N := 17) rfl ?_); refine load_block rfl _ rfl ⟨g, n * 32, none⟩ rfl b hb32 HBI.out ?_) | ((with_reducible refine gate_store (t := 24) (p := 3) rfl ?_); refine store_block_blk rfl (.tmp 3) (.tmp 17) rfl R zeroB rfl HZ.out rfl b hb32 rfl ?_; intro W5 hb5 hg5; have HB5 := Aside0.mk hb5; have HG5 := Aside0.mk hg5; clear hb5 hg5))
    refine bodyPost_ret (results_ct rfl _ _ R b hb32 rfl HB5.out) rfl ?_
    exact Exists.intro b (Exists.intro true ⟨rfl, hb32, HT.out.symm, HFIN.out _ HG5.out⟩)
  · have hge : (m : Int) ≤ (n : Int) := by omega
    have HT : Aside0 (tellL L n = zeroB) := ⟨by unfold tellL; rw [if_neg]; rw [H1.out.len]; exact hlt⟩
    go_wp2_with (first | ((with_reducible refine gate_dst (N := 13) rfl ?_); refine build_on rfl 24 _ rfl (bytesV zeroB).toArray (by exact build_zero) ?_) | ((with_reducible refine gate_store (t := 24) (p := 3) rfl ?_); refine store_block_blk rfl (.tmp 3) (.tmp 13) rfl R zeroB rfl HZ.out rfl zeroB rfl rfl ?_; intro W5 hb5 hg5; have HB5 := Aside0.mk hb5; have HG5 := Aside0.mk hg5; clear hb5 hg5))
    refine bodyPost_ret (results_ct rfl _ _ R zeroB rfl rfl HB5.out) rfl ?_
    exact Exists.intro zeroB (Exists.intro false ⟨rfl, rfl, HT.out.symm, HFIN.out _ HG5.out⟩)
theorem mnt_tells {w : World} {B1 m : Nat} {L : List (List UInt8)} {A : Option Addr} {c : Nat} (h : MntAt w B1 L A m c) :
    Tells 30 #[.pointer (some ⟨B1, 0, none⟩)] w.heap.size (fun _ W => Below w.heap.size w W) (tellL L) where
  call := fun n W hJ _ hn => (mount11_any B1 n m L A c W (h.below hJ) hn).mono fun e W' hp => by
    obtain ⟨b, ok, he, hl, ht, hb⟩ := hp
    exact ⟨b, ok, he, hl, ht, below_step hJ hb, KeptX.of_below hb⟩
  keep := fun n W W' hJ hb => hJ.trans hb
  enters := fun args w => by rfl
theorem tellL_len {L : List (List UInt8)} (h : ∀ i, i < L.length → (gt L i).length = 32) (n : Nat) : (tellL L n).length = 32 := by
  unfold tellL
  split
  · next hn => exact h n hn
  · rfl
theorem row_32 {e : Nat} {W : World} {base n c : Nat} {ok : Nat → Prop} {A : Option Addr} {L : List (List UInt8)} (h : kBlock.R e W base ok (.slice A n c) L) : n = L.length ∧ ∀ i, i < L.length → (gt L i).length = 32 := by
  have hC := readsS' h
  obtain ⟨A', c', he, hl, _⟩ := Kd.R_reads h
  cases he
  refine ⟨rfl, fun i hi => ?_⟩
  obtain ⟨g, rfl, _, _⟩ := R_formV h (by omega)
  exact (block_in hC hi).1
theorem make_at (A : Option Addr) (l : List File) (N c : Nat) (hN : l.length = N) (w : World) (h : kFile.C w A N l) (hs : ∀ k, k < l.length → (gt l k).name.size ≤ 9223372036854775807) (hmg : MagicAt w) (n : Nat) (hn : (makeV l).length = n) (E : Int) (hE : makeE l = E) :
    Calls Tryd.prog 27 #[.slice A N c] w fun e w' => ∃ Aa ca, e = .returned (.tuple #[.slice Aa n ca, .int .i64 E]) ∧ kBlock.R 24 w' w.heap.size (fun _ => True) (.slice Aa n ca) (makeV l) ∧ Below w.heap.size w w' := by
  subst hN
  exact make_as A l c w h hs hmg n hn E hE
/-- The disk that was made, read. -/
theorem mount_read {l : List File} (h : makeE l = 0) (h32 : ∀ i, i < (makeV l).length → (gt (makeV l) i).length = 32) : readB (tellL (makeV l)) = some l := by
  obtain ⟨h8, ht, hv⟩ := makeE_zero h
  refine made_read (fun n => tellL_len h32 n) h8 ht (fun i hi => ?_)
  unfold tellL
  rw [if_pos (by rw [hv]; exact hi), hv]
/-- fs.Read of the law's own disk, of files that were made. -/
theorem read_mount (l : List File) (hE : makeE l = 0) (n : Nat) (hn : l.length = n) (B1 m c : Nat) (A : Option Addr) (h32 : ∀ i, i < (makeV l).length → (gt (makeV l) i).length = 32) (w : World) (h : MntAt w B1 (makeV l) A m c) (hmg : MagicAt w) :
    Calls Tryd.prog 29 #[.func (.func 30) #[] #[.pointer (some ⟨B1, 0, none⟩)]] w fun e w' => ∃ A' c', e = .returned (.tuple #[.slice A' n c', .int .i64 0]) ∧ kFile.C w' A' n l ∧ Below w.heap.size w w' := by
  subst hn
  have hr := mount_read hE h32
  refine (read_any _ _ w _ (tellL (makeV l)) (tellL_len h32) (mnt_tells h) (Below.refl _ _) hmg (fun _ W hb => Kd.C_below hmg hb)).mono fun e w' hp => ?_
  rcases hp with ⟨h1, he, m, _, hb⟩ | ⟨l', A', c', h1, he, hlc, hC, hb⟩
  · rw [hr] at h1
    cases h1
  · rw [hr] at h1
    cases h1
    exact ⟨A', c', he, hC, hb⟩
set_option maxHeartbeats 3200000 in
theorem mount_any {b0 : Nat} {ok : Nat → Prop} (l : List File) (hE : makeE l = 0) (n : Nat) (hn : l.length = n) (m c : Nat) (hm : (makeV l).length = m) (A : Option Addr) (w : World) (h : kBlock.R 24 w b0 ok (.slice A m c) (makeV l)) (hmg : MagicAt w) :
    Calls Tryd.prog 28 #[.slice A m c] w fun e w' => ∃ A' c', e = .returned (.slice A' n c') ∧ kFile.C w' A' n l ∧ Below w.heap.size w w' := by
  have HE := Aside0.mk hE
  have HN := Aside0.mk hn
  have H32 := Aside0.mk (row_32 h).2
  have hb1 := below_alloc (Below.refl w.heap.size w) (.cells #[.slice A m c] 56)
  have HM : Aside0 (MntAt (w.alloc (.cells #[.slice A m c] 56)) w.heap.size (makeV l) A m c) := ⟨⟨hm, by simp, by have := readsS' h; rw [hm] at this; exact Kd.C_below this hb1, fun hp => (R_formV h hp).imp fun g hg => hg.1⟩⟩
  have HMG := Aside0.mk (Kd.C_below hmg hb1)
  have HB1 := Aside0.mk hb1
  clear hE hn hb1 h hmg hm
  go_enter Tryd.func28, Tryd.ntmps28
  go_wp2_with (go_at_call 29; refine (read_mount l HE.out n HN.out w.heap.size m c A H32.out _ HM.out HMG.out).mono ?_; rintro e w2 ⟨A', c', rfl, hC, hb⟩; have HC := Aside0.mk hC; have HB2 := Aside0.mk (below_step HB1.out hb); clear hC hb)
  go_ret
  exact ⟨_, _, rfl, HC.out, HB2.out⟩
end Go.Proofs.YtoglbbonfjnmpaaDoor
