/-
  Chapter 51: awake, which each law calls first.
-/
import Derived.Test.YtoglbbonfjnmpaaDoorPi
import Derived.Lib.SmallJoins
namespace Go.Proofs.YtoglbbonfjnmpaaDoor
open Go.RowKit Go.Proofs.YtoglbbonfjnmpaaDoorW.PrintWords Go.Proofs.YtoglbbonfjnmpaaDoorW.PrintLast Go.Proofs.YtoglbbonfjnmpaaDoorW.PrintMore
set_option linter.unusedVariables false
set_option linter.unusedSimpArgs false

theorem look_dec (l : List File) (nm : ByteArray) : look49 l nm = l.find? (fun f => decide (f.name = nm)) := by
  unfold look49
  congr 1
  funext f
  rw [str_eql]
def wildL : List UInt8 := (List.range 20).map (fun i => UInt8.ofNat (i * 13))
def nmA51 : ByteArray := ⟨#[97, 46, 112, 100, 102]⟩
def fA51 : File := ⟨nmA51, [37, 80, 68, 70, 45, 49]⟩
def fW51 : File := ⟨nmA51, wildL⟩
def fX51 : File := ⟨⟨#[97, 46, 112, 100, 102, 46, 120]⟩, []⟩
theorem aw_look : lookB [fA51] [fW51] true = ⟨true, true, false⟩ := by decide +kernel
theorem aw_ren : renN [fA51] [fX51] = 1 := by decide +kernel
theorem aw_wild : wildB wildL = true := by decide +kernel
theorem aw_wild10 : wildB (wildL.take 10) = false := by decide +kernel
theorem aw_spread : spreadN wildL = 20 := by decide +kernel
theorem aw_good : goodB (front4 ([127, 69, 76, 70] ++ List.replicate 28 0)) = true := by decide +kernel
theorem wild_step (k : Nat) (hk : k < 20) : (List.range (k + 1)).map (fun i => UInt8.ofNat (i * 13)) = (List.range k).map (fun i => UInt8.ofNat (i * 13)) ++ [UInt8.ofNat (k * 13)] := by
  rw [List.range_succ, List.map_append]
  rfl
theorem file_one51 {W : World} {N : Nat} {t : TypeId} {x : File} {A : Option Addr} {c n : Nat} (hb : W.heap[N]? = some (.cells #[.string x.name, .slice A n c] t (0, 0))) (hn : n = x.data.length) (hl : n ≤ c) (hC : byte.C W A n x.data) : kFile.C W (some ⟨N, 0, none⟩) 1 [x] := by
  subst hn
  refine C_block (d := kFile) (xs := [x]) hb ⟨rfl, fun j p hj => ?_⟩ (by simp)
  rcases j with _ | j
  · simp only [List.getElem?_cons_zero, Option.some.injEq] at hj
    subst hj
    exact kFile_mk W _ hl hC
  · simp at hj
theorem mild_one {x : File} (h1 : x.name.size ≤ 1000000) (h2 : x.data.length ≤ 1000000) : Mild [x] := by
  refine ⟨by simp, fun k hk => ?_⟩
  have : k = 0 := by simpa using hk
  subst this
  exact ⟨h1, h2⟩
/-- What awake holds behind its literals: a file's box, its data, the wild bytes. -/
structure AwIn (wr W : World) (Aw : Option Addr) : Prop where
  out : Below wr.heap.size wr W
  a : W.heap[wr.heap.size + 1]? = some (.cells #[.string ⟨#[97, 46, 112, 100, 102]⟩, .slice (some ⟨wr.heap.size, 0, none⟩) 6 6] 52 (0, 0))
  d : byte.C W (some ⟨wr.heap.size, 0, none⟩) 6 fA51.data
  wl : byte.C W Aw 20 wildL
theorem AwIn.below {wr W W' : World} {Aw : Option Addr} (h : AwIn wr W Aw) (hb : Below W.heap.size W W') : AwIn wr W' Aw := ⟨below_step h.out hb, blk_below h.a hb, Kd.C_below h.d hb, Kd.C_below h.wl hb⟩
theorem aw_mk (wr : World) (Aw : Option Addr) (h : byte.C wr Aw 20 wildL) : AwIn wr ((wr.alloc (.cells #[.int .u8 37, .int .u8 80, .int .u8 68, .int .u8 70, .int .u8 45, .int .u8 49] 5 (6, 7))).alloc (.cells #[.string ⟨#[97, 46, 112, 100, 102]⟩, .slice (some ⟨wr.heap.size, 0, none⟩) 6 6] 52)) Aw := by
  refine ⟨below_alloc (below_alloc (Below.refl _ _) _) _, blk_new2 wr _ _, ?_, Kd.C_below h (below_alloc (below_alloc (Below.refl _ _) _) _)⟩
  refine C_block (d := byte) (xs := fA51.data) (blk_alloc (blk_new wr _) _) ?_ (by decide)
  have := Kd.reps_scalar (enc := fun x : UInt8 => Value.int .u8 (x.toNat : Int)) fA51.data
  exact this
theorem AwIn.two {wr W : World} {Aw : Option Addr} (h : AwIn wr W Aw) (y : File) (Ay : Option Addr) (ny cy : Nat) (hy : ny = y.data.length) (hyc : ny ≤ cy) (hC : byte.C W Ay ny y.data) :
    let W2 := (W.alloc (.cells #[.string ⟨#[97, 46, 112, 100, 102]⟩, .slice (some ⟨wr.heap.size, 0, none⟩) 6 6] 52)).alloc (.cells #[.string y.name, .slice Ay ny cy] 52)
    AwIn wr W2 Aw ∧ kFile.C W2 (some ⟨W.heap.size, 0, none⟩) 1 [fA51] ∧ kFile.C W2 (some ⟨W.heap.size + 1, 0, none⟩) 1 [y] := by
  intro W2
  have hb : Below W.heap.size W W2 := below_alloc (below_alloc (Below.refl _ _) _) _
  have h2 := h.below hb
  exact ⟨h2, file_one51 (x := fA51) (blk_alloc (blk_new W _) _) rfl (Nat.le_refl _) h2.d, file_one51 (x := y) (blk_new2 W _ _) hy hyc (Kd.C_below hC hb)⟩
theorem look_as (A B : Option Addr) (before now : List File) (n1 n2 c1 c2 : Nat) (hn1 : before.length = n1) (hn2 : now.length = n2) (right a b c : Bool) (hS : lookB before now right = ⟨a, b, c⟩) (w : World) (h1 : kFile.C w A n1 before) (h2 : kFile.C w B n2 now) (hl : Mild before) (hm : Mild now) (he : EndAt w) (hn : NumAt w) :
    Calls Tryd.prog 24 #[.slice A n1 c1, .slice B n2 c2, .bool right] w fun e w' => e = .returned (.agg #[.bool a, .bool b, .bool c]) ∧ Below w.heap.size w w' := by
  subst hn1 hn2
  exact look_any A B before now c1 c2 right _ hS w h1 h2 hl hm he hn
theorem renames_as (A B : Option Addr) (before now : List File) (n1 n2 c1 c2 : Nat) (hn1 : before.length = n1) (hn2 : now.length = n2) (r : Nat) (hr : renN before now = r) (w : World) (h1 : kFile.C w A n1 before) (h2 : kFile.C w B n2 now) (hl : Mild before) (hm : Mild now) :
    Calls Tryd.prog 21 #[.slice A n1 c1, .slice B n2 c2] w fun e w' => e = .returned (.int .i64 (r : Int)) ∧ Below w.heap.size w w' := by
  subst hn1 hn2
  exact renames_any A B before now c1 c2 r hr w h1 h2 hl hm
theorem spread_as (A : Option Addr) (xs : List UInt8) (n : Nat) (hn : n = xs.length) (c : Nat) (r : Nat) (hr : spreadN xs = r) (w : World) (h : byte.C w A n xs) (hl : n ≤ 1000000) :
    Calls Tryd.prog 15 #[.slice A n c] w fun e w' => e = .returned (.int .i64 (r : Int)) ∧ Below w.heap.size w w' := by
  subst hn
  exact spread_any A xs c r hr w h hl
theorem mildA : Mild [fA51] := mild_one (by decide) (by decide)
theorem mildW : Mild [fW51] := mild_one (by decide) (by decide)
theorem mildX : Mild [fX51] := mild_one (by decide) (by decide)
set_option maxRecDepth 8000 in
set_option maxHeartbeats 1600000 in
theorem awake_any (w : World) (he : EndAt w) (hn : NumAt w) : Calls Tryd.prog 12 #[] w fun e w' => e = .returned (.bool true) ∧ Below w.heap.size w w' := by
  have HE := Aside0.mk he
  have HNM := Aside0.mk hn
  have kc := fun (w : World) (C : Array Value) (n c : Nat) => Lib.run_convert_bytes_const (P := Tryd.prog) w 22 5 C n c Tryd.underlying22 Tryd.underlying5
  clear he hn
  go_enter Tryd.func12, Tryd.ntmps12
  go_wp2_with fail
  go_loopg [5, 1, 2] 20 (fun gk i v1 _ wr => ∃ k : Nat, k ≤ 20 ∧ Aside0 (gk = 20 - k) ∧ i = .int .i64 k ∧ Aside0 (byte.R 5 wr w.heap.size (fun _ => True) v1 ((List.range k).map (fun i => UInt8.ofNat (i * 13)))) ∧ Aside0 (Below w.heap.size w wr))
  case atStart => exact ⟨0, by omega, ⟨rfl⟩, rfl, ⟨Kd.R_nil _ _ _ _ _⟩, ⟨Below.refl _ _⟩⟩
  case round =>
    obtain ⟨k, hk, HGK, rfl, HR, HB⟩ := hrel
    by_cases hlt : k < 20
    · have hv : ((UInt8.ofNat (k * 13)).toNat : Int) = (k : Int) * 13 := by
        simp [UInt8.toNat_ofNat']
        omega
      have hv0 : (0 : Int) ≤ (k : Int) * 13 := by omega
      have hv1 : (k : Int) * 13 ≤ 255 := by omega
      have HV := Aside0.mk hv
      have HS := Aside0.mk (wild_step k hlt)
      clear hv
      go_wp2_with ((with_reducible refine gate_builtin (b := .append) (xs := #[.tmp 8, .tmp 12]) rfl ?_); at_builtin; refine Kd.R_append byte (w0 := w) w.heap.size rfl (.tmp 8) (.tmp 12) 22 5 (.int .u8 0) 1 rfl Tryd.underlying22 info_byte rfl (by first | decide | exact Nat.succ_pos _) (by omega) _ ((List.range k).map (fun i => UInt8.ofNat (i * 13))) (UInt8.ofNat (k * 13)) [.int .u8 ((k : Int) * 13)] (fun _ => True) (fun _ => False) rfl ?aX1 ?aP1 (fun _ hk => hk.elim) ?aF1 ?aO1 ?aB1 ?aS1 ?aL1 ?_; (case aX1 => first | rfl | (go_simp; done) | (simp [go_sem]; done)); (case aP1 => exact (by show _ = [Value.int .u8 _]; rw [HV.out])); (case aB1 => exact HB.out); (case aF1 => exact (fun _ _ => trivial)); (case aO1 => exact HR.out); (case aS1 => exact (HB.out).size); (case aL1 => (simp; omega)); intro v1 w1 ho1 hb1 hg1 hat1; have HO := Aside0.mk ho1; have HB1 := Aside0.mk hb1; clear ho1 hb1 hg1 hat1)
      go_roundg (20 - (k + 1))
      case measure => have := HGK.out; omega
      case rel => exact ⟨k + 1, by omega, ⟨rfl⟩, by go_num, ⟨by rw [HS.out]; exact HO.out⟩, HB1⟩
    · have hk20 : k = 20 := by omega
      subst hk20
      obtain ⟨Aw, cw, rfl⟩ := Kd.R_slice HR.out
      have hW := (Kd.R_reads' HR.out).2.2
      have HW : Aside0 (byte.C wr Aw 20 wildL) := ⟨hW⟩
      clear hW
      have hcw : 20 ≤ cw := (Kd.R_reads' HR.out).2.1
      have hcw' : (10 : Int) ≤ (cw : Int) := by omega
      have ha := (aw_mk wr Aw HW.out).two fW51 Aw 20 cw rfl (Kd.R_reads' HR.out).2.1 (Kd.C_below HW.out (aw_mk wr Aw HW.out).out)
      simp only [World.size_alloc] at ha
      have HA0 := Aside0.mk ha
      clear ha
      go_wp2_with (first | (go_at_call 24; refine (look_as (some ⟨wr.heap.size + 1 + 1, 0, none⟩) (some ⟨wr.heap.size + 1 + 1 + 1, 0, none⟩) [fA51] [fW51] 1 1 1 1 rfl rfl true true true false aw_look _ HA0.out.2.1 HA0.out.2.2 mildA mildW (Kd.C_below HE.out (below_step HB.out HA0.out.1.out)) (Kd.C_below HNM.out (below_step HB.out HA0.out.1.out))).mono ?_; rintro e w1 ⟨rfl, hb⟩; have HA1 := Aside0.mk ((HA0.out.1.below hb).below (below_alloc (Below.refl _ _) (.cells #[.bool true, .bool true, .bool false] 41))); have a0 := blk_cell HA1.out.a 0; have a1 := blk_cell HA1.out.a 1; have ha2 := HA1.out.two fX51 none 0 0 rfl (Nat.le_refl _) (Kd.C_nil _ _); simp only [World.size_alloc] at ha2; have HA2 := Aside0.mk ha2; have HS1 := Aside0.mk (blk_new w1 (.cells #[.bool true, .bool true, .bool false] 41)); clear hb ha2) | (go_at_call 21; refine (renames_as (some ⟨w1.heap.size + 1, 0, none⟩) (some ⟨w1.heap.size + 1 + 1, 0, none⟩) [fA51] [fX51] 1 1 1 1 rfl rfl 1 aw_ren _ HA2.out.2.1 HA2.out.2.2 mildA mildX).mono ?_; rintro e w2 ⟨rfl, hb⟩; have HA3 := Aside0.mk (HA2.out.1.below hb); have HS2 := Aside0.mk (blk_below (blk_alloc (blk_alloc HS1.out (.cells #[.string ⟨#[97, 46, 112, 100, 102]⟩, .slice (some ⟨wr.heap.size, 0, none⟩) 6 6] 52)) (.cells #[.string ⟨#[97, 46, 112, 100, 102, 46, 120]⟩, .slice none 0 0] 52)) hb); clear hb) | (go_at_call_of 17 (Value.slice Aw 20 cw); refine (wild_as Aw wildL 20 rfl cw true aw_wild _ HA3.out.wl (by decide)).mono ?_; rintro e w3 ⟨rfl, hb⟩; have HA4 := Aside0.mk (HA3.out.below hb); have HS3 := Aside0.mk (blk_below HS2.out hb); clear hb) | (go_at_call_of 17 (Value.slice Aw 10 cw); refine (wild_as Aw (wildL.take 10) 10 rfl cw false aw_wild10 _ (C_front HA4.out.wl (m := 10) (by decide)) (by decide)).mono ?_; rintro e w4 ⟨rfl, hb⟩; have HA5 := Aside0.mk (HA4.out.below hb); have HS4 := Aside0.mk (blk_below HS3.out hb); clear hb) | (go_at_call 15; refine (spread_as Aw wildL 20 rfl cw 20 aw_spread _ HA5.out.wl (by decide)).mono ?_; rintro e w5 ⟨rfl, hb⟩; have HA6 := Aside0.mk (HA5.out.below hb); have HS5 := Aside0.mk (blk_below HS4.out hb); clear hb) | ((with_reducible refine gate_dst (N := 51) rfl ?_); refine build_on rfl 24 _ rfl (bytesV ([127, 69, 76, 70] ++ List.replicate 28 0)).toArray (by kernel_rfl) ?_) | (go_at_call 19; refine (pmagic_any ([127, 69, 76, 70] ++ List.replicate 28 0) rfl true aw_good _ (Kd.C_below HNM.out (below_step HB.out HA6.out.out))).mono ?_; rintro e w6 ⟨rfl, hb⟩; have HA7 := Aside0.mk (HA6.out.below hb); have HS6 := Aside0.mk (blk_below HS5.out hb); have s0 := blk_cell HS6.out 0; have s1 := blk_cell HS6.out 1; have s2 := blk_cell HS6.out 2; simp only [List.getElem?_toArray, List.getElem?_cons_zero, List.getElem?_cons_succ] at s0 s1 s2; clear hb) | (go_at_call_of 26 (Value.agg #[Value.bool true, Value.bool true, Value.bool false]); refine (bad_any true true false true rfl _).mono ?_; rintro e w7 ⟨rfl, hb⟩; have HA8 := Aside0.mk (HA7.out.below hb); clear hb) | (go_at_call_of 26 (Value.agg #[Value.bool false, Value.bool false, Value.bool false]); refine (bad_any false false false false rfl _).mono ?_; rintro e w8 ⟨rfl, hb⟩; have HA9 := Aside0.mk (HA8.out.below hb); clear hb))
      go_ret
      exact ⟨rfl, below_step HB.out HA9.out.out⟩
end Go.Proofs.YtoglbbonfjnmpaaDoor
