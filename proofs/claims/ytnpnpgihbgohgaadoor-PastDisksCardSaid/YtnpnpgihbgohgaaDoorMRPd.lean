/-
  PastDisks: the card. For whatever was seen the law returns true. No condition beyond the row's own.
-/
import Derived.Test.YtnpnpgihbgohgaaDoorGd
import Derived.Test.YtnpnpgihbgohgaaDoorGe
import Derived.Test.YtnpnpgihbgohgaaDoorGn
import Derived.Test.YtnpnpgihbgohgaaDoorGp
import Derived.Maps.OwnSet
import Derived.Maps.Views
import Derived.Test.YtnpnpgihbgohgaaDoorGb
import Derived.Test.YtnpnpgihbgohgaaDoorRows
import Derived.Test.YtnpnpgihbgohgaaDoorCards
import Derived.Test.YtnpnpgihbgohgaaDoorTie
import Derived.SevenTiedAt
/-
  Chapter 50: a map from moments to disks; a moment's number is one that may be.
-/
namespace Go.Proofs.YtnpnpgihbgohgaaDoor
open Go.ChangeShapes Go.WideShapes Go.ChangeAt Go.RowKit Go.Proofs.YtnpnpgihbgohgaaDoorW.PrintWords Go.Proofs.YtnpnpgihbgohgaaDoorW.PrintLast Go.Proofs.YtnpnpgihbgohgaaDoorW.PrintMore
set_option linter.unusedVariables false
set_option linter.unusedSimpArgs false

def U64V (m : Int) : Prop := 0 ≤ m ∧ m ≤ 18446744073709551615
theorem key_u64 (m : Int) (h : U64V m) : keyOf Tryd.prog 28 (.int .u64 m) = some (.int .u64 m) := Maps.keyOf_int_mk Tryd.underlying28 (by
  obtain ⟨h1, h2⟩ := h
  simp [Lit.wf, IntKind.min, IntKind.max, IntKind.bits, IntKind.signed]
  omega)
theorem zero_blocks (w : World) : (zeroValue 33).run Tryd.prog w = .ok (.slice none 0 0) w := by kernel_rfl
/-- An element reads as itself. -/
def valV (v : Value) : Option (DataW Value × List MemPlace) := some (.held v, [])
def MapD (D : DataW Value) (f : Int → Option Value) : Prop := ∀ m, U64V m → (∀ v, f m = some v → ∀ z, D.atKey (.int .u64 m) z = .held v) ∧ (f m = none → ∀ z, D.atKey (.int .u64 m) z = z)
def MapAt (w : World) (mb n : Nat) (f : Int → Option Value) : Prop := ∃ D : DataW Value, w.ownsMap Tryd.prog 28 valV mb n D ∧ MapD D f
theorem MapAt.made (w : World) : MapAt (w.alloc (.map #[] 0)) w.heap.size 0 (fun _ => none) :=
  ⟨.map [], World.ownsMap_made w _ _ _, fun i _ => ⟨fun b h => (by cases h), fun _ z => Maps.atKey_of_not_has (by simp [Maps.has]) z⟩⟩
theorem MapAt.lt {w : World} {mb n : Nat} {f : Int → Option Value} (h : MapAt w mb n f) : mb < w.heap.size := by
  obtain ⟨D, ho, _⟩ := h
  exact ho.lt
theorem MapAt.below {w w1 : World} {mb n N : Nat} {f : Int → Option Value} (h : MapAt w mb n f) (hbn : mb < N) (hb : Below N w w1) : MapAt w1 mb n f := by
  obtain ⟨D, ho, hD⟩ := h
  obtain ⟨es, clock, hbk, F, hs, hDe⟩ := ho
  exact ⟨D, ⟨es, clock, (hb.block mb hbn).trans hbk, F, hs, hDe⟩, hD⟩
set_option maxRecDepth 8000 in
theorem MapAt.look {w : World} {mb n : Nat} {f : Int → Option Value} (h : MapAt w mb n f) (m : Int) (hm : U64V m) :
    (Instr.lookup 25 (.map (some mb)) (.int .u64 m) true).run Tryd.prog w = .ok (.tuple #[(f m).getD (.slice none 0 0), .bool (f m).isSome]) w := by
  obtain ⟨D, ⟨es, clock, hb, F, hs, rfl⟩, hD⟩ := h
  obtain ⟨h1, h2⟩ := hD m hm
  rcases Maps.fit_look true (Maps.int_keyed Tryd.underlying28) Tryd.underlying25 (zero_blocks w) hb F (key_u64 m hm) with ⟨hrun, _, hat⟩ | ⟨e0, y, _, _, hrun, hRv, hat, _⟩
  · cases hf : f m with
    | some b =>
      have := h1 b hf .nil
      rw [hat .nil] at this
      cases this
    | none =>
      simp only [Option.getD_none, Option.isSome_none]
      simpa only [if_true] using hrun
  · have hy : y = (.held e0.val, []) := by
      unfold valV at hRv
      injection hRv with e
      exact e.symm
    cases hf : f m with
    | none =>
      have := h2 hf .nil
      rw [hat .nil, hy] at this
      cases this
    | some b =>
      have := h1 b hf .nil
      rw [hat .nil, hy] at this
      injection this with hv2
      rw [hv2] at hrun
      simp only [Option.getD_some, Option.isSome_some]
      simpa only [if_true] using hrun
def putM (f : Int → Option Value) (m : Int) (v : Value) : Int → Option Value := fun j => if j = m then some v else f j
set_option maxRecDepth 8000 in
theorem MapAt.put {w : World} {mb n : Nat} {f : Int → Option Value} (h : MapAt w mb n f) (hn : n ≤ 1000000) (m : Int) (hm : U64V m) (v : Value) :
    ∃ w', (Instr.mapUpdate 25 (.map (some mb)) (.int .u64 m) v).run Tryd.prog w = .ok () w' ∧ MapAt w' mb (n + 1) (putM f m v) ∧ w.grownBy w' (some mb) := by
  obtain ⟨D, ho, hD⟩ := h
  obtain ⟨w', h1, h2, h3⟩ := ho.update (Maps.int_keyed Tryd.underlying28) Tryd.underlying25 (by unfold maxLen; omega) (key_u64 m hm) (d := .held v) (ps := []) rfl
  refine ⟨w', h1, ⟨_, h2, fun j hj => ?_⟩, h3⟩
  by_cases he : j = m
  · subst he
    refine ⟨fun b' hb' => ?_, fun hf => ?_⟩
    · unfold putM at hb'
      rw [if_pos rfl] at hb'
      injection hb' with hb'
      subst hb'
      exact fun z => Maps.atKey_put_same ho.isMap (by first | trivial | exact ⟨_, rfl⟩ | constructor) _ _
    · unfold putM at hf
      rw [if_pos rfl] at hf
      cases hf
  · unfold putM
    rw [if_neg he]
    have ho' : ∀ z, (D.put (.int .u64 m) (.held v)).atKey (.int .u64 j) z = D.atKey (.int .u64 j) z := fun z => Maps.atKey_put_other (fun e => he (by injection e with _ e)) _ _
    exact ⟨fun b' hb' z => by rw [ho' z]; exact (hD j hj).1 b' hb' z, fun hf z => by rw [ho' z]; exact (hD j hj).2 hf z⟩
section
variable {H : Type} {enc : TypeId × Value → H}
theorem el_seen2 {W : World} (n : Nat) (cs : List Value) (z : DataW H × List MemPlace) (h : DataW.trod enc Tryd.prog W 0 (fun _ => true) true n 50 cs = some z) (hw : ∀ m ∈ z.1.weights Tryd.prog 50, m ≤ reachBytes) :
    ∃ y, kSeen.K W y cs ∧ (y.data.length ≤ 140737488351232 ∧ (Lit.int .u64 y.moment).wf = true) := by
  obtain ⟨xs, k, _, rfl, hl, hxl, hf⟩ := DataW.trod_struct Tryd.underlying50 h
  rw [cells_seen] at hl
  match cs, hl with
  | [c0, c1, c2, c3], _ =>
    match xs, hxl with
    | [y0, y1, y2, y3], _ =>
      have e0 : DataW.trod enc Tryd.prog W 0 (fun _ => true) true k 28 [c0] = some y0 := hf 0 _ rfl
      have e1 : DataW.trod enc Tryd.prog W 0 (fun _ => true) true k 4 [c1] = some y1 := hf 1 _ rfl
      have e2 : DataW.trod enc Tryd.prog W 0 (fun _ => true) true k 4 [c2] = some y2 := hf 2 _ rfl
      have e3 : DataW.trod enc Tryd.prog W 0 (fun _ => true) true k 45 [c3] = some y3 := hf 3 _ rfl
      obtain ⟨m0, h0, hy0, hwf⟩ := DataW.trod_int Tryd.underlying28 e0
      obtain ⟨b1, h1, _⟩ := DataW.trod_bool Tryd.underlying4 e1
      obtain ⟨b2, h2', _⟩ := DataW.trod_bool Tryd.underlying4 e2
      obtain ⟨A, c, l, rfl, h2, h3, h4⟩ := open_bytes Tryd.underlying45 Tryd.underlying5 cells_byte bytes_byte e3 (fun m hm => hw m (weights_agg Tryd.underlying50 (i := 3) rfl rfl hm))
      cases h0; cases h1; cases h2'
      exact ⟨⟨m0, b1, b2, l⟩, ⟨[.int .u64 m0], [.bool b1, .bool b2, .slice A l.length c], rfl, rfl, ⟨[.bool b1], [.bool b2, .slice A l.length c], rfl, rfl, ⟨[.bool b2], [.slice A l.length c], rfl, rfl, ⟨A, c, rfl, h2, h3⟩⟩⟩⟩, h4, hwf⟩
end
end Go.Proofs.YtnpnpgihbgohgaaDoor
/-
  Chapter 50, PastDisks: the law's disks, told by blocks and read as files.
-/
namespace Go.Proofs.YtnpnpgihbgohgaaDoor
open Go.RowKit Go.Proofs.YtnpnpgihbgohgaaDoorW.PrintWords Go.Proofs.YtnpnpgihbgohgaaDoorW.PrintLast Go.Proofs.YtnpnpgihbgohgaaDoorW.PrintMore
set_option linter.unusedVariables false
set_option linter.unusedSimpArgs false

theorem results_cP {fn : Func} {p u : Tmp} (h : fn.results = #[.cell p 41, .tmp u]) (tmps : Array Value) (w : World) (g : Nat) (xs : List UInt8) (hl : xs.length = 32)
    (hp : tmps.getD p undef = .pointer (some ⟨g, 0, none⟩)) (hg : w.heap[g]? = some (.cells (bytesV xs).toArray 41 (0, 0))) : (results fn tmps).run Tryd.prog w = .ok (.tuple #[.agg (bytesV xs).toArray, tmps.getD u undef]) w := by
  have hp' : tmps[p]?.getD undef = .pointer (some ⟨g, 0, none⟩) := by simpa using hp
  simp [results, h, hp', asAddr, run_load_block (⟨g, 0, none⟩ : Addr) xs hl (block_cells hg)]
/-- What the law's disk tells. -/
def tellP (L : List (List UInt8)) (n : Nat) : List UInt8 := if n < L.length then gt L n else zeroB
/-- The box of the law's disk. -/
structure PkAt (w : World) (B1 : Nat) (L : List (List UInt8)) (A : Option Addr) (n c : Nat) : Prop where
  len : L.length = n
  cell1 : w.cell? ⟨B1, 0, none⟩ = some (.slice A n c)
  row : kBlock.C w A n L
theorem PkAt.below {w w' : World} {B1 : Nat} {L : List (List UInt8)} {A : Option Addr} {n c : Nat} (h : PkAt w B1 L A n c) (hb : Below w.heap.size w w') : PkAt w' B1 L A n c :=
  ⟨h.len, cell_old hb h.cell1, Kd.C_below h.row hb⟩
def Pk1Post (L : List (List UInt8)) (n : Nat) (w : World) (e : Ending) (w' : World) : Prop := ∃ b ok, e = .returned (.tuple #[.agg (bytesV b).toArray, .bool ok]) ∧ b.length = 32 ∧ (if ok = true then b else zeroB) = tellP L n ∧ Below w.heap.size w w'
set_option maxRecDepth 8000 in
set_option maxHeartbeats 3200000 in
theorem pk11_any (B1 n m : Nat) (L : List (List UInt8)) (A : Option Addr) (c : Nat) (w : World) (h : PkAt w B1 L A m c) (hn : n ≤ 1000) :
    Calls Tryd.prog 11 #[.int .i64 (n : Int), .pointer (some ⟨B1, 0, none⟩)] w (Pk1Post L n w) := by
  have hb1 := below_alloc (Below.refl w.heap.size w) (.cells (bytesV zeroB).toArray 41)
  have hz := blk_new w (.cells (bytesV zeroB).toArray 41)
  obtain ⟨W1, hW1⟩ : ∃ W1, W1 = w.alloc (.cells (bytesV zeroB).toArray 41) := ⟨_, rfl⟩
  rw [← hW1] at hb1 hz
  have h1 := h.below hb1
  obtain ⟨R, hR⟩ : ∃ R, R = w.heap.size := ⟨_, rfl⟩
  rw [← hR] at hz
  have HW1 := Aside0.mk hW1
  have HR := Aside0.mk hR
  have HZ := Aside0.mk hz
  have HB1 := Aside0.mk hb1
  have H1 := Aside0.mk h1
  have HFIN : Aside0 (∀ W5, W1.grownBy W5 (some R) → Below w.heap.size w W5) := ⟨fun W5 hg => pw_below_grown hb1 (some R) hb1.size hg (fun k hk => by cases hk; omega)⟩
  clear hb1 hz h1 h
  go_enter Tryd.func11, Tryd.ntmps11
  go_upto_region 0 with fail
  go_cut [3, 4] (fun v4 v5 wd => v4 = .pointer (some ⟨R, 0, none⟩) ∧ Aside0 (wd = W1))
  case first =>
    go_wp2_with fail
    go_meet
    case rel => exact ⟨by rw [HR.out], ⟨HW1.out.symm⟩⟩
  obtain ⟨rfl, HWC⟩ := hcut
  rw [HWC.out]
  clear HWC hW1 hR
  have y1 := H1.out.cell1
  have h0 : ¬ ((n : Int) < 0) := by omega
  by_cases hlt : n < m
  · have hge : ¬ ((m : Int) ≤ (n : Int)) := by omega
    have hro := H1.out.row
    obtain ⟨ad, hA, hb32, hbi⟩ := block_at hro hlt
    subst hA
    obtain ⟨b, hb⟩ : ∃ b, b = gt L n := ⟨_, rfl⟩
    rw [← hb] at hb32 hbi
    have HB := Aside0.mk hb
    have HBI := Aside0.mk hbi
    have HT : Aside0 (tellP L n = b) := ⟨by unfold tellP; rw [if_pos (by rw [H1.out.len]; exact hlt), HB.out]⟩
    clear hb hbi hro
    go_wp2_with (first | ((with_reducible refine gate_dst (N := 17) rfl ?_); refine load_block rfl _ rfl (ad.add (n * 32)) rfl b hb32 HBI.out ?_) | ((with_reducible refine gate_store (t := 41) (p := 3) rfl ?_); refine store_block_blk rfl (.tmp 3) (.tmp 17) rfl R zeroB rfl HZ.out rfl b hb32 rfl ?_; intro W5 hb5 hg5; have HB5 := Aside0.mk hb5; have HG5 := Aside0.mk hg5; clear hb5 hg5))
    refine bodyPost_ret (results_cP rfl _ _ R b hb32 rfl HB5.out) rfl ?_
    exact Exists.intro b (Exists.intro true ⟨rfl, hb32, HT.out.symm, HFIN.out _ HG5.out⟩)
  · have hge : (m : Int) ≤ (n : Int) := by omega
    have HT : Aside0 (tellP L n = zeroB) := ⟨by unfold tellP; rw [if_neg]; rw [H1.out.len]; exact hlt⟩
    go_wp2_with (first | ((with_reducible refine gate_dst (N := 13) rfl ?_); refine build_on rfl 41 _ rfl (bytesV zeroB).toArray (by exact build_zero) ?_) | ((with_reducible refine gate_store (t := 41) (p := 3) rfl ?_); refine store_block_blk rfl (.tmp 3) (.tmp 13) rfl R zeroB rfl HZ.out rfl zeroB rfl rfl ?_; intro W5 hb5 hg5; have HB5 := Aside0.mk hb5; have HG5 := Aside0.mk hg5; clear hb5 hg5))
    refine bodyPost_ret (results_cP rfl _ _ R zeroB rfl rfl HB5.out) rfl ?_
    exact Exists.intro zeroB (Exists.intro false ⟨rfl, rfl, HT.out.symm, HFIN.out _ HG5.out⟩)
theorem pk_tells {w : World} {B1 m : Nat} {L : List (List UInt8)} {A : Option Addr} {c : Nat} (h : PkAt w B1 L A m c) :
    Tells 11 #[.pointer (some ⟨B1, 0, none⟩)] w.heap.size (fun _ W => Below w.heap.size w W) (tellP L) where
  call := fun n W hJ _ hn => (pk11_any B1 n m L A c W (h.below hJ) hn).mono fun e W' hp => by
    obtain ⟨b, ok, he, hl, ht, hb⟩ := hp
    exact ⟨b, ok, he, hl, ht, below_step hJ hb, KeptX.of_below hb⟩
  keep := fun n W W' hJ hb => hJ.trans hb
  enters := enters_of Tryd.func11 (by kernel_rfl) rfl
theorem tellP_len {L : List (List UInt8)} (h : ∀ i, i < L.length → (gt L i).length = 32) (n : Nat) : (tellP L n).length = 32 := by
  unfold tellP
  split
  · next hn => exact h n hn
  · rfl
end Go.Proofs.YtnpnpgihbgohgaaDoor
/-
  Chapter 50, PastDisks: what the law's second closure tells.
-/
namespace Go.Proofs.YtnpnpgihbgohgaaDoor
open Go.RowKit Go.Proofs.YtnpnpgihbgohgaaDoorW.PrintWords Go.Proofs.YtnpnpgihbgohgaaDoorW.PrintLast Go.Proofs.YtnpnpgihbgohgaaDoorW.PrintMore
set_option linter.unusedVariables false
set_option linter.unusedSimpArgs false

theorem blocks_32 {w : World} {A : Option Addr} {n : Nat} {L : List (List UInt8)} (h : kBlock.C w A n L) (hn : L.length = n) : ∀ i, i < L.length → (gt L i).length = 32 := fun i hi => by
  obtain ⟨ad, _, h32, _⟩ := block_at h (k := i) (by omega)
  exact h32
theorem pk_read {l : List File} (h : makeE l = 0) (h32 : ∀ i, i < (makeV l).length → (gt (makeV l) i).length = 32) : readB (tellP (makeV l)) = some l := by
  obtain ⟨h8, ht, hv⟩ := makeE_zero h
  refine made_read (fun n => tellP_len h32 n) h8 ht (fun i hi => ?_)
  unfold tellP
  rw [if_pos (by rw [hv]; exact hi), hv]
theorem pk_none : readB (tellP []) = none := by
  cases h : readB (tellP []) with
  | none => rfl
  | some l =>
    have h1 := (readB_some h).1
    have h2 : tellP [] 0 = zeroB := rfl
    rw [h2] at h1
    exact absurd h1 (by decide)
/-- fs.Read of a disk of the law, of files that were made. -/
theorem read_pk (l : List File) (hE : makeE l = 0) (n : Nat) (hn : l.length = n) (B1 m c : Nat) (A : Option Addr) (w : World) (h : PkAt w B1 (makeV l) A m c) (hmg : MagicAt w) :
    Calls Tryd.prog 10 #[.func (.func 11) #[] #[.pointer (some ⟨B1, 0, none⟩)]] w fun e w' => ∃ A' c', e = .returned (.tuple #[.slice A' n c', .int .i64 0]) ∧ kFile.C w' A' n l ∧ Below w.heap.size w w' := by
  subst hn
  have h32 := blocks_32 h.row h.len
  have hr := pk_read hE h32
  refine (read_any _ _ w _ (tellP (makeV l)) (tellP_len h32) (pk_tells h) (Below.refl _ _) hmg (fun _ W hb => Kd.C_below hmg hb)).mono fun e w' hp => ?_
  rcases hp with ⟨h1, he, m, _, hb⟩ | ⟨l', A', c', h1, he, hlc, hC, hb⟩
  · rw [hr] at h1
    cases h1
  · rw [hr] at h1
    cases h1
    exact ⟨A', c', he, hC, hb⟩
theorem read_pk0 (B1 : Nat) (w : World) (h : PkAt w B1 [] none 0 0) (hmg : MagicAt w) :
    Calls Tryd.prog 10 #[.func (.func 11) #[] #[.pointer (some ⟨B1, 0, none⟩)]] w fun e w' => e = .returned (.tuple #[.slice none 0 0, .int .i64 3]) ∧ Below w.heap.size w w' := by
  refine (read_any _ _ w _ (tellP []) (tellP_len (fun i hi => absurd hi (by simp))) (pk_tells h) (Below.refl _ _) hmg (fun _ W hb => Kd.C_below hmg hb)).mono fun e w' hp => ?_
  rcases hp with ⟨h1, he, m, _, hb⟩ | ⟨l', A', c', h1, he, hlc, hC, hb⟩
  · exact ⟨he, hb⟩
  · rw [pk_none] at h1
    cases h1
set_option maxHeartbeats 1600000 in
theorem rd_yes (BX mb cnt : Nat) (F : Int → Option Value) (m : Int) (hm : U64V m) (l : List File) (n : Nat) (hn : l.length = n) (A : Option Addr) (nb c : Nat) (w : World) (hx : w.cell? ⟨BX, 0, none⟩ = some (.map (some mb))) (hmp : MapAt w mb cnt F) (hF : F m = some (.slice A nb c)) (hC : kBlock.C w A nb (makeV l)) (hnb : (makeV l).length = nb) (hE : makeE l = 0) (hmg : MagicAt w) :
    Calls Tryd.prog 9 #[.int .u64 m, .pointer (some ⟨BX, 0, none⟩)] w fun e w' => ∃ B c', e = .returned (.tuple #[.slice B n c', .bool true]) ∧ kFile.C w' B n l ∧ Below w.heap.size w w' := by
  have hlk := hmp.look m hm
  rw [hF] at hlk
  simp only [Option.getD_some, Option.isSome_some] at hlk
  have hb1 := below_alloc (Below.refl w.heap.size w) (.cells #[.slice A nb c] 33)
  have HRD := Aside0.mk (read_pk l hE n hn w.heap.size nb c A (w.alloc (.cells #[.slice A nb c] 33)) ⟨hnb, by simp, Kd.C_below hC hb1⟩ (Kd.C_below hmg hb1))
  have HB1 := Aside0.mk hb1
  clear hb1 hmp hF hC hnb hE hmg hn
  go_enter Tryd.func9, Tryd.ntmps9
  go_wp2_with (go_at_call 10; refine HRD.out.mono ?_; rintro e w2 ⟨A', c', rfl, hC, hb⟩; have HC := Aside0.mk hC; have HB2 := Aside0.mk (below_step HB1.out hb); clear hC hb)
  go_ret2
  exact ⟨_, _, rfl, HC.out, HB2.out⟩
set_option maxHeartbeats 1600000 in
theorem rd_no (BX mb cnt : Nat) (F : Int → Option Value) (m : Int) (hm : U64V m) (w : World) (hx : w.cell? ⟨BX, 0, none⟩ = some (.map (some mb))) (hmp : MapAt w mb cnt F) (hF : F m = none) (hmg : MagicAt w) :
    Calls Tryd.prog 9 #[.int .u64 m, .pointer (some ⟨BX, 0, none⟩)] w fun e w' => e = .returned (.tuple #[.slice none 0 0, .bool false]) ∧ Below w.heap.size w w' := by
  have hlk := hmp.look m hm
  rw [hF] at hlk
  simp only [Option.getD_none, Option.isSome_none] at hlk
  have hb1 := below_alloc (Below.refl w.heap.size w) (.cells #[.slice none 0 0] 33)
  have HRD := Aside0.mk (read_pk0 w.heap.size (w.alloc (.cells #[.slice none 0 0] 33)) ⟨rfl, by simp, Kd.C_nil _ _⟩ (Kd.C_below hmg hb1))
  have HB1 := Aside0.mk hb1
  clear hb1 hmp hF hmg
  go_enter Tryd.func9, Tryd.ntmps9
  go_wp2_with (go_at_call 10; refine HRD.out.mono ?_; rintro e w2 ⟨rfl, hb⟩; have HB2 := Aside0.mk (below_step HB1.out hb); clear hb)
  go_ret2
  exact ⟨rfl, HB2.out⟩
/-! ### what both closures tell -/
def tells2 (l : List Seen) (m : Int) : List File × Bool := if toldOf (look l m) = true then (filesOf (look l m), true) else ([], false)
/-- The disks of the moments that are told. -/
structure Disks (w : World) (l : List Seen) (k : Nat) (F : Int → Option Value) : Prop where
  yes : ∀ j, j < k → (gt l j).told = true → ∃ A n c, F (gt l j).moment = some (.slice A n c) ∧ (makeV (filesOf (some (gt l j)))).length = n ∧ kBlock.C w A n (makeV (filesOf (some (gt l j))))
  no : ∀ m, (∀ j, j < k → (gt l j).told = true → (gt l j).moment ≠ m) → F m = none
theorem Disks.below {w w' : World} {l : List Seen} {k : Nat} {F : Int → Option Value} (h : Disks w l k F) (hb : Below w.heap.size w w') : Disks w' l k F :=
  ⟨fun j hj ht => by
    obtain ⟨A, n, c, h1, h2, h3⟩ := h.yes j hj ht
    exact ⟨A, n, c, h1, h2, Kd.C_below h3 hb⟩, h.no⟩
theorem look_at50 {l : List Seen} (hS : Small l) (j : Nat) (hj : j < l.length) : look l (gt l j).moment = some (gt l j) := by
  unfold look
  rw [List.find?_eq_some_iff_getElem]
  refine ⟨by simp, j, hj, (gt_eq l j hj).symm, fun i hi => ?_⟩
  rw [← gt_eq l i (by omega), Bool.not_eq_true', beq_eq_false_iff_ne]
  exact hS.apart j hj i hi
theorem disks_tell {w : World} {l : List Seen} {F : Int → Option Value} (hS : Small l) (h : Disks w l l.length F) (hE : ∀ j, j < l.length → makeE (filesOf (some (gt l j))) = 0) (hu : ∀ j, j < l.length → U64V (gt l j).moment) (BX mb cnt : Nat) (hx : w.cell? ⟨BX, 0, none⟩ = some (.map (some mb))) (hmp : MapAt w mb cnt F) (hmg : MagicAt w) (j : Nat) (hj : j < l.length) :
    TellsAt w 9 #[.pointer (some ⟨BX, 0, none⟩)] (tells2 l) (gt l j).moment := by
  intro W hb
  have hx' := cell_old hb hx
  have hmp' := hmp.below hmp.lt hb
  have hmg' := Kd.C_below hmg hb
  have hl := look_at50 hS j hj
  unfold tells2
  rw [hl]
  cases ht : (gt l j).told
  · have hF : F (gt l j).moment = none := h.no _ (fun i hi hti he => by
      rcases Nat.lt_trichotomy i j with hij | hij | hij
      · exact hS.apart j hj i hij he
      · rw [hij, ht] at hti
        cases hti
      · exact hS.apart i hi j hij he.symm)
    rw [if_neg (show ¬ toldOf (some (gt l j)) = true by show ¬ (gt l j).told = true; rw [ht]; simp)]
    refine (rd_no BX mb cnt F _ (hu j hj) W hx' hmp' hF hmg').mono ?_
    rintro e w' ⟨rfl, hb'⟩
    exact ⟨none, 0, rfl, Kd.C_nil _ _, hb'⟩
  · obtain ⟨A, n, c, h1, h2, h3⟩ := h.yes j hj ht
    rw [if_pos (show toldOf (some (gt l j)) = true from ht)]
    exact rd_yes BX mb cnt F _ (hu j hj) (filesOf (some (gt l j))) _ rfl A n c W hx' hmp' h1 (Kd.C_below h3 hb) h2 (hE j hj) hmg'
/-- The history is the same by both. -/
theorem ofSpec_two (l : List Seen) (nm : ByteArray) (ms : List Int) : ofSpec (tells2 l) nm ms = ofSpec (tells l) nm ms := by
  unfold ofSpec
  have h : ∀ out m, ofStep (tells2 l) nm out m = ofStep (tells l) nm out m := fun out m => by
    unfold ofStep tells2 tells
    by_cases ht : toldOf (look l m) = true
    · simp [ht]
    · simp only [if_neg ht]
      simp at ht
      simp [ht]
  have h2 : ofStep (tells2 l) nm = ofStep (tells l) nm := by funext out m; exact h out m
  rw [h2]
end Go.Proofs.YtnpnpgihbgohgaaDoor
/-
  Chapter 50, PastDisks, walked: it returns true.
-/
namespace Go.Proofs.YtnpnpgihbgohgaaDoor
open Go.RowKit Go.Proofs.YtnpnpgihbgohgaaDoorW.PrintWords Go.Proofs.YtnpnpgihbgohgaaDoorW.PrintLast Go.Proofs.YtnpnpgihbgohgaaDoorW.PrintMore
set_option linter.unusedVariables false
set_option linter.unusedSimpArgs false

theorem files_form (s : Seen) : filesOf (some s) = [⟨nmB, s.data⟩] ∨ filesOf (some s) = [⟨nmB, []⟩, ⟨nmA, s.data⟩] := by
  cases hs : s.there
  · exact .inl (by simp [filesOf, hs])
  · exact .inr (by simp [filesOf, hs])
theorem files_E (s : Seen) (h : s.data.length ≤ 256) : makeE (filesOf (some s)) = 0 := by
  have hA : namedB nmA = true := by decide
  have hB : namedB nmB = true := by decide
  unfold makeE
  rcases files_form s with e | e <;> rw [e]
  · rw [if_neg (by simp), if_pos]
    unfold togB togTo
    simp [togTo, rightB, gt, hB, h]
  · rw [if_neg (by simp), if_pos]
    have hne : nmA.data.toList ≠ nmB.data.toList := by decide
    unfold togB togTo
    simp [togTo, rightB, gt, hA, hB, h, nmL]
    intro hc
    exact hne (by rw [hc])
theorem filesOf_short (s : Seen) (n : Nat) (h : s.data.length ≤ n) : ∀ j, j < (filesOf (some s)).length → (gt (filesOf (some s)) j).data.length ≤ n ∧ (gt (filesOf (some s)) j).name.size ≤ 9223372036854775807 := by
  have hA : nmA.size ≤ 9223372036854775807 := by decide
  have hB : nmB.size ≤ 9223372036854775807 := by decide
  intro j hj
  rcases files_form s with e | e <;> rw [e] at hj ⊢
  · rcases j with _ | j
    · exact ⟨h, hB⟩
    · simp at hj
  · rcases j with _ | _ | j
    · exact ⟨Nat.zero_le _, hB⟩
    · exact ⟨h, hA⟩
    · simp at hj; omega
theorem block_flat : Flat kBlock := flat_arr (flat_scalar _ _)
theorem C_put {w w1 : World} {mb n : Nat} {F : Int → Option Value} {A : Option Addr} {k : Nat} {xs : List (List UInt8)} (h : kBlock.C w A k xs) (hm : MapAt w mb n F) (hg : w.grownBy w1 (some mb)) : kBlock.C w1 A k xs := by
  rcases Nat.eq_zero_or_pos k with h0 | hp
  · exact ⟨h.1, h.2.1, fun hn => absurd hn (by have := h.1; omega)⟩
  · obtain ⟨ad, rfl, h32, hc⟩ := block_at h hp
    refine C_flat block_flat h ?_
    obtain ⟨u, hu⟩ : ∃ u, w.cell? ((ad.add (0 * 32)).add 0) = some u := by
      have hl : 0 < (bytesV (gt xs 0)).length := by rw [bytesV_len, h32]; omega
      exact ⟨_, hc 0 _ (List.getElem?_eq_getElem hl)⟩
    have hbk : ((ad.add (0 * 32)).add 0).block = ad.block := by rw [add_block, add_block]
    have hne : ad.block ≠ mb := fun e => by
      obtain ⟨D, ⟨es, clock, hb, _⟩, _⟩ := hm
      rw [← hbk] at e
      simp [World.cell?, e, hb] at hu
    have hlt : ad.block < w.heap.size := Decidable.byContradiction fun h0 => by
      have : w.heap[((ad.add (0 * 32)).add 0).block]? = none := by rw [hbk]; exact Array.getElem?_eq_none (by omega)
      simp [World.cell?, this] at hu
    exact hg.block _ hlt (fun e => hne (by injection e))
theorem cell_put {w w1 : World} {mb n : Nat} {F : Int → Option Value} {a : Addr} {v : Value} (h : w.cell? a = some v) (hm : MapAt w mb n F) (hg : w.grownBy w1 (some mb)) : w1.cell? a = some v :=
  cell_grown hg h (fun e => by
    obtain ⟨D, ⟨es, clock, hb, _⟩, _⟩ := hm
    injection e with e
    simp [World.cell?, e, hb] at h)
theorem Disks.put {w w1 : World} {l : List Seen} {k : Nat} {F : Int → Option Value} {mb n : Nat} (h : Disks w l k F) (hS : Small l) (hk : k < l.length) (hm : MapAt w mb n F) (hg : w.grownBy w1 (some mb)) (A : Option Addr) (nb c : Nat) (h1 : (makeV (filesOf (some (gt l k)))).length = nb) (h2 : kBlock.C w A nb (makeV (filesOf (some (gt l k))))) (ht : (gt l k).told = true) :
    Disks w1 l (k + 1) (putM F (gt l k).moment (.slice A nb c)) := by
  refine ⟨fun j hj htj => ?_, fun m hno => ?_⟩
  · by_cases e : j = k
    · subst e
      exact ⟨A, nb, c, by unfold putM; rw [if_pos rfl], h1, C_put h2 hm hg⟩
    · obtain ⟨A', n', c', q1, q2, q3⟩ := h.yes j (by omega) htj
      refine ⟨A', n', c', ?_, q2, C_put q3 hm hg⟩
      unfold putM
      rw [if_neg (hS.apart k hk j (by omega))]
      exact q1
  · unfold putM
    rw [if_neg (fun e => hno k (by omega) ht e.symm)]
    exact h.no m (fun j hj htj => hno j (by omega) htj)
theorem Disks.skip {w : World} {l : List Seen} {k : Nat} {F : Int → Option Value} (h : Disks w l k F) (ht : (gt l k).told = false) : Disks w l (k + 1) F :=
  ⟨fun j hj htj => by
    by_cases e : j = k
    · subst e; rw [ht] at htj; cases htj
    · exact h.yes j (by omega) htj, fun m hno => h.no m (fun j hj htj => hno j (by omega) htj)⟩
theorem make_n50 (A : Option Addr) (l : List File) (n0 : Nat) (h0 : l.length = n0) (c : Nat) (w : World) (h : kFile.C w A n0 l) (hs : ∀ k, k < l.length → (gt l k).name.size ≤ 9223372036854775807) (hmg : MagicAt w) (n : Nat) (hn : (makeV l).length = n) (E : Int) (hE : makeE l = E) :
    Calls Tryd.prog 8 #[.slice A n0 c] w fun e w' => ∃ Aa ca, e = .returned (.tuple #[.slice Aa n ca, .int .i64 E]) ∧ kBlock.C w' Aa n (makeV l) ∧ Below w.heap.size w w' := by
  subst h0
  refine (make_as A l c w h hs hmg n hn E hE).mono ?_
  rintro e w' ⟨Aa, ca, rfl, ho, hb⟩
  have hc := (Kd.R_reads' ho).2.2
  rw [hn] at hc
  exact ⟨Aa, ca, rfl, hc, hb⟩
theorem same50_r (A B : Option Addr) (xs : List UInt8) (c1 c2 : Nat) (w : World) (h1 : byte.C w A xs.length xs) (h2 : byte.C w B xs.length xs) :
    Calls Tryd.prog 13 #[.slice A xs.length c1, .slice B xs.length c2] w fun e w' => e = .returned (.bool true) ∧ ∃ n, w' = w.drewN n := by
  have := same50 A B xs xs c1 c2 w h1 h2
  simpa using this
theorem ofg_n (cl : FuncId) (bnd : Array Value) (hen : ∀ args w, (callFunc cl args).run Tryd.prog w = .ok (.enter cl args) w) (f : Int → List File × Bool) (A : Option Addr) (ms : List Int) (n : Nat) (hn : ms.length = n) (c : Nat) (nm : ByteArray) (vs : List Vers) (hv : ofSpec f nm ms = vs) (p : Nat) (hp : vs.length = p) (w : World)
    (hA : (Kd.int .u64).C w A n ms) (hT : ∀ k, k < ms.length → TellsAt w cl bnd f (gt ms k)) (hd : ∀ k, k < ms.length → ∀ j, j < (f (gt ms k)).1.length → (gt (f (gt ms k)).1 j).data.length ≤ 140737488355328) (hms : ms.length ≤ 1000000000) :
    Calls Tryd.prog 12 #[.slice A n c, .func (.func cl) #[] bnd, .string nm] w fun e w' => ∃ B c', e = .returned (.slice B p c') ∧ kVers.C w' B p vs ∧ Below w.heap.size w w' := by
  subst hn
  refine (ofg_any cl bnd hen f A ms c nm w hA hT hd hms).mono ?_
  rintro e w' ⟨v, rfl, ho, hb⟩
  rw [hv] at ho
  obtain ⟨B, c', rfl⟩ := Kd.R_slice ho
  have h2 := (Kd.R_reads' ho).2.2
  rw [hp] at h2
  exact ⟨B, c', by rw [hp], h2, hb⟩
end Go.Proofs.YtnpnpgihbgohgaaDoor
/-
  Chapter 50, PastDisks, walked: it returns true.
-/
namespace Go.Proofs.YtnpnpgihbgohgaaDoor
open Go.RowKit Go.Proofs.YtnpnpgihbgohgaaDoorW.PrintWords Go.Proofs.YtnpnpgihbgohgaaDoorW.PrintLast Go.Proofs.YtnpnpgihbgohgaaDoorW.PrintMore
set_option linter.unusedVariables false
set_option linter.unusedSimpArgs false

theorem MapAt.mono {w : World} {mb n n' : Nat} {F : Int → Option Value} (h : MapAt w mb n F) (hn : n ≤ n') : MapAt w mb n' F := by
  obtain ⟨D, ho, hD⟩ := h
  exact ⟨D, ho.mono hn, hD⟩
theorem of_p50 (A : Option Addr) (n : Nat) (ms : List Int) (hn : n = ms.length) (c : Nat) (g : Nat) (A2 : Option Addr) (l : List Seen) (c2 : Nat) (nm : ByteArray) (vs : List Vers) (p : Nat) (hp : vs.length = p) (w : World) (hv : ofSpec (tells l) nm ms = vs)
    (hA : (Kd.int .u64).C w A n ms) (hg : w.heap[g]? = some (.cells #[.slice A2 l.length c2] 22 (0, 0))) (hL : kSeen.C w A2 l.length l)
    (hd : ∀ k, k < l.length → (gt l k).data.length ≤ 140737488355328) (hms : ms.length ≤ 1000000000) :
    Calls Tryd.prog 12 #[.slice A n c, atFn g, .string nm] w fun e w' => ∃ B c', e = .returned (.slice B p c') ∧ kVers.C w' B p vs ∧ Below w.heap.size w w' := by
  subst hp
  rw [hn] at hA
  refine (of_n A n ms hn c g A2 l c2 nm vs w hv hA hg hL hd hms).mono ?_
  rintro e w' ⟨B, c', rfl, ho, hb⟩
  exact ⟨B, c', rfl, (Kd.R_reads' ho).2.2, hb⟩
theorem tells2_short {l : List Seen} (hS : Small l) (k : Nat) (hk : k < l.length) : ∀ j, j < (tells2 l (gt l k).moment).1.length → (gt (tells2 l (gt l k).moment).1 j).data.length ≤ 140737488355328 := by
  unfold tells2
  rw [look_at50 hS k hk]
  split
  · intro j hj
    have := (filesOf_short (gt l k) 256 (hS.short k hk) j hj).1
    show (gt (filesOf (some (gt l k))) j).data.length ≤ _
    omega
  · intro j hj
    simp at hj
theorem keptX_cellV {W W' : World} {mb n : Nat} {F : Int → Option Value} (h : KeptX 0 (fun q => q = mb) W W') (hm : MapAt W mb n F) {a : Addr} {v : Value} (hc : W.cell? a = some v) : W'.cell? a = some v := by
  have hne : a.block ≠ mb := fun e => by
    obtain ⟨D, ⟨es, clock, hb, _⟩, _⟩ := hm
    simp [World.cell?, e, hb] at hc
  have hlt : a.block < W.heap.size := Decidable.byContradiction fun h0 => by
    have : W.heap[a.block]? = none := Array.getElem?_eq_none (by omega)
    simp [World.cell?, this] at hc
  rw [cell_same (h.block a.block (Nat.zero_le _) hlt hne)]
  exact hc
theorem keptX_putV {W W' : World} {mb : Nat} (hg : W.grownBy W' (some mb)) : KeptX 0 (fun q => q = mb) W W' :=
  ⟨hg.os, hg.tape, hg.output, hg.size, fun k _ hk hne => hg.block k hk (fun e => hne (by injection e))⟩
theorem at1_as (g : Nat) (A : Option Addr) (l : List Seen) (c : Nat) (s : Seen) (hl : look l s.moment = some s) (fl : List File) (hfl : filesOf (some s) = fl) (nf : Nat) (hnf : fl.length = nf) (td : Bool) (htd : s.told = td) (w : World) (hg : w.heap[g]? = some (.cells #[.slice A l.length c] 22 (0, 0))) (h : kSeen.C w A l.length l) :
    Calls Tryd.prog 16 #[.int .u64 s.moment, .pointer (some ⟨g, 0, none⟩)] w fun e w' => ∃ B c', e = .returned (.tuple #[.slice B nf c', .bool td]) ∧ kFile.C w' B nf fl ∧ Below w.heap.size w w' := by
  subst hfl hnf htd
  refine (at1_any g A l c s.moment w hg h).mono ?_
  rintro e w' ⟨B, c', he, hC, _, hb⟩
  rw [hl] at he hC
  exact ⟨B, c', he, hC, hb⟩
set_option maxRecDepth 8000 in
set_option maxHeartbeats 6400000 in
theorem law_pastdisks (A : Option Addr) (l : List Seen) (c : Nat) (w : World) (h : kSeen.C w A l.length l) (hu : ∀ j, j < l.length → U64V (gt l j).moment) (hmg : MagicAt w) :
    Calls Tryd.prog 3 #[.slice A l.length c] w fun e w' => e = .returned (.bool true) ∧ Below w.heap.size w w' := by
  have hmx := Kd.C_max h
  cases hgb : greatB l
  · have HGB := Aside0.mk hgb
    have HS := Aside0.mk (small_of hgb)
    have hfew := HS.out.few
    have HU := Aside0.mk hu
    have HMG := Aside0.mk hmg
    clear hgb hu hmg
    have HD : Aside0 (∀ k, k < l.length → (gt l k).data.length ≤ 140737488355328) := ⟨fun k hk => Nat.le_trans (HS.out.short k hk) (by decide)⟩
    obtain ⟨L, hL⟩ : ∃ L, l.map Seen.moment = L := ⟨_, rfl⟩
    have hLl : L.length = l.length := by rw [← hL]; simp
    have hLg : ∀ k, k < l.length → gt L k = (gt l k).moment := fun k hk => by rw [← hL]; exact gt_map _ _ _ hk
    have HL := Aside0.mk hL
    have HLL := Aside0.mk hLl
    have HLG := Aside0.mk hLg
    clear hL hLl hLg
    have hmm := @run_makeMap Tryd.prog
    go_enter Tryd.func3, Tryd.ntmps3
    go_upto_region 4 with (first | (go_at_call 4; ((with_reducible refine (awake_any w).mono ?_)); rintro e w1 ⟨rfl, hb⟩; have HB1 := Aside0.mk hb; clear hb) | (go_at_call 5; refine (great_any A l c w1 (Kd.C_below h HB1.out)).mono ?_; unfold GreatPost; rw [HGB.out]; rintro e w2 ⟨rfl, n2, hw2⟩; have HB2 : Aside0 (Below w.heap.size w w2) := ⟨by rw [hw2]; exact pw_below_drewN HB1.out _⟩; clear hw2))
    clear hmm
    obtain ⟨W3, hW3⟩ : ∃ W3, (w2.alloc (.map #[] 0)).alloc (.cells #[.map (some w2.heap.size)] 25) = W3 := ⟨_, rfl⟩
    have hb3 : Below w2.heap.size w2 W3 := by rw [← hW3]; exact below_alloc (below_alloc (Below.refl _ _) _) _
    have hm3 : MapAt W3 w2.heap.size 0 (fun _ => none) := by rw [← hW3]; exact (MapAt.made w2).below (MapAt.made w2).lt (below_alloc (Below.refl _ _) _)
    have hx3 : W3.cell? ⟨w2.heap.size + 1, 0, none⟩ = some (.map (some w2.heap.size)) := by
      have := blk_cell (blk_new (w2.alloc (.map #[] 0)) (.cells #[.map (some w2.heap.size)] 25)) 0
      rw [World.size_alloc] at this
      rw [← hW3]; exact this
    obtain ⟨BX, hBX⟩ : ∃ BX, BX = w2.heap.size + 1 := ⟨_, rfl⟩
    obtain ⟨mb, hmb⟩ : ∃ mb, mb = w2.heap.size := ⟨_, rfl⟩
    rw [hW3, ← hBX, ← hmb]
    rw [← hBX] at hx3
    rw [← hmb] at hm3 hx3
    have hmbw : w.heap.size ≤ mb := by rw [hmb]; exact HB2.out.size
    have HM3 := Aside0.mk hm3
    have HX3 := Aside0.mk hx3
    have HB3 := Aside0.mk (below_step HB2.out hb3)
    clear hW3 hb3 hm3 hx3 hBX hmb
    go_wp2_with (go_at_call 6; refine (moments_any A l c L HL.out W3 (Kd.C_below h HB3.out) (by omega)).mono ?_; rintro e w4 ⟨v, rfl, ho, hb⟩; obtain ⟨Am, cm, rfl⟩ : ∃ A c, v = .slice A l.length c := (by obtain ⟨A, c, e⟩ := Kd.R_slice ho; exact ⟨A, c, by rw [e, HLL.out]⟩); have hC4 := (Kd.R_reads' ho).2.2; rw [HLL.out] at hC4; have HC4 := Aside0.mk hC4; have HM4 := Aside0.mk (HM3.out.below HM3.out.lt hb); have HX4 := Aside0.mk (cell_old hb HX3.out); have HB4 := Aside0.mk (below_step HB3.out hb); clear ho hb hC4)
    go_loopg [25, 5, 6, 7, 8, 9] l.length (fun gk i _ _ _ _ _ wr => ∃ k : Nat, k ≤ l.length ∧ Aside0 (gk = l.length - k) ∧ i = .int .i64 k ∧ Aside0 (∃ F, MapAt wr mb k F ∧ Disks wr l k F) ∧ Aside0 (KeptX 0 (fun q => q = mb) w4 wr) ∧ Aside0 (Below w.heap.size w wr))
    case atStart => exact ⟨0, Nat.zero_le _, ⟨rfl⟩, rfl, ⟨_, HM4.out, ⟨fun j hj => absurd hj (Nat.not_lt_zero _), fun _ _ => rfl⟩⟩, ⟨KeptX.refl _ _ _⟩, HB4⟩
    case round =>
      obtain ⟨k, hk, HGK, rfl, HF, HK, HB⟩ := hrel
      obtain ⟨V, rfl⟩ : ∃ V, V = wr := ⟨_, rfl⟩
      by_cases hlt : k < l.length
      · have hkn : (k : Int) < (l.length : Int) := by omega
        obtain ⟨ad, hA, g0⟩ := int_at HC4.out hlt
        have g0' := keptX_cellV HK.out HM4.out g0
        rw [HLG.out k hlt] at g0'
        have hls := look_at50 HS.out k hlt
        obtain ⟨F, hMF, hDF⟩ := HF.out
        have hsh := HS.out.short k hlt
        have hum := HU.out k hlt
        have HSK := Aside0.mk (fun (ht : (gt l k).told = false) => hDF.skip ht)
        have HPT := Aside0.mk (fun (w7 w8 : World) (hb : Below V.heap.size V w7) (hg : w7.grownBy w8 (some mb)) (A : Option Addr) (nb c : Nat) h1 h2 h3 => (hDF.below hb).put HS.out hlt (hMF.below hMF.lt hb) hg A nb c h1 h2 h3)
        obtain ⟨s, hs⟩ : ∃ s, s = gt l k := ⟨_, rfl⟩
        rw [← hs] at g0' hls hsh hum HSK HPT
        have HMF := Aside0.mk hMF
        have HDF := Aside0.mk hDF
        obtain ⟨fl, hfl⟩ : ∃ fl, filesOf (some s) = fl := ⟨_, rfl⟩
        obtain ⟨nf, hnf⟩ : ∃ nf, fl.length = nf := ⟨_, rfl⟩
        obtain ⟨td, htd⟩ : ∃ td, s.told = td := ⟨_, rfl⟩
        obtain ⟨nb, hnb⟩ : ∃ nb, (makeV fl).length = nb := ⟨_, rfl⟩
        have HA1 := Aside0.mk (fun (w : World) (g : Nat) hg hc => at1_as g A l c s hls fl hfl nf hnf td htd w hg hc)
        have HFE : Aside0 (makeE fl = 0) := ⟨by rw [← hfl]; exact files_E s hsh⟩
        have HFN : Aside0 (∀ j, j < fl.length → (gt fl j).name.size ≤ 9223372036854775807) := ⟨by rw [← hfl]; exact fun j hj => (filesOf_short s 256 hsh j hj).2⟩
        have HFL := Aside0.mk hfl
        have HNF := Aside0.mk hnf
        have HTD := Aside0.mk htd
        have HNB := Aside0.mk hnb
        have HUM := Aside0.mk hum
        rw [hfl] at HPT
        obtain ⟨m, hm⟩ : ∃ m, m = s.moment := ⟨_, rfl⟩
        rw [← hm] at g0' HA1 HUM HPT
        have hx5 := keptX_cellV HK.out HM4.out HX4.out
        subst hA
        clear hs hls hsh hum hMF hDF hfl hnf htd hnb hm g0
        cases td
        · go_wp2_with (first | (go_at_call 7; refine (at_any _ _ rfl).mono ?_; rintro e w5 ⟨rfl, rfl⟩; unfold atFn) | (go_at_call 16; refine (HA1.out _ V.heap.size (blk_new V _) (Kd.C_below h (below_alloc HB.out _))).mono ?_; rintro e w6 ⟨B, c', rfl, hC, hb⟩; have HC6 := Aside0.mk hC; have HV6 := Aside0.mk (below_step (below_alloc (Below.refl _ _) (.cells #[.slice A l.length c] 22)) hb); have HB6 := Aside0.mk (below_step HB.out HV6.out); clear hC hb) | (go_at_call 8; refine (make_n50 B fl nf HNF.out c' w6 HC6.out HFN.out (Kd.C_below HMG.out HB6.out) nb HNB.out 0 HFE.out).mono ?_; rintro e w7 ⟨Aa, ca, rfl, hC, hb⟩; have HV7 := Aside0.mk (below_step HV6.out hb); have HB7 := Aside0.mk (below_step HB6.out hb); clear hC hb))
          go_roundg (l.length - (k + 1))
          case measure => have := HGK.out; omega
          case rel => exact ⟨k + 1, by omega, ⟨rfl⟩, by go_num, ⟨F, (HMF.out.below HMF.out.lt HV7.out).mono (Nat.le_succ _), (HSK.out HTD.out).below HV7.out⟩, ⟨HK.out.trans (KeptX.of_below HV7.out)⟩, HB7⟩
        · go_wp2_with (first | (go_at_call 7; refine (at_any _ _ rfl).mono ?_; rintro e w5 ⟨rfl, rfl⟩; unfold atFn) | (go_at_call 16; refine (HA1.out _ V.heap.size (blk_new V _) (Kd.C_below h (below_alloc HB.out _))).mono ?_; rintro e w6 ⟨B, c', rfl, hC, hb⟩; have HC6 := Aside0.mk hC; have HV6 := Aside0.mk (below_step (below_alloc (Below.refl _ _) (.cells #[.slice A l.length c] 22)) hb); have HB6 := Aside0.mk (below_step HB.out HV6.out); clear hC hb) | (go_at_call 8; refine (make_n50 B fl nf HNF.out c' w6 HC6.out HFN.out (Kd.C_below HMG.out HB6.out) nb HNB.out 0 HFE.out).mono ?_; rintro e w7 ⟨Aa, ca, rfl, hC, hb⟩; have HC7 := Aside0.mk hC; have HV7 := Aside0.mk (below_step HV6.out hb); have HB7 := Aside0.mk (below_step HB6.out hb); have hx7 := cell_old HV7.out hx5; obtain ⟨W8, hup, hm8, hg8⟩ := (HMF.out.below HMF.out.lt HV7.out).put (by omega) m HUM.out (.slice Aa nb ca); have HM8 := Aside0.mk hm8; have HG8 := Aside0.mk hg8; clear hC hb hm8 hg8))
          go_roundg (l.length - (k + 1))
          case measure => have := HGK.out; omega
          case rel => exact ⟨k + 1, by omega, ⟨rfl⟩, by go_num, ⟨_, HM8.out, HPT.out w7 W8 HV7.out HG8.out Aa nb ca HNB.out HC7.out HTD.out⟩, ⟨(HK.out.trans (KeptX.of_below HV7.out)).trans (keptX_putV HG8.out)⟩, ⟨pw_below_grown HB7.out (some mb) HB7.out.size HG8.out (fun q e => by cases e; exact hmbw)⟩⟩
      · have hkn : ¬ (k : Int) < (l.length : Int) := by omega
        obtain rfl : k = l.length := by omega
        obtain ⟨F, hMF, hDF⟩ := HF.out
        have HMF := Aside0.mk hMF
        have HDF := Aside0.mk hDF
        have HXV := Aside0.mk (keptX_cellV HK.out HM4.out HX4.out)
        have HFE : Aside0 (∀ j, j < l.length → makeE (filesOf (some (gt l j))) = 0) := ⟨fun j hj => files_E _ (HS.out.short j hj)⟩
        obtain ⟨vs, hvs⟩ : ∃ vs, ofSpec (tells l) nmA L = vs := ⟨_, rfl⟩
        obtain ⟨p, hp⟩ : ∃ p, vs.length = p := ⟨_, rfl⟩
        have HVS := Aside0.mk hvs
        have HV2 : Aside0 (ofSpec (tells2 l) nmA L = vs) := ⟨by rw [ofSpec_two]; exact hvs⟩
        have HP := Aside0.mk hp
        clear hMF hDF hvs hp
        go_upto_region 16 with (first | (go_at_call 6; with_reducible refine (moments_any A l c L HL.out V (Kd.C_below h HB.out) (by omega)).mono ?_; rintro e w5 ⟨v, rfl, ho, hb⟩; obtain ⟨Am2, cm2, rfl⟩ : ∃ A c, v = .slice A l.length c := (by obtain ⟨A, c, e⟩ := Kd.R_slice ho; exact ⟨A, c, by rw [e, HLL.out]⟩); have hC := (Kd.R_reads' ho).2.2; rw [HLL.out] at hC; have HC5 := Aside0.mk hC; have HV5 := Aside0.mk hb; have HB5 := Aside0.mk (below_step HB.out hb); clear ho hb hC) | (go_at_call 7; refine (at_any _ _ rfl).mono ?_; rintro e w6 ⟨rfl, rfl⟩; unfold atFn) | (go_at_call_of 12 (Value.slice Am2 l.length cm2); refine (of_p50 Am2 l.length L HLL.out.symm cm2 w5.heap.size A l c nmA vs p HP.out _ HVS.out (Kd.C_alloc HC5.out _) (blk_new w5 _) (Kd.C_below h (below_alloc HB5.out _)) HD.out (by rw [HLL.out]; omega)).mono ?_; rintro e w7 ⟨B7, c7, rfl, hC, hb⟩; have HC7 := Aside0.mk hC; have HV7 := Aside0.mk (below_step (below_alloc HV5.out (.cells #[.slice A l.length c] 22)) hb); have HB7 := Aside0.mk (below_step HB.out HV7.out); clear hC hb) | (go_at_call 6; with_reducible refine (moments_any A l c L HL.out w7 (Kd.C_below h HB7.out) (by omega)).mono ?_; rintro e w8 ⟨v, rfl, ho, hb⟩; obtain ⟨Am3, cm3, rfl⟩ : ∃ A c, v = .slice A l.length c := (by obtain ⟨A, c, e⟩ := Kd.R_slice ho; exact ⟨A, c, by rw [e, HLL.out]⟩); have hC := (Kd.R_reads' ho).2.2; rw [HLL.out] at hC; have HC8 := Aside0.mk hC; have HC7b := Aside0.mk (Kd.C_below HC7.out hb); have HV8 := Aside0.mk (below_step HV7.out hb); have HB8 := Aside0.mk (below_step HB7.out hb); clear ho hb hC) | (go_at_call_of 12 (Value.slice Am3 l.length cm3); refine (ofg_n 9 #[.pointer (some ⟨BX, 0, none⟩)] (enters_of Tryd.func9 (by kernel_rfl) rfl) (tells2 l) Am3 L l.length HLL.out cm3 nmA vs HV2.out p HP.out w8 HC8.out (fun j hj => by rw [HLL.out] at hj; rw [HLG.out j hj]; exact disks_tell HS.out (HDF.out.below HV8.out) HFE.out HU.out BX mb l.length (cell_old HV8.out HXV.out) (HMF.out.below HMF.out.lt HV8.out) (Kd.C_below HMG.out HB8.out) j hj) (fun j hj => by rw [HLL.out] at hj; rw [HLG.out j hj]; exact tells2_short HS.out j hj) (by rw [HLL.out]; omega)).mono ?_; rintro e w9 ⟨B9, c9, rfl, hC, hb⟩; have HC9 := Aside0.mk hC; have HC79 := Aside0.mk (Kd.C_below HC7b.out hb); have HB9 := Aside0.mk (below_step HB8.out hb); clear hC hb))
        have hmx2 := Kd.C_max HC9.out
        go_wp2_with fail
        go_loopg [68, 13] p (fun gk i _ wr => ∃ j : Nat, j ≤ p ∧ Aside0 (gk = p - j) ∧ i = .int .i64 j ∧ Aside0 (Below w9.heap.size w9 wr))
        case atStart => exact ⟨0, Nat.zero_le _, ⟨rfl⟩, rfl, ⟨Below.refl _ _⟩⟩
        case round =>
          obtain ⟨j, hj, HGJ, rfl, HBj⟩ := hrel
          by_cases hjt : j < p
          · have hjp : (j : Int) < (p : Int) := by omega
            obtain ⟨ad1, A1, c1, hA1, p0, p1, p2, hc1, hd1⟩ := vers_at (Kd.C_below HC79.out HBj.out) hjt
            obtain ⟨ad2, A2, c2, hA2, q0, q1, q2, hc2, hd2⟩ := vers_at (Kd.C_below HC9.out HBj.out) hjt
            obtain ⟨x, hx⟩ : ∃ x, x = gt vs j := ⟨_, rfl⟩
            rw [← hx] at p0 p1 p2 q0 q1 q2 hd1 hd2 hc1 hc2
            have HD1 := Aside0.mk hd1
            have HD2 := Aside0.mk hd2
            subst hA1
            subst hA2
            clear hd1 hd2 hx hc1 hc2
            go_wp2_with fail
            go_quiet ((go_at_call 13; exact Calls.quiet_of (same50_r A1 A2 x.data c1 c2 _ (Kd.C_drewN HD1.out _) (Kd.C_drewN HD2.out _))))
            go_wp2_with fail
            go_roundg (p - (j + 1))
            case measure => have := HGJ.out; omega
            case rel => exact ⟨j + 1, by omega, ⟨rfl⟩, by go_num, ⟨pw_below_drewN HBj.out _⟩⟩
          · have hjp : ¬ (j : Int) < (p : Int) := by omega
            go_wp2_with fail
            go_ret
            exact ⟨rfl, below_step HB9.out HBj.out⟩
  · have HGB := Aside0.mk hgb
    clear hgb hu hmg
    go_enter Tryd.func3, Tryd.ntmps3
    go_wp2_with (first | (go_at_call 4; ((with_reducible refine (awake_any w).mono ?_)); rintro e w1 ⟨rfl, hb⟩; have HB1 := Aside0.mk hb; clear hb) | (go_at_call 5; refine (great_any A l c w1 (Kd.C_below h HB1.out)).mono ?_; unfold GreatPost; rw [HGB.out]; rintro e w2 ⟨rfl, n2, hw2⟩; have HB2 : Aside0 (Below w.heap.size w w2) := ⟨by rw [hw2]; exact pw_below_drewN HB1.out _⟩; clear hw2) | (go_at_call 4; refine (awake_any w2).mono ?_; rintro e w3 ⟨rfl, hb⟩; have HB3 := Aside0.mk (below_step HB2.out hb); clear hb))
    go_ret
    exact ⟨rfl, HB3.out⟩
theorem u64v_of {n : Int} (h : (Lit.int .u64 n).wf = true) : U64V n := by
  unfold U64V
  simpa [Lit.wf, IntKind.min, IntKind.max, IntKind.bits, IntKind.signed] using h
end Go.Proofs.YtnpnpgihbgohgaaDoor
namespace Go.Proofs.YtnpnpgihbgohgaaDoor
open Go.ChangeShapes Go.WideShapes Go.ChangeAt Go.RowKit Go.Proofs.YtnpnpgihbgohgaaDoorW.PrintWords Go.Proofs.YtnpnpgihbgohgaaDoorW.PrintLast Go.Proofs.YtnpnpgihbgohgaaDoorW.PrintMore
open Go.ChangeMaps (open_string)
set_option linter.unusedVariables false
set_option linter.unusedSimpArgs false

theorem Tryd.own : ownKnob Tryd.prog.godebug = none := by kernel_rfl
theorem Tryd.laidOut : laidOutB Tryd.prog = true := by kernel_rfl

set_option maxRecDepth 100000 in
theorem row_lifted (os : Os) (started : os.Started) (H : Type) (enc : TypeId × Value → H) :
    ReturnsInHanded {} Tryd.checked os 3 .any (fun w args => (Rows.pastDisksSpec.pre enc Tryd.prog Tryd.f3 [] false w args ∧ laidMetH Tryd.prog laidD w) ∧ sizedMet enc Tryd.prog Tryd.f3 (OpenSpec.ofChange Rows.pastDisksSpec) false w args)
      (Rows.pastDisksSpec.post enc Tryd.prog Tryd.f3 false true false false) := by
  refine returnsInHanded_of_change_and (C := Tryd.checked) (X := fun w _ => laidMetH Tryd.prog laidD w) (fun _ _ _ hh h => h.of_heap hh) Tryd.own started (by kernel_rfl) Tryd.func3
    (ChangeSpec.witness_shaped (enc := enc) (C := Tryd.checked) (os := os) (X := fun w _ => laidMetH Tryd.prog laidD w) false (World.doorLaid Tryd.prog 400 os) #[.slice none 0 0] 8 rfl (World.shaped_of_RefB (by kernel_rfl) (by kernel_rfl)) (by kernel_rfl) (by kernel_rfl) (by kernel_rfl) (door_met os _)) ?_
  intro W base args ds gs before hval0 hW _ hsz0 hL _
  have hsz : (DataW.weightsEach Tryd.prog (Tryd.f3.params.toList ++ Rows.pastDisksSpec.plain.varTypes Tryd.prog) (ds ++ gs)).all (· ≤ reachBytes) = true := hsz0
  have hval : ∀ (j : Nat) t v, Tryd.f3.params[j]? = some t → args[j]? = some v → Value.okWide Tryd.prog W .any base t v := hval0
  have hW' := hW
  obtain ⟨p, q, hA0, hV, rfl, hfz, hnd⟩ := hW
  have hA : DataW.TrodAll enc Tryd.prog W 0 (fun _ => true) true Tryd.f3.params.toList args.toList ds p := hA0
  rw [Tryd.params3] at hA hval hsz
  obtain ⟨v0, d0, rfl, rfl, h0⟩ := trodAll_one hA
  obtain ⟨rfl, rfl⟩ := trodVars_none hV
  have HMG := magic_of_laid hL
  have hwt : ∀ m ∈ DataW.weightsEach Tryd.prog (#[22].toList ++ Rows.pastDisksSpec.plain.varTypes Tryd.prog) ([d0] ++ []), m ≤ reachBytes := fun m hm => of_decide_eq_true (List.all_eq_true.1 hsz m hm)
  obtain ⟨a0, len0, cap0, hv0⟩ := okWide_slice Tryd.underlying22 (hval 0 22 v0 rfl rfl)
  obtain ⟨A0, l0, c0, rfl, hlc0, hC0, hQ0, hlen0⟩ := open_kd (d := kSeen) (Q := (fun y => y.data.length ≤ 140737488351232 ∧ (Lit.int .u64 y.moment).wf = true)) Tryd.underlying22 cells_seen hv0 (fun n cs z hz _ hw => el_seen2 n cs z hz hw) h0 (fun m hm => hwt m (weightsEach_mem (i := 0) rfl rfl hm))
  refine (law_pastdisks A0 l0 c0 W hC0 (fun j hj => u64v_of (hQ0 j hj).2) HMG).mono fun e W' ⟨he, hb⟩ => ?_
  subst he
  exact ⟨_, rfl, post_law hW' rfl rfl Tryd.underlying4 ⟨rfl, rfl, rfl⟩ Tryd.laidOut (by kernel_rfl) hb⟩

theorem row_holds : Rows.PastDisksSaid :=
  OpenClaim.holds_of_wide 3 Tryd.f3 rfl rfl rfl rfl rfl rfl rfl ⟨rfl, rfl, rfl, rfl, rfl⟩ rfl rfl rfl rfl rfl (by kernel_rfl) Tryd.func3 (by kernel_rfl)
    (of_decide_eq_true (by kernel_rfl)) (by unfold Func.isWrapper; first | (rw [if_pos (by decide +kernel)]; kernel_rfl) | (rw [if_neg (by decide +kernel)]; exact ⟨rfl, rfl⟩))
    (fun os started H enc _ => row_lifted os started H enc)

theorem past_disks_holds : Rows.PastDisksCardSaid :=
  Claim7.holds_tied_plain_at .later [] [.widerDeep] true Rows.pastDisksCard.stood.harness Rows.pastDisksCard.stood.looks
    row_holds (fun _ h => by cases h) (by kernel_rfl) (fun _ h => by cases h) pastDisks_row_tie rfl ⟨rfl, rfl⟩ (by kernel_rfl) rfl
    (fun f fn hf hfn => by
      obtain rfl : f = 3 := Option.some.inj ((show Tryd.prog.funcNamed "erewhile/erewhilelaw50.PastDisks" = some 3 by kernel_rfl).symm.trans hf) |>.symm
      obtain rfl : fn = Tryd.f3 := (Option.some.inj (Tryd.func3.symm.trans hfn)).symm
      exact ⟨by kernel_rfl, fun j t ht => by
        rw [Tryd.params3] at ht
        have hm : t ∈ [22] := by simpa using Array.mem_of_getElem? ht
        have hall : ([22].all fun u => !Tryd.prog.wantsStandIn u) = true := by kernel_rfl
        exact (show Tryd.prog.wantsStandIn t = false by simpa using List.all_eq_true.1 hall t hm)⟩)
    (by kernel_rfl)
#print axioms past_disks_holds
end Go.Proofs.YtnpnpgihbgohgaaDoor
