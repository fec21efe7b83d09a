/-
  Chapter 51: whether a file's name speaks, whether it is sound or broken; the document's State.
-/
import Derived.Test.YtdobjbdkfammbaaDoorGa
import Derived.RegionTactic
import Derived.BigRegion
import Derived.Deep.RegionWith
import Derived.Maps.OwnSet
import Derived.Maps.Views
/-
  A file found by its name: fs.Find over slices.IndexFunc and slices.Clone.
-/
namespace Go.Proofs.YtdobjbdkfammbaaDoor
open Go.RowKit Go.Proofs.YtdobjbdkfammbaaDoorW.PrintWords Go.Proofs.YtdobjbdkfammbaaDoorW.PrintLast Go.Proofs.YtdobjbdkfammbaaDoorW.PrintMore
set_option linter.unusedVariables false
set_option linter.unusedSimpArgs false

theorem find1_any (nm s : ByteArray) (v : Value) (hv : v.oneCell' = true) (g : Nat) (w : World) (hg : w.heap[g]? = some (.cells #[.string nm] 9 (0, 0))) :
    Calls Tryd.prog 69 #[.agg #[.string s, v], .pointer (some ⟨g, 0, none⟩)] w fun e w' => e = .returned (.bool (s.toList == nm.toList)) ∧ Below w.heap.size w w' := by
  have hp : w.cell? ⟨g, 0, none⟩ = some (.string nm) := by rw [blk_cell hg]; rfl
  have hp' := pw_cell_below (below_alloc (Below.refl _ _) (.cells #[.string s, v] 56)) hp
  clear hg
  go_enter Tryd.func69, Tryd.ntmps69
  go_wp2
  go_ret
  exact ⟨rfl, below_alloc (Below.refl _ _) _⟩

def findFn (g : Nat) : Value := .func (.func 69) #[] #[.pointer (some ⟨g, 0, none⟩)]
/-- Where the first file of a name lies; -1. -/
def idxOf (l : List File) (nm : ByteArray) : Int := match l.findIdx? (fun f => f.name.toList == nm.toList) with | some k => k | none => -1
theorem idx_first (l : List File) (nm : ByteArray) (k : Nat) (hk : k < l.length) (hp : ((gt l k).name.toList == nm.toList) = true) (h : ∀ j, j < k → ((gt l j).name.toList == nm.toList) = false) : idxOf l nm = k := by
  have : l.findIdx? (fun f => f.name.toList == nm.toList) = some k := by
    rw [List.findIdx?_eq_some_iff_getElem]
    refine ⟨hk, by rw [gt_eq l k hk] at hp; exact hp, fun j hj => ?_⟩
    have := h j hj
    rw [gt_eq l j (by omega)] at this
    simp [this]
  simp [idxOf, this]
theorem idx_none (l : List File) (nm : ByteArray) (h : ∀ j, j < l.length → ((gt l j).name.toList == nm.toList) = false) : idxOf l nm = -1 := by
  have : l.findIdx? (fun f => f.name.toList == nm.toList) = none := by
    rw [List.findIdx?_eq_none_iff]
    intro x hx
    obtain ⟨j, hj, rfl⟩ := List.getElem_of_mem hx
    have := h j hj
    rwa [gt_eq l j hj] at this
  simp [idxOf, this]

set_option maxHeartbeats 800000 in
theorem index_any (A : Option Addr) (l : List File) (c : Nat) (nm : ByteArray) (g : Nat) (w : World) (hg : w.heap[g]? = some (.cells #[.string nm] 9 (0, 0))) (h : kFile.C w A l.length l) :
    Calls Tryd.prog 68 #[.slice A l.length c, findFn g] w fun e w' => e = .returned (.int .i64 (idxOf l nm)) ∧ Below w.heap.size w w' := by
  have hmx := Kd.C_max h
  have HG := Aside0.mk hg
  clear hg
  unfold findFn
  go_enter Tryd.func68, Tryd.ntmps68
  go_wp2
  go_loopw [8] (fun i wr => ∃ k : Nat, k ≤ l.length ∧ i = .int .i64 k ∧ Aside0 (∀ j, j < k → ((gt l j).name.toList == nm.toList) = false) ∧ Aside0 (Below w.heap.size w wr)) (fun i _ => l.length - (intOf i).toNat)
  case atStart => exact ⟨0, Nat.zero_le _, rfl, ⟨fun _ h => absurd h (by omega)⟩, ⟨Below.refl _ _⟩⟩
  case round =>
    obtain ⟨k, hk, rfl, HN, HB⟩ := hrel
    by_cases hlt : k < l.length
    · obtain ⟨ad, A1, c1, rfl, g0, g1, hc1, hd⟩ := file_at h hlt
      replace g0 := cell_old HB.out g0
      replace g1 := cell_old HB.out g1
      clear hd
      cases he : ((gt l k).name.toList == nm.toList)
      · have HE := Aside0.mk he
        go_wp2_with (go_at_call 69; refine (find1_any nm (gt l k).name _ rfl g _ (blk_below HG.out HB.out)).mono ?_; rw [he]; clear he; rintro e w1 ⟨rfl, hb⟩; have HB1 := Aside0.mk (below_step HB.out hb); clear hb)
        go_roundw
        case rel => exact ⟨k + 1, by omega, by go_num, ⟨fun j hj => if hq : j = k then by rw [hq]; exact HE.out else HN.out j (by omega)⟩, HB1⟩
        case measure => simp [intOf]; omega
      · have HE := Aside0.mk he
        go_wp2_with (go_at_call 69; refine (find1_any nm (gt l k).name _ rfl g _ (blk_below HG.out HB.out)).mono ?_; rw [he]; clear he; rintro e w1 ⟨rfl, hb⟩; have HB1 := Aside0.mk (below_step HB.out hb); clear hb)
        go_ret
        exact ⟨by rw [idx_first l nm k hlt HE.out HN.out]; rfl, HB1.out⟩
    · go_wp2
      go_ret
      exact ⟨by rw [idx_none l nm (fun j hj => HN.out j (by omega))]; rfl, HB.out⟩

def look49 (l : List File) (nm : ByteArray) : Option File := l.find? (fun f => f.name.toList == nm.toList)
def FindPost (l : List File) (nm : ByteArray) (w : World) (e : Ending) (w' : World) : Prop :=
  (look49 l nm = none ∧ e = .returned (.tuple #[.agg #[.string ⟨#[]⟩, .slice none 0 0], .bool false]) ∧ Below w.heap.size w w') ∨
  ∃ x v, look49 l nm = some x ∧ e = .returned (.tuple #[.agg #[.string nm, v], .bool true]) ∧ byte.R 5 w' w.heap.size (fun _ => True) v x.data ∧ Below w.heap.size w w'
theorem idx_cases (l : List File) (nm : ByteArray) : (idxOf l nm = -1 ∧ look49 l nm = none) ∨ ∃ k, k < l.length ∧ idxOf l nm = (k : Int) ∧ look49 l nm = some (gt l k) := by
  unfold idxOf look49
  cases h : l.findIdx? (fun f => f.name.toList == nm.toList) with
  | none =>
    left
    rw [List.findIdx?_eq_none_iff] at h
    exact ⟨rfl, List.find?_eq_none.mpr (fun x hx => by simp [h x hx])⟩
  | some k =>
    right
    rw [List.findIdx?_eq_some_iff_getElem] at h
    obtain ⟨hk, hp, hn⟩ := h
    refine ⟨k, hk, rfl, ?_⟩
    rw [gt_eq l k hk, List.find?_eq_some_iff_getElem]
    exact ⟨hp, k, hk, rfl, fun j hj => by simpa using hn j hj⟩

theorem blk_new2 (w : World) (o o' : Obj) : ((w.alloc o).alloc o').heap[w.heap.size + 1]? = some o' := by
  have := blk_new (w.alloc o) o'
  simpa using this
set_option maxHeartbeats 1600000 in
theorem find_any (A : Option Addr) (l : List File) (c : Nat) (nm : ByteArray) (w : World) (h : kFile.C w A l.length l) (hl : ∀ k, k < l.length → (gt l k).data.length ≤ 140737488355328) :
    Calls Tryd.prog 48 #[.slice A l.length c, .string nm] w (FindPost l nm w) := by
  have hmx := Kd.C_max h
  rcases idx_cases l nm with ⟨hi, hf⟩ | ⟨k, hk, hi, hf⟩
  · have HF := Aside0.mk hf
    have HI := Aside0.mk hi
    clear hf hi
    go_enter Tryd.func48, Tryd.ntmps48
    go_wp2_with (go_at_call 68; refine (index_any A l c nm w.heap.size _ (blk_alloc (blk_new w _) _) (Kd.C_below h (below_alloc (below_alloc (Below.refl _ _) _) _))).mono ?_; rw [HI.out]; rintro e w1 ⟨rfl, hb⟩; have b1 := Aside0.mk (blk_below (blk_alloc (blk_new w (.cells #[.string nm] 9)) _) hb); have b2 := Aside0.mk (blk_below (blk_new2 w _ _) hb); have HB1 := Aside0.mk (below_step (below_alloc (below_alloc (Below.refl _ _) _) _) hb); have r0 := (blk_cell b2.out 0); have r1 := (blk_cell b2.out 1); have f0 := blk_frozen b2.out 0; have f1 := blk_frozen b2.out 1; simp only [List.getElem?_toArray, List.getElem?_cons_zero, List.getElem?_cons_succ] at r0 r1; clear hb)
    have b3 := blk_set (blk_set b2.out 0 (.string ⟨#[]⟩)) 1 (.slice none 0 0)
    have q0 := blk_cell b3 0
    have q1 := blk_cell b3 1
    simp at q0 q1
    refine bodyPost_ret (v := .tuple #[.agg #[.string ⟨#[]⟩, .slice none 0 0], .bool false]) (by simp [results, Tryd.results48, go_sem, q0, q1]) rfl ?_
    exact .inl ⟨HF.out, rfl, (HB1.out.setCell (Nat.le_succ _) _).setCell (Nat.le_succ _) _⟩
  · have HF := Aside0.mk hf
    have HI := Aside0.mk hi
    have hlk := hl k hk
    clear hf hi hl
    go_enter Tryd.func48, Tryd.ntmps48
    go_wp2_with (go_at_call 68; refine (index_any A l c nm w.heap.size _ (blk_alloc (blk_new w _) _) (Kd.C_below h (below_alloc (below_alloc (Below.refl _ _) _) _))).mono ?_; rw [HI.out]; rintro e w1 ⟨rfl, hb⟩; have b1 := Aside0.mk (blk_below (blk_alloc (blk_new w (.cells #[.string nm] 9)) _) hb); have b2 := Aside0.mk (blk_below (blk_new2 w _ _) hb); have HB1 := Aside0.mk (below_step (below_alloc (below_alloc (Below.refl _ _) _) _) hb); clear hb)
    have H1 := Aside0.mk (Kd.C_below h HB1.out)
    obtain ⟨ad, A1, c1, rfl, g0, g1, hc1, hd⟩ := file_at H1.out hk
    have r0 := blk_cell b1.out 0
    simp only [List.getElem?_toArray, List.getElem?_cons_zero] at r0
    have HD := Aside0.mk hd
    have r0' := pw_cell_below (pw_below_drewN (Below.refl w1.heap.size w1) 1) r0
    clear hd g0
    go_region_with (go_at_call 55; refine (sclone A1 (gt l k).data c1 _ (Kd.C_drew HD.out) hc1 hlk).mono ?_; rintro e w2 ⟨v, rfl, ho, hb⟩; obtain ⟨Av, cv, rfl⟩ := Kd.R_slice ho; have HO := Aside0.mk ho; have HB2 := Aside0.mk hb; have e2 := Aside0.mk (blk_below (w := w1.drew) b2.out hb); have k0 := blk_cell e2.out 0; have k1 := blk_cell e2.out 1; have f0 := blk_frozen e2.out 0; have f1 := blk_frozen e2.out 1; simp only [List.getElem?_toArray, List.getElem?_cons_zero, List.getElem?_cons_succ] at k0 k1; have r0w := pw_cell_below (w := w1.drew) hb r0; clear ho hb)
    all_goals
      go_wp2
      have e3 := blk_set (blk_set e2.out 0 (.string nm)) 1 (.slice Av (gt l k).data.length cv)
      have q0 := blk_cell e3 0
      have q1 := blk_cell e3 1
      simp at q0 q1
      refine bodyPost_ret (v := .tuple #[.agg #[.string nm, .slice Av (gt l k).data.length cv], .bool true]) (by simp [results, Tryd.results48, go_sem, q0, q1]) rfl ?_
      refine .inr ⟨gt l k, .slice Av (gt l k).data.length cv, HF.out, rfl, ?_, ((below_step (below_drew1 HB1.out) HB2.out).setCell (Nat.le_succ _) _).setCell (Nat.le_succ _) _⟩
      refine Kd.R_lower (Kd.R_set (Kd.R_set HO.out e2.out ?_ 0 _) (blk_set e2.out 0 _) ?_ 1 _) HB1.out.size
      · intro q hq; simp [byte, Kd.scalar] at hq; subst hq; decide
      · intro q hq; simp [byte, Kd.scalar] at hq; subst hq; decide
end Go.Proofs.YtdobjbdkfammbaaDoor
/-
  Chapter 51, how many different bytes there are: the program's map, the document's two loops.
-/
namespace Go.Proofs.YtdobjbdkfammbaaDoor
open Go.RowKit Go.Proofs.YtdobjbdkfammbaaDoorW.PrintWords Go.Proofs.YtdobjbdkfammbaaDoorW.PrintLast Go.Proofs.YtdobjbdkfammbaaDoorW.PrintMore
set_option linter.unusedVariables false
set_option linter.unusedSimpArgs false

/-! ### the different bytes of a list -/
def disStep (acc : List UInt8) (x : UInt8) : List UInt8 := if x ∈ acc then acc else x :: acc
def dis (xs : List UInt8) : List UInt8 := xs.foldl disStep []
def spreadN (xs : List UInt8) : Nat := (dis xs).length
theorem dis_step (xs : List UInt8) (k : Nat) (hk : k < xs.length) : dis (xs.take (k + 1)) = disStep (dis (xs.take k)) (gt xs k) := by
  unfold dis
  rw [List.take_add_one, gt_some xs k hk, List.foldl_append]
  rfl
theorem mem_disFold (xs : List UInt8) : ∀ (acc : List UInt8) (x : UInt8), x ∈ xs.foldl disStep acc ↔ x ∈ acc ∨ x ∈ xs := by
  induction xs with
  | nil => intro acc x; simp
  | cons y xs ih =>
    intro acc x
    rw [List.foldl_cons, ih]
    unfold disStep
    split
    · constructor
      · rintro (h | h)
        · exact .inl h
        · exact .inr (List.mem_cons_of_mem _ h)
      · rintro (h | h)
        · exact .inl h
        · rcases List.mem_cons.1 h with rfl | h
          · exact .inl (by assumption)
          · exact .inr h
    · simp only [List.mem_cons]
      constructor
      · rintro ((h | h) | h)
        · exact .inr (.inl h)
        · exact .inl h
        · exact .inr (.inr h)
      · rintro (h | h | h)
        · exact .inl (.inr h)
        · exact .inl (.inl h)
        · exact .inr h
theorem mem_dis (xs : List UInt8) (x : UInt8) : x ∈ dis xs ↔ x ∈ xs := by
  unfold dis
  rw [mem_disFold]
  simp
theorem nodup_disFold (xs : List UInt8) : ∀ acc : List UInt8, acc.Nodup → (xs.foldl disStep acc).Nodup := by
  induction xs with
  | nil => intro acc h; exact h
  | cons y xs ih =>
    intro acc h
    rw [List.foldl_cons]
    refine ih _ ?_
    unfold disStep
    split
    · exact h
    · exact List.nodup_cons.2 ⟨by assumption, h⟩
theorem nodup_dis (xs : List UInt8) : (dis xs).Nodup := nodup_disFold xs [] List.nodup_nil
theorem dis_le (xs : List UInt8) (k : Nat) : (dis (xs.take k)).length ≤ k := by
  induction k with
  | zero => simp [dis]
  | succ k ih =>
    by_cases hk : k < xs.length
    · rw [dis_step xs k hk]
      unfold disStep
      split
      · omega
      · simp; omega
    · rw [List.take_of_length_le (by omega), ← List.take_of_length_le (l := xs) (i := k) (by omega)]
      omega
theorem mem_dis_take (xs : List UInt8) (k : Nat) : gt xs k ∈ dis (xs.take k) ↔ ∃ j, j < k ∧ j < xs.length ∧ gt xs j = gt xs k := by
  rw [mem_dis, List.mem_take_iff_getElem]
  constructor
  · rintro ⟨j, hj, e⟩
    exact ⟨j, by omega, by omega, by rw [gt_eq xs j (by omega), e]⟩
  · rintro ⟨j, h1, h2, e⟩
    exact ⟨j, by omega, by rw [← e, gt_eq xs j h2]⟩
/-- A map of the call's own that holds just these bytes. -/
def Bts (w : World) (b n : Nat) (L : List UInt8) : Prop := ∃ D : DataW Unit, w.ownsMap Tryd.prog 5 (plainElem Tryd.prog 4) b n D ∧ Maps.size D = L.length ∧
  ∀ x : UInt8, Maps.has D (.int .u8 (x.toNat : Int)) = decide (x ∈ L)
theorem Bts.made (w : World) : Bts (w.alloc (.map #[] 0)) w.heap.size 0 [] :=
  ⟨.map [], World.ownsMap_made w _ _ _, rfl, fun x => by rfl⟩
theorem Bts.below {w w1 : World} {b n : Nat} {L : List UInt8} (h : Bts w b n L) (hb : Below w.heap.size w w1) : Bts w1 b n L := by
  obtain ⟨D, ho, hD⟩ := h
  have hlt := ho.lt
  obtain ⟨es, clock, hbk, F, hs, hDe⟩ := ho
  exact ⟨D, ⟨es, clock, (hb.block b hlt).trans hbk, F, hs, hDe⟩, hD⟩
theorem key_byte (x : UInt8) : keyOf Tryd.prog 5 (.int .u8 (x.toNat : Int)) = some (.int .u8 (x.toNat : Int)) := Maps.keyOf_int_mk Tryd.underlying5 (by
  have := x.toNat_lt
  simp [Lit.wf, IntKind.min, IntKind.max, IntKind.bits, IntKind.signed]
  try omega)
theorem Bts.put {w : World} {b n : Nat} {L : List UInt8} (h : Bts w b n L) (x : UInt8) (hn : n < maxLen) :
    ∃ w', (Instr.mapUpdate 141 (.map (some b)) (.int .u8 (x.toNat : Int)) (.bool true)).run Tryd.prog w = .ok () w' ∧ Bts w' b (n + 1) (disStep L x) ∧ w.grownBy w' (some b) := by
  obtain ⟨D, ho, hsz, hD⟩ := h
  obtain ⟨w', h1, h2, h3⟩ := ho.update (Maps.int_keyed Tryd.underlying5) Tryd.underlying141 hn (key_byte x) (plainElem_bool Tryd.underlying4 true)
  refine ⟨w', h1, ⟨_, h2, ?_, fun y => ?_⟩, h3⟩
  · rw [Maps.size_put (ho.tidy (Maps.int_keyed Tryd.underlying5)), hD x, hsz]
    unfold disStep
    by_cases hx : x ∈ L
    · simp [hx]
    · simp [hx]
  · have hm : y ∈ disStep L x ↔ y = x ∨ y ∈ L := by
      unfold disStep
      split
      · constructor
        · exact .inr
        · rintro (rfl | h)
          · assumption
          · exact h
      · simp
    by_cases he : y = x
    · subst he
      rw [Maps.has_put_same ho.isMap (by first | trivial | exact ⟨_, rfl⟩ | constructor)]
      simp [hm]
    · rw [Maps.has_put_other (fun e => he (byte_inj (by injection e))), hD y]
      simp [hm, he]
theorem Bts.len {w : World} {b n : Nat} {L : List UInt8} (h : Bts w b n L) (ty : TypeId) : (Builtin.len_ #[141] ty #[.map (some b)]).run Tryd.prog w = .ok (.int .i64 (L.length : Int)) w := by
  obtain ⟨D, ho, hsz, hD⟩ := h
  rw [ho.len Tryd.underlying141 ty, hsz]
set_option maxHeartbeats 800000 in
theorem spread_any (A : Option Addr) (xs : List UInt8) (c : Nat) (r : Nat) (hr : spreadN xs = r) (w : World) (h : byte.C w A xs.length xs) (hl : xs.length ≤ 1000000) :
    Calls Tryd.prog 71 #[.slice A xs.length c] w fun e w' => e = .returned (.int .i64 (r : Int)) ∧ Below w.heap.size w w' := by
  have hmm := @run_makeMap Tryd.prog
  have HR := Aside0.mk hr
  clear hr
  go_enter Tryd.func71, Tryd.ntmps71
  go_wp2
  go_loopw [9, 5] (fun i _ wr => ∃ k : Nat, k ≤ xs.length ∧ i = .int .i64 k ∧ Aside0 (Bts wr w.heap.size k (dis (xs.take k))) ∧ Aside0 (Below w.heap.size w wr)) (fun i _ _ => xs.length - (intOf i).toNat)
  case atStart => exact ⟨0, Nat.zero_le _, rfl, ⟨Bts.made w⟩, ⟨below_alloc (Below.refl _ _) _⟩⟩
  case round =>
    obtain ⟨k, hk, rfl, HN, HB⟩ := hrel
    by_cases hlt : k < xs.length
    · obtain ⟨ad, rfl, g0⟩ := byte_at (Kd.C_below h HB.out) hlt
      obtain ⟨w2, hup, hN2, hg2⟩ := HN.out.put (gt xs k) (by simp [maxLen]; omega)
      rw [← dis_step xs k hlt] at hN2
      have HN2 := Aside0.mk hN2
      have HB2 : Aside0 (Below w.heap.size w w2) := ⟨pw_below_grown HB.out (some w.heap.size) HB.out.size hg2 (fun k e => by cases e; exact Nat.le_refl _)⟩
      clear hN2 hg2
      go_wp2
      go_roundw
      case rel => exact ⟨k + 1, by omega, by go_num, HN2, HB2⟩
      case measure => simp [intOf]; omega
    · have hle := fun ty => HN.out.len ty
      have HE : Aside0 ((dis (xs.take k)).length = r) := ⟨by rw [List.take_of_length_le (by omega)]; exact HR.out⟩
      go_wp2
      go_ret
      exact ⟨by rw [HE.out]; rfl, HB.out⟩
theorem drew_sum {w w' : World} {a b : Nat} (h : ∃ m, w' = (w.drewN (a + b)).drewN m) : ∃ n, w' = w.drewN (a + n) := by
  obtain ⟨m, rfl⟩ := h
  exact ⟨b + m, by rw [World.drewN_drewN, Nat.add_assoc]⟩
def wildB (xs : List UInt8) : Bool := decide (16 ≤ xs.length) && decide (3 * min xs.length 64 ≤ 4 * spreadN xs)
theorem spread_le (xs : List UInt8) : spreadN xs ≤ xs.length := by
  have := dis_le xs xs.length
  rwa [List.take_length] at this
set_option maxHeartbeats 800000 in
theorem wild_any (A : Option Addr) (xs : List UInt8) (c : Nat) (r : Bool) (hr : wildB xs = r) (w : World) (h : byte.C w A xs.length xs) (hl : xs.length ≤ 1000000) :
    Calls Tryd.prog 51 #[.slice A xs.length c] w fun e w' => e = .returned (.bool r) ∧ Below w.heap.size w w' := by
  obtain ⟨s, hs⟩ : ∃ s, spreadN xs = s := ⟨_, rfl⟩
  have hsl : s ≤ xs.length := by rw [← hs]; exact spread_le xs
  have HC := Aside0.mk (spread_any A xs c s hs w h hl)
  have HR : Aside0 ((decide (16 ≤ xs.length) && decide (3 * min xs.length 64 ≤ 4 * s)) = r) := ⟨by rw [← hs]; exact hr⟩
  clear hr hs h
  obtain ⟨n, hn⟩ : ∃ n, n = xs.length := ⟨_, rfl⟩
  rw [← hn] at HC HR hl hsl ⊢
  clear hn
  have HB0 := Below.refl w.heap.size w
  go_enter Tryd.func51, Tryd.ntmps51
  by_cases h16 : 16 ≤ n
  · have h16' : (16 : Int) ≤ (n : Int) := by omega
    go_wp2_with (go_at_call 71; refine HC.out.mono ?_; rintro e w1 ⟨rfl, hb⟩; have HB := Aside0.mk hb; clear hb)
    all_goals
      go_ret
      exact ⟨ret_bool (by rw [← HR.out, decide_eq_true h16, Bool.true_and]; exact decide_eq_decide.mpr (by omega)), HB.out⟩
  · go_wp2_with fail
    go_ret
    exact ⟨ret_bool (by rw [← HR.out, decide_eq_false h16]; rfl), HB0⟩
end Go.Proofs.YtdobjbdkfammbaaDoor
/-
  Chapter 51, names and their endings, good beginnings: plain, and the small functions of both sides.
-/
namespace Go.Proofs.YtdobjbdkfammbaaDoor
open Go.RowKit Go.Proofs.YtdobjbdkfammbaaDoorW.PrintWords Go.Proofs.YtdobjbdkfammbaaDoorW.PrintLast Go.Proofs.YtdobjbdkfammbaaDoorW.PrintMore
set_option linter.unusedVariables false
set_option linter.unusedSimpArgs false

/-- The last point among the first k bytes of a name; -1. -/
def dotTo (s : ByteArray) : Nat → Int
  | 0 => -1
  | k + 1 => if bt s (k : Int) = 46 then (k : Int) else dotTo s k
def dotAt (s : ByteArray) : Int := dotTo s s.size
theorem dotTo_hit {s : ByteArray} {k : Nat} (h : bt s (k : Int) = 46) : dotTo s (k + 1) = (k : Int) := by unfold dotTo; rw [if_pos h]
theorem dotTo_miss {s : ByteArray} {k : Nat} (h : ¬ bt s (k : Int) = 46) : dotTo s (k + 1) = dotTo s k := by
  show (if bt s (k : Int) = 46 then (k : Int) else dotTo s k) = _
  rw [if_neg h]
theorem dotTo_lt (s : ByteArray) (k : Nat) : -1 ≤ dotTo s k ∧ dotTo s k < k := by
  induction k with
  | zero => simp [dotTo]
  | succ k ih =>
    unfold dotTo
    split <;> omega
set_option maxHeartbeats 800000 in
theorem lastb_any (s : ByteArray) (r : Int) (hr : dotAt s = r) (w : World) (hs : s.size ≤ 1000000) :
    Calls Tryd.prog 92 #[.string s, .int .u8 46] w fun e w' => e = .returned (.int .i64 r) ∧ w = w' := by
  have HR := Aside0.mk hr
  clear hr
  go_enter Tryd.func92, Tryd.ntmps92
  go_wp2
  go_loopg [5] s.size (fun gk i wr => ∃ k : Nat, k ≤ s.size ∧ Aside0 (gk = k) ∧ i = .int .i64 ((k : Int) - 1) ∧ Aside0 (dotTo s k = r) ∧ wr = w)
  case atStart => exact ⟨s.size, Nat.le_refl _, ⟨rfl⟩, by go_num, HR, rfl⟩
  case round =>
    obtain ⟨k, hk, HGK, rfl, HT, rfl⟩ := hrel
    rcases k with _ | k
    · have HE : Aside0 (r = -1) := ⟨HT.out.symm⟩
      go_wp2
      go_ret
      exact ⟨by rw [HE.out]; rfl, rfl⟩
    · have e0 : ((k + 1 : Nat) : Int) - 1 = (k : Int) := by omega
      rw [e0]
      obtain ⟨ch, hc⟩ : ∃ ch, bt s (k : Int) = ch := ⟨_, rfl⟩
      have hx : ∀ h : k < s.size, ((s[k]'h).toNat : Int) = ch := fun h => by have := bt_at s (k : Int) (by simpa using h); rw [← hc, ← this]; rfl
      have hks : (k : Int) < (s.size : Int) := by omega
      by_cases h46 : ch = 46
      · have HE : Aside0 (r = (k : Int)) := ⟨by rw [← HT.out, dotTo_hit (by rw [hc]; exact h46)]⟩
        subst h46
        clear hc
        go_wp2
        go_ret
        exact ⟨by rw [HE.out]; rfl, rfl⟩
      · have HE : Aside0 (dotTo s k = r) := ⟨by rw [← HT.out, dotTo_miss (by rw [hc]; exact h46)]⟩
        have h46' : (ch == 46) = false := by simpa using h46
        clear hc
        go_wp2
        go_roundg k
        case measure => have := HGK.out; omega
        case rel => exact ⟨k, by omega, ⟨rfl⟩, by go_num, HE, rfl⟩
theorem last_any (s : ByteArray) (r : Int) (hr : dotAt s = r) (w : World) (hs : s.size ≤ 1000000) :
    Calls Tryd.prog 83 #[.string s, .int .u8 46] w fun e w' => e = .returned (.int .i64 r) ∧ w = w' := by
  go_enter Tryd.func83, Tryd.ntmps83
  go_wp2_with (go_at_call 92; refine (lastb_any s r hr w hs).mono ?_; rintro e w1 ⟨rfl, rfl⟩)
  go_ret
  exact ⟨rfl, rfl⟩
/-- What stands behind the last point of a name. -/
def endB (s : ByteArray) : ByteArray := if dotAt s < 0 then ⟨#[]⟩ else s.extract (dotAt s + 1).toNat s.size
/-! ### good beginnings -/
def sPdf : ByteArray := ⟨#[112, 100, 102]⟩
def sZip : ByteArray := ⟨#[122, 105, 112]⟩
def sPng : ByteArray := ⟨#[112, 110, 103]⟩
def sElf : ByteArray := ⟨#[101, 108, 102]⟩
/-- Which of the endings a string is; none of them: -1. -/
def kindOf (e : ByteArray) : Int := if e = sPdf then 0 else if e = sZip then 1 else if e = sPng then 2 else if e = sElf then 3 else -1
def magicK : Nat → List UInt8
  | 0 => [37, 80, 68, 70]
  | 1 => [80, 75, 3, 4]
  | 2 => [137, 80, 78, 71]
  | _ => [127, 69, 76, 70]
theorem magicK_len (k : Nat) : (magicK k).length = 4 := by
  unfold magicK
  split <;> rfl
/-- The good beginning of an ending; nothing, if it has none. -/
def magicB51 (e : ByteArray) : List UInt8 := if kindOf e < 0 then [] else magicK (kindOf e).toNat
theorem str_eql (a b : ByteArray) : (a.toList == b.toList) = decide (a = b) := by
  rw [ByteArray.toList_eq, ByteArray.toList_eq, Bool.eq_iff_iff]
  simp only [beq_iff_eq, decide_eq_true_eq]
  constructor
  · intro h
    have : a.data = b.data := Array.toList_inj.1 h
    cases a; cases b; cases this; rfl
  · rintro rfl; rfl
theorem str_ne {e s : ByteArray} {l : List UInt8} (hs : s.data.toList = l) (h : e ≠ s) : (e.toList == l) = false := by
  subst hs
  rw [← ByteArray.toList_eq s, str_eql]
  exact decide_eq_false h
theorem str_is {e s : ByteArray} {l : List UInt8} (hs : s.data.toList = l) (h : e = s) : (e.toList == l) = true := by
  subst hs h
  rw [← ByteArray.toList_eq e]
  simp
theorem kind_cases (e : ByteArray) : (e = sPdf ∧ kindOf e = 0) ∨ (e = sZip ∧ kindOf e = 1) ∨ (e = sPng ∧ kindOf e = 2) ∨ (e = sElf ∧ kindOf e = 3) ∨ (e ≠ sPdf ∧ e ≠ sZip ∧ e ≠ sPng ∧ e ≠ sElf ∧ kindOf e = -1) := by
  unfold kindOf
  by_cases h0 : e = sPdf
  · exact .inl ⟨h0, by rw [if_pos h0]⟩
  by_cases h1 : e = sZip
  · exact .inr (.inl ⟨h1, by rw [if_neg h0, if_pos h1]⟩)
  by_cases h2 : e = sPng
  · exact .inr (.inr (.inl ⟨h2, by rw [if_neg h0, if_neg h1, if_pos h2]⟩))
  by_cases h3 : e = sElf
  · exact .inr (.inr (.inr (.inl ⟨h3, by rw [if_neg h0, if_neg h1, if_neg h2, if_pos h3]⟩)))
  exact .inr (.inr (.inr (.inr ⟨h0, h1, h2, h3, by rw [if_neg h0, if_neg h1, if_neg h2, if_neg h3]⟩)))
theorem string_at {w : World} {A : Option Addr} {n : Nat} {xs : List ByteArray} (h : Kd.string.C w A n xs) {k : Nat} (hk : k < n) : ∃ ad, A = some ad ∧ w.cell? (ad.add k) = some (.string (gt xs k)) := by
  obtain ⟨ad, cs, e, hK, hc⟩ := C_at h hk
  have hK' : cs = [.string (gt xs k)] := hK
  subst hK'
  have h0 : w.cell? (ad.add (k * 1 + 0)) = _ := hc 0 _ rfl
  exact ⟨ad, e, by rwa [Nat.mul_one, Nat.add_zero] at h0⟩
def endL : List ByteArray := [sPdf, sZip, sPng, sElf]
theorem kind_hit {e : ByteArray} {k : Nat} (hk : k < 4) (h : e = gt endL k) : kindOf e = (k : Int) := by
  subst h
  rcases (show k = 0 ∨ k = 1 ∨ k = 2 ∨ k = 3 by omega) with rfl | rfl | rfl | rfl <;> decide
theorem kind_miss {e : ByteArray} (h : ∀ j, j < 4 → e ≠ gt endL j) : kindOf e = -1 := by
  have h0 : e ≠ sPdf := h 0 (by omega)
  have h1 : e ≠ sZip := h 1 (by omega)
  have h2 : e ≠ sPng := h 2 (by omega)
  have h3 : e ≠ sElf := h 3 (by omega)
  unfold kindOf
  rw [if_neg h0, if_neg h1, if_neg h2, if_neg h3]
def EndAt (w : World) : Prop := Kd.string.C w (some ⟨1, 0, none⟩) 4 endL
/-- The four good beginnings, one behind the other. -/
def numL : List UInt8 := magicK 0 ++ magicK 1 ++ magicK 2 ++ magicK 3
def NumAt (w : World) : Prop := byte.C w (some ⟨2, 0, none⟩) 16 numL
theorem add_pl (g o j : Nat) : (⟨g, o, none⟩ : Addr).add j = ⟨g, o + j, none⟩ := by unfold Addr.add; split <;> simp_all
theorem num_row {w : World} (h : NumAt w) (k : Nat) (hk : k < 4) : byte.C w (some ⟨2, k * 4, none⟩) 4 (magicK k) := by
  refine ⟨magicK_len k, by decide, fun _ => ⟨_, rfl, fun j p hj => ?_⟩⟩
  have hj4 : j < 4 := by have := (List.getElem?_eq_some_iff.1 hj).1; rw [magicK_len] at this; exact this
  obtain ⟨ad, e, h0⟩ := byte_at h (k := 4 * k + j) (by omega)
  cases e
  refine ⟨[.int .u8 (p.toNat : Int)], rfl, rfl, fun i u hu => ?_⟩
  rcases i with _ | i
  · simp only [List.getElem?_cons_zero, Option.some.injEq] at hu
    subst hu
    have hp : gt numL (4 * k + j) = p := by
      have hg : (magicK k)[j]? = numL[4 * k + j]? := by
        rcases (show k = 0 ∨ k = 1 ∨ k = 2 ∨ k = 3 by omega) with rfl | rfl | rfl | rfl <;> rcases (show j = 0 ∨ j = 1 ∨ j = 2 ∨ j = 3 by omega) with rfl | rfl | rfl | rfl <;> rfl
      rw [hg] at hj
      unfold gt
      rw [List.getD_eq_getElem?_getD, hj]
      rfl
    rw [hp] at h0
    rw [add_pl] at h0 ⊢
    have e : k * 4 + (j * byte.sz + 0) = 0 + (4 * k + j) := by show k * 4 + (j * 1 + 0) = _; omega
    rw [e]
    exact h0
  · simp at hu
set_option maxHeartbeats 800000 in
theorem idxs_any (A : Option Addr) (e : ByteArray) (r : Int) (hr : kindOf e = r) (w : World) (h : Kd.string.C w A 4 endL) :
    Calls Tryd.prog 84 #[.slice A 4 4, .string e] w fun e w' => e = .returned (.int .i64 r) ∧ w = w' := by
  have HR := Aside0.mk hr
  clear hr
  go_enter Tryd.func84, Tryd.ntmps84
  go_wp2
  go_loopg [8, 5] 4 (fun gk i _ wr => ∃ k : Nat, k ≤ 4 ∧ Aside0 (gk = 4 - k) ∧ i = .int .i64 k ∧ Aside0 (∀ j, j < k → e ≠ gt endL j) ∧ wr = w)
  case atStart => exact ⟨0, by omega, ⟨rfl⟩, rfl, ⟨fun _ h => absurd h (by omega)⟩, rfl⟩
  case round =>
    obtain ⟨k, hk, HGK, rfl, HN, rfl⟩ := hrel
    by_cases hlt : k < 4
    · obtain ⟨ad, rfl, g0⟩ := string_at h hlt
      obtain ⟨x, hx⟩ : ∃ x, x = gt endL k := ⟨_, rfl⟩
      rw [← hx] at g0
      have HX := Aside0.mk hx
      clear hx
      cases he : (e.toList == x.toList)
      · have HE := Aside0.mk he
        go_wp2
        go_roundg (4 - (k + 1))
        case measure => have := HGK.out; omega
        case rel => exact ⟨k + 1, by omega, ⟨rfl⟩, by go_num, ⟨fun j hj hc => by
          by_cases hq : j = k
          · have := HE.out
            rw [hc, hq, ← HX.out] at this
            simp at this
          · exact HN.out j (by omega) hc⟩, rfl⟩
      · have HE := Aside0.mk he
        go_wp2
        go_ret
        refine ⟨?_, rfl⟩
        have h1 := HE.out
        rw [str_eql] at h1
        rw [← HR.out, kind_hit hlt ((of_decide_eq_true h1).trans HX.out)]
        rfl
    · have hk4 : k = 4 := by omega
      have HE : Aside0 (r = -1) := ⟨by rw [← HR.out]; exact kind_miss (fun j hj => HN.out j (by omega))⟩
      go_wp2
      go_ret
      exact ⟨by rw [HE.out]; rfl, rfl⟩
/-- Do bytes begin with others? -/
def begB (xs ys : List UInt8) : Bool := decide (ys.length ≤ xs.length ∧ xs.take ys.length = ys)
theorem C_front {w : World} {A : Option Addr} {n : Nat} {xs : List UInt8} (h : byte.C w A n xs) {m : Nat} (hm : m ≤ n) : byte.C w A (xs.take m).length (xs.take m) := by
  have hl := Kd.C_len h
  exact Kd.C_take (by rw [hl]; exact h) (m := m) (by omega : m ≤ xs.length)
set_option maxHeartbeats 800000 in
theorem bprefix_any (A B : Option Addr) (xs ys : List UInt8) (c1 c2 : Nat) (r : Bool) (hr : begB xs ys = r) (w : World) (h1 : byte.C w A xs.length xs) (hc : xs.length ≤ c1) (h2 : byte.C w B ys.length ys) :
    Calls Tryd.prog 85 #[.slice A xs.length c1, .slice B ys.length c2] w fun e w' => e = .returned (.bool r) ∧ w = w' := by
  obtain ⟨n, hn⟩ : ∃ n, n = xs.length := ⟨_, rfl⟩
  obtain ⟨m, hm⟩ : ∃ m, m = ys.length := ⟨_, rfl⟩
  have hmx1 := Kd.C_max h1
  have hmx2 := Kd.C_max h2
  by_cases hle : m ≤ n
  · have hq := C_front h1 (m := m) (by omega)
    have HEQ := Aside0.mk (bequal A B (xs.take m) ys c1 c2 w hq h2)
    have HLT : Aside0 ((xs.take m).length = m) := ⟨by rw [List.length_take]; omega⟩
    have HR : Aside0 (decide (xs.take m = ys) = r) := ⟨by rw [← hr]; unfold begB; exact decide_eq_decide.mpr ⟨fun h => ⟨by omega, by rw [← hm]; exact h⟩, fun h => by rw [hm]; exact h.2⟩⟩
    rw [HLT.out, ← hm] at HEQ
    rw [← hn, ← hm]
    rw [← hn] at hc hmx1
    rw [← hm] at hmx2
    clear hq hr h1 h2 hn hm HLT
    go_enter Tryd.func85, Tryd.ntmps85
    go_wp2_with (go_at_call 42; refine HEQ.out.mono ?_; rintro e w1 ⟨rfl, rfl⟩)
    go_ret
    exact ⟨ret_bool HR.out, rfl⟩
  · have HR : Aside0 (r = false) := ⟨by rw [← hr]; unfold begB; exact decide_eq_false (fun h => hle (by omega))⟩
    rw [← hn, ← hm]
    rw [← hn] at hmx1
    rw [← hm] at hmx2
    clear hr h1 h2 hn hm
    go_enter Tryd.func85, Tryd.ntmps85
    go_wp2_with fail
    go_ret
    exact ⟨by rw [HR.out]; rfl, rfl⟩
end Go.Proofs.YtdobjbdkfammbaaDoor
namespace Go.Proofs.YtdobjbdkfammbaaDoor
open Go.RowKit Go.Proofs.YtdobjbdkfammbaaDoorW.PrintWords Go.Proofs.YtdobjbdkfammbaaDoorW.PrintLast Go.Proofs.YtdobjbdkfammbaaDoorW.PrintMore
set_option linter.unusedVariables false
set_option linter.unusedSimpArgs false

/-- 0: nothing is said of a file, 1: it is sound, 2: it is broken. -/
def stateB (x : File) : Nat := if kindOf (endB x.name) < 0 ∨ x.data.length < 4 then 0 else if begB x.data (magicK (kindOf (endB x.name)).toNat) then 1 else 2
theorem state_le (x : File) : stateB x ≤ 2 := by unfold stateB; split <;> (try split) <;> omega
theorem kind_range (e : ByteArray) : -1 ≤ kindOf e ∧ kindOf e < 4 := by
  rcases kind_cases e with ⟨_, h⟩ | ⟨_, h⟩ | ⟨_, h⟩ | ⟨_, h⟩ | ⟨_, _, _, _, h⟩ <;> rw [h] <;> decide
theorem kind_empty : kindOf ⟨#[]⟩ = -1 := by decide
/-- What the file's state is made of. -/
structure Spk (s : ByteArray) (xs : List UInt8) (n : Nat) (d k : Int) (st : Nat) : Prop where
  hd : dotAt s = d
  hk : 0 ≤ d → kindOf (s.extract (d + 1).toNat s.size) = k
  h0 : d < 0 → st = 0
  h1 : 0 ≤ d → k < 0 → st = 0
  h2 : 0 ≤ d → n < 4 → st = 0
  h3 : 0 ≤ d → 0 ≤ k → 4 ≤ n → st = if begB xs (magicK k.toNat) then 1 else 2
theorem spk_of (s : ByteArray) (xs : List UInt8) (st : Nat) (h : stateB ⟨s, xs⟩ = st) : ∃ d k, Spk s xs xs.length d k st ∧ -1 ≤ d ∧ d < (s.size : Int) ∧ -1 ≤ k ∧ k < 4 := by
  have hdr := dotTo_lt s s.size
  refine ⟨dotAt s, kindOf (endB s), ⟨rfl, ?_, ?_, ?_, ?_, ?_⟩, hdr.1, hdr.2, (kind_range _).1, (kind_range _).2⟩
  · intro h; unfold endB; rw [if_neg (by omega)]
  · intro hd
    rw [← h]; unfold stateB
    have : kindOf (endB s) = -1 := by unfold endB; rw [if_pos hd]; exact kind_empty
    rw [if_pos (.inl (by show kindOf (endB s) < 0; omega))]
  · intro _ hk; rw [← h]; unfold stateB; rw [if_pos (.inl hk)]
  · intro _ hn; rw [← h]; unfold stateB; rw [if_pos (.inr hn)]
  · intro _ hk hn; rw [← h]; unfold stateB; rw [if_neg (by show ¬ (kindOf (endB s) < 0 ∨ xs.length < 4); omega)]
theorem idxs_q (A : Option Addr) (e : ByteArray) (r : Int) (hr : kindOf e = r) (w : World) (h : Kd.string.C w A 4 endL) :
    Calls Tryd.prog 84 #[.slice A 4 4, .string e] w fun e w' => e = .returned (.int .i64 r) ∧ ∃ n, w' = w.drewN n := (idxs_any A e r hr w h).mono fun e w' ⟨h, h2⟩ => ⟨h, 0, h2.symm⟩
theorem bprefix_q (A B : Option Addr) (xs ys : List UInt8) (n m c1 c2 : Nat) (hn : xs.length = n) (hm : ys.length = m) (r : Bool) (hr : begB xs ys = r) (w : World) (h1 : byte.C w A n xs) (hc : n ≤ c1) (h2 : byte.C w B m ys) :
    Calls Tryd.prog 85 #[.slice A n c1, .slice B m c2] w fun e w' => e = .returned (.bool r) ∧ ∃ n, w' = w.drewN n := by
  subst hn hm
  exact (bprefix_any A B xs ys c1 c2 r hr w h1 hc h2).mono fun e w' ⟨h, h2⟩ => ⟨h, 0, h2.symm⟩
set_option maxHeartbeats 1600000 in
theorem speaks_any (s : ByteArray) (A : Option Addr) (xs : List UInt8) (c : Nat) (st : Nat) (hst : stateB ⟨s, xs⟩ = st) (w : World) (hs : s.size ≤ 1000000) (h : byte.C w A xs.length xs) (hc : xs.length ≤ c) (he : EndAt w) (hn : NumAt w) :
    Calls Tryd.prog 70 #[.agg #[.string s, .slice A xs.length c]] w fun e w' => e = .returned (.tuple #[.bool (decide (st ≠ 0)), .bool (decide (st = 1))]) ∧ Below w.heap.size w w' := by
  obtain ⟨d, k, hsp, hd1, hd2, hk1, hk2⟩ := spk_of s xs st hst
  have HSP := Aside0.mk hsp
  have HX := Aside0.mk (Kd.C_below h (below_alloc (Below.refl w.heap.size w) (.cells #[.string s, .slice A xs.length c] 56)))
  have HE := Aside0.mk (Kd.C_below he (below_alloc (Below.refl w.heap.size w) (.cells #[.string s, .slice A xs.length c] 56)))
  have HNM := Aside0.mk (Kd.C_below hn (below_alloc (Below.refl w.heap.size w) (.cells #[.string s, .slice A xs.length c] 56)))
  have HB := Aside0.mk (below_alloc (Below.refl w.heap.size w) (.cells #[.string s, .slice A xs.length c] 56))
  have hmx := Kd.C_max h
  clear hst hsp h he hn
  obtain ⟨n, hn⟩ : ∃ n, n = xs.length := ⟨_, rfl⟩
  rw [← hn] at HSP HX HE HNM HB hc hmx ⊢
  have HN := Aside0.mk hn
  clear hn
  by_cases hd : d < 0
  · have HS : Aside0 (st = 0) := ⟨HSP.out.h0 hd⟩
    go_enter Tryd.func70, Tryd.ntmps70
    go_wp2_with (go_at_call 83; refine (last_any s d HSP.out.hd _ hs).mono ?_; rintro e w1 ⟨rfl, rfl⟩)
    go_ret2
    exact ⟨by rw [HS.out]; rfl, HB.out⟩
  · obtain ⟨dn, rfl⟩ := Int.eq_ofNat_of_zero_le (by omega : 0 ≤ d)
    have e1 : IntKind.i64.wrap ((dn : Int) + 1) = ((dn + 1 : Nat) : Int) := by rw [IntWalk.i64_in _ (by omega)]; omega
    have hsl1 : ((dn + 1 : Nat) : Int) ≤ (s.size : Int) := by omega
    have HK : Aside0 (kindOf (s.extract (dn + 1) s.size) = k) := ⟨HSP.out.hk (by omega)⟩
    go_enter Tryd.func70, Tryd.ntmps70
    go_wp2_with (go_at_call 83; refine (last_any s dn HSP.out.hd _ hs).mono ?_; rintro e w1 ⟨rfl, rfl⟩)
    go_quiet ((go_at_call 84; exact Calls.quiet_of (idxs_q _ _ k HK.out _ (Kd.C_drewN HE.out _))))
    by_cases hk : k < 0
    · have HS : Aside0 (st = 0) := ⟨HSP.out.h1 (by omega) hk⟩
      go_wp2
      go_ret2
      exact ⟨by rw [HS.out]; rfl, pw_below_drewN HB.out _⟩
    · obtain ⟨kn, rfl⟩ := Int.eq_ofNat_of_zero_le (by omega : 0 ≤ k)
      by_cases hn4 : n < 4
      · have HS : Aside0 (st = 0) := ⟨HSP.out.h2 (by omega) hn4⟩
        have hn4' : (n : Int) < 4 := by omega
        go_wp2
        go_ret2
        exact ⟨by rw [HS.out]; rfl, pw_below_drewN HB.out _⟩
      · have hn4' : ¬ (n : Int) < 4 := by omega
        have HS : Aside0 (st = if begB xs (magicK kn) then 1 else 2) := ⟨HSP.out.h3 (by omega) (by omega) (by omega)⟩
        have hkn : kn < 4 := by omega
        obtain ⟨b, hb⟩ : ∃ b, begB xs (magicK kn) = b := ⟨_, rfl⟩
        rw [hb] at HS
        have HBB := Aside0.mk hb
        clear hb
        go_wp2
        go_quiet ((go_at_call 85; exact (bprefix_q _ _ xs (magicK kn) n 4 _ _ HN.out.symm (magicK_len kn) b HBB.out _ (Kd.C_drewN HX.out _) hc (Kd.C_drewN (num_row HNM.out kn hkn) _)).mono (fun e w' h => ⟨h.1, drew_sum h.2⟩)))
        go_wp2
        go_ret2
        refine ⟨?_, pw_below_drewN (pw_below_drewN HB.out _) _⟩
        rw [HS.out]
        cases b <;> rfl
set_option maxHeartbeats 800000 in
theorem sound_any (s : ByteArray) (A : Option Addr) (xs : List UInt8) (c : Nat) (st : Nat) (hst : stateB ⟨s, xs⟩ = st) (w : World) (hs : s.size ≤ 1000000) (h : byte.C w A xs.length xs) (hc : xs.length ≤ c) (he : EndAt w) (hn : NumAt w) :
    Calls Tryd.prog 50 #[.agg #[.string s, .slice A xs.length c]] w fun e w' => e = .returned (.bool (decide (st = 1))) ∧ Below w.heap.size w w' := by
  have HB := Aside0.mk (below_alloc (Below.refl w.heap.size w) (.cells #[.string s, .slice A xs.length c] 56))
  have hst2 : st ≤ 2 := by rw [← hst]; exact state_le _
  have HC := Aside0.mk (speaks_any s A xs c st hst _ hs (Kd.C_below h HB.out) hc (Kd.C_below he HB.out) (Kd.C_below hn HB.out))
  clear hst h he hn
  have hx : st = 0 ∨ st = 1 ∨ st = 2 := by omega
  go_enter Tryd.func50, Tryd.ntmps50
  rcases hx with rfl | rfl | rfl
  all_goals
    go_wp2_with (go_at_call 70; refine HC.out.mono ?_; rintro e w1 ⟨rfl, hb⟩; have HB1 := Aside0.mk (below_step HB.out hb); clear hb)
    go_ret
    exact ⟨rfl, HB1.out⟩
set_option maxHeartbeats 800000 in
theorem broken_any (s : ByteArray) (A : Option Addr) (xs : List UInt8) (c : Nat) (st : Nat) (hst : stateB ⟨s, xs⟩ = st) (w : World) (hs : s.size ≤ 1000000) (h : byte.C w A xs.length xs) (hc : xs.length ≤ c) (he : EndAt w) (hn : NumAt w) :
    Calls Tryd.prog 49 #[.agg #[.string s, .slice A xs.length c]] w fun e w' => e = .returned (.bool (decide (st = 2))) ∧ Below w.heap.size w w' := by
  have HB := Aside0.mk (below_alloc (Below.refl w.heap.size w) (.cells #[.string s, .slice A xs.length c] 56))
  have hst2 : st ≤ 2 := by rw [← hst]; exact state_le _
  have HC := Aside0.mk (speaks_any s A xs c st hst _ hs (Kd.C_below h HB.out) hc (Kd.C_below he HB.out) (Kd.C_below hn HB.out))
  clear hst h he hn
  have hx : st = 0 ∨ st = 1 ∨ st = 2 := by omega
  go_enter Tryd.func49, Tryd.ntmps49
  rcases hx with rfl | rfl | rfl
  all_goals
    go_wp2_with (go_at_call 70; refine HC.out.mono ?_; rintro e w1 ⟨rfl, hb⟩; have HB1 := Aside0.mk (below_step HB.out hb); clear hb)
    go_ret
    exact ⟨rfl, HB1.out⟩
end Go.Proofs.YtdobjbdkfammbaaDoor
