/-
  Chapter 49, fs.Read, walked.
-/
import Derived.Test.YtahjadbjokkjnaaDoorRd3
namespace Go.Proofs.YtahjadbjokkjnaaDoor
open Go.RowKit Go.Proofs.YtahjadbjokkjnaaDoorW.PrintWords Go.Proofs.YtahjadbjokkjnaaDoorW.PrintLast Go.Proofs.YtahjadbjokkjnaaDoorW.PrintMore
set_option linter.unusedVariables false
set_option linter.unusedSimpArgs false

/-- What stands in fs.Read when n blocks have been taken: the boxes of get, of next, of the head. -/
structure RdS (g : FuncId) (bnd : Array Value) (B0 : Nat) (J : Nat → World → Prop) (G X : Nat) (n : Nat) (W : World) : Prop where
  j : J n W
  gbox : W.heap[G]? = some (.cells #[.func (.func g) #[] bnd] 45 (0, 0))
  xbox : W.heap[X]? = some (.cells #[.int .i64 (n : Int)] 3 (0, 0))
  hg : B0 ≤ G
  hx : B0 ≤ X
  ne : G ≠ X
namespace RdS
variable {g : FuncId} {bnd : Array Value} {B0 : Nat} {J : Nat → World → Prop} {G X n : Nat} {W W' : World} {tell : Nat → List UInt8}
theorem size (h : RdS g bnd B0 J G X n W) : B0 ≤ W.heap.size := Nat.le_of_lt (Nat.lt_of_le_of_lt h.hg (blk_lt h.gbox))
theorem later (hT : Tells g bnd B0 J tell) (h : RdS g bnd B0 J G X n W) (hb : Below W.heap.size W W') : RdS g bnd B0 J G X n W' :=
  ⟨hT.keep _ _ _ h.j (hb.mono h.size), blk_below h.gbox hb, blk_below h.xbox hb, h.hg, h.hx, h.ne⟩
theorem grown (hT : Tells g bnd B0 J tell) (h : RdS g bnd B0 J G X n W) {row : Option Nat} (hg : W.grownBy W' row) (hr : ∀ k, row = some k → B0 ≤ k) (h1 : row ≠ some G) (h2 : row ≠ some X) : RdS g bnd B0 J G X n W' :=
  ⟨hT.keep _ _ _ h.j (pw_below_grown (Below.refl B0 W) row h.size hg hr), (hg.block G (blk_lt h.gbox) (fun e => h1 e.symm)).trans h.gbox, (hg.block X (blk_lt h.xbox) (fun e => h2 e.symm)).trans h.xbox, h.hg, h.hx, h.ne⟩
theorem next (h : RdS g bnd B0 J G X n W) (hj : J (n + 1) W') (hx : W'.heap[X]? = some (.cells #[.int .i64 ((n + 1 : Nat) : Int)] 3 (0, 0))) (hk : KeptX B0 (fun k => k = X) W W') : RdS g bnd B0 J G X (n + 1) W' :=
  ⟨hj, hk.blk h.gbox h.hg h.ne, hx, h.hg, h.hx, h.ne⟩
theorem drewN (hT : Tells g bnd B0 J tell) (h : RdS g bnd B0 J G X n W) (q : Nat) : RdS g bnd B0 J G X n (W.drewN q) := h.later hT (pw_below_drewN (Below.refl _ _) _)
theorem take (hT : Tells g bnd B0 J tell) (hn : n ≤ 1000) (h : RdS g bnd B0 J G X n W) :
    Calls Tryd.prog 38 #[.pointer (some ⟨G, 0, none⟩), .pointer (some ⟨X, 0, none⟩)] W fun e W' => e = .returned (.agg (bytesV (tell n)).toArray) ∧ RdS g bnd B0 J G X (n + 1) W' ∧ KeptX B0 (fun k => k = X) W W' :=
  (takeB_any g bnd B0 J tell hT G X n hn W h.j h.hg h.hx h.ne h.gbox h.xbox).mono fun e W' ⟨he, h1, h2, h3⟩ => ⟨he, h.next h1 h2 h3, h3⟩
end RdS
theorem equalIn_func_nil (d : Nat) (f : Fn) (ar bnd : Array Value) (w : World) : (Op.equalIn (d + 1) 45 (.func f ar bnd) .nilFunc).run Tryd.prog w = .ok false w := by
  simp [Op.equalIn, run_underlying Tryd.underlying45]
theorem eql_func_nil (f : Fn) (ar bnd : Array Value) (w : World) : (binOp .eql 45 (.func f ar bnd) .nilFunc).run Tryd.prog w = .ok (.bool false) w := by
  simp only [binOp]
  simp [Op.equal, Op.maxDepth, equalIn_func_nil 9999 f ar bnd w]
theorem bequal_as (A B : Option Addr) (xs ys : List UInt8) (n1 n2 c1 c2 : Nat) (h1 : xs.length = n1) (h2 : ys.length = n2) (r : Bool) (hr : decide (xs = ys) = r) (w : World) (hA : byte.C w A xs.length xs) (hB : byte.C w B ys.length ys) :
    Calls Tryd.prog 37 #[.slice A n1 c1, .slice B n2 c2] w fun e w' => e = .returned (.bool r) ∧ w' = w := by
  subst h1 h2 hr
  exact (bequal A B xs ys c1 c2 w hA hB).mono fun e w' ⟨h, h'⟩ => ⟨h, h'.symm⟩
theorem blockE : ∀ q, q ∈ 40 :: kBlock.E → q = 40 := by
  intro q hq
  simpa [kBlock, Kd.arr, byte, Kd.scalar] using hq
/-- A row of blocks is kept where a block is taken. -/
theorem row_take {g : FuncId} {bnd : Array Value} {B0 : Nat} {J : Nat → World → Prop} {G X n : Nat} {W W' : World} {v : Value} {xs : List (List UInt8)} (hr : kBlock.R 40 W B0 (fun _ => True) v xs) (hs : RdS g bnd B0 J G X n W) (hk : KeptX B0 (fun k => k = X) W W') : kBlock.R 40 W' B0 (fun _ => True) v xs :=
  Kd.R_mono (hk.row (Kd.R_types hr hs.xbox (fun q hq => by rw [blockE q hq]; decide)) (fun k hq => hq.2)) (fun _ _ => trivial)
theorem readB_of {tell : Nat → List UInt8} {h0 : List UInt8} {n : Nat} {T : List (List UInt8)} (h : h0 = tell 0) (hk : true = headOK h0) (hn : n = (gt h0 5).toNat) (hT : T = tableT tell n) :
    readB tell = if (gt h0 6).toNat * 256 + (gt h0 7).toNat = sumT T then if goodTo T n = true then if togB (T.map nameF) = true then if restTo tell T n = true then some (filesTo tell T n) else none else none else none else none := by
  unfold readB
  rw [← h, ← hk, if_pos rfl, ← hn, ← hT]
theorem goodTo_mono {T : List (List UInt8)} {i n : Nat} (h : goodTo T i = false) (hi : i ≤ n) : goodTo T n = false := by
  unfold goodTo at h ⊢
  rw [Bool.eq_false_iff] at h ⊢
  intro ha
  exact h (List.all_eq_true.2 fun j hj => List.all_eq_true.1 ha j (List.mem_range.2 (by have := List.mem_range.1 hj; omega)))
theorem goodTo_sub {T : List (List UInt8)} {i n : Nat} (h : goodTo T n = true) (hi : i ≤ n) : goodTo T i = true := by
  cases hq : goodTo T i
  · rw [goodTo_mono hq hi] at h; cases h
  · rfl
theorem firstT_good {T : List (List UInt8)} {i n : Nat} (h : goodTo T i = true) (hi : i ≤ n) (hn : T.length = n) : firstT T i ≤ 1 + n + 8 * i := by
  induction i with
  | zero => rw [firstT_zero]; omega
  | succ i ih =>
    rw [goodTo_succ] at h
    simp only [Bool.and_eq_true] at h
    have h1 := ih h.1 (by omega)
    have h2 : entS (gt T i) ≤ 256 := by
      have := h.2
      unfold entGood at this
      simp only [Bool.and_eq_true, decide_eq_true_eq] at this
      exact this.2.1
    rw [firstT_succ T i (by omega)]
    have : manyN (entS (gt T i)) ≤ 8 := by unfold manyN; omega
    omega
theorem info_int : (Tryd.prog.info? 3).map (fun i => (i.zero, i.size, i.bytes)) = some (some (.int .i64 0), 1, 8) := by kernel_rfl
theorem info_fileR : (Tryd.prog.info? 28).map (fun i => (i.zero, i.size, i.bytes)) = some (some (.agg #[.string ByteArray.empty, .slice none 0 0]), 2, 40) := by kernel_rfl
/-- The sizes, the first i of them written. -/
def szTo (T : List (List UInt8)) (n i : Nat) : List Int := (T.take i).map (fun b => (entS b : Int)) ++ List.replicate (n - i) 0
theorem szTo_zero (T : List (List UInt8)) (n : Nat) : szTo T n 0 = List.replicate n 0 := by simp [szTo]
theorem szTo_len (T : List (List UInt8)) (n i : Nat) (h : T.length = n) (hi : i ≤ n) : (szTo T n i).length = n := by simp [szTo]; omega
theorem szTo_set (T : List (List UInt8)) (n i : Nat) (h : T.length = n) (hi : i < n) : (szTo T n i).set i (entS (gt T i) : Int) = szTo T n (i + 1) := by
  unfold szTo
  rw [List.set_append_right _ _ (by simp; omega), List.length_map, List.length_take, Nat.min_eq_left (by omega), Nat.sub_self, show n - i = (n - (i + 1)) + 1 by omega, List.replicate_succ, List.set_cons_zero, List.take_add_one, gt_some T i (by omega), List.map_append]
  simp
theorem szTo_gt (T : List (List UInt8)) (n i : Nat) (h : T.length = n) (hi : i < n) : gt (szTo T n n) i = (entS (gt T i) : Int) := by
  unfold szTo
  rw [Nat.sub_self, List.replicate_zero, List.append_nil, List.take_of_length_le (by omega), gt_eq _ _ (by simp; omega), gt_eq T i (by omega)]
  simp
theorem intR_cell {e base g n cap : Nat} {W : World} {ok : Nat → Prop} {xs : List Int} (h : (Kd.int .i64).R e W base ok (.slice (some ⟨g, 0, none⟩) n cap) xs) (i : Nat) (hi : i < n) : W.cell? ⟨g, i, none⟩ = some (.int .i64 (gt xs i)) ∧ W.frozen? ⟨g, i, none⟩ = false := by
  obtain ⟨A', c', he, _, _⟩ := Kd.R_reads h
  cases he
  have := Kd.R_cell default h (i : Int) (by omega) (by omega)
  simpa [rdOf, gt] using this
theorem intR_put {e base g n cap : Nat} {W : World} {ok : Nat → Prop} {xs : List Int} (h : (Kd.int .i64).R e W base ok (.slice (some ⟨g, 0, none⟩) n cap) xs) (i : Nat) (x : Int) : (Kd.int .i64).R e (W.setCell ⟨g, i, none⟩ (.int .i64 x)) base ok (.slice (some ⟨g, 0, none⟩) n cap) (xs.set i x) ∧ W.grownBy (W.setCell ⟨g, i, none⟩ (.int .i64 x)) (some g) := by
  obtain ⟨A', c', he, _, _⟩ := Kd.R_reads h
  cases he
  exact Kd.R_put h (i : Int) x
theorem fileOE : ∀ q, q ∈ 28 :: kFileO.E → q = 28 ∨ q = 5 := by
  intro q hq
  simpa [kFileO] using hq
theorem intE : ∀ q, q ∈ 3 :: (Kd.int .i64).E → q = 3 := by
  intro q hq
  simpa [Kd.int, Kd.scalar] using hq
theorem nameF_M (w : World) (base : Nat) (ok : Nat → Prop) (b : List UInt8) (nm : ByteArray) (h : nm.data.toList = entN b) : kFileO.M w base ok (nameF b) [.string nm, .slice none 0 0] := by
  have e : nm = (nameF b).name := name_ext (by rw [h]; rfl)
  rw [e]
  exact ⟨none, 0, rfl, Nat.le_refl _, Nat.zero_le _, .inl rfl⟩
theorem together_as (A : Option Addr) (l : List File) (n c : Nat) (hn : l.length = n) (r : Bool) (hr : togB l = r) (w : World) (h : kFileO.C w A n l) (hs : ∀ k, k < l.length → (gt l k).name.size ≤ 9223372036854775807) (hlen : n ≤ 1000000) :
    Calls Tryd.prog 29 #[.slice A n c] w fun e w' => e = .returned (.bool r) ∧ Below w.heap.size w w' := by
  subst hn
  exact together_any A l c r hr w h hs hlen
theorem uint8E (t : Nat) (ht : 5 ≠ t) : ∀ q, q ∈ 5 :: byte.E → q ≠ t := by
  intro q hq
  simp only [byte, Kd.scalar, List.mem_cons, List.not_mem_nil, or_false] at hq
  rw [hq]; exact ht
theorem bytes_take {g : FuncId} {bnd : Array Value} {B0 N : Nat} {J : Nat → World → Prop} {G X n : Nat} {W W' : World} {v : Value} {xs : List UInt8} (hN : B0 ≤ N) (hr : byte.R 5 W N (fun _ => True) v xs) (hs : RdS g bnd B0 J G X n W) (hk : KeptX B0 (fun k => k = X) W W') : byte.R 5 W' N (fun _ => True) v xs :=
  Kd.R_mono (Kd.R_move (Kd.R_bound (Kd.R_types hr hs.xbox (uint8E _ (by decide)))) (fun k hq => hk.block k (Nat.le_trans hN hq.2.1) hq.2.2.1 hq.1.2)) (fun _ _ => trivial)
theorem files_take {g : FuncId} {bnd : Array Value} {B0 : Nat} {J : Nat → World → Prop} {G X n : Nat} {W W' : World} {ok : Nat → Prop} {v : Value} {xs : List File} (hr : kFileO.R 28 W B0 ok v xs) (hs : RdS g bnd B0 J G X n W) (hk : KeptX B0 (fun k => k = X) W W') : kFileO.R 28 W' B0 ok v xs :=
  Kd.R_mono (hk.row (Kd.R_types hr hs.xbox (fun q hq => by rcases fileOE q hq with e | e <;> rw [e] <;> decide)) (fun k hq => hq.2)) (fun _ hq => hq.1)
theorem nil_M (W : World) (base : Nat) (ok : Nat → Prop) (x : File) (h : x.data = []) : kFileO.M W base ok x [.string x.name, .slice none 0 0] := ⟨none, 0, by rw [h]; rfl, by rw [h]; simp, by rw [h]; simp, .inl h⟩
theorem nought_drop (A' : Option Addr) (gD : Nat) (ds : List UInt8) (s L : Nat) (hL : ds.length = L) (hs : s ≤ L) (z : Bool) (hz : zerosB (ds.drop s) = z) (w : World) (hC : byte.C w (some ⟨gD, 0, none⟩) ds.length ds) (hA : A' = some ⟨gD, s, none⟩ ∨ L = s) (c : Nat) :
    Calls Tryd.prog 39 #[.slice A' (L - s) c] w fun e w' => e = .returned (.bool z) ∧ Below w.heap.size w w' := by
  refine nought_any A' (ds.drop s) (L - s) c (by rw [List.length_drop, hL]) z hz w ?_
  rcases hA with rfl | h
  · have := byte_mid hC s ds.length (by omega) (Nat.le_refl _)
    rwa [List.take_of_length_le (Nat.le_refl _)] at this
  · have h1 : ds.drop s = [] := List.drop_of_length_le (by omega)
    rw [h1]
    exact ⟨rfl, Nat.zero_le _, fun hn => absurd hn (by simp)⟩
def ReadPost (tell : Nat → List UInt8) (B0 : Nat) (J : Nat → World → Prop) (e : Ending) (w' : World) : Prop :=
  (readB tell = none ∧ e = .returned (.tuple #[.slice none 0 0, .int .i64 3]) ∧ ∃ m, m ≤ 73 ∧ J m w') ∨
  ∃ l A c, readB tell = some l ∧ e = .returned (.tuple #[.slice A l.length c, .int .i64 0]) ∧ l.length ≤ c ∧ kFile.C w' A l.length l ∧ J (firstT (tableT tell (gt (tell 0) 5).toNat) (gt (tell 0) 5).toNat) w'
set_option maxRecDepth 8000 in
set_option maxHeartbeats 12800000 in
theorem read_any (g : FuncId) (bnd : Array Value) (w : World) (J : Nat → World → Prop) (tell : Nat → List UInt8) (hl : ∀ n, (tell n).length = 32) (hT : Tells g bnd w.heap.size J tell) (hJ : J 0 w) (hmg : MagicAt w) (hJm : ∀ n W, J n W → MagicAt W) :
    Calls Tryd.prog 22 #[.func (.func g) #[] bnd] w (ReadPost tell w.heap.size J) := by
  obtain ⟨B0, hB0⟩ : ∃ B, B = w.heap.size := ⟨_, rfl⟩
  rw [← hB0] at hT ⊢
  have hB0w := hB0
  obtain ⟨Post, hP⟩ : ∃ P, P = ReadPost tell B0 J := ⟨_, rfl⟩
  rw [← hP]
  have HP := Aside0.mk hP
  have HT := Aside0.mk hT
  have HL := Aside0.mk hl
  have HJM := Aside0.mk hJm
  have h1 := below_alloc (Below.refl w.heap.size w) (.cells #[.func (.func g) #[] bnd] 45)
  have h2 := below_alloc (Below.refl _ (w.alloc (.cells #[.func (.func g) #[] bnd] 45))) (.cells #[.int .i64 0] 3)
  obtain ⟨W1, hW1⟩ : ∃ W1, W1 = (w.alloc (.cells #[.func (.func g) #[] bnd] 45)).alloc (.cells #[.int .i64 0] 3) := ⟨_, rfl⟩
  have HS0 : Aside0 (RdS g bnd B0 J B0 (B0 + 1) 0 W1) := ⟨by
    have hb1 : Below w.heap.size w W1 := by rw [hW1]; exact below_alloc h1 _
    refine ⟨hT.keep 0 w W1 hJ (by rw [hB0]; exact hb1), ?_, ?_, Nat.le_refl _, by omega, by omega⟩
    · rw [hW1, hB0]; exact blk_alloc (blk_new w _) _
    · rw [hW1, hB0, ← World.size_alloc w (.cells #[.func (.func g) #[] bnd] 45)]; exact blk_new _ _⟩
  have HW1 := Aside0.mk hW1
  have HB0 := Aside0.mk hB0
  clear hW1 hP hT hl hJm hJ h1 h2 hmg hB0w hB0
  have hnf := eql_func_nil (.func g) #[] bnd
  go_enter Tryd.func22, Tryd.ntmps22
  go_upto_region 5 with fail
  rw [← HW1.out, ← HB0.out]
  clear hnf
  obtain ⟨X, hX⟩ : ∃ X, X = B0 + 1 := ⟨_, rfl⟩
  rw [← hX] at HS0 ⊢
  clear hX
  obtain ⟨G, hG⟩ : ∃ G, G = B0 := ⟨_, rfl⟩
  have HS1 : Aside0 (RdS g bnd B0 J G X 0 W1) := ⟨by rw [hG]; exact HS0.out⟩
  rw [← hG]
  clear hG HS0
  obtain ⟨h0, hh0⟩ : ∃ h0, h0 = tell 0 := ⟨_, rfl⟩
  have HH0 := Aside0.mk hh0
  have hl0 : h0.length = 32 := by rw [hh0]; exact HL.out 0
  clear hh0
  go_upto_region 6 with (first | (go_at_call 38; refine (HS1.out.take HT.out (by omega)).mono ?_; rw [← HH0.out]; rintro e W2 ⟨rfl, hs, hk⟩; have HS2 := Aside0.mk hs; clear hs hk) | ((with_reducible refine gate_store (t := 40) (p := 6) rfl ?_); refine store_block_new rfl (.tmp 6) (.tmp 28) rfl _ rfl rfl h0 hl0 rfl ?_))
  have hb3 := below_alloc (Below.refl W2.heap.size W2) (.cells (bytesV h0).toArray 40)
  have hn3 := blk_new W2 (.cells (bytesV h0).toArray 40)
  obtain ⟨W3, hW3⟩ : ∃ W3, W3 = W2.alloc (.cells (bytesV h0).toArray 40) := ⟨_, rfl⟩
  obtain ⟨H, hH⟩ : ∃ H, H = W2.heap.size := ⟨_, rfl⟩
  rw [← hW3] at hb3 hn3 ⊢
  rw [← hH] at hn3 ⊢
  have HS3 := Aside0.mk (HS2.out.later HT.out hb3)
  have HH3 := Aside0.mk hn3
  have hHB : B0 ≤ H := by rw [hH]; exact HS2.out.size
  clear hb3 hn3 hW3 hH HS2 HS1
  obtain ⟨hk, hhk⟩ : ∃ hk, hk = headOK h0 := ⟨_, rfl⟩
  have HHK := Aside0.mk hhk
  clear hhk
  dsimp only [Act.put]
  go_cut [42] (fun v42 wd => v42 = .bool (!hk) ∧ Aside0 (RdS g bnd B0 J G X 1 wd ∧ wd.heap[H]? = some (.cells (bytesV h0).toArray 40 (0, 0))))
  case first =>
    have HC0 := Aside0.mk (byte_blk HH3.out (by omega))
    have HMG := Aside0.mk (HJM.out _ _ HS3.out.j)
    have HC5 : Aside0 (byte.C W3 (some ⟨H, 0, none⟩) (h0.take 5).length (h0.take 5)) := ⟨by have := byte_mid HC0.out 0 5 (by omega) (by omega); rwa [List.drop_zero] at this⟩
    have HC8 : Aside0 (byte.C W3 (some ⟨H, 8, none⟩) (h0.drop 8).length (h0.drop 8)) := ⟨by have := byte_mid HC0.out 8 32 (by omega) (by omega); rwa [List.take_of_length_le (by omega)] at this⟩
    obtain ⟨a, ha⟩ : ∃ a, decide (h0.take 5 = magicB) = a := ⟨_, rfl⟩
    have HA := Aside0.mk ha
    clear ha
    have z5 : W3.cell? ⟨H, 5, none⟩ = some (.int .u8 ((gt h0 5).toNat : Int)) := by
      rw [blk_cell HH3.out]
      simp [bytesV, gt_some h0 5 (by omega)]
    obtain ⟨n5, hn5⟩ : ∃ n5, n5 = (gt h0 5).toNat := ⟨_, rfl⟩
    rw [← hn5] at z5
    have HN5 := Aside0.mk hn5
    clear hn5
    cases a
    · have HF : Aside0 (hk = false) := ⟨by rw [HHK.out]; unfold headOK; rw [HA.out]; rfl⟩
      go_wp2_with fail
      go_quiet ((go_at_call 37; exact Calls.quiet_of_same (bequal_as (some ⟨H, 0, none⟩) (some ⟨0, 0, none⟩) (h0.take 5) magicB 5 5 32 5 (by simp; omega) rfl false HA.out _ (Kd.C_drewN HC5.out _) (Kd.C_drewN HMG.out _))))
      go_wp2_with fail
      go_meet
      case rel => exact ⟨by rw [HF.out]; rfl, ⟨HS3.out.drewN HT.out _, HH3.out⟩⟩
    · by_cases h8 : 8 < n5
      · have h8' : (8 : Int) < (n5 : Int) := by omega
        have HF : Aside0 (hk = false) := ⟨by rw [HHK.out]; unfold headOK; rw [HA.out, ← HN5.out, decide_eq_false (by omega)]; rfl⟩
        go_wp2_with fail
        go_quiet ((go_at_call 37; exact Calls.quiet_of_same (bequal_as (some ⟨H, 0, none⟩) (some ⟨0, 0, none⟩) (h0.take 5) magicB 5 5 32 5 (by simp; omega) rfl true HA.out _ (Kd.C_drewN HC5.out _) (Kd.C_drewN HMG.out _))))
        go_wp2_with fail
        go_meet
        case rel => exact ⟨by rw [HF.out]; rfl, ⟨HS3.out.drewN HT.out _, HH3.out⟩⟩
      · have h8' : decide ((8 : Int) < (n5 : Int)) = false := decide_eq_false (by omega)
        obtain ⟨z, hz⟩ : ∃ z, zerosB (h0.drop 8) = z := ⟨_, rfl⟩
        have HZ := Aside0.mk hz
        clear hz
        have HF : Aside0 (hk = z) := ⟨by rw [HHK.out]; unfold headOK; rw [HA.out, ← HN5.out, decide_eq_true (by omega), HZ.out]; rfl⟩
        go_wp2_with fail
        go_region_held3 (fun W' => W'.cell? ⟨H, 5, none⟩ = some (.int .u8 (n5 : Int))) (first | exact z5 | exact K5) (first | (go_at_call 37; refine (bequal_as (some ⟨H, 0, none⟩) (some ⟨0, 0, none⟩) (h0.take 5) magicB 5 5 32 5 (by simp; omega) rfl true HA.out _ (Kd.C_drew HC5.out) (Kd.C_drew HMG.out)).mono ?_; rintro e w' ⟨rfl, rfl⟩) | (go_at_call 39; refine (nought_any (some ⟨H, 8, none⟩) (h0.drop 8) 24 24 (by simp; omega) z HZ.out _ (Kd.C_drew HC8.out)).mono ?_; rintro e w5 ⟨rfl, hb⟩; have K5 := pw_cell_below (below_step (below_drew1 (Below.refl _ _)) hb) z5; have HB5 := Aside0.mk (below_step (below_drew1 (Below.refl W3.heap.size W3)) hb); clear hb))
        all_goals
          go_wp2_with fail
          go_meet
          case rel => exact ⟨by rw [HF.out], ⟨HS3.out.later HT.out HB5.out, blk_below HH3.out HB5.out⟩⟩
  obtain ⟨rfl, HSH⟩ := hcut
  obtain ⟨W4, hW4⟩ : ∃ W4, W4 = wc := ⟨_, rfl⟩
  rw [← hW4] at HSH ⊢
  clear hW4
  cases hk
  · have HNO : Aside0 (readB tell = none) := ⟨by unfold readB; rw [← HH0.out, ← HHK.out]; rfl⟩
    simp only [Bool.not_false]
    go_wp2_with fail
    rw [HP.out]
    exact .inl ⟨HNO.out, rfl, 1, by omega, HSH.out.1.j⟩
  · obtain ⟨n, hn⟩ : ∃ n, n = (gt h0 5).toNat := ⟨_, rfl⟩
    have hn8 : n ≤ 8 := by
      have := HHK.out
      unfold headOK at this
      rw [← hn] at this
      cases hq : decide (n ≤ 8)
      · rw [hq] at this; simp at this
      · exact of_decide_eq_true hq
    have HN := Aside0.mk hn
    have z5 : W4.cell? ⟨H, 5, none⟩ = some (.int .u8 (n : Int)) := by
      rw [blk_cell HSH.out.2, hn]
      simp [bytesV, gt_some h0 5 (by omega)]
    clear hn
    simp only [Bool.not_true]
    go_upto_region 10 with fail
    clear z5
    go_loopg [45, 7] n (fun gk v45 v7 wr => ∃ i : Nat, i ≤ n ∧ Aside0 (gk = n - i) ∧ v45 = .int .u8 i ∧ Aside0 (kBlock.R 40 wr B0 (fun _ => True) v7 (tableT tell i)) ∧ Aside0 (RdS g bnd B0 J G X (1 + i) wr ∧ wr.heap[H]? = some (.cells (bytesV h0).toArray 40 (0, 0)) ∧ v7.ownBlock ≠ some H))
    case atStart => exact ⟨0, Nat.zero_le _, ⟨rfl⟩, rfl, ⟨Kd.R_nil _ _ _ _ _⟩, ⟨HSH.out.1, HSH.out.2, by simp [Value.ownBlock]⟩⟩
    case round =>
      obtain ⟨i, hi, HGK, rfl, HR, HSi⟩ := hrel
      by_cases hlt : i < n
      · have hli := HL.out (1 + i)
        obtain ⟨b, hb⟩ : ∃ b, b = tell (1 + i) := ⟨_, rfl⟩
        rw [← hb] at hli
        have HBB := Aside0.mk hb
        clear hb
        have i1 : IntKind.u8.wrap ((i : Int) + 1) = (i : Int) + 1 := IntWalk.u8_in _ (by omega)
        go_wp2_with (first | (go_at_call 38; refine (HSi.out.1.take HT.out (by omega)).mono ?_; rw [← HBB.out]; rintro e W5 ⟨rfl, hs, hk⟩; have HS5 := Aside0.mk hs; have HK5 := Aside0.mk hk; have HR5 := Aside0.mk (row_take HR.out HSi.out.1 hk); clear hs hk) | ((with_reducible refine gate_dst (N := 50) rfl ?_); refine build_block rfl (.tmp 49) rfl b hli rfl ?_) | ((with_reducible refine gate_builtin (b := .append) (xs := #[.tmp 47, .tmp 50]) rfl ?_); at_builtin; refine Kd.R_append kBlock (w0 := W5) B0 rfl (.tmp 47) (.tmp 50) 33 40 zB 32 rfl Tryd.underlying33 info_blockZ rfl (by decide) (by omega) _ (tableT tell i) b (bytesV b) (fun _ => True) (fun _ => False) rfl rfl (kBlock_M _ _ _ hli) (fun _ hk => hk.elim) (fun _ _ => trivial) HR5.out (Below.refl _ _) HS5.out.size (by rw [tableT_len]; omega) ?_; intro v7 w7 ho7 hb7 hg7 hat7; have HO7 := Aside0.mk ho7; have HG7 := Aside0.mk hg7; have HAT7 := Aside0.mk hat7; clear ho7 hb7 hg7 hat7))
        have hHX : H ≠ X := blk_ne HSi.out.2.1 HSi.out.1.xbox (by decide)
        have hH5 := HK5.out.blk HSi.out.2.1 hHB hHX
        have HS7 : Aside0 (RdS g bnd B0 J G X (1 + (i + 1)) w7 ∧ w7.heap[H]? = some (.cells (bytesV h0).toArray 40 (0, 0)) ∧ v7.ownBlock ≠ some H) := ⟨by
          refine ⟨HS5.out.grown HT.out HG7.out (fun k hk => Kd.R_base HR5.out k hk) (fun e => Kd.R_ne HR5.out HS5.out.gbox (by decide) e.symm) (fun e => Kd.R_ne HR5.out HS5.out.xbox (by decide) e.symm), (HG7.out.block H (blk_lt hH5) (fun e => HSi.out.2.2 e.symm)).trans hH5, ?_⟩
          rcases HAT7.out with e | ⟨q, e, hq⟩
          · rw [e]; exact HSi.out.2.2
          · rw [e]; intro e2; injection e2 with e2; have := blk_lt hH5; omega⟩
        go_roundg (n - (i + 1))
        case measure => have := HGK.out; omega
        case rel => exact ⟨i + 1, by omega, ⟨rfl⟩, by go_num, ⟨by rw [tableT_succ, HBB.out.symm]; exact HO7.out⟩, HS7⟩
      · have hin : i = n := by omega
        obtain ⟨T, hT⟩ : ∃ T, T = tableT tell n := ⟨_, rfl⟩
        have hTl : T.length = n := by rw [hT, tableT_len]
        have HRT : Aside0 (kBlock.R 40 wr B0 (fun _ => True) u7 T) := ⟨by rw [hT, ← hin]; exact HR.out⟩
        have HST : Aside0 (RdS g bnd B0 J G X (1 + n) wr) := ⟨by rw [← hin]; exact HSi.out.1⟩
        have hTg : ∀ i, i < n → gt T i = tell (1 + i) := fun i hi => by rw [hT]; exact tableT_gt tell n i hi
        have HTT := Aside0.mk hT
        have HTG := Aside0.mk hTg
        have HTL := Aside0.mk hTl
        have hbk := byte_blk HSi.out.2.1 (by omega)
        have HBK := Aside0.mk hbk
        clear hTg hbk hin HR HGK HSH
        obtain ⟨s0, hs0⟩ : ∃ s0, (gt h0 6).toNat * 256 + (gt h0 7).toNat = s0 := ⟨_, rfl⟩
        have HS0 := Aside0.mk hs0
        obtain ⟨sT, hsT⟩ : ∃ sT, sumT T = sT := ⟨_, rfl⟩
        have HSUM := Aside0.mk hsT
        obtain ⟨At, ct, rfl⟩ := Kd.R_slice HRT.out
        rw [hTl]
        clear hs0 hsT hT hTl
        have HRB := Aside0.mk (readB_of HH0.out HHK.out HN.out HTT.out)
        rw [HS0.out, HSUM.out] at HRB
        rw [HTL.out] at HRT
        by_cases hsum : s0 = sT
        · subst hsum
          have hsum' : ((s0 : Int) != (s0 : Int)) = false := by simp
          rw [if_pos rfl] at HRB
          go_wp2_with (first | (go_at_call 40; refine (get2_at H 6 h0 (by omega) s0 HS0.out 26 _ HBK.out).mono ?_; rintro e w' ⟨rfl, rfl⟩) | (go_at_call 33; refine (sum_call _ T n HTL.out _ _ (readsS' HRT.out) s0 HSUM.out).mono ?_; rintro e w8 ⟨rfl, hb⟩; have HB8 := Aside0.mk hb; have HS8 := Aside0.mk (HST.out.later HT.out hb); have HR8 := Aside0.mk (Kd.R_below HRT.out hb); have zx := blk_cell HS8.out.xbox 0; simp only [List.getElem?_toArray, List.getElem?_cons_zero] at zx; have hXs : X < w8.heap.size := blk_lt HS8.out.xbox; clear hb) | ((with_reducible refine gate_dst (N := 65) rfl ?_); refine Kd.R_make (Kd.int .i64) (w0 := w8) B0 3 rfl (N := 65) rfl 78 _ _ rfl (n : Int) rfl rfl Tryd.underlying78 (.int .i64 0) 8 info_int rfl (by decide) (by omega) (0 : Int) (ok := fun q => q ≠ X) (okp := fun q => q ≠ X) rfl (fun _ hq => hq) (by omega) (by omega) (by omega) (Below.refl _ _) HS8.out.size ?_; intro v1 w9 ho hb hg hnew; obtain ⟨As, cs, rfl⟩ := Kd.R_slice ho; have HO9 := Aside0.mk ho; have HG9 := Aside0.mk hg; clear ho hb hg hnew))
          have e0 : (List.replicate (n : Int).toNat (0 : Int)).length = n := by simp
          rw [e0] at HO9
          clear e0 zx hsum'
          have HS9 := Aside0.mk (HS8.out.grown HT.out HG9.out (fun k hk => by cases hk) (by simp) (by simp))
          have HR9 := Aside0.mk (Kd.R_grown HR8.out HG9.out (fun _ _ => by simp))
          go_loopg [68, 10, 11, 13, 14, 15, 16, 17, 18, 19] n (fun gk v68 v10 v11 _ _ _ _ _ _ _ wr => ∃ i : Nat, i ≤ n ∧ Aside0 (gk = n - i) ∧ v68 = .int .i64 i ∧ v11 = .int .i64 (firstT T i) ∧ Aside0 (goodTo T i = true) ∧ Aside0 (kFileO.R 28 wr B0 (fun _ => True) v10 ((T.take i).map nameF)) ∧ Aside0 (kBlock.R 40 wr B0 (fun _ => True) (.slice At n ct) T) ∧ Aside0 ((Kd.int .i64).R 3 wr B0 (fun q => q ≠ X) (.slice As n cs) (szTo T n i)) ∧ Aside0 (RdS g bnd B0 J G X (1 + n) wr))
          case atStart => exact ⟨0, Nat.zero_le _, ⟨rfl⟩, rfl, by rw [firstT_zero, HTL.out]; simp, ⟨rfl⟩, ⟨Kd.R_nil _ _ _ _ _⟩, HR9, ⟨by rw [szTo_zero]; have := HO9.out; rwa [Int.toNat_natCast] at this⟩, HS9⟩
          case round =>
            clear HO9 HG9 HR9 HS9
            obtain ⟨i, hi, HGK, rfl, rfl, HGO, HOi, HRi, HZi, HSi2⟩ := hrel
            by_cases hlt : i < n
            · obtain ⟨gT, rfl, _, _⟩ := R_formV HRi.out (by omega)
              obtain ⟨b, hb⟩ : ∃ b, b = gt T i := ⟨_, rfl⟩
              have hbi := block_in (readsS' HRi.out) (k := i) (by rw [HTL.out]; exact hlt)
              rw [← hb] at hbi
              have hb32 := hbi.1
              have HBI := Aside0.mk hbi.2
              have HB := Aside0.mk hb
              obtain ⟨nm, hnm⟩ : ∃ nm : ByteArray, nm.data.toList = entN b := ⟨⟨(entN b).toArray⟩, rfl⟩
              obtain ⟨s, hs⟩ : ∃ s, entS b = s := ⟨_, rfl⟩
              obtain ⟨f, hf⟩ : ∃ f, entF b = f := ⟨_, rfl⟩
              obtain ⟨r, hr⟩ : ∃ r, entK b = r := ⟨_, rfl⟩
              obtain ⟨fi, hfi⟩ : ∃ fi, fi = firstT T i := ⟨_, rfl⟩
              rw [← hfi]
              have hfl : fi ≤ 1 + n + 8 * i := by rw [hfi]; exact firstT_good HGO.out (by omega) HTL.out
              have HG1 : Aside0 (goodTo T (i + 1) = (r && (decide (s ≤ 256) && decide (f = if s = 0 then 0 else fi)))) := ⟨by rw [goodTo_succ, HGO.out, ← hb, ← hfi]; unfold entGood; rw [hs, hf, hr]; rfl⟩
              have HNB : Aside0 (goodTo T (i + 1) = false → readB tell = none) := ⟨fun h => by rw [HRB.out, if_neg]; rw [Bool.not_eq_true]; exact goodTo_mono h (by omega)⟩
              have HNM := Aside0.mk hnm
              have HS := Aside0.mk hs
              have HF := Aside0.mk hf
              have HR := Aside0.mk hr
              have HFI := Aside0.mk hfi
              have hs6 : s ≤ 65535 := by rw [← hs]; unfold entS; have := (gt b 12).toNat_lt; have := (gt b 13).toNat_lt; omega
              obtain ⟨want, hwant⟩ : ∃ want, want = if s = 0 then 0 else fi := ⟨_, rfl⟩
              rw [← hwant] at HG1
              have HW := Aside0.mk hwant
              clear hbi hb hnm hs hf hr hfi hwant
              go_upto_if 82 with (first | ((with_reducible refine gate_dst (N := 72) rfl ?_); refine load_block rfl _ rfl ⟨gT, i * 32, none⟩ rfl b hb32 HBI.out ?_) | ((with_reducible refine gate_store (t := 40) (p := 14) rfl ?_); refine store_block_new rfl (.tmp 14) (.tmp 72) rfl _ rfl rfl b hb32 rfl ?_; obtain ⟨W1', hW1'⟩ : ∃ W1', wr.alloc (.cells (bytesV b).toArray 40) = W1' := ⟨_, rfl⟩; have HX1 : Aside0 (W1'.heap[wr.heap.size]? = some (.cells (bytesV b).toArray 40 (0, 0))) := ⟨by rw [← hW1']; exact blk_new wr _⟩; have HB1 : Aside0 (Below wr.heap.size wr W1') := ⟨by rw [← hW1']; exact below_alloc (Below.refl _ _) _⟩; rw [hW1']; clear hW1') | ((with_reducible refine gate_dst (N := 74) rfl ?_); refine load_block rfl _ rfl ⟨wr.heap.size, 0, none⟩ rfl b hb32 (block_cells HX1.out) ?_) | (go_at_call 41; refine (entry_any b hb32 nm HNM.out s f HS.out HF.out r HR.out _).mono ?_; rintro e w10 ⟨rfl, hb⟩; have HB10 := Aside0.mk (below_step HB1.out hb); clear hb))
              have HS10 := Aside0.mk (HSi2.out.later HT.out HB10.out)
              have HO10 := Aside0.mk (Kd.R_below HOi.out HB10.out)
              have HR10 := Aside0.mk (Kd.R_below HRi.out HB10.out)
              have HZ10 := Aside0.mk (Kd.R_below HZi.out HB10.out)
              clear HOi HRi HZi HSi2 HB10 HB1 HX1
              go_cut [19] (fun v19 wd => v19 = .int .i64 (want : Int) ∧ Aside0 (wd = w10))
              case first =>
                by_cases hs0 : s = 0
                · have hsz : ((s : Int) == 0) = true := by simp [hs0]
                  have HW0 : Aside0 (want = 0) := ⟨by rw [HW.out, if_pos hs0]⟩
                  clear hs0
                  go_wp2_with fail
                  go_meet
                  case rel => exact ⟨by rw [HW0.out]; rfl, ⟨rfl⟩⟩
                · have hsz : ((s : Int) == 0) = false := beq_eq_false_iff_ne.mpr (by omega)
                  have HW0 : Aside0 (want = fi) := ⟨by rw [HW.out, if_neg hs0]⟩
                  clear hs0
                  go_wp2_with fail
                  go_meet
                  case rel => exact ⟨by rw [HW0.out], ⟨rfl⟩⟩
              obtain ⟨rfl, HWC⟩ := hcut
              rw [HWC.out]
              clear HWC
              cases r
              · go_wp2_with fail
                rw [HP.out]
                exact .inl ⟨HNB.out (by rw [HG1.out]; rfl), rfl, 1 + n, by omega, HS10.out.j⟩
              · by_cases h256 : 256 < s
                · have h256' : (256 : Int) < (s : Int) := by omega
                  go_wp2_with fail
                  rw [HP.out]
                  exact .inl ⟨HNB.out (by rw [HG1.out, decide_eq_false (by omega)]; rfl), rfl, 1 + n, by omega, HS10.out.j⟩
                · have h256' : decide ((256 : Int) < (s : Int)) = false := decide_eq_false (by omega)
                  by_cases hfw : f = want
                  · have hfw' : ((f : Int) != (want : Int)) = false := by rw [hfw]; simp
                    have HGI : Aside0 (goodTo T (i + 1) = true) := ⟨by rw [HG1.out, decide_eq_true (by omega), decide_eq_true hfw]; rfl⟩
                    have i5 : IntKind.i64.wrap ((fi : Int) + ((s + 31) / 32 : Nat)) = (fi : Int) + ((s + 31) / 32 : Nat) := IntWalk.i64_in _ (by omega)
                    have HF1 : Aside0 (firstT T (i + 1) = fi + (s + 31) / 32) := ⟨by rw [firstT_succ T i (by rw [HTL.out]; exact hlt), ← HFI.out, ← HB.out, HS.out]; rfl⟩
                    obtain ⟨gS, rfl, hgS, _⟩ := R_formV HZ10.out (by omega)
                    clear hfw
                    go_wp2_with (first | ((with_reducible refine gate_builtin (b := .append) (xs := #[.tmp 96, .tmp 99]) rfl ?_); at_builtin; refine Kd.R_append kFileO (w0 := w10) B0 rfl (.tmp 96) (.tmp 99) 22 28 (.agg #[.string ByteArray.empty, .slice none 0 0]) 40 rfl Tryd.underlying22 info_fileR rfl (by decide) (by omega) _ ((T.take i).map nameF) (nameF b) [.string nm, .slice none 0 0] (fun _ => True) (fun _ => False) rfl rfl (nameF_M _ _ _ b nm HNM.out) (fun _ hq => hq.elim) (fun _ _ => trivial) HO10.out (Below.refl _ _) HS10.out.size (by have : (T.take i).length ≤ i := List.length_take_le _ _; simp; omega) ?_; intro v11 w11 ho hb hg hat; have HO11 := Aside0.mk ho; have HG11 := Aside0.mk hg; have HZ11 := Aside0.mk (Kd.R_over HZ10.out HO10.out (fun q hq => by rw [intE q hq]; decide) hg); have HR11 := Aside0.mk (Kd.R_over HR10.out HO10.out (fun q hq => by rw [blockE q hq]; decide) hg); have HS11 := Aside0.mk (HS10.out.grown HT.out hg (fun k hk => Kd.R_base HO10.out k hk) (fun e => Kd.R_ne HO10.out HS10.out.gbox (by decide) e.symm) (fun e => Kd.R_ne HO10.out HS10.out.xbox (by decide) e.symm)); obtain ⟨rc, rf⟩ := intR_cell HZ11.out i hlt; clear ho hb hg hat) | (go_at_call 42; refine (many_any s _ (by omega)).mono ?_; rintro e w12 ⟨rfl, rfl⟩))
                    obtain ⟨hzp, hgp⟩ := intR_put HZ11.out i (s : Int)
                    have HZ12 : Aside0 ((Kd.int .i64).R 3 (w11.setCell ⟨gS, i, none⟩ (.int .i64 (s : Int))) B0 (fun q => q ≠ X) (.slice (some ⟨gS, 0, none⟩) n cs) (szTo T n (i + 1))) := ⟨by rw [← szTo_set T n i HTL.out hlt, ← HB.out, HS.out]; exact hzp⟩
                    have HO12 : Aside0 (kFileO.R 28 (w11.setCell ⟨gS, i, none⟩ (.int .i64 (s : Int))) B0 (fun _ => True) v11 ((T.take (i + 1)).map nameF)) := ⟨by rw [List.take_add_one, gt_some T i (by rw [HTL.out]; exact hlt), List.map_append, ← HB.out]; exact Kd.R_over HO11.out HZ11.out (fun q hq => by rcases fileOE q hq with e | e <;> rw [e] <;> decide) hgp⟩
                    have HR12 := Aside0.mk (Kd.R_over HR11.out HZ11.out (fun q hq => by rw [blockE q hq]; decide) hgp)
                    have hgX : gS ≠ X := HZ11.out.1 gS (by simp [Value.ownBlock])
                    have HS12 := Aside0.mk (HS11.out.grown HT.out hgp (fun k hk => by cases hk; exact hgS) (fun e => Kd.R_ne HZ11.out HS11.out.gbox (by decide) e.symm) (fun e => hgX (by injection e)))
                    clear hzp hgp
                    go_roundg (n - (i + 1))
                    case measure => have := HGK.out; omega
                    case rel => exact ⟨i + 1, by omega, ⟨rfl⟩, by go_num, by rw [HF1.out]; go_num, HGI, HO12, HR12, HZ12, HS12⟩
                  · have hfw' : ((f : Int) != (want : Int)) = true := bne_iff_ne.mpr (by omega)
                    go_wp2_with fail
                    rw [HP.out]
                    exact .inl ⟨HNB.out (by rw [HG1.out, decide_eq_false hfw]; simp), rfl, 1 + n, by omega, HS10.out.j⟩
            · have hin : i = n := by omega
              have hTn : T.take n = T := List.take_of_length_le (by rw [HTL.out]; exact Nat.le_refl _)
              rw [hin] at HGO HOi HZi
              rw [hTn, ← filesTo_zero tell T] at HOi
              obtain ⟨Ao, co, rfl⟩ := Kd.R_slice HOi.out
              have hfl : (filesTo tell T 0).length = n := by rw [filesTo_len, HTL.out]
              rw [HGO.out, if_pos rfl] at HRB
              obtain ⟨tg, htg⟩ : ∃ tg, togB (filesTo tell T 0) = tg := ⟨_, rfl⟩
              rw [← filesTo_zero tell T, htg] at HRB
              have HTG2 := Aside0.mk htg
              have HCo := Aside0.mk (readsS' HOi.out)
              have HSZ : Aside0 (∀ k, k < (filesTo tell T 0).length → (gt (filesTo tell T 0) k).name.size ≤ 9223372036854775807) := ⟨fun k hk => by
                rw [filesTo_gt tell T 0 k (by rw [HTL.out, ← hfl]; exact hk), if_neg (by omega)]
                have := nameK_le (gt T k)
                have h1 : (entN (gt T k)).length ≤ 12 := this
                show (entN (gt T k)).toArray.size ≤ _
                rw [List.size_toArray]
                omega⟩
              clear htg hTn hin HGK hi
              rw [hfl]
              rw [hfl] at HCo
              go_upto_if 110 with (go_at_call 29; refine (together_as Ao (filesTo tell T 0) n co hfl tg HTG2.out _ HCo.out HSZ.out (by omega)).mono ?_; rintro e w13 ⟨rfl, hb⟩; have HB13 := Aside0.mk hb; clear hb)
              cases tg
              · go_wp2_with fail
                rw [HP.out]
                exact .inl ⟨by rw [HRB.out]; rfl, rfl, 1 + n, by omega, (HSi2.out.later HT.out HB13.out).j⟩
              · rw [if_pos rfl] at HRB
                have HS13 := Aside0.mk (HSi2.out.later HT.out HB13.out)
                have HO13 := Aside0.mk (Kd.R_below HOi.out HB13.out)
                have HZ13 := Aside0.mk (Kd.R_below HZi.out HB13.out)
                have HRF := Aside0.mk hfl
                clear HOi HRi HZi HSi2 HCo HSZ HB13 hfl
                go_wp2_with fail
                go_loopg [113, 20, 21, 22, 23] n (fun gk v113 _ _ _ _ wr => ∃ i : Nat, i ≤ n ∧ Aside0 (gk = n - i) ∧ v113 = .int .i64 i ∧ Aside0 (restTo tell T i = true) ∧ Aside0 (kFileO.R 28 wr B0 (fun _ => True) (.slice Ao n co) (filesTo tell T i)) ∧ Aside0 ((Kd.int .i64).R 3 wr B0 (fun q => q ≠ X) (.slice As n cs) (szTo T n n)) ∧ Aside0 (RdS g bnd B0 J G X (firstT T i) wr))
                case atStart => exact ⟨0, Nat.zero_le _, ⟨rfl⟩, rfl, ⟨rfl⟩, ⟨by rw [HRF.out] at HO13; exact HO13.out⟩, HZ13, ⟨by rw [firstT_zero, HTL.out]; exact HS13.out⟩⟩
                case round =>
                  clear HO13 HZ13 HS13
                  obtain ⟨i, hi, HGK, rfl, HRT0, HOi, HZi, HSi3⟩ := hrel
                  by_cases hlt : i < n
                  · obtain ⟨gS, rfl, hgS, _⟩ := R_formV HZi.out (by omega)
                    obtain ⟨gO, rfl, hgO, _⟩ := R_formV HOi.out (by omega)
                    obtain ⟨rc, rf⟩ := intR_cell HZi.out i hlt
                    rw [szTo_gt T n i HTL.out hlt] at rc
                    have hs256 := goodTo_size HGO.out i hlt
                    have hfi := firstT_good (goodTo_sub HGO.out (by omega)) (i := i) (by omega) HTL.out
                    obtain ⟨s, hs⟩ : ∃ s, s = entS (gt T i) := ⟨_, rfl⟩
                    obtain ⟨fi, hfi2⟩ : ∃ fi, fi = firstT T i := ⟨_, rfl⟩
                    rw [← hs] at rc hs256
                    rw [← hfi2] at HSi3 hfi
                    obtain ⟨m, hm⟩ : ∃ m, m = (s + 31) / 32 := ⟨_, rfl⟩
                    have hm8 : m ≤ 8 := by omega
                    have HSS := Aside0.mk hs
                    have HFI := Aside0.mk hfi2
                    have HM := Aside0.mk hm
                    obtain ⟨N, hN⟩ : ∃ N, N = wr.heap.size := ⟨_, rfl⟩
                    have hNs : N ≤ wr.heap.size := by omega
                    have hBN : B0 ≤ N := by rw [hN]; exact HSi3.out.size
                    have HON : Aside0 (kFileO.R 28 wr B0 (fun q => q < N) (.slice (some ⟨gO, 0, none⟩) n co) (filesTo tell T i)) := ⟨Kd.R_mono (Kd.R_bound HOi.out) (fun q hq => by rw [hN]; exact hq.2.2.1)⟩
                    have HNS := Aside0.mk hNs
                    have HBN := Aside0.mk hBN
                    clear hs hfi2 hm hN hNs hBN HOi
                    go_wp2_with (go_at_call 42; refine (many_any s _ (by omega)).mono ?_; rw [← HM.out]; rintro e w12 ⟨rfl, rfl⟩)
                    go_loopg [120, 22, 23] m (fun gk v120 v22 _ wz => ∃ k : Nat, k ≤ m ∧ Aside0 (gk = m - k) ∧ v120 = .int .i64 k ∧ Aside0 (k = 0 → v22 = .slice none 0 0) ∧ Aside0 (byte.R 5 wz N (fun _ => True) v22 (dataT tell fi k)) ∧ Aside0 (kFileO.R 28 wz B0 (fun q => q < N) (.slice (some ⟨gO, 0, none⟩) n co) (filesTo tell T i)) ∧ Aside0 ((Kd.int .i64).R 3 wz B0 (fun q => q ≠ X) (.slice (some ⟨gS, 0, none⟩) n cs) (szTo T n n)) ∧ Aside0 (N ≤ wz.heap.size) ∧ Aside0 (RdS g bnd B0 J G X (fi + k) wz))
                    case atStart => exact ⟨0, Nat.zero_le _, ⟨rfl⟩, rfl, ⟨fun _ => rfl⟩, ⟨Kd.R_nil _ _ _ _ _⟩, HON, HZi, HNS, HSi3⟩
                    case round =>
                      clear HON HZi HNS HSi3 rc rf
                      obtain ⟨k, hk, HGJ, rfl, HV0, HDk, HOk, HZk, HNk, HSk⟩ := hrel
                      by_cases hkm : k < m
                      · obtain ⟨b, hb⟩ : ∃ b, b = tell (fi + k) := ⟨_, rfl⟩
                        have hb32 : b.length = 32 := by rw [hb]; exact HL.out _
                        have HBB := Aside0.mk hb
                        clear hb
                        go_wp2_with (first | (go_at_call 38; refine (HSk.out.take HT.out (by omega)).mono ?_; rw [← HBB.out]; rintro e W5 ⟨rfl, hs, hk⟩; have HS5 := Aside0.mk hs; have HD5 := Aside0.mk (bytes_take HBN.out HDk.out HSk.out hk); have HO5 := Aside0.mk (files_take HOk.out HSk.out hk); have HZ5 := Aside0.mk (hk.row HZk.out (fun q hq => hq)); have HN5 : Aside0 (N ≤ W5.heap.size) := ⟨Nat.le_trans HNk.out hk.size⟩; clear hs hk) | ((with_reducible refine gate_store (t := 40) (p := 23) rfl ?_); refine store_block_new rfl (.tmp 23) (.tmp 123) rfl _ rfl rfl b hb32 rfl ?_; obtain ⟨W6, hW6⟩ : ∃ W6, W5.alloc (.cells (bytesV b).toArray 40) = W6 := ⟨_, rfl⟩; have hx6 : W6.heap[W5.heap.size]? = some (.cells (bytesV b).toArray 40 (0, 0)) := (by rw [← hW6]; exact blk_new W5 _); have hb6 : Below W5.heap.size W5 W6 := (by rw [← hW6]; exact below_alloc (Below.refl _ _) _); have HX6 := Aside0.mk (byte_blk hx6 (by omega)); have HS6 := Aside0.mk (HS5.out.later HT.out hb6); have HD6 := Aside0.mk (Kd.R_below HD5.out hb6); have HO6 := Aside0.mk (Kd.R_below HO5.out hb6); have HZ6 := Aside0.mk (Kd.R_below HZ5.out hb6); have HN6 : Aside0 (N ≤ W6.heap.size) := ⟨Nat.le_trans HN5.out hb6.size⟩; obtain ⟨Q, hQ⟩ : ∃ Q, W5.heap.size = Q := ⟨_, rfl⟩; rw [hW6, hQ]; rw [hQ] at HX6; clear hW6 hx6 hb6 hQ) | ((with_reducible refine gate_builtin (b := .append) (xs := #[.tmp 124, .tmp 125]) rfl ?_); at_builtin; refine Kd.R_append_rows byte (Rr := byte.K W6) (w0 := W6) N rfl (.tmp 124) (.tmp 125) 26 5 (.int .u8 0) 1 rfl Tryd.underlying26 info_byte rfl (by decide) (by omega) _ (dataT tell fi k) b (some ⟨Q, 0, none⟩) 32 32 (fun _ => True) (fun _ => False) rfl rfl HD6.out (by rw [← hb32]; exact HX6.out) (fun _ _ hx => hx) (fun _ hq => hq.elim) (fun _ _ => trivial) (Below.refl _ _) HN6.out (by rw [dataT_len tell HL.out]; omega) ?_; intro v7 w7 ho hb hg hat; have HD7 := Aside0.mk ho; have HO7 := Aside0.mk (Kd.R_grown HO6.out hg (fun q hq e => by have h1 := Kd.R_base HD6.out q e.symm; have h2 : q < N := hq; omega)); have HZ7 := Aside0.mk (Kd.R_over HZ6.out HD6.out (fun q hq => by rw [intE q hq]; decide) hg); have HN7 : Aside0 (N ≤ w7.heap.size) := ⟨Nat.le_trans HN6.out hg.size⟩; have HS7 := Aside0.mk (HS6.out.grown HT.out hg (fun q hq => Nat.le_trans HBN.out (Kd.R_base HD6.out q hq)) (fun e => Kd.R_ne HD6.out HS6.out.gbox (by decide) e.symm) (fun e => Kd.R_ne HD6.out HS6.out.xbox (by decide) e.symm)); clear ho hb hg hat))
                        go_roundg (m - (k + 1))
                        case measure => have := HGJ.out; omega
                        case rel => exact ⟨k + 1, by omega, ⟨rfl⟩, by go_num, ⟨fun h => by omega⟩, ⟨by rw [dataT_succ, ← HBB.out]; exact HD7.out⟩, HO7, HZ7, HN7, HS7⟩
                      · have hkm' : k = m := by omega
                        rw [hkm'] at HV0 HDk HSk
                        have hdl : (dataT tell fi m).length = 32 * m := dataT_len tell HL.out fi m
                        obtain ⟨ds, hds⟩ : ∃ ds, ds = dataT tell fi m := ⟨_, rfl⟩
                        rw [← hds] at HDk hdl
                        have HDI : Aside0 (ds = dataI tell T i) := ⟨by rw [hds]; unfold dataI; rw [← HFI.out, ← HSS.out, HM.out]; rfl⟩
                        obtain ⟨z, hz⟩ : ∃ z, zerosB (ds.drop s) = z := ⟨_, rfl⟩
                        have HR1 : Aside0 (restTo tell T (i + 1) = z) := ⟨by rw [restTo_succ, HRT0.out, ← HDI.out, ← HSS.out, hz]; rfl⟩
                        have HNB : Aside0 (z = false → readB tell = none) := ⟨fun h => by rw [HRB.out, if_neg]; rw [Bool.not_eq_true]; exact restTo_false (j := i) (by rw [← HDI.out, ← HSS.out, hz, h]) hlt⟩
                        have HZE := Aside0.mk hz
                        have HF1 : Aside0 (firstT T (i + 1) = fi + m) := ⟨by rw [firstT_succ T i (by rw [HTL.out]; exact hlt), ← HFI.out, ← HSS.out, HM.out]; rfl⟩
                        have HNAM : Aside0 ((fileT tell T i).name = (gt (filesTo tell T i) i).name) := ⟨by rw [filesTo_gt tell T i i (by rw [HTL.out]; exact hlt), if_neg (by omega)]; rfl⟩
                        have HDAT : Aside0 ((fileT tell T i).data = ds.take s) := ⟨by rw [HDI.out, HSS.out]; rfl⟩
                        have HSET : Aside0 ((filesTo tell T i).set i (fileT tell T i) = filesTo tell T (i + 1)) := ⟨filesTo_set tell T i (by rw [HTL.out]; exact hlt)⟩
                        have hms := HM.out
                        clear hds hz hkm' hk
                        by_cases hs0 : s = 0
                        · have hm0 : m = 0 := by omega
                          have hv := HV0.out hm0
                          subst hv
                          obtain rfl : ds = [] := List.eq_nil_of_length_eq_zero (by omega)
                          have hz1 : z = true := by rw [← HZE.out]; simp [zerosB]
                          subst hz1
                          clear hms hdl
                          go_wp2_with (first | (go_at_call 39; refine (nought_any none [] 0 0 rfl true rfl _ (Kd.C_nil byte _)).mono ?_; rintro e w14 ⟨rfl, hb⟩; obtain ⟨⟨u, rc⟩, rf, ho, hg⟩ := fileO_put (W := w14) (ok := fun _ => True) (Kd.R_mono (Kd.R_below HOk.out hb) (fun _ _ => trivial)) i hlt (fileT tell T i) HNAM.out (.slice none 0 0) (fun q => q ≠ gO) (fun q hq => ⟨trivial, hq⟩) (nil_M _ _ _ _ (by rw [HDAT.out]; simp)); have HO14 := Aside0.mk ho; have HG14 := Aside0.mk hg; have HZ14 := Aside0.mk (Kd.R_below HZk.out hb); have HO14' := Aside0.mk (Kd.R_mono (Kd.R_below HOk.out hb) (ok' := fun _ => True) (fun _ _ => trivial)); have HS14 := Aside0.mk (HSk.out.later HT.out hb); clear ho hg hb))
                          rw [HSET.out] at HO14
                          have HS15 := HS14.out.grown HT.out HG14.out (fun k hk => by cases hk; exact hgO) (fun e => Kd.R_ne HO14'.out HS14.out.gbox (by decide) e.symm) (fun e => Kd.R_ne HO14'.out HS14.out.xbox (by decide) e.symm)
                          have HZ15 := Aside0.mk (Kd.R_over HZ14.out HO14'.out (fun q hq => by rw [intE q hq]; decide) HG14.out)
                          rw [← HF1.out] at HS15
                          go_roundg (n - (i + 1))
                          case measure => have := HGK.out; omega
                          case rel => exact ⟨i + 1, by omega, ⟨rfl⟩, by go_num, HR1, HO14, HZ15, ⟨HS15⟩⟩
                        · obtain ⟨gD, cD, hv, hgD, _⟩ := Kd.R_form HDk.out (by omega)
                          subst hv
                          obtain ⟨L, hL⟩ : ∃ L, ds.length = L := ⟨_, rfl⟩
                          rw [hL] at HDk hdl
                          rw [hL]
                          have hLc : L ≤ cD := (Kd.R_reads' HDk.out).2.1
                          have hsL : s ≤ L := by omega
                          have hL9 : L ≤ 256 := by omega
                          have HL2 := Aside0.mk hL
                          have HGD := Aside0.mk hgD
                          clear hdl hms hL hgD
                          have HCD := Aside0.mk (readsS' HDk.out)
                          cases z
                          · by_cases hcs : cD = s
                            · exfalso
                              have h1 : ds.drop s = [] := List.drop_of_length_le (by rw [HL2.out]; omega)
                              have h2 := HZE.out
                              rw [h1] at h2
                              cases h2
                            · go_wp2_with (go_at_call 39; refine (nought_drop _ gD ds s L HL2.out hsL _ HZE.out _ HCD.out (.inl rfl) _).mono ?_; rintro e w14 ⟨rfl, hb⟩; have HB14 := Aside0.mk hb; clear hb)
                              rw [HP.out]
                              exact .inl ⟨HNB.out (by trivial), rfl, fi + m, by omega, (HSk.out.later HT.out HB14.out).j⟩
                          · by_cases hcs : cD = s
                            · go_wp2_with (go_at_call 39; refine (nought_drop _ gD ds s L HL2.out hsL _ HZE.out _ HCD.out (.inr (by omega)) _).mono ?_; rintro e w14 ⟨rfl, hb⟩; obtain ⟨⟨u, rc⟩, rf, ho, hg⟩ := fileO_put (W := w14) (ok := fun _ => True) (Kd.R_mono (Kd.R_below HOk.out hb) (fun _ _ => trivial)) i hlt (fileT tell T i) HNAM.out (.slice (some ⟨gD, 0, none⟩) s s) (fun q => q ≠ gO) (fun q hq => ⟨trivial, hq⟩) (cut_M (Kd.R_below HDk.out hb) HBN.out (fileT tell T i) s (by rw [HDAT.out, List.length_take, HL2.out]; omega) HDAT.out hsL (by omega) (by have h1 : gO < N := HOk.out.1 gO rfl; have := HGD.out; omega)); have HO14 := Aside0.mk ho; have HG14 := Aside0.mk hg; have HZ14 := Aside0.mk (Kd.R_below HZk.out hb); have HO14' := Aside0.mk (Kd.R_mono (Kd.R_below HOk.out hb) (ok' := fun _ => True) (fun _ _ => trivial)); have HS14 := Aside0.mk (HSk.out.later HT.out hb); clear ho hg hb)
                              rw [HSET.out] at HO14
                              have HS15 := HS14.out.grown HT.out HG14.out (fun k hk => by cases hk; exact hgO) (fun e => Kd.R_ne HO14'.out HS14.out.gbox (by decide) e.symm) (fun e => Kd.R_ne HO14'.out HS14.out.xbox (by decide) e.symm)
                              have HZ15 := Aside0.mk (Kd.R_over HZ14.out HO14'.out (fun q hq => by rw [intE q hq]; decide) HG14.out)
                              rw [← HF1.out] at HS15
                              go_roundg (n - (i + 1))
                              case measure => have := HGK.out; omega
                              case rel => exact ⟨i + 1, by omega, ⟨rfl⟩, by go_num, HR1, HO14, HZ15, ⟨HS15⟩⟩
                            · go_wp2_with (go_at_call 39; refine (nought_drop _ gD ds s L HL2.out hsL _ HZE.out _ HCD.out (.inl rfl) _).mono ?_; rintro e w14 ⟨rfl, hb⟩; obtain ⟨⟨u, rc⟩, rf, ho, hg⟩ := fileO_put (W := w14) (ok := fun _ => True) (Kd.R_mono (Kd.R_below HOk.out hb) (fun _ _ => trivial)) i hlt (fileT tell T i) HNAM.out (.slice (some ⟨gD, 0, none⟩) s s) (fun q => q ≠ gO) (fun q hq => ⟨trivial, hq⟩) (cut_M (Kd.R_below HDk.out hb) HBN.out (fileT tell T i) s (by rw [HDAT.out, List.length_take, HL2.out]; omega) HDAT.out hsL (by omega) (by have h1 : gO < N := HOk.out.1 gO rfl; have := HGD.out; omega)); have HO14 := Aside0.mk ho; have HG14 := Aside0.mk hg; have HZ14 := Aside0.mk (Kd.R_below HZk.out hb); have HO14' := Aside0.mk (Kd.R_mono (Kd.R_below HOk.out hb) (ok' := fun _ => True) (fun _ _ => trivial)); have HS14 := Aside0.mk (HSk.out.later HT.out hb); clear ho hg hb)
                              rw [HSET.out] at HO14
                              have HS15 := HS14.out.grown HT.out HG14.out (fun k hk => by cases hk; exact hgO) (fun e => Kd.R_ne HO14'.out HS14.out.gbox (by decide) e.symm) (fun e => Kd.R_ne HO14'.out HS14.out.xbox (by decide) e.symm)
                              have HZ15 := Aside0.mk (Kd.R_over HZ14.out HO14'.out (fun q hq => by rw [intE q hq]; decide) HG14.out)
                              rw [← HF1.out] at HS15
                              go_roundg (n - (i + 1))
                              case measure => have := HGK.out; omega
                              case rel => exact ⟨i + 1, by omega, ⟨rfl⟩, by go_num, HR1, HO14, HZ15, ⟨HS15⟩⟩
                  · have hin : i = n := by omega
                    rw [hin] at HRT0 HOi HSi3
                    rw [HRT0.out, if_pos rfl] at HRB
                    have HC := readsS' HOi.out
                    have hl3 : (filesTo tell T n).length = n := by rw [filesTo_len, HTL.out]
                    rw [hl3] at HC
                    have HLL := Aside0.mk hl3
                    have HCC := Aside0.mk HC
                    have HLC := Aside0.mk (Kd.R_reads' HOi.out).2.1
                    clear hin HC hl3
                    go_wp2_with fail
                    rw [HP.out]
                    exact .inr ⟨_, Ao, co, HRB.out, by rw [HLL.out]; rfl, by rw [HLL.out]; exact HLC.out, by rw [HLL.out]; exact HCC.out, by rw [← HH0.out, ← HN.out, ← HTT.out]; exact HSi3.out.j⟩
        · have hsum' : ((s0 : Int) != (sT : Int)) = true := bne_iff_ne.mpr (by omega)
          go_wp2_with (first | (go_at_call 40; refine (get2_at H 6 h0 (by omega) s0 HS0.out 26 _ HBK.out).mono ?_; rintro e w' ⟨rfl, rfl⟩) | (go_at_call 33; refine (sum_call _ T n HTL.out _ _ (readsS' HRT.out) sT HSUM.out).mono ?_; rintro e w8 ⟨rfl, hb⟩; have HB8 := Aside0.mk hb; clear hb))
          rw [HP.out]
          refine .inl ⟨?_, rfl, 1 + n, by omega, (HST.out.later HT.out HB8.out).j⟩
          rw [HRB.out, if_neg hsum]
end Go.Proofs.YtahjadbjokkjnaaDoor
