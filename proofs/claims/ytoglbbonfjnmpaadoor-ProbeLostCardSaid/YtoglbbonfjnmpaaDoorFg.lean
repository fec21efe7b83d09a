/-
  Two rows of files of one's own whose bytes lay elsewhere.
-/
import Derived.Test.YtoglbbonfjnmpaaDoorEv
import Derived.Deep.RegionLawGrows
import Derived.Test.YtoglbbonfjnmpaaDoorWArr
namespace Go.Proofs.YtoglbbonfjnmpaaDoor
open Go.RowKit Go.Proofs.YtoglbbonfjnmpaaDoorW.PrintWords Go.Proofs.YtoglbbonfjnmpaaDoorW.PrintLast Go.Proofs.YtoglbbonfjnmpaaDoorW.PrintMore
set_option linter.unusedVariables false
set_option linter.unusedSimpArgs false

/-- A file, its bytes where they lay in w0. -/
def kFileG (w0 : World) : Kd File := Kd.iso (Kd.pair Kd.string (Kd.fixed (Kd.slice 5 byte) w0)) (fun x : File => (x.name, x.data))
theorem kFileG_open {w0 w : World} {x : File} {cs : List Value} (h : (kFileG w0).K w x cs) : ∃ A c, cs = [.string x.name, .slice A x.data.length c] ∧ x.data.length ≤ c ∧ byte.C w0 A x.data.length x.data := by
  obtain ⟨_, _, rfl, rfl, ⟨A, c, rfl, l, g⟩⟩ := h
  exact ⟨A, c, rfl, l, g⟩
theorem kFileG_mkM (w0 w : World) (base : Nat) (ok : Nat → Prop) (x : File) {A : Option Addr} {n c : Nat} (hn : x.data.length = n) (l : n ≤ c) (g : byte.C w0 A n x.data) : (kFileG w0).M w base ok x [.string x.name, .slice A n c] := by
  subst hn
  exact ⟨[.string x.name], [.slice A x.data.length c], rfl, rfl, ⟨A, c, rfl, l, g⟩⟩
theorem fileG_read {w0 w : World} (hb : Below w0.heap.size w0 w) {A : Option Addr} {n : Nat} {xs : List File} (h : (kFileG w0).C w A n xs) : kFile.C w A n xs :=
  Kd.C_read (d := kFile) (dm := kFileG w0) rfl (fun x cs hk => by
    obtain ⟨A, c, rfl, hl, hg⟩ := kFileG_open hk
    exact kFile_mk w x hl (Kd.C_below hg hb)) h
theorem fileG_ok {w0 w : World} {e base : Nat} {ok ok' : Nat → Prop} {v : Value} {xs : List File} (h : (kFileG w0).R e w base ok v xs) (hok : ∀ k, v.ownBlock = some k → ok' k) : (kFileG w0).R e w base ok' v xs := ⟨hok, h.2⟩
theorem fileG_KM {w0 w W : World} {base : Nat} {ok : Nat → Prop} {x : File} {cs : List Value} (h : (kFileG w0).K w x cs) : (kFileG w0).M W base ok x cs := h
/-- One file in a block. -/
theorem fileG_one {w0 W : World} {b : Nat} {x : File} {A : Option Addr} {n c : Nat} (hb : W.heap[b]? = some (.cells #[.string x.name, .slice A n c] 52 (0, 0))) (hn : x.data.length = n) (hl : n ≤ c) (hC : byte.C w0 A n x.data) : (kFileG w0).C W (some ⟨b, 0, none⟩) 1 [x] := by
  refine C_block (d := kFileG w0) (xs := [x]) hb ⟨rfl, fun j p hj => ?_⟩ (by simp)
  rcases j with _ | j
  · simp only [List.getElem?_cons_zero, Option.some.injEq] at hj
    subst hj
    exact (kFileG w0).K_of_M (kFileG_mkM w0 W 0 (fun _ => True) x hn hl hC)
  · simp at hj
/-- Two rows of files, and a file's box. -/
structure F2 (w1 wr : World) (Bx : Nat) (cx : Array Value) (tx : TypeId) (v4 v5 : Value) (L1 L2 : List File) : Prop where
  r4 : (kFileG w1).R 52 wr w1.heap.size (fun k => k ≠ Bx) v4 L1
  r5 : (kFileG w1).R 52 wr w1.heap.size (fun k => k ≠ Bx) v5 L2
  ne : ∀ q, v4.ownBlock = some q → v5.ownBlock ≠ some q
  out : Below w1.heap.size w1 wr
  box : wr.heap[Bx]? = some (.cells cx tx (0, 0))
theorem F2.below {w1 wr W : World} {Bx : Nat} {cx : Array Value} {tx : TypeId} {v4 v5 : Value} {L1 L2 : List File} (h : F2 w1 wr Bx cx tx v4 v5 L1 L2) (hb : Below wr.heap.size wr W) : F2 w1 W Bx cx tx v4 v5 L1 L2 := ⟨Kd.R_below h.r4 hb, Kd.R_below h.r5 hb, h.ne, below_step h.out hb, blk_below h.box hb⟩
theorem F2.app4 {w1 W w2 : World} {Bx : Nat} {cx : Array Value} {tx : TypeId} {v4 v5 v : Value} {L1 L2 L : List File} (h : F2 w1 W Bx cx tx v4 v5 L1 L2) (hr : (kFileG w1).R 52 w2 w1.heap.size (fun k => k ≠ Bx) v L) (hb : Below w1.heap.size w1 w2) (hg : W.grownBy w2 v4.ownBlock) (hat : v.ownBlock = v4.ownBlock ∨ ∃ b, v.ownBlock = some b ∧ W.heap.size ≤ b) : F2 w1 w2 Bx cx tx v v5 L L2 := by
  refine ⟨hr, ?_, fun q hq => ?_, hb, blk_grown h.box hg (fun e => h.r4.1 Bx e.symm rfl)⟩
  · have h5 := fileG_ok h.r5 (ok' := fun k => some k ≠ v4.ownBlock) (fun k hk e => h.ne k e.symm hk)
    exact fileG_ok (Kd.R_grown h5 hg (fun k hk => hk)) h.r5.1
  · rcases hat with e | ⟨b, e, hle⟩
    · exact h.ne q (e ▸ hq)
    · intro h5
      have := Kd.R_lt h.r5 q h5
      rw [e] at hq
      injection hq with hq
      omega
theorem F2.app5 {w1 W w2 : World} {Bx : Nat} {cx : Array Value} {tx : TypeId} {v4 v5 v : Value} {L1 L2 L : List File} (h : F2 w1 W Bx cx tx v4 v5 L1 L2) (hr : (kFileG w1).R 52 w2 w1.heap.size (fun k => k ≠ Bx) v L) (hb : Below w1.heap.size w1 w2) (hg : W.grownBy w2 v5.ownBlock) (hat : v.ownBlock = v5.ownBlock ∨ ∃ b, v.ownBlock = some b ∧ W.heap.size ≤ b) : F2 w1 w2 Bx cx tx v4 v L1 L := by
  refine ⟨?_, hr, fun q hq => ?_, hb, blk_grown h.box hg (fun e => h.r5.1 Bx e.symm rfl)⟩
  · have h4 := fileG_ok h.r4 (ok' := fun k => some k ≠ v5.ownBlock) (fun k hk e => h.ne k hk e.symm)
    exact fileG_ok (Kd.R_grown h4 hg (fun k hk => hk)) h.r4.1
  · rcases hat with e | ⟨b, e, hle⟩
    · rw [e]; exact h.ne q hq
    · intro h5
      have := Kd.R_lt h.r4 q hq
      rw [e] at h5
      injection h5 with h5
      omega
/-- A block that neither row owns stays. -/
theorem F2.far4 {w1 W w2 : World} {Bx : Nat} {cx : Array Value} {tx : TypeId} {v4 v5 : Value} {L1 L2 : List File} {P : World} (h : F2 w1 P Bx cx tx v4 v5 L1 L2) (hg : W.grownBy w2 v4.ownBlock) {b : Nat} {o : Obj} (hb : W.heap[b]? = some o) (hle : P.heap.size ≤ b) : w2.heap[b]? = some o := blk_grown hb hg (fun e => by have := Kd.R_lt h.r4 b e.symm; omega)
theorem F2.far5 {w1 W w2 : World} {Bx : Nat} {cx : Array Value} {tx : TypeId} {v4 v5 : Value} {L1 L2 : List File} {P : World} (h : F2 w1 P Bx cx tx v4 v5 L1 L2) (hg : W.grownBy w2 v5.ownBlock) {b : Nat} {o : Obj} (hb : W.heap[b]? = some o) (hle : P.heap.size ≤ b) : w2.heap[b]? = some o := blk_grown hb hg (fun e => by have := Kd.R_lt h.r5 b e.symm; omega)
theorem bx_cells {W : World} {Bx : Nat} {s : ByteArray} {A : Option Addr} {n c : Nat} {t : TypeId} (h : W.heap[Bx]? = some (.cells #[.string s, .slice A n c] t (0, 0))) : W.cell? ⟨Bx, 0, none⟩ = some (.string s) ∧ W.cell? ⟨Bx, 1, none⟩ = some (.slice A n c) := ⟨blk_cell h 0, blk_cell h 1⟩
/-- A file whose bytes came in with w0, or are the call's own. -/
def kFileY (w0 : World) : Kd File := Kd.iso (Kd.pair Kd.string (Kd.mix 5 byte byte w0)) (fun x : File => (x.name, x.data))
theorem kFileY_came {w0 w : World} {base : Nat} {ok : Nat → Prop} {x : File} {cs : List Value} (h : (kFileG w0).K w x cs) : (kFileY w0).M w base ok x cs := by
  obtain ⟨A, c, rfl, hl, hg⟩ := kFileG_open h
  exact ⟨[.string x.name], [.slice A x.data.length c], rfl, rfl, Kd.mix_came hl hg⟩
theorem kFileY_made {w0 w : World} {base : Nat} {ok : Nat → Prop} {x : File} {v : Value} (h : byte.R 5 w base ok v x.data) : (kFileY w0).M w base ok x [.string x.name, v] := ⟨[.string x.name], [v], rfl, rfl, Kd.mix_made h⟩
theorem fileY_read {w0 w : World} (hb : Below w0.heap.size w0 w) {A : Option Addr} {n : Nat} {xs : List File} (h : (kFileY w0).C w A n xs) : kFile.C w A n xs :=
  Kd.C_read (d := kFile) (dm := kFileY w0) rfl (fun x cs hk => by
    obtain ⟨_, _, rfl, rfl, h2⟩ := hk
    obtain ⟨A, c, rfl, hl, hg⟩ := Kd.mix_read rfl (fun _ _ hk => hk) hb h2
    exact kFile_mk w x hl hg) h
/-- One file of one's own data, made. -/
theorem fileY_lit {w0 W : World} {base : Nat} {x : File} {v : Value} (hle : base ≤ W.heap.size) (hv : byte.R 5 W base (fun _ => True) v x.data) : (kFileY w0).R 52 (W.alloc (.cells #[.string x.name, v] 52)) base (fun _ => True) (.slice (some ⟨W.heap.size, 0, none⟩) 1 1) [x] := by
  refine ⟨fun _ _ => trivial, ?_⟩
  refine OwnRow.lit W base (inner := [.string x.name, v]) ⟨rfl, fun j p hj => ?_⟩ hle (by simp)
  rcases j with _ | j
  · simp only [List.getElem?_cons_zero, Option.some.injEq] at hj
    subst hj
    refine kFileY_made (Kd.R_alloc (Kd.R_mono (Kd.R_bound hv) (fun k hk => ⟨trivial, fun e => ?_⟩)) _)
    simp [Value.ownBlock] at e
    have := hk.2.2.1
    omega
  · simp at hj
/-- append(s[:n:n], t...): what is read, and what one has made, in a new row. -/
theorem front_step {P : Program} {ops : Array Oper} {o : Oper} {a : Act} {Q : Exit → Act → World → Prop} {Kc : Act → World → Prop} {E : Prop} {α : Type} (d : Kd α) {W : World} (base : Nat) (hg : o.guard = none) (s x : Operand) (t e : TypeId) (z : Value) (bytes : Nat)
    (ho : o.op = .call { callee := .builtin .append, args := #[s, x], argTypes := #[t, t] })
    (ht : P.underlying t = some (.slice e)) (hinfo : (P.info? e).map (fun i => (i.zero, i.size, i.bytes)) = some (some z, d.sz, bytes)) (hz : z.cells.size = d.sz) (hs0 : 0 < d.sz) (hb0 : 0 < bytes)
    {Rr : α → List Value → Prop} (A : Option Addr) (n : Nat) (xs : List α) (hA : ReadsRow Rr d.sz W A n xs) (hs : a.eval s = .slice A n n)
    (B : Option Addr) (m c : Nat) (ys : List α) (hx : a.eval x = .slice B m c) (HB : d.R e W base (fun _ => True) (.slice B m c) ys) (hm : 0 < m) {okp : Nat → Prop} (hRM : ∀ p cs, Rr p cs → d.M W base okp p cs) (hbase : base ≤ W.heap.size) (hl : (n + m) * bytes ≤ 140737488355328)
    (h : ∀ v' w', d.R e w' base (fun _ => True) v' (xs ++ ys) → W.grownBy w' none → (∀ q, v'.ownBlock = some q → W.heap.size ≤ q) → Kc (a.put o.dst v') w') :
    if Region.wanted o (yielded ops a.tmps) = true then Oper.wp P o a W Kc Q else E := by
  obtain ⟨i0, hi, hzz⟩ := Option.map_eq_some_iff.1 hinfo
  simp only [Prod.mk.injEq] at hzz
  obtain ⟨hz0, hz1, hz2⟩ := hzz
  have hmy : m = ys.length := (Kd.R_reads' HB).1
  obtain ⟨g, cap, he, _, _, _⟩ := Kd.R_form HB (by omega)
  injection he with he1 _ he3
  subst he1 he3
  obtain ⟨_, news, hown, hnr⟩ := HB
  have hnM : Reps (d.M W base (fun _ => True)) d.sz ys news := hnr.imp_ (fun p cs hp => d.M_mono (fun _ _ => trivial) hp)
  have hnc : ∀ j u, news[j]? = some u → W.cell? ((⟨g, 0, none⟩ : Addr).add j) = some u := fun j u hu => hown.cells (g := g) (by simp [Value.ownBlock]) j u hu
  have hn1 : ∀ u ∈ news, u.oneCell' = true := Kd.reps_one hnM hs0 (fun p cs hp => d.K_one (d.K_of_M hp))
  have hold : ∃ olds : List Value, Reps (d.M W base okp) d.sz xs olds ∧ olds.length = n * d.sz ∧ (A = none → n = 0 ∧ n = 0) ∧ ∀ b, A = some b → ∀ j u, olds[j]? = some u → W.cell? (b.add j) = some u := by
    have hxl : xs.length = n := hA.1
    rcases A with _ | ad
    · have h0 : n = 0 := by
        rcases Nat.eq_zero_or_pos n with h0 | h0
        · exact h0
        · obtain ⟨ad, h, _⟩ := hA.2.2 h0
          cases h
      obtain rfl : xs = [] := List.eq_nil_of_length_eq_zero (by omega)
      exact ⟨[], Reps.none _ _, by simp [h0], fun _ => ⟨h0, h0⟩, fun b hb => by cases hb⟩
    · obtain ⟨olds, hor, hoc⟩ := ReadsRow.inner_ hA
      refine ⟨olds, hor.imp_ (fun p cs hp => hRM p cs hp), by rw [hor.1, hxl], (fun hb => nomatch hb), (fun b hb => ?_)⟩
      cases hb
      exact hoc
  obtain ⟨olds, hoM, hol, hnone, hoc⟩ := hold
  have hlen : n + m ≤ 140737488355328 := Nat.le_trans (Nat.le_mul_of_pos_right _ hb0) hl
  refine step_append_grows hg s x t ho e i0 z d.sz bytes ht hi hz0 hz1 hz2 hz hs0 A n n olds hs hnone hol hoc ⟨g, 0, none⟩ m c news hx (by rw [hnM.1, hmy]) hnc hn1 (by omega) (by simp only [maxLen]; omega) hl ?_
  intro v' w' hown' hgr
  have hbase' : ∀ q, v'.ownBlock = some q → W.heap.size ≤ q := fun q hq => own_base hown' q hq
  have step : ∀ {p : α} {cs : List Value} {o : Nat → Prop}, d.M W base o p cs → d.M w' base (fun k => True ∧ some k ≠ v'.ownBlock) p cs := by
    intro p cs o hp
    have h1 := d.M_move (w1 := w') (fun k hk => hgr.block k hk.2.2.1 (by simp)) (d.M_bound hp)
    exact d.M_mono (fun k hk => ⟨trivial, fun e => by have := hbase' k e.symm; have := hk.2.2.1; omega⟩) h1
  refine h v' w' ⟨fun _ _ => trivial, olds ++ news, ?_, Kd.reps_append (hoM.imp_ (fun _ _ hp => step hp)) (hnM.imp_ (fun _ _ hp => step hp))⟩ hgr hbase'
  have h2 := own_less hown' hbase
  rwa [List.length_append, hA.1, ← hmy]
end Go.Proofs.YtoglbbonfjnmpaaDoor
