/-
  Chapter 49, fs.Read, plain: what is read of the blocks that are told; files whose data may be cut short.
-/
import Derived.Test.YtahjadbjokkjnaaDoorRd2
namespace Go.Proofs.YtahjadbjokkjnaaDoor
open Go.RowKit Go.Proofs.YtahjadbjokkjnaaDoorW.PrintWords Go.Proofs.YtahjadbjokkjnaaDoorW.PrintLast Go.Proofs.YtahjadbjokkjnaaDoorW.PrintMore
set_option linter.unusedVariables false
set_option linter.unusedSimpArgs false

def headOK (h : List UInt8) : Bool := decide (h.take 5 = magicB) && (decide ((gt h 5).toNat ≤ 8) && zerosB (h.drop 8))
def tableT (tell : Nat → List UInt8) (n : Nat) : List (List UInt8) := (List.range n).map (fun i => tell (1 + i))
theorem tableT_succ (tell : Nat → List UInt8) (n : Nat) : tableT tell (n + 1) = tableT tell n ++ [tell (1 + n)] := by
  unfold tableT
  rw [List.range_succ, List.map_append]
  rfl
theorem tableT_len (tell : Nat → List UInt8) (n : Nat) : (tableT tell n).length = n := by simp [tableT]
theorem tableT_gt (tell : Nat → List UInt8) (n i : Nat) (h : i < n) : gt (tableT tell n) i = tell (1 + i) := by
  rw [gt_eq _ _ (by rw [tableT_len]; exact h)]
  simp [tableT]
/-- Where the i-th file's data begin. -/
def firstT (T : List (List UInt8)) (i : Nat) : Nat := 1 + T.length + ((T.take i).map (fun b => manyN (entS b))).sum
theorem firstT_zero (T : List (List UInt8)) : firstT T 0 = 1 + T.length := by simp [firstT]
theorem firstT_succ (T : List (List UInt8)) (i : Nat) (h : i < T.length) : firstT T (i + 1) = firstT T i + manyN (entS (gt T i)) := by
  unfold firstT
  rw [List.take_add_one, gt_some T i h, List.map_append, List.sum_append]
  simp
  omega
def entGood (b : List UInt8) (first : Nat) : Bool := entK b && (decide (entS b ≤ 256) && decide (entF b = if entS b = 0 then 0 else first))
def goodTo (T : List (List UInt8)) (i : Nat) : Bool := (List.range i).all fun j => entGood (gt T j) (firstT T j)
theorem goodTo_succ (T : List (List UInt8)) (i : Nat) : goodTo T (i + 1) = (goodTo T i && entGood (gt T i) (firstT T i)) := by
  unfold goodTo
  rw [List.range_succ, List.all_append]
  simp
theorem goodTo_false {T : List (List UInt8)} {j k : Nat} (h : entGood (gt T j) (firstT T j) = false) (hj : j < k) : goodTo T k = false := by
  unfold goodTo
  rw [Bool.eq_false_iff]
  intro ha
  have := List.all_eq_true.1 ha j (List.mem_range.2 hj)
  rw [h] at this
  cases this
theorem goodTo_size {T : List (List UInt8)} {k : Nat} (h : goodTo T k = true) (j : Nat) (hj : j < k) : entS (gt T j) ≤ 256 := by
  unfold goodTo at h
  have := List.all_eq_true.1 h j (List.mem_range.2 hj)
  unfold entGood at this
  simp only [Bool.and_eq_true, decide_eq_true_eq] at this
  exact this.2.1
theorem firstT_le {T : List (List UInt8)} (h : goodTo T T.length = true) (i : Nat) (hi : i ≤ T.length) : firstT T i ≤ 1 + T.length + 8 * i := by
  induction i with
  | zero => rw [firstT_zero]; omega
  | succ i ih =>
    have h1 := ih (by omega)
    have h2 := goodTo_size h i (by omega)
    rw [firstT_succ T i (by omega)]
    have : manyN (entS (gt T i)) ≤ 8 := by unfold manyN; omega
    omega
def nameF (b : List UInt8) : File := ⟨⟨(entN b).toArray⟩, []⟩
/-- k blocks of data from a place on, side by side. -/
def dataT (tell : Nat → List UInt8) (first k : Nat) : List UInt8 := ((List.range k).map (fun j => tell (first + j))).flatten
theorem dataT_succ (tell : Nat → List UInt8) (first k : Nat) : dataT tell first (k + 1) = dataT tell first k ++ tell (first + k) := by
  unfold dataT
  rw [List.range_succ, List.map_append, List.flatten_append]
  simp
theorem dataT_len (tell : Nat → List UInt8) (hl : ∀ n, (tell n).length = 32) (first k : Nat) : (dataT tell first k).length = 32 * k := by
  induction k with
  | zero => rfl
  | succ k ih => rw [dataT_succ, List.length_append, ih, hl]; omega
def dataI (tell : Nat → List UInt8) (T : List (List UInt8)) (i : Nat) : List UInt8 := dataT tell (firstT T i) (manyN (entS (gt T i)))
def restTo (tell : Nat → List UInt8) (T : List (List UInt8)) (i : Nat) : Bool := (List.range i).all fun j => zerosB ((dataI tell T j).drop (entS (gt T j)))
theorem restTo_succ (tell : Nat → List UInt8) (T : List (List UInt8)) (i : Nat) : restTo tell T (i + 1) = (restTo tell T i && zerosB ((dataI tell T i).drop (entS (gt T i)))) := by
  unfold restTo
  rw [List.range_succ, List.all_append]
  simp
theorem restTo_false {tell : Nat → List UInt8} {T : List (List UInt8)} {j k : Nat} (h : zerosB ((dataI tell T j).drop (entS (gt T j))) = false) (hj : j < k) : restTo tell T k = false := by
  unfold restTo
  rw [Bool.eq_false_iff]
  intro ha
  have := List.all_eq_true.1 ha j (List.mem_range.2 hj)
  rw [h] at this
  cases this
def fileT (tell : Nat → List UInt8) (T : List (List UInt8)) (i : Nat) : File := ⟨⟨(entN (gt T i)).toArray⟩, (dataI tell T i).take (entS (gt T i))⟩
/-- The files, the first i of them with their data. -/
def filesTo (tell : Nat → List UInt8) (T : List (List UInt8)) (i : Nat) : List File := (List.range T.length).map fun j => if j < i then fileT tell T j else nameF (gt T j)
theorem filesTo_len (tell : Nat → List UInt8) (T : List (List UInt8)) (i : Nat) : (filesTo tell T i).length = T.length := by simp [filesTo]
theorem filesTo_gt (tell : Nat → List UInt8) (T : List (List UInt8)) (i j : Nat) (h : j < T.length) : gt (filesTo tell T i) j = if j < i then fileT tell T j else nameF (gt T j) := by
  rw [gt_eq _ _ (by rw [filesTo_len]; exact h)]
  simp [filesTo]
theorem filesTo_zero (tell : Nat → List UInt8) (T : List (List UInt8)) : filesTo tell T 0 = T.map nameF := by
  apply List.ext_getElem
  · simp [filesTo]
  · intro j h1 h2
    simp [filesTo, gt_eq T j (by simpa using h2)]
theorem filesTo_set (tell : Nat → List UInt8) (T : List (List UInt8)) (i : Nat) (h : i < T.length) : (filesTo tell T i).set i (fileT tell T i) = filesTo tell T (i + 1) := by
  apply List.ext_getElem
  · simp [filesTo]
  · intro j h1 h2
    simp only [filesTo, List.getElem_set, List.getElem_map, List.getElem_range]
    by_cases hji : i = j
    · subst hji; simp
    · rw [if_neg hji]
      by_cases hl : j < i
      · rw [if_pos hl, if_pos (by omega)]
      · rw [if_neg hl, if_neg (by omega)]
/-- What is read; none: there are no files. -/
def readB (tell : Nat → List UInt8) : Option (List File) :=
  if headOK (tell 0) = true then
    if (gt (tell 0) 6).toNat * 256 + (gt (tell 0) 7).toNat = sumT (tableT tell (gt (tell 0) 5).toNat) then
      if goodTo (tableT tell (gt (tell 0) 5).toNat) (gt (tell 0) 5).toNat = true then
        if togB ((tableT tell (gt (tell 0) 5).toNat).map nameF) = true then
          if restTo tell (tableT tell (gt (tell 0) 5).toNat) (gt (tell 0) 5).toNat = true then
            some (filesTo tell (tableT tell (gt (tell 0) 5).toNat) (gt (tell 0) 5).toNat)
          else none
        else none
      else none
    else none
  else none
/-- A file of the call's own, its data cut out of the head of a block of the call's own. -/
def kFileO : Kd File where
  sz := 2
  E := [5]
  K := kFile.K
  M := fun w base ok x cs => ∃ A c, cs = [.string x.name, .slice A x.data.length c] ∧ x.data.length ≤ c ∧ x.data.length ≤ 9223372036854775807 ∧ (x.data = [] ∨ ∃ g cells, A = some ⟨g, 0, none⟩ ∧ ok g ∧ base ≤ g ∧ w.heap[g]? = some (.cells cells 5 (0, 0)) ∧ ∀ (j : Nat) (p : UInt8), x.data[j]? = some p → cells[j]? = some (.int .u8 (p.toNat : Int)))
  K_len := fun h => kFile.K_len h
  K_one := fun h => kFile.K_one h
  K_below := fun hb h => kFile.K_below hb h
  K_of_M := by
    rintro w base ok x cs ⟨A, c, rfl, hc, hm, hd⟩
    refine kFile_mk w x hc ?_
    rcases hd with hd | ⟨g, cells, rfl, _, _, hb, ht⟩
    · rw [hd]; exact ⟨rfl, Nat.zero_le _, fun hn => absurd hn (by simp)⟩
    · refine ⟨rfl, hm, fun _ => ⟨_, rfl, fun j p hj => ?_⟩⟩
      refine ⟨[.int .u8 (p.toNat : Int)], rfl, rfl, fun i u hu => ?_⟩
      rcases i with _ | i
      · simp only [List.getElem?_cons_zero, Option.some.injEq] at hu
        subst hu
        have e : j * byte.sz + 0 = j := by show j * 1 + 0 = j; omega
        rw [e, add_plain, blk_cell hb]
        simpa using ht j p hj
      · simp at hu
  M_mono := by
    rintro w base ok ok' x cs h ⟨A, c, rfl, hc, hm, hd⟩
    refine ⟨A, c, rfl, hc, hm, ?_⟩
    rcases hd with hd | ⟨g, ds, rfl, h1, h2, h3, h4⟩
    · exact .inl hd
    · exact .inr ⟨g, ds, rfl, h g h1, h2, h3, h4⟩
  M_bound := by
    rintro w base ok x cs ⟨A, c, rfl, hc, hm, hd⟩
    refine ⟨A, c, rfl, hc, hm, ?_⟩
    rcases hd with hd | ⟨g, ds, rfl, h1, h2, h3, h4⟩
    · exact .inl hd
    · exact .inr ⟨g, ds, rfl, ⟨h1, h2, blk_lt h3, _, List.mem_singleton.2 rfl, _, h3⟩, h2, h3, h4⟩
  M_move := by
    rintro w w1 base ok x cs hm' ⟨A, c, rfl, hc, hm, hd⟩
    refine ⟨A, c, rfl, hc, hm, ?_⟩
    rcases hd with hd | ⟨g, ds, rfl, h1, h2, h3, h4⟩
    · exact .inl hd
    · exact .inr ⟨g, ds, rfl, h1, h2, (hm' g h1).trans h3, h4⟩
  M_lower := by
    rintro w base base' ok x cs hb ⟨A, c, rfl, hc, hm, hd⟩
    refine ⟨A, c, rfl, hc, hm, ?_⟩
    rcases hd with hd | ⟨g, ds, rfl, h1, h2, h3, h4⟩
    · exact .inl hd
    · exact .inr ⟨g, ds, rfl, h1, Nat.le_trans hb h2, h3, h4⟩
/-- The Data of one's own file is written. -/
theorem fileO_put {W : World} {base gO n cap : Nat} {ok : Nat → Prop} {l : List File} (h : kFileO.R 28 W base ok (.slice (some ⟨gO, 0, none⟩) n cap) l) (i : Nat) (hi : i < n) (x' : File) (hn : x'.name = (gt l i).name) (v : Value) (okp : Nat → Prop) (hokp : ∀ k, okp k → ok k ∧ k ≠ gO) (hM : kFileO.M W base okp x' [.string x'.name, v]) :
    (∃ u, W.cell? ⟨gO, i * 2 + 1, none⟩ = some u) ∧ W.frozen? ⟨gO, i * 2 + 1, none⟩ = false ∧ kFileO.R 28 (W.setCell ⟨gO, i * 2 + 1, none⟩ v) base ok (.slice (some ⟨gO, 0, none⟩) n cap) (l.set i x') ∧ W.grownBy (W.setCell ⟨gO, i * 2 + 1, none⟩ v) (some gO) := by
  obtain ⟨cs, hcl, hM0, hc, hf⟩ := Kd.R_elem h default (i : Int) (by omega) (by omega)
  have hM1 : kFileO.M W base (fun k => ok k ∧ k ≠ gO) (gt l i) cs := by simpa [gt] using hM0
  obtain ⟨A, c, rfl, _⟩ := hM1
  have hsz : kFileO.sz = 2 := rfl
  simp only [Int.toNat_natCast, hsz] at hc hf
  have hseg := Kd.R_seg h (i : Int) (by omega) (by omega) (c := [.string (gt l i).name, .slice A (gt l i).data.length c]) (seg := [v]) (j := 1) rfl (by simpa [hsz] using hc) (Nat.le_refl _) (x' := x') (okp := okp) (by rw [← hn]; exact hM) hokp
  simp only [Int.toNat_natCast, hsz, World.setCells] at hseg
  exact ⟨⟨_, hc 1 _ rfl⟩, hf 1, hseg.1, hseg.2⟩
theorem cut_M {W : World} {base N g n c : Nat} {ok okk : Nat → Prop} {xs : List UInt8} (h : byte.R 5 W N okk (.slice (some ⟨g, 0, none⟩) n c) xs) (hN : base ≤ N) (x : File) (s : Nat) (hs : x.data.length = s) (hx : x.data = xs.take s) (hsn : s ≤ n) (hn : 0 < n) (hok : ok g) : kFileO.M W base ok x [.string x.name, .slice (some ⟨g, 0, none⟩) s s] := by
  subst hs
  obtain ⟨A', c', he, hl, hC⟩ := Kd.R_reads h
  cases he
  obtain ⟨g', cap', he, hg1, hg2, cells, hb⟩ := Kd.R_form h hn
  cases he
  have hmx := Kd.C_max hC
  refine ⟨_, _, rfl, Nat.le_refl _, by omega, .inr ⟨g, cells, rfl, hok, by omega, hb, fun j p hj => ?_⟩⟩
  have hjl := (List.getElem?_eq_some_iff.1 hj).1
  have h1 := Kd.R_cell default h (j : Int) (by omega) (by omega)
  rw [Int.toNat_natCast] at h1
  rw [← blk_cell hb, h1.1]
  have h2 : xs[j]? = some p := by rw [hx, List.getElem?_take_of_lt (by omega)] at hj; exact hj
  simp [rdOf, h2]
end Go.Proofs.YtahjadbjokkjnaaDoor
