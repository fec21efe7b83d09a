/-
  Chapter 49: contracts with lengths as variables; what was made, read of the law's own disk.
-/
import Derived.Test.YtahjadbjokkjnaaDoorDk3
import Derived.Test.YtahjadbjokkjnaaDoorRp4
import Derived.Test.YtahjadbjokkjnaaDoorFq
namespace Go.Proofs.YtahjadbjokkjnaaDoor
open Go.RowKit Go.Proofs.YtahjadbjokkjnaaDoorW.PrintWords Go.Proofs.YtahjadbjokkjnaaDoorW.PrintLast Go.Proofs.YtahjadbjokkjnaaDoorW.PrintMore
set_option linter.unusedVariables false
set_option linter.unusedSimpArgs false

theorem make_at (A : Option Addr) (l : List File) (N c : Nat) (hN : l.length = N) (w : World) (h : kFile.C w A N l) (hs : ∀ k, k < l.length → (gt l k).name.size ≤ 9223372036854775807) (hmg : MagicAt w) (n : Nat) (hn : (makeV l).length = n) (E : Int) (hE : makeE l = E) :
    Calls Tryd.prog 16 #[.slice A N c] w fun e w' => ∃ Aa ca, e = .returned (.tuple #[.slice Aa n ca, .int .i64 E]) ∧ kBlock.R 40 w' w.heap.size (fun _ => True) (.slice Aa n ca) (makeV l) ∧ Below w.heap.size w w' := by
  subst hN
  exact make_as A l c w h hs hmg n hn E hE
theorem same_at (A B : Option Addr) (a b : List File) (na nb c1 c2 : Nat) (ha : a.length = na) (hb : b.length = nb) (r : Bool) (hr : sameB a b = r) (w : World) (h1 : kFile.C w A na a) (h2 : kFile.C w B nb b) :
    Calls Tryd.prog 19 #[.slice A na c1, .slice B nb c2] w fun e w' => e = .returned (.bool r) ∧ Below w.heap.size w w' := by
  subst ha hb
  exact same_any A B a b c1 c2 r hr w h1 h2
theorem great_at (A : Option Addr) (l : List File) (N c : Nat) (hN : l.length = N) (b : Bool) (hb : greatB l = b) (w : World) (h : kFile.C w A N l) (hs : ∀ k, k < l.length → (gt l k).name.size ≤ 9223372036854775807) :
    Calls Tryd.prog 12 #[.slice A N c] w fun e w' => e = .returned (.bool b) ∧ w = w' := by
  subst hN
  exact great_any A l c b hb w h hs
theorem togTo_le {l : List File} {k n : Nat} (h : togTo l n = true) (hk : k ≤ n) : togTo l k = true := by
  induction n with
  | zero => rw [show k = 0 by omega]; rfl
  | succ n ih =>
    by_cases e : k = n + 1
    · subst e; exact h
    · refine ih ?_ (by omega)
      unfold togTo at h
      simp only [Bool.and_eq_true] at h
      exact h.1
theorem tog_take {l : List File} (h : togB l = true) (m : Nat) (hm : m ≤ l.length) : togB (l.take m) = true := by
  have hl : (l.take m).length = m := by rw [List.length_take]; omega
  have h1 : ∀ k, k ≤ m → togTo (l.take m) k = togTo l k := by
    intro k
    induction k with
    | zero => intro _; rfl
    | succ k ih =>
      intro hk
      have e1 : (l.take m).take k = l.take k := by rw [List.take_take, Nat.min_eq_left (by omega)]
      have e2 : gt (l.take m) k = gt l k := by rw [gt_eq _ _ (by omega), gt_eq _ _ (by omega)]; simp
      unfold togTo
      rw [ih (by omega), e1, e2]
  unfold togB
  rw [hl, h1 m (Nat.le_refl _)]
  exact togTo_le h hm
theorem makeE_of {l : List File} (h8 : l.length ≤ 8) (ht : togB l = true) : makeE l = 0 ∧ makeV l = makeB l := by
  unfold makeE makeV
  constructor
  · rw [if_neg (by omega), ht]; rfl
  · rw [if_neg (by omega), ht]; rfl
/-- The disk that was made, read. -/
theorem back_read {L : List (List UInt8)} (hL : ∀ i, i < L.length → (gt L i).length = 32) {l : List File} (h8 : l.length ≤ 8) (ht : togB l = true) (h : ∀ i, i < (makeB l).length → i < L.length ∧ gt L i = gt (makeB l) i) : readF (diskT L none) = l ∧ readE (diskT L none) = 0 := by
  have hr : readB (diskT L none) = some l := by
    refine made_read (fun n => ?_) h8 ht (fun i hi => ?_)
    · unfold diskT
      split
      · next hn => exact hL n hn.1
      · rfl
    · unfold diskT
      rw [if_pos ⟨(h i hi).1, by simp⟩]
      exact (h i hi).2
  unfold readF readE
  rw [hr]
  exact ⟨rfl, rfl⟩
theorem row_32 {e : Nat} {W : World} {base n c : Nat} {ok : Nat → Prop} {A : Option Addr} {L : List (List UInt8)} (h : kBlock.R e W base ok (.slice A n c) L) : n = L.length ∧ ∀ i, i < L.length → (gt L i).length = 32 := by
  have hC := readsS' h
  obtain ⟨A', c', he, hl, _⟩ := Kd.R_reads h
  cases he
  refine ⟨rfl, fun i hi => ?_⟩
  obtain ⟨g, rfl, _, _⟩ := R_formV h (by omega)
  exact (block_in hC hi).1
theorem disk_at {W : World} {e base n c : Nat} {ok : Nat → Prop} {A : Option Addr} {L : List (List UInt8)} {B1 B2 : Nat} (h : kBlock.R e W base ok (.slice A n c) L) (h1 : W.cell? ⟨B1, 0, none⟩ = some (.slice A n c)) (h2 : W.cell? ⟨B2, 0, none⟩ = some .nilFunc) : DiskAt W B1 B2 L none A c := by
  obtain ⟨rfl, _⟩ := row_32 h
  exact ⟨h1, readsS' h, fun hp => (R_formV h hp).imp fun g hg => hg.1, .inl ⟨rfl, h2⟩⟩
end Go.Proofs.YtahjadbjokkjnaaDoor
