/-
  Chapter 49: the law's own disk, and what is read of it.
-/
import Derived.Test.YtahjadbjokkjnaaDoorDk2
namespace Go.Proofs.YtahjadbjokkjnaaDoor
open Go.RowKit Go.Proofs.YtahjadbjokkjnaaDoorW.PrintWords Go.Proofs.YtahjadbjokkjnaaDoorW.PrintLast Go.Proofs.YtahjadbjokkjnaaDoorW.PrintMore
set_option linter.unusedVariables false
set_option linter.unusedSimpArgs false

def DiskPost (A : Option Addr) (n c : Nat) (hv : Value) (w : World) (e : Ending) (w' : World) : Prop := ∃ B1 B2, e = .returned (.func (.func 44) #[] #[.pointer (some ⟨B1, 0, none⟩), .pointer (some ⟨B2, 0, none⟩)]) ∧ w'.cell? ⟨B1, 0, none⟩ = some (.slice A n c) ∧ w'.cell? ⟨B2, 0, none⟩ = some hv ∧ Below w.heap.size w w'
theorem disk_nil (A : Option Addr) (n c : Nat) (w : World) : Calls Tryd.prog 24 #[.slice A n c, .nilFunc] w (DiskPost A n c .nilFunc w) := by
  go_enter Tryd.func24, Tryd.ntmps24
  go_wp2
  go_ret
  refine ⟨_, _, rfl, ?_, ?_, below_alloc (below_alloc (Below.refl _ _) _) _⟩
  · rw [blk_cell (blk_alloc (blk_new w _) _)]; rfl
  · simp
theorem disk_hide (A : Option Addr) (n c K : Nat) (w : World) : Calls Tryd.prog 24 #[.slice A n c, .func (.func 25) #[] #[.pointer (some ⟨K, 0, none⟩)]] w (DiskPost A n c (.func (.func 25) #[] #[.pointer (some ⟨K, 0, none⟩)]) w) := by
  go_enter Tryd.func24, Tryd.ntmps24
  go_wp2
  go_ret
  refine ⟨_, _, rfl, ?_, ?_, below_alloc (below_alloc (Below.refl _ _) _) _⟩
  · rw [blk_cell (blk_alloc (blk_new w _) _)]; rfl
  · simp
theorem disk_tells {w : World} {B1 B2 : Nat} {L : List (List UInt8)} {hk : Option Nat} {A : Option Addr} {c : Nat} (h : DiskAt w B1 B2 L hk A c) :
    Tells 44 #[.pointer (some ⟨B1, 0, none⟩), .pointer (some ⟨B2, 0, none⟩)] w.heap.size (fun _ W => Below w.heap.size w W) (diskT L hk) where
  call := fun n W hJ _ hn => (disk1_any B1 B2 n L hk A c W (h.below hJ) hn).mono fun e W' hp => by
    obtain ⟨b, ok, he, hl, ht, hb⟩ := hp
    exact ⟨b, ok, he, hl, ht, below_step hJ hb, KeptX.of_below hb⟩
  keep := fun n W W' hJ hb => hJ.trans hb
  enters := fun args w => by rfl
theorem diskT_len {w : World} {B1 B2 : Nat} {L : List (List UInt8)} {hk : Option Nat} {A : Option Addr} {c : Nat} (h : DiskAt w B1 B2 L hk A c) (n : Nat) : (diskT L hk n).length = 32 := by
  unfold diskT
  split
  · next hn =>
    obtain ⟨g, hg⟩ := h.form (by omega)
    have hr := h.row
    rw [hg] at hr
    exact (block_in hr hn.1).1
  · rfl
def readF (tell : Nat → List UInt8) : List File := (readB tell).getD []
def readE (tell : Nat → List UInt8) : Int := if (readB tell).isSome then 0 else 3
/-- fs.Read of the law's own disk. -/
theorem read_disk {w : World} {B1 B2 : Nat} {L : List (List UInt8)} {hk : Option Nat} {A : Option Addr} {c : Nat} (h : DiskAt w B1 B2 L hk A c) (hmg : MagicAt w) (F : List File) (hF : readF (diskT L hk) = F) (E : Int) (hE : readE (diskT L hk) = E) (n : Nat) (hn : F.length = n) :
    Calls Tryd.prog 22 #[.func (.func 44) #[] #[.pointer (some ⟨B1, 0, none⟩), .pointer (some ⟨B2, 0, none⟩)]] w fun e w' => ∃ A' c', e = .returned (.tuple #[.slice A' n c', .int .i64 E]) ∧ n ≤ c' ∧ kFile.C w' A' n F ∧ Below w.heap.size w w' := by
  subst hF hE hn
  refine (read_any _ _ w _ (diskT L hk) (diskT_len h) (disk_tells h) (Below.refl _ _) hmg (fun _ W hb => Kd.C_below hmg hb)).mono fun e w' hp => ?_
  rcases hp with ⟨h1, he, m, _, hb⟩ | ⟨l, A', c', h1, he, hlc, hC, hb⟩
  · unfold readF readE
    rw [h1]
    exact ⟨none, 0, he, Nat.le_refl _, Kd.C_nil _ _, hb⟩
  · unfold readF readE
    rw [h1]
    exact ⟨A', c', he, hlc, hC, hb⟩
end Go.Proofs.YtahjadbjokkjnaaDoor
