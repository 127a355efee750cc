/-
  Package disks by its own text: Read, of a sector that may be bad.
-/
import Derived.Test.YtakjbdeemifnmaaDoorDiskSt
import Derived.Test.YtakjbdeemifnmaaDoorDkR
namespace Go.Proofs.YtakjbdeemifnmaaDoor
open Go Go.RowKit

theorem St.ok {w0 wi : World} {d : Nat} {D : Dk.Disk} (h : St w0 wi d D) : Dk.Ok D := by obtain ⟨O, hO, _⟩ := h; exact hO.ok
theorem DiskAt.read_any {wi : World} {d : Nat} {D : Dk.Disk} {O : Nat → Prop} (h : DiskAt wi d D O) (n : Nat) (hn : n < D.seen.length) :
    Calls Tryd.prog 70 #[.pointer (some ⟨d, 0, none⟩), .int .i64 (n : Nat)] wi fun e w' => ∃ a l r, e = .returned (.tuple #[.slice a l l, .int .i64 (r : Nat)]) ∧ Rd w' a (nums .u8 (Dk.bytesOf (Dk.at_ D.seen n))) ∧ (Dk.bytesOf (Dk.at_ D.seen n)).length = l ∧ r = Dk.errOf (Dk.at_ D.seen n) ∧ Touch No wi w' := by
  by_cases hb : (Dk.at_ D.seen n).bad = 1
  · rw [Dk.bytesOf, Dk.errOf, if_pos hb, if_pos hb]
    exact (read_lost wi d D O n h hn hb).mono fun _ _ ⟨he, e⟩ => ⟨none, 0, 12, he, Rd.nil _ _, rfl, rfl, e ▸ Touch.refl _ _⟩
  · rw [Dk.bytesOf, Dk.errOf, if_neg hb, if_neg hb]
    have hok := h.ok.seen _ (Dk.at_mem hn)
    exact (read_in wi d D O n h hn (by have := hok.bad; omega)).mono fun _ _ ⟨g, he, _, hr, t⟩ => ⟨some ⟨g, 0, none⟩, 64, 0, he, hr, hok.b.len, rfl, t⟩
theorem St.read_any {w0 wi : World} {d : Nat} {D : Dk.Disk} (h : St w0 wi d D) (n : Nat) (hn : n < D.seen.length) :
    Calls Tryd.prog 70 #[.pointer (some ⟨d, 0, none⟩), .int .i64 (n : Nat)] wi fun e w' => ∃ a l r, e = .returned (.tuple #[.slice a l l, .int .i64 (r : Nat)]) ∧ Rd w' a (nums .u8 (Dk.bytesOf (Dk.at_ D.seen n))) ∧ (Dk.bytesOf (Dk.at_ D.seen n)).length = l ∧ r = Dk.errOf (Dk.at_ D.seen n) ∧ Touch No wi w' := by
  obtain ⟨O, h, t⟩ := h
  exact h.on.read_any n hn
theorem St.read {w0 wi : World} {d : Nat} {D : Dk.Disk} (h : St w0 wi d D) (n : Nat) (b : List Nat) (hn : n < D.seen.length) (hb : (Dk.at_ D.seen n).bad = 0) (he : (Dk.at_ D.seen n).b = b) :
    Calls Tryd.prog 70 #[.pointer (some ⟨d, 0, none⟩), .int .i64 (n : Nat)] wi fun e w' => ∃ g, e = .returned (.tuple #[.slice (some ⟨g, 0, none⟩) 64 64, .int .i64 0]) ∧ Rd w' (some ⟨g, 0, none⟩) (nums .u8 b) ∧ Touch No wi w' := by
  obtain ⟨O, h, t⟩ := h
  subst he
  exact (read_in wi d D O n h.on hn hb).mono fun _ _ ⟨g, he, _, hr, t⟩ => ⟨g, he, hr, t⟩

end Go.Proofs.YtakjbdeemifnmaaDoor
