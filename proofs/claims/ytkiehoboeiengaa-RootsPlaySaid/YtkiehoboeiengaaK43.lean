/-
  Package disks by its own text: one disk, made since a world.
  Package disks by its own text: Read, of a sector that may be bad.
-/
import Derived.Test.YtkiehoboeiengaaK15
import Derived.Test.YtkiehoboeiengaaK16
namespace Go.Proofs.Ytkiehoboeiengaa
open Go Go.RowKit

def LawPost (w : World) (e : Ending) (w' : World) : Prop := e = .returned (.bool true) ∧ Touch No w w'
/-- one disk, made since w0 -/
def St (w0 wi : World) (d : Nat) (D : Dk.Disk) : Prop := ∃ O, Dsk wi d D w0.heap.size O ∧ Touch (fun k => w0.heap.size ≤ k) w0 wi
theorem St.no {w0 wi w' : World} {d : Nat} {D : Dk.Disk} (h : St w0 wi d D) (t : Touch No wi w') : St w0 w' d D := by
  obtain ⟨O, h, t0⟩ := h
  exact ⟨O, h.no t, t0.then t (fun _ _ f => f.elim)⟩
theorem St.end {w0 wi : World} {d : Nat} {D : Dk.Disk} (h : St w0 wi d D) : Touch No w0 wi := by
  obtain ⟨O, h, t0⟩ := h
  exact t0.mono (fun k hk h => absurd hk (Nat.not_lt.2 h))
theorem St.alloc {w0 wi : World} {d : Nat} {D : Dk.Disk} (h : St w0 wi d D) (o : Obj) : St w0 (wi.alloc o) d D := h.no ((Touch.refl No wi).alloc o)
theorem St.made {w0 wi w' : World} {d : Nat} {D : Dk.Disk} (t : Touch No w0 wi) (h : Made wi d D w') : St w0 w' d D := by
  obtain ⟨t', O, h⟩ := h
  exact ⟨O, h.base t.size, (t.trans t').mono (fun _ _ f => f.elim)⟩
theorem St.after {w0 wi w' : World} {d : Nat} {D D' : Dk.Disk} {O : Nat → Prop} (h : Dsk wi d D w0.heap.size O) (t : Touch (fun k => w0.heap.size ≤ k) w0 wi) (h' : After wi d D' w0.heap.size O w') : St w0 w' d D' := by
  obtain ⟨t', O', h', _⟩ := h'
  exact ⟨O', h', t.then t' (fun k _ hk => h.ge k hk)⟩
theorem St.write {w0 wi : World} {d : Nat} {D : Dk.Disk} (h : St w0 wi d D) (n : Nat) (a : Option Addr) (l c : Nat) (b : List Nat) (hn : n < D.seen.length) (hl : b.length = l) (hl64 : l ≤ 64) (hlt : ∀ x ∈ b, x < 256) (hr : Rd wi a (nums .u8 b)) (hw : D.waits.length ≤ 1000000) :
    Calls Try.prog 14 #[.pointer (some ⟨d, 0, none⟩), .int .i64 (n : Nat), .slice a l c] wi fun e w' => e = .returned (.int .i64 0) ∧ St w0 w' d (Dk.write D n b) := by
  obtain ⟨O, h, t⟩ := h
  exact (write_k wi d D w0.heap.size O n a l c b t.size h hn hl hl64 hlt hr hw).mono fun _ _ ⟨he, h'⟩ => ⟨he, St.after h t h'⟩
theorem St.write_bad {w0 wi : World} {d : Nat} {D : Dk.Disk} (h : St w0 wi d D) (n : Int) (a : Option Addr) (l c : Nat) (hb : ¬ (0 ≤ n ∧ n < D.seen.length) ∨ 64 < l) :
    Calls Try.prog 14 #[.pointer (some ⟨d, 0, none⟩), .int .i64 n, .slice a l c] wi fun e w' => e = .returned (.int .i64 1) ∧ wi = w' := by
  obtain ⟨O, h, t⟩ := h
  exact Proofs.Ytkiehoboeiengaa.write_bad wi d D O n a l c h.on hb
theorem St.sync {w0 wi : World} {d : Nat} {D : Dk.Disk} (h : St w0 wi d D) :
    Calls Try.prog 42 #[.pointer (some ⟨d, 0, none⟩)] wi fun e w' => e = .returned (.int .i64 0) ∧ St w0 w' d (Dk.sync D) := by
  obtain ⟨O, h, t⟩ := h
  exact (sync_k wi d D w0.heap.size O t.size h).mono fun _ _ ⟨he, h'⟩ => ⟨he, St.after h t h'⟩
theorem St.bad {w0 wi : World} {d : Nat} {D : Dk.Disk} (h : St w0 wi d D) (n : Nat) (hn : n < D.seen.length) (hw : D.waits.length ≤ 1000000) :
    Calls Try.prog 12 #[.pointer (some ⟨d, 0, none⟩), .int .i64 (n : Nat)] wi fun e w' => e = .returned (.int .i64 0) ∧ St w0 w' d (Dk.bad D n) := by
  obtain ⟨O, h, t⟩ := h
  exact (bad_k wi d D w0.heap.size O n t.size h hn hw).mono fun _ _ ⟨he, h'⟩ => ⟨he, St.after h t h'⟩
theorem St.rot {w0 wi : World} {d : Nat} {D : Dk.Disk} (h : St w0 wi d D) (n p x : Nat) (hn : n < D.seen.length) (hp : p < 64) (hx : x < 256) (hw : D.waits.length ≤ 1000000) :
    Calls Try.prog 10 #[.pointer (some ⟨d, 0, none⟩), .int .i64 (n : Nat), .int .i64 (p : Nat), .int .u8 (x : Nat)] wi fun e w' => e = .returned (.int .i64 0) ∧ St w0 w' d (Dk.rot D n p x) := by
  obtain ⟨O, h, t⟩ := h
  exact (rot_k wi d D w0.heap.size O n p x t.size h hn hp hx hw).mono fun _ _ ⟨he, h'⟩ => ⟨he, St.after h t h'⟩
theorem St.waits {w0 wi : World} {d : Nat} {D : Dk.Disk} (h : St w0 wi d D) (n : Nat) (hn : D.waits.length = n) :
    Calls Try.prog 22 #[.pointer (some ⟨d, 0, none⟩)] wi fun e w' => e = .returned (.int .i64 (n : Nat)) ∧ wi = w' := by
  obtain ⟨O, h, t⟩ := h
  subst hn
  exact waits_in wi d D O h.on
theorem St.len {w0 wi : World} {d : Nat} {D : Dk.Disk} (h : St w0 wi d D) :
    Calls Try.prog 59 #[.pointer (some ⟨d, 0, none⟩)] wi fun e w' => e = .returned (.int .i64 (D.seen.length : Nat)) ∧ wi = w' := by
  obtain ⟨O, h, t⟩ := h
  exact len_in wi d D O h.on
theorem St.lost {w0 wi : World} {d : Nat} {D : Dk.Disk} (h : St w0 wi d D) (n : Nat) (hn : n < D.seen.length) (hb : (Dk.at_ D.seen n).bad = 1) :
    Calls Try.prog 60 #[.pointer (some ⟨d, 0, none⟩), .int .i64 (n : Nat)] wi fun e w' => e = .returned (.tuple #[.slice none 0 0, .int .i64 12]) ∧ wi = w' := by
  obtain ⟨O, h, t⟩ := h
  exact read_lost wi d D O n h.on hn hb
end Go.Proofs.Ytkiehoboeiengaa
namespace Go.Proofs.Ytkiehoboeiengaa
open Go Go.RowKit

theorem St.ok {w0 wi : World} {d : Nat} {D : Dk.Disk} (h : St w0 wi d D) : Dk.Ok D := by obtain ⟨O, hO, _⟩ := h; exact hO.ok
theorem DiskAt.read_any {wi : World} {d : Nat} {D : Dk.Disk} {O : Nat → Prop} (h : DiskAt wi d D O) (n : Nat) (hn : n < D.seen.length) :
    Calls Try.prog 60 #[.pointer (some ⟨d, 0, none⟩), .int .i64 (n : Nat)] wi fun e w' => ∃ a l r, e = .returned (.tuple #[.slice a l l, .int .i64 (r : Nat)]) ∧ Rd w' a (nums .u8 (Dk.bytesOf (Dk.at_ D.seen n))) ∧ (Dk.bytesOf (Dk.at_ D.seen n)).length = l ∧ r = Dk.errOf (Dk.at_ D.seen n) ∧ Touch No wi w' := by
  by_cases hb : (Dk.at_ D.seen n).bad = 1
  · rw [Dk.bytesOf, Dk.errOf, if_pos hb, if_pos hb]
    exact (read_lost wi d D O n h hn hb).mono fun _ _ ⟨he, e⟩ => ⟨none, 0, 12, he, Rd.nil _ _, rfl, rfl, e ▸ Touch.refl _ _⟩
  · rw [Dk.bytesOf, Dk.errOf, if_neg hb, if_neg hb]
    have hok := h.ok.seen _ (Dk.at_mem hn)
    exact (read_in wi d D O n h hn (by have := hok.bad; omega)).mono fun _ _ ⟨g, he, _, hr, t⟩ => ⟨some ⟨g, 0, none⟩, 64, 0, he, hr, hok.b.len, rfl, t⟩
theorem St.read_any {w0 wi : World} {d : Nat} {D : Dk.Disk} (h : St w0 wi d D) (n : Nat) (hn : n < D.seen.length) :
    Calls Try.prog 60 #[.pointer (some ⟨d, 0, none⟩), .int .i64 (n : Nat)] wi fun e w' => ∃ a l r, e = .returned (.tuple #[.slice a l l, .int .i64 (r : Nat)]) ∧ Rd w' a (nums .u8 (Dk.bytesOf (Dk.at_ D.seen n))) ∧ (Dk.bytesOf (Dk.at_ D.seen n)).length = l ∧ r = Dk.errOf (Dk.at_ D.seen n) ∧ Touch No wi w' := by
  obtain ⟨O, h, t⟩ := h
  exact h.on.read_any n hn
theorem St.read {w0 wi : World} {d : Nat} {D : Dk.Disk} (h : St w0 wi d D) (n : Nat) (b : List Nat) (hn : n < D.seen.length) (hb : (Dk.at_ D.seen n).bad = 0) (he : (Dk.at_ D.seen n).b = b) :
    Calls Try.prog 60 #[.pointer (some ⟨d, 0, none⟩), .int .i64 (n : Nat)] wi fun e w' => ∃ g, e = .returned (.tuple #[.slice (some ⟨g, 0, none⟩) 64 64, .int .i64 0]) ∧ Rd w' (some ⟨g, 0, none⟩) (nums .u8 b) ∧ Touch No wi w' := by
  obtain ⟨O, h, t⟩ := h
  subst he
  exact (read_in wi d D O n h.on hn hb).mono fun _ _ ⟨g, he, _, hr, t⟩ => ⟨g, he, hr, t⟩

end Go.Proofs.Ytkiehoboeiengaa
