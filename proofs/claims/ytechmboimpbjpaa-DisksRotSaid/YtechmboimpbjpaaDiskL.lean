/-
  Package drydocklaw03 by its own text: alive.
-/
import Derived.Test.YtechmboimpbjpaaDiskK
import Derived.Outline
import Derived.Lib.SlBytesConst
namespace Go.Proofs.Ytechmboimpbjpaa
open Go Go.RowKit

def LawPost (w : World) (e : Ending) (w' : World) : Prop := e = .returned (.bool true) ∧ Touch No w w'
/-- one disk, made since w0 -/
def St (w0 wi : World) (d : Nat) (D : Dk.Disk) : Prop := ∃ O, Dsk wi d D w0.heap.size O ∧ Touch (fun k => w0.heap.size ≤ k) w0 wi
theorem St.no {w0 wi w' : World} {d : Nat} {D : Dk.Disk} (h : St w0 wi d D) (t : Touch No wi w') : St w0 w' d D := by
  obtain ⟨O, h, t0⟩ := h
  exact ⟨O, h.no t, t0.then t (fun _ _ f => f.elim)⟩
theorem St.end {w0 wi : World} {d : Nat} {D : Dk.Disk} (h : St w0 wi d D) : Touch No w0 wi := by
  obtain ⟨O, h, t0⟩ := h
  exact t0.mono (fun k hk h => absurd hk (Nat.not_lt.2 h))
theorem St.alloc {w0 wi : World} {d : Nat} {D : Dk.Disk} (h : St w0 wi d D) (o : Obj) : St w0 (wi.alloc o) d D := h.no ((Touch.refl No wi).alloc o)
theorem St.made {w0 wi w' : World} {d : Nat} {D : Dk.Disk} (t : Touch No w0 wi) (h : Made wi d D w') : St w0 w' d D := by
  obtain ⟨t', O, h⟩ := h
  exact ⟨O, h.base t.size, (t.trans t').mono (fun _ _ f => f.elim)⟩
theorem St.after {w0 wi w' : World} {d : Nat} {D D' : Dk.Disk} {O : Nat → Prop} (h : Dsk wi d D w0.heap.size O) (t : Touch (fun k => w0.heap.size ≤ k) w0 wi) (h' : After wi d D' w0.heap.size O w') : St w0 w' d D' := by
  obtain ⟨t', O', h', _⟩ := h'
  exact ⟨O', h', t.then t' (fun k _ hk => h.ge k hk)⟩
theorem St.write {w0 wi : World} {d : Nat} {D : Dk.Disk} (h : St w0 wi d D) (n : Nat) (a : Option Addr) (l c : Nat) (b : List Nat) (hn : n < D.seen.length) (hl : b.length = l) (hl64 : l ≤ 64) (hlt : ∀ x ∈ b, x < 256) (hr : Rd wi a (nums .u8 b)) (hw : D.waits.length ≤ 1000000) :
    Calls Try.prog 13 #[.pointer (some ⟨d, 0, none⟩), .int .i64 (n : Nat), .slice a l c] wi fun e w' => e = .returned (.int .i64 0) ∧ St w0 w' d (Dk.write D n b) := by
  obtain ⟨O, h, t⟩ := h
  exact (write_k wi d D w0.heap.size O n a l c b t.size h hn hl hl64 hlt hr hw).mono fun _ _ ⟨he, h'⟩ => ⟨he, St.after h t h'⟩
theorem St.write_bad {w0 wi : World} {d : Nat} {D : Dk.Disk} (h : St w0 wi d D) (n : Int) (a : Option Addr) (l c : Nat) (hb : ¬ (0 ≤ n ∧ n < D.seen.length) ∨ 64 < l) :
    Calls Try.prog 13 #[.pointer (some ⟨d, 0, none⟩), .int .i64 n, .slice a l c] wi fun e w' => e = .returned (.int .i64 1) ∧ wi = w' := by
  obtain ⟨O, h, t⟩ := h
  exact Proofs.Ytechmboimpbjpaa.write_bad wi d D O n a l c h.on hb
theorem St.sync {w0 wi : World} {d : Nat} {D : Dk.Disk} (h : St w0 wi d D) :
    Calls Try.prog 18 #[.pointer (some ⟨d, 0, none⟩)] wi fun e w' => e = .returned (.int .i64 0) ∧ St w0 w' d (Dk.sync D) := by
  obtain ⟨O, h, t⟩ := h
  exact (sync_k wi d D w0.heap.size O t.size h).mono fun _ _ ⟨he, h'⟩ => ⟨he, St.after h t h'⟩
theorem St.bad {w0 wi : World} {d : Nat} {D : Dk.Disk} (h : St w0 wi d D) (n : Nat) (hn : n < D.seen.length) (hw : D.waits.length ≤ 1000000) :
    Calls Try.prog 23 #[.pointer (some ⟨d, 0, none⟩), .int .i64 (n : Nat)] wi fun e w' => e = .returned (.int .i64 0) ∧ St w0 w' d (Dk.bad D n) := by
  obtain ⟨O, h, t⟩ := h
  exact (bad_k wi d D w0.heap.size O n t.size h hn hw).mono fun _ _ ⟨he, h'⟩ => ⟨he, St.after h t h'⟩
theorem St.rot {w0 wi : World} {d : Nat} {D : Dk.Disk} (h : St w0 wi d D) (n p x : Nat) (hn : n < D.seen.length) (hp : p < 64) (hx : x < 256) (hw : D.waits.length ≤ 1000000) :
    Calls Try.prog 22 #[.pointer (some ⟨d, 0, none⟩), .int .i64 (n : Nat), .int .i64 (p : Nat), .int .u8 (x : Nat)] wi fun e w' => e = .returned (.int .i64 0) ∧ St w0 w' d (Dk.rot D n p x) := by
  obtain ⟨O, h, t⟩ := h
  exact (rot_k wi d D w0.heap.size O n p x t.size h hn hp hx hw).mono fun _ _ ⟨he, h'⟩ => ⟨he, St.after h t h'⟩
theorem St.left {w0 wi : World} {d : Nat} {D : Dk.Disk} (h : St w0 wi d D) (keep : Nat) (torn : Int) (hk : keep < 18446744073709551616) (hw : D.waits.length ≤ 1000000) :
    Calls Try.prog 17 #[.pointer (some ⟨d, 0, none⟩), .int .u64 (keep : Nat), .int .i64 torn] wi fun e w' => ∃ d', e = .returned (.pointer (some ⟨d', 0, none⟩)) ∧ St w0 w' d D ∧ St w0 w' d' (Dk.fail D keep torn) := by
  have h0 := h
  obtain ⟨O, h, t⟩ := h
  exact (left_k wi d D w0.heap.size O keep torn hk h hw).mono fun _ _ ⟨d', he, h'⟩ => ⟨d', he, h0.no h'.1, St.made h0.end h'⟩
theorem St.left2 {w0 wi : World} {d : Nat} {D : Dk.Disk} (h : St w0 wi d D) (keep : Nat) (torn : Int) (hk : keep < 18446744073709551616) (hw : D.waits.length ≤ 1000000) :
    Calls Try.prog 17 #[.pointer (some ⟨d, 0, none⟩), .int .u64 (keep : Nat), .int .i64 torn] wi fun e w' => ∃ d', e = .returned (.pointer (some ⟨d', 0, none⟩)) ∧ St w0 w' d' (Dk.fail D keep torn) ∧ Touch No wi w' := by
  have h0 := h
  obtain ⟨O, h, t⟩ := h
  exact (left_k wi d D w0.heap.size O keep torn hk h hw).mono fun _ _ ⟨d', he, h'⟩ => ⟨d', he, St.made h0.end h', h'.1⟩
theorem St.first {w0 wi : World} {d : Nat} {D : Dk.Disk} (h : St w0 wi d D) (n v : Nat) (hn : n < D.seen.length) (hv : (if (Dk.at_ D.seen n).bad = 1 then 256 else (Dk.at_ D.seen n).b.getD 0 0) = v) :
    Calls Try.prog 16 #[.pointer (some ⟨d, 0, none⟩), .int .i64 (n : Nat)] wi fun e w' => e = .returned (.int .i64 (v : Nat)) ∧ Touch No wi w' := by
  obtain ⟨O, h, t⟩ := h
  exact first_k wi d D w0.heap.size O n v h hn hv
theorem St.waits {w0 wi : World} {d : Nat} {D : Dk.Disk} (h : St w0 wi d D) (n : Nat) (hn : D.waits.length = n) :
    Calls Try.prog 15 #[.pointer (some ⟨d, 0, none⟩)] wi fun e w' => e = .returned (.int .i64 (n : Nat)) ∧ wi = w' := by
  obtain ⟨O, h, t⟩ := h
  subst hn
  exact waits_in wi d D O h.on
theorem St.len {w0 wi : World} {d : Nat} {D : Dk.Disk} (h : St w0 wi d D) :
    Calls Try.prog 24 #[.pointer (some ⟨d, 0, none⟩)] wi fun e w' => e = .returned (.int .i64 (D.seen.length : Nat)) ∧ wi = w' := by
  obtain ⟨O, h, t⟩ := h
  exact len_in wi d D O h.on
theorem St.lost {w0 wi : World} {d : Nat} {D : Dk.Disk} (h : St w0 wi d D) (n : Nat) (hn : n < D.seen.length) (hb : (Dk.at_ D.seen n).bad = 1) :
    Calls Try.prog 19 #[.pointer (some ⟨d, 0, none⟩), .int .i64 (n : Nat)] wi fun e w' => e = .returned (.tuple #[.slice none 0 0, .int .i64 12]) ∧ wi = w' := by
  obtain ⟨O, h, t⟩ := h
  exact read_lost wi d D O n h.on hn hb

namespace Dk
def a0 : Disk := new 2
def a1 : Disk := write a0 0 [97]
def a2 : Disk := bad a1 0
def a3 : Disk := write a2 0 [98]
end Dk
set_option maxRecDepth 100000 in
set_option maxHeartbeats 4000000 in
theorem alive_is (w : World) : Calls Try.prog 14 #[] w fun e w' => e = .returned (.bool true) ∧ Touch No w w' := by
  have kc := fun (w : World) (C : Array Value) (n c : Nat) => Lib.run_convert_bytes_const (P := Try.prog) w 28 5 C n c Try.underlying28 Try.underlying5
  obtain ⟨I, z, hI⟩ := byte_is
  obtain ⟨C, hC⟩ : ∃ C, C = madeCells z.cells (65 * I.size) := ⟨_, rfl⟩
  have hmk : ∀ wx : World, (Instr.makeSlice 28 (.int .i64 65) (.int .i64 65)).run Try.prog wx = .ok (.slice (some ⟨wx.heap.size, 0, none⟩) 65 65) (wx.alloc (.cells C 5)) := fun wx => by
    have := run_make (P := Try.prog) wx 28 5 I z Try.underlying28 hI.info hI.zero .i64 .i64 65 65 (by omega) (by omega) (by rw [hI.bytes]; omega) (by omega)
    rw [this, hC]; rfl
  clear hI hC
  have one97 : ∀ x ∈ [97], x < 256 := by decide
  have one98 : ∀ x ∈ [98], x < 256 := by decide
  go_enter Try.func14, Try.ntmps14
  go_wp2_with fail
  refine (new_k w 2 (by decide) (by decide)).mono ?_
  rintro e w1 ⟨d, rfl, h1⟩
  have s1 : St w w1 d Dk.a0 := St.made (Touch.refl _ _) h1
  clear h1
  go_wp2_with fail
  refine ((s1.alloc (.cells #[.int .u8 97] 5 (1, 2))).write 0 _ 1 1 [97] (of_decide_eq_true (by kernel_rfl)) rfl (by decide) one97 (rd_one w1 _ 97 _) (of_decide_eq_true (by kernel_rfl))).mono ?_
  rintro e w2 ⟨rfl, s2⟩
  have s2 : St w w2 d Dk.a1 := s2
  clear s1
  go_wp2_with fail
  refine (s2.waits 1 (by kernel_rfl)).mono ?_
  rintro e w' ⟨rfl, rfl⟩
  go_wp2_with fail
  refine ((s2.alloc (.cells #[.int .u8 97] 5 (1, 2))).write_bad 2 _ 1 1 (Or.inl (by decide))).mono ?_
  rintro e w3 ⟨rfl, e3⟩
  have s3 : St w w3 d Dk.a1 := by rw [← e3]; exact s2.alloc _
  clear e3 s2
  go_wp2_with fail
  refine ((s3.alloc _).write_bad 0 _ 65 65 (Or.inr (by decide))).mono ?_
  rintro e w4 ⟨rfl, e4⟩
  have s4 : St w w4 d Dk.a1 := by rw [← e4]; exact s3.alloc _
  clear e4 s3
  go_wp2_with fail
  refine (s4.first 0 97 (of_decide_eq_true (by kernel_rfl)) (by kernel_rfl)).mono ?_
  rintro e w5 ⟨rfl, t5⟩
  have s5 := s4.no t5
  clear s4 t5
  go_wp2_with fail
  refine (s5.left 0 (-1) (by decide) (of_decide_eq_true (by kernel_rfl))).mono ?_
  rintro e w6 ⟨x6, rfl, s6, f6⟩
  clear s5
  go_wp2_with fail
  refine (f6.first 0 0 (of_decide_eq_true (by kernel_rfl)) (by kernel_rfl)).mono ?_
  rintro e w7 ⟨rfl, t7⟩
  have s7 := s6.no t7
  clear s6 t7
  clear f6
  go_wp2_with fail
  refine (s7.left 1 (-1) (by decide) (of_decide_eq_true (by kernel_rfl))).mono ?_
  rintro e w8 ⟨x8, rfl, s8, f8⟩
  clear s7
  go_wp2_with fail
  refine (f8.first 0 97 (of_decide_eq_true (by kernel_rfl)) (by kernel_rfl)).mono ?_
  rintro e w9 ⟨rfl, t9⟩
  have s9 := s8.no t9
  clear s8 t9
  clear f8
  go_wp2_with fail
  refine (s9.bad 0 (of_decide_eq_true (by kernel_rfl)) (of_decide_eq_true (by kernel_rfl))).mono ?_
  rintro e w10 ⟨rfl, s10⟩
  have s10 : St w w10 d Dk.a2 := s10
  clear s9
  go_wp2_with fail
  refine (s10.lost 0 (of_decide_eq_true (by kernel_rfl)) (by kernel_rfl)).mono ?_
  rintro e w' ⟨rfl, rfl⟩
  go_wp2_with fail
  refine (new_bad w10 0 (by decide)).mono ?_
  rintro e w' ⟨rfl, rfl⟩
  go_wp2_with fail
  refine (new_bad w10 16385 (by decide)).mono ?_
  rintro e w' ⟨rfl, rfl⟩
  go_wp2_with fail
  refine ((s10.alloc (.cells #[.int .u8 98] 5 (1, 2))).write 0 _ 1 1 [98] (of_decide_eq_true (by kernel_rfl)) rfl (by decide) one98 (rd_one w10 _ 98 _) (of_decide_eq_true (by kernel_rfl))).mono ?_
  rintro e w11 ⟨rfl, s11⟩
  have s11 : St w w11 d Dk.a3 := s11
  clear s10
  go_wp2_with fail
  refine (s11.first 0 98 (of_decide_eq_true (by kernel_rfl)) (by kernel_rfl)).mono ?_
  rintro e w12 ⟨rfl, t12⟩
  have s12 := s11.no t12
  clear s11 t12
  go_wp2_with fail
  refine (s12.left 1 (-1) (by decide) (of_decide_eq_true (by kernel_rfl))).mono ?_
  rintro e w13 ⟨x13, rfl, s13, f13⟩
  clear s12
  go_wp2_with fail
  refine (f13.first 0 256 (of_decide_eq_true (by kernel_rfl)) (by kernel_rfl)).mono ?_
  rintro e w14 ⟨rfl, t14⟩
  have s14 := s13.no t14
  clear s13 t14
  clear f13
  go_wp2_with fail
  refine (s14.left 2 (-1) (by decide) (of_decide_eq_true (by kernel_rfl))).mono ?_
  rintro e w15 ⟨x15, rfl, s15, f15⟩
  clear s14
  go_wp2_with fail
  refine (f15.first 0 98 (of_decide_eq_true (by kernel_rfl)) (by kernel_rfl)).mono ?_
  rintro e w16 ⟨rfl, t16⟩
  have s16 := s15.no t16
  clear s15 t16
  clear f15
  go_wp2_with fail
  go_ret
  exact ⟨rfl, s16.end⟩
end Go.Proofs.Ytechmboimpbjpaa
