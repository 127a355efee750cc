/-
  Package disks by its own text: what is no disk answers nothing; the walk of DisksNone.
-/
import Derived.Test.YtechmboimpbjpaaDisk
namespace Go.Proofs.Ytechmboimpbjpaa
open Go Go.RowKit

set_option maxHeartbeats 400000 in
theorem write_not (w : World) (p : Value) (n : Int) (a : Option Addr) (l c : Nat) (h : NotDisk w p) : Calls Try.prog 13 #[p, .int .i64 n, .slice a l c] w fun e w' => e = .returned (.int .i64 2) ∧ w = w' := by
  go_enter Try.func13, Try.ntmps13
  go_wp2_with (go_at_call 29; refine (ask_not _ _ _ h).mono ?_; rintro e w' ⟨rfl, rfl⟩)
  go_ret
  exact ⟨rfl, rfl⟩
set_option maxHeartbeats 400000 in
theorem read_not (w : World) (p : Value) (n : Int) (h : NotDisk w p) : Calls Try.prog 19 #[p, .int .i64 n] w fun e w' => e = .returned (.tuple #[.slice none 0 0, .int .i64 2]) ∧ w = w' := by
  go_enter Try.func19, Try.ntmps19
  go_wp2_with (go_at_call 29; refine (ask_not _ _ _ h).mono ?_; rintro e w' ⟨rfl, rfl⟩)
  go_ret2
  exact ⟨rfl, rfl⟩
set_option maxHeartbeats 400000 in
theorem sync_not (w : World) (p : Value) (h : NotDisk w p) : Calls Try.prog 18 #[p] w fun e w' => e = .returned (.int .i64 2) ∧ w = w' := by
  go_enter Try.func18, Try.ntmps18
  go_wp2_with (go_at_call 29; refine (ask_not _ _ _ h).mono ?_; rintro e w' ⟨rfl, rfl⟩)
  go_ret
  exact ⟨rfl, rfl⟩
set_option maxRecDepth 100000 in
set_option maxHeartbeats 400000 in
theorem fail_not (w : World) (p : Value) (k n : Int) (h : NotDisk w p) : Calls Try.prog 21 #[p, .int .u64 k, .int .i64 n] w fun e w' => e = .returned (.tuple #[.pointer none, .int .i64 2]) ∧ w = w' := by
  go_enter Try.func21, Try.ntmps21
  go_wp2_with (go_at_call 29; refine (ask_not _ _ _ h).mono ?_; rintro e w' ⟨rfl, rfl⟩)
  go_ret2
  exact ⟨rfl, rfl⟩
set_option maxRecDepth 100000 in
set_option maxHeartbeats 400000 in
theorem rot_not (w : World) (p : Value) (n q : Int) (b : Int) (h : NotDisk w p) : Calls Try.prog 22 #[p, .int .i64 n, .int .i64 q, .int .u8 b] w fun e w' => e = .returned (.int .i64 2) ∧ w = w' := by
  go_enter Try.func22, Try.ntmps22
  go_wp2_with (go_at_call 29; refine (ask_not _ _ _ h).mono ?_; rintro e w' ⟨rfl, rfl⟩)
  go_ret
  exact ⟨rfl, rfl⟩
set_option maxHeartbeats 400000 in
theorem bad_not (w : World) (p : Value) (n : Int) (h : NotDisk w p) : Calls Try.prog 23 #[p, .int .i64 n] w fun e w' => e = .returned (.int .i64 2) ∧ w = w' := by
  go_enter Try.func23, Try.ntmps23
  go_wp2_with (go_at_call 29; refine (ask_not _ _ _ h).mono ?_; rintro e w' ⟨rfl, rfl⟩)
  go_ret
  exact ⟨rfl, rfl⟩
set_option maxHeartbeats 400000 in
theorem len_not (w : World) (p : Value) (h : NotDisk w p) : Calls Try.prog 24 #[p] w fun e w' => e = .returned (.int .i64 0) ∧ w = w' := by
  go_enter Try.func24, Try.ntmps24
  go_wp2_with (go_at_call 29; refine (ask_not _ _ _ h).mono ?_; rintro e w' ⟨rfl, rfl⟩)
  go_ret
  exact ⟨rfl, rfl⟩
set_option maxHeartbeats 400000 in
theorem waits_not (w : World) (p : Value) (h : NotDisk w p) : Calls Try.prog 15 #[p] w fun e w' => e = .returned (.int .i64 0) ∧ w = w' := by
  go_enter Try.func15, Try.ntmps15
  go_wp2_with (go_at_call 29; refine (ask_not _ _ _ h).mono ?_; rintro e w' ⟨rfl, rfl⟩)
  go_ret
  exact ⟨rfl, rfl⟩

def LawPost (w : World) (e : Ending) (w' : World) : Prop := e = .returned (.bool true) ∧ Touch No w w'

set_option maxRecDepth 100000 in
set_option maxHeartbeats 4000000 in
theorem disksNone_walk (w : World) (n q : Int) (a : Option Addr) (l c : Nat) :
    Calls Try.prog 5 #[.int .i64 n, .int .i64 q, .slice a l c] w (LawPost w) := by
  go_enter Try.func5, Try.ntmps5
  go_wp2_with fail
  obtain ⟨W, hW⟩ : ∃ W, W = ((w.alloc (Obj.cells #[Value.slice none 0 0, Value.slice none 0 0, Value.slice none 0 0] 41)).alloc (Obj.cells #[Value.pointer none, Value.pointer (some { block := w.heap.size, off := 0 })] 23)) := ⟨_, rfl⟩
  have hB : Touch No w W := by rw [hW]; exact ((Touch.refl No w).alloc _).alloc _
  have n0 : NotDisk W (.pointer none) := .inl rfl
  have n1 : NotDisk W (.pointer (some ⟨w.heap.size, 0, none⟩)) := .inr ⟨_, rfl, by rw [hW, cell_old _ _ (by simp), cell_new]; rfl⟩
  have c0 : W.cell? ⟨w.heap.size + 1, 0, none⟩ = some (.pointer none) := by rw [hW, ← size_alloc w (Obj.cells #[Value.slice none 0 0, Value.slice none 0 0, Value.slice none 0 0] 41), cell_new]; rfl
  have c1 : W.cell? ⟨w.heap.size + 1, 1, none⟩ = some (.pointer (some ⟨w.heap.size, 0, none⟩)) := by rw [hW, ← size_alloc w (Obj.cells #[Value.slice none 0 0, Value.slice none 0 0, Value.slice none 0 0] 41), cell_new]; rfl
  rw [← hW]
  clear hW
  obtain ⟨B, Be⟩ : ∃ B, w.heap.size = B := ⟨_, rfl⟩
  rw [Be] at n1 c0 c1 ⊢
  have HBe := Lib.hid Be; clear Be
  have HB := Lib.hid hB; clear hB
  go_loopg [8] 2 (fun g s8 wr => ∃ k : Nat, k + g = 2 ∧ s8 = .int .i64 ((k : Nat) : Int) ∧ Hid (wr = W))
  case atStart => exact ⟨0, rfl, rfl, rfl⟩
  case round =>
    obtain ⟨k, hk, rfl, hwr⟩ := hrel
    have hww : W = wr := hwr.out.symm
    clear hwr
    subst hww
    cases gk with
    | zero =>
      obtain rfl : k = 2 := by omega
      go_wp2
      go_ret
      exact ⟨rfl, HB.out⟩
    | succ g =>
      obtain ⟨p, hp, np⟩ : ∃ p, W.cell? ⟨B + 1, k, none⟩ = some p ∧ NotDisk W p := by
        rcases k with _ | _ | k
        · exact ⟨_, c0, n0⟩
        · exact ⟨_, c1, n1⟩
        · omega
      clear c0 c1 n0 n1
      have hlt : (k : Int) < 2 := by omega
      have Hp := Lib.hid np; clear np
      go_wp2_with (first
        | (go_at_call 19; refine (read_not _ _ _ Hp.out).mono ?_; rintro e w' ⟨rfl, rfl⟩)
        | (go_at_call 21; refine (fail_not _ _ _ _ Hp.out).mono ?_; rintro e w' ⟨rfl, rfl⟩)
        | (go_at_call 13; refine (write_not _ _ _ _ _ _ Hp.out).mono ?_; rintro e w' ⟨rfl, rfl⟩)
        | (go_at_call 18; refine (sync_not _ _ Hp.out).mono ?_; rintro e w' ⟨rfl, rfl⟩)
        | (go_at_call 22; refine (rot_not _ _ _ _ _ Hp.out).mono ?_; rintro e w' ⟨rfl, rfl⟩)
        | (go_at_call 23; refine (bad_not _ _ _ Hp.out).mono ?_; rintro e w' ⟨rfl, rfl⟩)
        | (go_at_call 24; refine (len_not _ _ Hp.out).mono ?_; rintro e w' ⟨rfl, rfl⟩)
        | (go_at_call 15; refine (waits_not _ _ Hp.out).mono ?_; rintro e w' ⟨rfl, rfl⟩))
      go_roundg g
      case measure => omega
      case rel => exact ⟨k + 1, by omega, by go_num, rfl⟩
end Go.Proofs.Ytechmboimpbjpaa
