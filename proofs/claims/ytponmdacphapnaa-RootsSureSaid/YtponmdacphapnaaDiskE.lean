/-
  Package disks by its own text: what is no sector of the disk: Read, Bad, Rot.
-/
import Derived.Test.YtponmdacphapnaaDisk
namespace Go.Proofs.Ytponmdacphapnaa
open Go Go.RowKit

set_option maxHeartbeats 400000 in
theorem read_out (w : World) (d : Nat) (D : Dk.Disk) (O : Nat → Prop) (n : Int) (h : DiskAt w d D O) (hb : ¬ (0 ≤ n ∧ n < D.seen.length)) :
    Calls Try.prog 46 #[.pointer (some ⟨d, 0, none⟩), .int .i64 n] w fun e w' => e = .returned (.tuple #[.slice none 0 0, .int .i64 1]) ∧ w = w' := by
  have H := Lib.hid h
  have e1 : askSays D.seen.length n = 1 := by unfold askSays; rw [if_neg hb]
  clear h hb
  go_enter Try.func46, Try.ntmps46
  go_wp2_with (go_at_call 32; refine (ask_any _ _ _ _ _ H.out).mono ?_; rintro e w' ⟨rfl, rfl⟩; rw [e1])
  go_ret2
  exact ⟨rfl, rfl⟩
set_option maxHeartbeats 400000 in
theorem bad_out (w : World) (d : Nat) (D : Dk.Disk) (O : Nat → Prop) (n : Int) (h : DiskAt w d D O) (hb : ¬ (0 ≤ n ∧ n < D.seen.length)) :
    Calls Try.prog 17 #[.pointer (some ⟨d, 0, none⟩), .int .i64 n] w fun e w' => e = .returned (.int .i64 1) ∧ w = w' := by
  have H := Lib.hid h
  have e1 : askSays D.seen.length n = 1 := by unfold askSays; rw [if_neg hb]
  clear h hb
  go_enter Try.func17, Try.ntmps17
  go_wp2_with (go_at_call 32; refine (ask_any _ _ _ _ _ H.out).mono ?_; rintro e w' ⟨rfl, rfl⟩; rw [e1])
  go_ret
  exact ⟨rfl, rfl⟩
set_option maxRecDepth 100000 in
set_option maxHeartbeats 400000 in
theorem rot_out (w : World) (d : Nat) (D : Dk.Disk) (O : Nat → Prop) (n p x : Int) (h : DiskAt w d D O) (hb : ¬ (0 ≤ n ∧ n < D.seen.length)) :
    Calls Try.prog 18 #[.pointer (some ⟨d, 0, none⟩), .int .i64 n, .int .i64 p, .int .u8 x] w fun e w' => e = .returned (.int .i64 1) ∧ w = w' := by
  have H := Lib.hid h
  have e1 : askSays D.seen.length n = 1 := by unfold askSays; rw [if_neg hb]
  clear h hb
  go_enter Try.func18, Try.ntmps18
  go_wp2_with (go_at_call 32; refine (ask_any _ _ _ _ _ H.out).mono ?_; rintro e w' ⟨rfl, rfl⟩; rw [e1])
  go_ret
  exact ⟨rfl, rfl⟩
set_option maxRecDepth 100000 in
set_option maxHeartbeats 400000 in
theorem rot_bad (w : World) (d : Nat) (D : Dk.Disk) (O : Nat → Prop) (n p x : Int) (h : DiskAt w d D O) (hn : 0 ≤ n ∧ n < D.seen.length) (hp : p < 0 ∨ 64 ≤ p) :
    Calls Try.prog 18 #[.pointer (some ⟨d, 0, none⟩), .int .i64 n, .int .i64 p, .int .u8 x] w fun e w' => e = .returned (.int .i64 1) ∧ w = w' := by
  have H := Lib.hid h
  have e1 : askSays D.seen.length n = 0 := by unfold askSays; rw [if_pos hn]
  clear h hn
  by_cases h0 : p < 0
  · clear hp
    go_enter Try.func18, Try.ntmps18
    go_wp2_with (go_at_call 32; refine (ask_any _ _ _ _ _ H.out).mono ?_; rintro e w' ⟨rfl, rfl⟩; rw [e1])
    go_ret
    exact ⟨rfl, rfl⟩
  · have h1 : (64 : Int) ≤ p := by omega
    clear hp
    go_enter Try.func18, Try.ntmps18
    go_wp2_with (go_at_call 32; refine (ask_any _ _ _ _ _ H.out).mono ?_; rintro e w' ⟨rfl, rfl⟩; rw [e1])
    go_ret
    exact ⟨rfl, rfl⟩
end Go.Proofs.Ytponmdacphapnaa
