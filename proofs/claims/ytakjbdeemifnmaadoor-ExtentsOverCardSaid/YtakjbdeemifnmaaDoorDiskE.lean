/-
  Package disks by its own text: what is no sector of the disk: Read, Bad, Rot.
-/
import Derived.Test.YtakjbdeemifnmaaDoorDisk
namespace Go.Proofs.YtakjbdeemifnmaaDoor
open Go Go.RowKit

set_option maxHeartbeats 400000 in
theorem read_out (w : World) (d : Nat) (D : Dk.Disk) (O : Nat → Prop) (n : Int) (h : DiskAt w d D O) (hb : ¬ (0 ≤ n ∧ n < D.seen.length)) :
    Calls Tryd.prog 70 #[.pointer (some ⟨d, 0, none⟩), .int .i64 n] w fun e w' => e = .returned (.tuple #[.slice none 0 0, .int .i64 1]) ∧ w = w' := by
  have H := Lib.hid h
  have e1 : askSays D.seen.length n = 1 := by unfold askSays; rw [if_neg hb]
  clear h hb
  go_enter Tryd.func70, Tryd.ntmps70
  go_wp2_with (go_at_call 21; refine (ask_any _ _ _ _ _ H.out).mono ?_; rintro e w' ⟨rfl, rfl⟩; rw [e1])
  go_ret2
  exact ⟨rfl, rfl⟩
set_option maxRecDepth 100000 in
set_option maxHeartbeats 400000 in
theorem rot_out (w : World) (d : Nat) (D : Dk.Disk) (O : Nat → Prop) (n p x : Int) (h : DiskAt w d D O) (hb : ¬ (0 ≤ n ∧ n < D.seen.length)) :
    Calls Tryd.prog 13 #[.pointer (some ⟨d, 0, none⟩), .int .i64 n, .int .i64 p, .int .u8 x] w fun e w' => e = .returned (.int .i64 1) ∧ w = w' := by
  have H := Lib.hid h
  have e1 : askSays D.seen.length n = 1 := by unfold askSays; rw [if_neg hb]
  clear h hb
  go_enter Tryd.func13, Tryd.ntmps13
  go_wp2_with (go_at_call 21; refine (ask_any _ _ _ _ _ H.out).mono ?_; rintro e w' ⟨rfl, rfl⟩; rw [e1])
  go_ret
  exact ⟨rfl, rfl⟩
set_option maxRecDepth 100000 in
set_option maxHeartbeats 400000 in
theorem rot_bad (w : World) (d : Nat) (D : Dk.Disk) (O : Nat → Prop) (n p x : Int) (h : DiskAt w d D O) (hn : 0 ≤ n ∧ n < D.seen.length) (hp : p < 0 ∨ 64 ≤ p) :
    Calls Tryd.prog 13 #[.pointer (some ⟨d, 0, none⟩), .int .i64 n, .int .i64 p, .int .u8 x] w fun e w' => e = .returned (.int .i64 1) ∧ w = w' := by
  have H := Lib.hid h
  have e1 : askSays D.seen.length n = 0 := by unfold askSays; rw [if_pos hn]
  clear h hn
  by_cases h0 : p < 0
  · clear hp
    go_enter Tryd.func13, Tryd.ntmps13
    go_wp2_with (go_at_call 21; refine (ask_any _ _ _ _ _ H.out).mono ?_; rintro e w' ⟨rfl, rfl⟩; rw [e1])
    go_ret
    exact ⟨rfl, rfl⟩
  · have h1 : (64 : Int) ≤ p := by omega
    clear hp
    go_enter Tryd.func13, Tryd.ntmps13
    go_wp2_with (go_at_call 21; refine (ask_any _ _ _ _ _ H.out).mono ?_; rintro e w' ⟨rfl, rfl⟩; rw [e1])
    go_ret
    exact ⟨rfl, rfl⟩
end Go.Proofs.YtakjbdeemifnmaaDoor
