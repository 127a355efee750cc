/-
  Package disks by its own text: what is no sector of the disk: Read, Bad, Rot.
-/
import Derived.Test.YtbglbomnonkljaaDoorDisk
namespace Go.Proofs.YtbglbomnonkljaaDoor
open Go Go.RowKit

set_option maxHeartbeats 400000 in
theorem read_out (w : World) (d : Nat) (D : Dk.Disk) (O : Nat → Prop) (n : Int) (h : DiskAt w d D O) (hb : ¬ (0 ≤ n ∧ n < D.seen.length)) :
    Calls Tryd.prog 69 #[.pointer (some ⟨d, 0, none⟩), .int .i64 n] w fun e w' => e = .returned (.tuple #[.slice none 0 0, .int .i64 1]) ∧ w = w' := by
  have H := Lib.hid h
  have e1 : askSays D.seen.length n = 1 := by unfold askSays; rw [if_neg hb]
  clear h hb
  go_enter Tryd.func69, Tryd.ntmps69
  go_wp2_with (go_at_call 30; refine (ask_any _ _ _ _ _ H.out).mono ?_; rintro e w' ⟨rfl, rfl⟩; rw [e1])
  go_ret2
  exact ⟨rfl, rfl⟩
set_option maxHeartbeats 400000 in
theorem bad_out (w : World) (d : Nat) (D : Dk.Disk) (O : Nat → Prop) (n : Int) (h : DiskAt w d D O) (hb : ¬ (0 ≤ n ∧ n < D.seen.length)) :
    Calls Tryd.prog 18 #[.pointer (some ⟨d, 0, none⟩), .int .i64 n] w fun e w' => e = .returned (.int .i64 1) ∧ w = w' := by
  have H := Lib.hid h
  have e1 : askSays D.seen.length n = 1 := by unfold askSays; rw [if_neg hb]
  clear h hb
  go_enter Tryd.func18, Tryd.ntmps18
  go_wp2_with (go_at_call 30; refine (ask_any _ _ _ _ _ H.out).mono ?_; rintro e w' ⟨rfl, rfl⟩; rw [e1])
  go_ret
  exact ⟨rfl, rfl⟩
end Go.Proofs.YtbglbomnonkljaaDoor
