/-
  Package disks by its own text: what is no disk answers nothing; the walk of DisksNone.
-/
import Derived.Test.YtakjbdeemifnmaaDoorDisk
namespace Go.Proofs.YtakjbdeemifnmaaDoor
open Go Go.RowKit

set_option maxHeartbeats 400000 in
theorem write_not (w : World) (p : Value) (n : Int) (a : Option Addr) (l c : Nat) (h : NotDisk w p) : Calls Tryd.prog 71 #[p, .int .i64 n, .slice a l c] w fun e w' => e = .returned (.int .i64 2) ∧ w = w' := by
  go_enter Tryd.func71, Tryd.ntmps71
  go_wp2_with (go_at_call 21; refine (ask_not _ _ _ h).mono ?_; rintro e w' ⟨rfl, rfl⟩)
  go_ret
  exact ⟨rfl, rfl⟩
set_option maxHeartbeats 400000 in
theorem read_not (w : World) (p : Value) (n : Int) (h : NotDisk w p) : Calls Tryd.prog 70 #[p, .int .i64 n] w fun e w' => e = .returned (.tuple #[.slice none 0 0, .int .i64 2]) ∧ w = w' := by
  go_enter Tryd.func70, Tryd.ntmps70
  go_wp2_with (go_at_call 21; refine (ask_not _ _ _ h).mono ?_; rintro e w' ⟨rfl, rfl⟩)
  go_ret2
  exact ⟨rfl, rfl⟩
set_option maxRecDepth 100000 in
set_option maxHeartbeats 400000 in
theorem rot_not (w : World) (p : Value) (n q : Int) (b : Int) (h : NotDisk w p) : Calls Tryd.prog 13 #[p, .int .i64 n, .int .i64 q, .int .u8 b] w fun e w' => e = .returned (.int .i64 2) ∧ w = w' := by
  go_enter Tryd.func13, Tryd.ntmps13
  go_wp2_with (go_at_call 21; refine (ask_not _ _ _ h).mono ?_; rintro e w' ⟨rfl, rfl⟩)
  go_ret
  exact ⟨rfl, rfl⟩
set_option maxHeartbeats 400000 in
theorem len_not (w : World) (p : Value) (h : NotDisk w p) : Calls Tryd.prog 15 #[p] w fun e w' => e = .returned (.int .i64 0) ∧ w = w' := by
  go_enter Tryd.func15, Tryd.ntmps15
  go_wp2_with (go_at_call 21; refine (ask_not _ _ _ h).mono ?_; rintro e w' ⟨rfl, rfl⟩)
  go_ret
  exact ⟨rfl, rfl⟩
end Go.Proofs.YtakjbdeemifnmaaDoor
