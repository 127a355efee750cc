/-
  Package disks by its own text: what is no disk answers nothing; the walk of DisksNone.
-/
import Derived.Test.YtbglbomnonkljaaDoorDisk
namespace Go.Proofs.YtbglbomnonkljaaDoor
open Go Go.RowKit

set_option maxHeartbeats 400000 in
theorem write_not (w : World) (p : Value) (n : Int) (a : Option Addr) (l c : Nat) (h : NotDisk w p) : Calls Tryd.prog 70 #[p, .int .i64 n, .slice a l c] w fun e w' => e = .returned (.int .i64 2) ∧ w = w' := by
  go_enter Tryd.func70, Tryd.ntmps70
  go_wp2_with (go_at_call 30; refine (ask_not _ _ _ h).mono ?_; rintro e w' ⟨rfl, rfl⟩)
  go_ret
  exact ⟨rfl, rfl⟩
set_option maxHeartbeats 400000 in
theorem read_not (w : World) (p : Value) (n : Int) (h : NotDisk w p) : Calls Tryd.prog 69 #[p, .int .i64 n] w fun e w' => e = .returned (.tuple #[.slice none 0 0, .int .i64 2]) ∧ w = w' := by
  go_enter Tryd.func69, Tryd.ntmps69
  go_wp2_with (go_at_call 30; refine (ask_not _ _ _ h).mono ?_; rintro e w' ⟨rfl, rfl⟩)
  go_ret2
  exact ⟨rfl, rfl⟩
set_option maxHeartbeats 400000 in
theorem sync_not (w : World) (p : Value) (h : NotDisk w p) : Calls Tryd.prog 14 #[p] w fun e w' => e = .returned (.int .i64 2) ∧ w = w' := by
  go_enter Tryd.func14, Tryd.ntmps14
  go_wp2_with (go_at_call 30; refine (ask_not _ _ _ h).mono ?_; rintro e w' ⟨rfl, rfl⟩)
  go_ret
  exact ⟨rfl, rfl⟩
set_option maxRecDepth 100000 in
set_option maxHeartbeats 400000 in
theorem fail_not (w : World) (p : Value) (k n : Int) (h : NotDisk w p) : Calls Tryd.prog 15 #[p, .int .u64 k, .int .i64 n] w fun e w' => e = .returned (.tuple #[.pointer none, .int .i64 2]) ∧ w = w' := by
  go_enter Tryd.func15, Tryd.ntmps15
  go_wp2_with (go_at_call 30; refine (ask_not _ _ _ h).mono ?_; rintro e w' ⟨rfl, rfl⟩)
  go_ret2
  exact ⟨rfl, rfl⟩
set_option maxHeartbeats 400000 in
theorem bad_not (w : World) (p : Value) (n : Int) (h : NotDisk w p) : Calls Tryd.prog 18 #[p, .int .i64 n] w fun e w' => e = .returned (.int .i64 2) ∧ w = w' := by
  go_enter Tryd.func18, Tryd.ntmps18
  go_wp2_with (go_at_call 30; refine (ask_not _ _ _ h).mono ?_; rintro e w' ⟨rfl, rfl⟩)
  go_ret
  exact ⟨rfl, rfl⟩
set_option maxHeartbeats 400000 in
theorem len_not (w : World) (p : Value) (h : NotDisk w p) : Calls Tryd.prog 68 #[p] w fun e w' => e = .returned (.int .i64 0) ∧ w = w' := by
  go_enter Tryd.func68, Tryd.ntmps68
  go_wp2_with (go_at_call 30; refine (ask_not _ _ _ h).mono ?_; rintro e w' ⟨rfl, rfl⟩)
  go_ret
  exact ⟨rfl, rfl⟩
set_option maxHeartbeats 400000 in
theorem waits_not (w : World) (p : Value) (h : NotDisk w p) : Calls Tryd.prog 17 #[p] w fun e w' => e = .returned (.int .i64 0) ∧ w = w' := by
  go_enter Tryd.func17, Tryd.ntmps17
  go_wp2_with (go_at_call 30; refine (ask_not _ _ _ h).mono ?_; rintro e w' ⟨rfl, rfl⟩)
  go_ret
  exact ⟨rfl, rfl⟩

end Go.Proofs.YtbglbomnonkljaaDoor
