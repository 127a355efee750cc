/-
  The walk of FreesNone: at a map that is nil or zero every method answers nothing. For every number, page and slice.
-/
import Derived.Test.YtjmkfpiahnibkaaDoorRows
import Derived.WalkKit
import Derived.WalkSpells
import Derived.WalkLawsBesides
import Derived.Deep.QuietTactic
import Derived.BigQuiet
import Derived.Lib.Hide
import Derived.WalkMore
namespace Go.Proofs.YtjmkfpiahnibkaaDoor
open Go.RowKit
def zMap : Array Value := #[.int .i64 0, .int .i64 0, .int .i64 0] ++ Array.replicate 64 (.int .u64 0) ++ #[.int .i64 0]
theorem zMap_zero (w : World) : (zeroValue 28).run Tryd.prog w = .ok (.agg zMap) w := by kernel_rfl

theorem cell_old (w : World) (o : Obj) {b f : Nat} (h : b < w.heap.size) : (w.alloc o).cell? ⟨b, f, none⟩ = w.cell? ⟨b, f, none⟩ :=
  World.cell?_of_block (a := ⟨b, f, none⟩) (Below.heap_alloc _ _ _ h)
theorem cell_new (w : World) (c : Array Value) (T : TypeId) (fr : Nat × Nat) (f : Nat) : (w.alloc (.cells c T fr)).cell? ⟨w.heap.size, f, none⟩ = c[f]? := by
  show (match (w.heap.push (.cells c T fr))[w.heap.size]? with | some (.cells c _ _) => if (none : Option Nat).isSome then none else c[f]? | _ => none) = _
  simp
theorem size_alloc (w : World) (o : Obj) : (w.alloc o).heap.size = w.heap.size + 1 := by simp

/-- p is no map that a call made -/
def NotMap (w : World) (p : Value) : Prop := p = .pointer none ∨ ∃ b, p = .pointer (some ⟨b, 0, none⟩) ∧ w.cell? ⟨b, 0, none⟩ = some (.int .i64 0)

set_option maxHeartbeats 400000 in
theorem there_not (w : World) (p : Value) (h : NotMap w p) : Calls Tryd.prog 19 #[p] w fun e w' => e = .returned (.bool false) ∧ w = w' := by
  rcases h with rfl | ⟨b, rfl, h⟩
  all_goals
    go_enter Tryd.func19, Tryd.ntmps19
    go_wp2
    go_ret
    exact ⟨rfl, rfl⟩
set_option maxHeartbeats 400000 in
theorem take_not (w : World) (p : Value) (n : Int) (h : NotMap w p) : Calls Tryd.prog 8 #[p, .int .i64 n] w fun e w' => e = .returned (.tuple #[.slice none 0 0, .int .i64 2]) ∧ w = w' := by
  go_enter Tryd.func8, Tryd.ntmps8
  go_wp2_with fail
  go_step3
  go_wp2_with (go_at_call 19; refine (there_not _ _ h).mono ?_; rintro e w' ⟨rfl, rfl⟩)
  try rw [Exit.noGoto_ret]
  go_ret2
  exact ⟨rfl, rfl⟩
set_option maxHeartbeats 400000 in
theorem mark_not (w : World) (p : Value) (n : Int) (h : NotMap w p) : Calls Tryd.prog 9 #[p, .int .u32 n] w fun e w' => e = .returned (.int .i64 2) ∧ w = w' := by
  go_enter Tryd.func9, Tryd.ntmps9
  go_wp2_with (go_at_call 19; refine (there_not _ _ h).mono ?_; rintro e w' ⟨rfl, rfl⟩)
  go_ret
  exact ⟨rfl, rfl⟩
set_option maxHeartbeats 400000 in
theorem give_not (w : World) (p l : Value) (h : NotMap w p) : Calls Tryd.prog 10 #[p, l] w fun e w' => e = .returned (.int .i64 2) ∧ w = w' := by
  go_enter Tryd.func10, Tryd.ntmps10
  go_wp2_with (go_at_call 19; refine (there_not _ _ h).mono ?_; rintro e w' ⟨rfl, rfl⟩)
  go_ret
  exact ⟨rfl, rfl⟩
set_option maxHeartbeats 400000 in
theorem free_not (w : World) (p : Value) (h : NotMap w p) : Calls Tryd.prog 11 #[p] w fun e w' => e = .returned (.int .i64 0) ∧ w = w' := by
  go_enter Tryd.func11, Tryd.ntmps11
  go_wp2_with (go_at_call 19; refine (there_not _ _ h).mono ?_; rintro e w' ⟨rfl, rfl⟩)
  go_ret
  exact ⟨rfl, rfl⟩
set_option maxHeartbeats 400000 in
theorem is_not (w : World) (p : Value) (n : Int) (h : NotMap w p) : Calls Tryd.prog 12 #[p, .int .u32 n] w fun e w' => e = .returned (.bool false) ∧ w = w' := by
  go_enter Tryd.func12, Tryd.ntmps12
  go_wp2_with (go_at_call 19; refine (there_not _ _ h).mono ?_; rintro e w' ⟨rfl, rfl⟩)
  go_ret
  exact ⟨rfl, rfl⟩

set_option maxHeartbeats 1000000 in
theorem none_walk (w : World) (n num : Int) (a : Option Addr) (len cap : Nat) :
    Calls Tryd.prog 3 #[.int .i64 n, .int .u32 num, .slice a len cap] w fun e w' => e = .returned (.bool true) ∧ Below w.heap.size w w' := by
  have hz := zMap_zero
  go_enter Tryd.func3, Tryd.ntmps3
  go_wp2_with fail
  obtain ⟨W, hW⟩ : ∃ W, W = ((w.alloc (Obj.cells zMap 28)).alloc (Obj.cells #[Value.pointer none, Value.pointer (some { block := w.heap.size, off := 0 })] 24)) := ⟨_, rfl⟩
  have hB : Below w.heap.size w W := by rw [hW]; exact ((Below.refl _ _).alloc (Nat.le_refl _) _).alloc (by simp) _
  have n0 : NotMap W (.pointer none) := .inl rfl
  have n1 : NotMap W (.pointer (some ⟨w.heap.size, 0, none⟩)) := .inr ⟨_, rfl, by rw [hW, cell_old _ _ (by simp), cell_new]; rfl⟩
  have c0 : W.cell? ⟨w.heap.size + 1, 0, none⟩ = some (.pointer none) := by rw [hW, ← size_alloc w (Obj.cells zMap 28), cell_new]; rfl
  have c1 : W.cell? ⟨w.heap.size + 1, 1, none⟩ = some (.pointer (some ⟨w.heap.size, 0, none⟩)) := by rw [hW, ← size_alloc w (Obj.cells zMap 28), cell_new]; rfl
  rw [← hW]
  clear hW hz
  obtain ⟨B, Be⟩ : ∃ B, w.heap.size = B := ⟨_, rfl⟩
  rw [Be] at n1 c0 c1 ⊢
  have HBe := Lib.hid Be; clear Be
  go_loop [8] (fun i => ∃ k : Nat, k ≤ 2 ∧ i = .int .i64 k) (fun i => 2 - (intOf i).toNat)
  case atStart => exact ⟨0, by omega, rfl⟩
  case round =>
    obtain ⟨k, hk, rfl⟩ := hrel
    obtain ⟨p, hp, np⟩ : ∃ p, (k < 2 → W.cell? ⟨B + 1, k, none⟩ = some p) ∧ NotMap W p := by
      rcases k with _ | _ | k
      · exact ⟨_, fun _ => c0, n0⟩
      · exact ⟨_, fun _ => c1, n1⟩
      · exact ⟨_, fun h => by omega, n0⟩
    clear c0 c1 n0 n1
    by_cases hlt : k < 2
    · have hc := hp hlt
      clear hp
      have Hp := Lib.hid np; clear np
      have HB := Lib.hid hB; clear hB
      go_wp2_with (first
        | (go_at_call 8; refine (take_not _ _ _ Hp.out).mono ?_; rintro e w' ⟨rfl, rfl⟩)
        | (go_at_call 9; refine (mark_not _ _ _ Hp.out).mono ?_; rintro e w' ⟨rfl, rfl⟩)
        | (go_at_call 10; refine (give_not _ _ _ Hp.out).mono ?_; rintro e w' ⟨rfl, rfl⟩)
        | (go_at_call 11; refine (free_not _ _ Hp.out).mono ?_; rintro e w' ⟨rfl, rfl⟩)
        | (go_at_call 12; refine (is_not _ _ _ Hp.out).mono ?_; rintro e w' ⟨rfl, rfl⟩))
      go_round
      case rel => exact ⟨k + 1, by omega, by go_num⟩
      case measure => simp [intOf]; omega
    · go_wp2
      go_ret
      exact ⟨rfl, hB⟩
end Go.Proofs.YtjmkfpiahnibkaaDoor
