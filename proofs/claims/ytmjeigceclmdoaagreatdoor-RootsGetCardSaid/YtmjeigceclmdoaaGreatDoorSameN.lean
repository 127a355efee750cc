/-
  Package drydocklaw01 by its own text: SameNumbers of lists that are alike, SameBytes likewise, Beyond of one and of two; bytes as a text.
-/
import Derived.Test.YtmjeigceclmdoaaGreatDoorNumA
import Derived.Test.YtmjeigceclmdoaaGreatDoorSameB
import Derived.Laws.BytesArg
import Derived.Test.YtmjeigceclmdoaaGreatDoorStr
namespace Go.Proofs.YtmjeigceclmdoaaGreatDoor
open Go Go.RowKit
set_option linter.unusedSimpArgs false

def TruePost (w : World) (e : Ending) (w' : World) : Prop := e = .returned (.bool true) ∧ Touch No w w'
theorem sameB_any (w : World) (a b : Option Addr) (n c d : Nat) (xs : List Nat) (hx : xs.length = n) (hn : (n : Int) ≤ 9223372036854775807) (ha : Rd w a (nums .u8 xs)) (hb : Rd w b (nums .u8 xs)) :
    Calls Tryz.prog 16 #[.slice a n c, .slice b n d] w (TruePost w) :=
  (sameBytes_eq w a b n c d xs xs hx hx hn ha hb).mono fun _ _ ⟨he, ht⟩ => ⟨by rw [he, sameBytes, decide_eq_true rfl], ht⟩

set_option maxHeartbeats 1000000 in
theorem sameN_any (w : World) (a b : Option Addr) (n c d : Nat) (xs : List Int) (hx : xs.length = n) (hn : (n : Int) ≤ 9223372036854775807) (ha : Rd w a (ints .i32 xs)) (hb : Rd w b (ints .i32 xs)) :
    Calls Tryz.prog 28 #[.slice a n c, .slice b n d] w (TruePost w) := by
  have Hx := Lib.hid hx; clear hx
  have Ha := Lib.hid ha; clear ha
  have Hb := Lib.hid hb; clear hb
  go_enter Tryz.func28, Tryz.ntmps28
  go_wp2
  go_loopg [5] n (fun g s5 wr => ∃ k : Nat, k + g = n ∧ s5 = .int .i64 ((k : Nat) : Int) ∧ Hid (Touch No w wr))
  case atStart => exact ⟨0, by omega, rfl, Touch.refl _ _⟩
  case round =>
    obtain ⟨k, hkg, rfl, T⟩ := hrel
    cases gk with
    | zero =>
      obtain rfl : k = n := by omega
      go_wp2
      go_ret
      exact ⟨rfl, T.out⟩
    | succ g =>
      have hlt : k < n := by omega
      have hxl : k < xs.length := by have := Hx.out; omega
      obtain ⟨b1, o1, rfl, h1⟩ := (Ha.out.no T.out).int hxl
      obtain ⟨b2, o2, rfl, h2⟩ := (Hb.out.no T.out).int hxl
      clear hxl
      generalize xs.getD k 0 = x at *
      go_wp2_with fail
      go_quiet (fail)
      go_wp2
      go_roundg g
      case measure => omega
      case rel => exact ⟨k + 1, by omega, by go_num, T.out.drewN _⟩

set_option maxHeartbeats 1000000 in
/-- Beyond of two -/
theorem beyond2 (w : World) (g o c : Nat) (x y : Nat) (h1 : w.cell? ⟨g, o, none⟩ = some (.int .i64 (x : Nat))) (h2 : w.cell? ⟨g, o + 1, none⟩ = some (.int .i64 (y : Nat))) (hx : (x : Int) ≤ 140737488355328) (hy : (y : Int) ≤ 140737488355328) :
    Calls Tryz.prog 11 #[.slice (some ⟨g, o, none⟩) 2 c] w fun e w' => e = .returned (.bool (decide (1048576 < x + y))) ∧ w = w' := by
  have H1 := Lib.hid h1
  have H2 := Lib.hid h2
  by_cases hx1 : 1048576 < x
  · have hx1' : (1048576 : Int) < x := by omega
    have hd : decide (1048576 < x + y) = true := by simp; omega
    rw [hd]
    clear hd hx1
    go_enter Tryz.func11, Tryz.ntmps11
    go_wp2
    refine wp_loop_rounds 1 ?_
    rw [rounds_succ]
    go_wp2
    go_ret
    exact ⟨rfl, rfl⟩
  · by_cases hy1 : 1048576 < x + y
    · have hd : decide (1048576 < x + y) = true := by simp; omega
      have hx1' : ¬ (1048576 : Int) < x := by omega
      have hy1' : (1048576 : Int) < (x : Int) + (y : Int) := by omega
      rw [hd]
      clear hd hx1 hy1
      go_enter Tryz.func11, Tryz.ntmps11
      go_wp2
      refine wp_loop_rounds 2 ?_
      rw [rounds_succ]
      go_wp2
      rw [rounds_succ]
      go_wp2
      go_ret
      exact ⟨rfl, rfl⟩
    · have hd : decide (1048576 < x + y) = false := by simp; omega
      have hx1' : ¬ (1048576 : Int) < x := by omega
      have hy1' : ¬ (1048576 : Int) < (x : Int) + (y : Int) := by omega
      rw [hd]
      clear hd hx1 hy1
      go_enter Tryz.func11, Tryz.ntmps11
      go_wp2
      refine wp_loop_rounds 3 ?_
      rw [rounds_succ]
      go_wp2
      rw [rounds_succ]
      go_wp2
      rw [rounds_succ]
      go_wp2
      go_ret
      exact ⟨rfl, rfl⟩

end Go.Proofs.YtmjeigceclmdoaaGreatDoor
