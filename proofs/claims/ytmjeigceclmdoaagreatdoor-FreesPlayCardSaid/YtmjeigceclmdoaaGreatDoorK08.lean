/-
  Package frees by its own text, fifth part: New.
-/
import Derived.Test.YtmjeigceclmdoaaGreatDoorK07
namespace Go.Proofs.YtmjeigceclmdoaaGreatDoor
open Go.RowKit

def zMap : Array Value := #[.int .i64 0, .int .i64 0, .int .i64 0] ++ Array.replicate 64 (.int .u64 0) ++ #[.int .i64 0]
theorem zMap_zero (w : World) : (zeroValue 145).run Tryz.prog w = .ok (.agg zMap) w := by kernel_rfl
theorem zMap_size : zMap.size = 68 := rfl
theorem zMap_ne : ¬ zMap = #[] := by intro h; have := congrArg Array.size h; rw [zMap_size] at this; cases this
def mapCells (f l : Int) : Array Value := ((zMap.setIfInBounds 0 (.int .i64 1)).setIfInBounds 1 (.int .i64 f)).setIfInBounds 2 (.int .i64 l)

/-- the pages from first on, below n -/
def upTo (first n : Nat) : Nat → Bool := fun p => decide (first ≤ p) && decide (p < n)
theorem upTo_none (first : Nat) (i : Nat) : Fr.Word 0 (upTo first first) i := ⟨by decide, fun j _ => by
  have : upTo first first (64 * i + j) = false := by simp only [upTo, Bool.and_eq_false_iff, decide_eq_false_iff_not]; omega
  rw [this]; simp⟩
theorem upTo_next {first n : Nat} (h : first ≤ n) : Fr.flip (upTo first n) n = upTo first (n + 1) := by
  funext p
  simp only [Fr.flip, upTo]
  by_cases e : p = n
  · subst e; simp [h]
  · rw [if_neg e]; congr 1; rw [Bool.eq_iff_iff]; simp; omega

theorem map_new (w : World) (first last : Nat) (hl : last ≤ 4096) : MapAt (w.alloc (.cells (mapCells first last) 145)) w.heap.size first last (upTo first first) := by
  have c : ∀ o, (w.alloc (.cells (mapCells first last) 145)).cell? ⟨w.heap.size, o, none⟩ = (mapCells first last)[o]? := fun o => cell_new _ _ _ _ _
  have hlst : Fr.lst (upTo first first) = [] := by
    refine List.eq_nil_iff_forall_not_mem.2 (fun p hp => ?_)
    have := (Fr.mem_lst.1 hp).2
    simp only [upTo, Bool.and_eq_true, decide_eq_true_eq] at this
    omega
  have m0 : (mapCells first last)[0]? = some (.int .i64 1) := by kernel_rfl
  have m1 : (mapCells first last)[1]? = some (.int .i64 first) := by kernel_rfl
  have m2 : (mapCells first last)[2]? = some (.int .i64 last) := by kernel_rfl
  have m67 : (mapCells first last)[67]? = some (.int .i64 0) := by kernel_rfl
  refine ⟨by rw [c, m0], by rw [c, m1], by rw [c, m2], fun i hi => ⟨0, ?_, upTo_none _ _⟩, by rw [c, hlst, m67]; simp, fun o => frozen_new _ _ _ _, hl, fun p hp => ?_⟩
  · rw [c]
    simp only [mapCells]
    rw [Array.getElem?_setIfInBounds_ne (by omega), Array.getElem?_setIfInBounds_ne (by omega), Array.getElem?_setIfInBounds_ne (by omega)]
    simp only [zMap]
    rw [Array.getElem?_append_left (by simp; omega), Array.getElem?_append_right (by simp)]
    simp [hi]
  · simp only [upTo, Bool.and_eq_true, decide_eq_true_eq] at hp; omega

/-- what New is asked for can't be -/
def newBad (first many : Int) : Prop := first < 0 ∨ many < 0 ∨ 4096 < first ∨ 4096 - first < many

set_option maxRecDepth 100000 in
set_option maxHeartbeats 1000000 in
theorem map_bad (w : World) (first many : Int) (h : newBad first many) :
    Calls Tryz.prog 30 #[.int .i64 first, .int .i64 many] w fun e w' => e = .returned (.tuple #[.pointer none, .int .i64 1]) ∧ w = w' := by
  by_cases h1 : first < 0
  · clear h
    go_enter Tryz.func30, Tryz.ntmps30
    go_wp2
    go_ret2
    exact ⟨rfl, rfl⟩
  by_cases h2 : many < 0
  · clear h
    go_enter Tryz.func30, Tryz.ntmps30
    go_wp2
    go_ret2
    exact ⟨rfl, rfl⟩
  by_cases h3 : 4096 < first
  · clear h
    go_enter Tryz.func30, Tryz.ntmps30
    go_wp2
    go_ret2
    exact ⟨rfl, rfl⟩
  · have h4 : 4096 - first < many := by rcases h with h | h | h | h <;> omega
    clear h
    go_enter Tryz.func30, Tryz.ntmps30
    go_wp2
    go_ret2
    exact ⟨rfl, rfl⟩

/-- what New leaves -/
def NewPost (w : World) (first last : Nat) (e : Ending) (w' : World) : Prop :=
  ∃ b, e = .returned (.tuple #[.pointer (some ⟨b, 0, none⟩), .int .i64 0]) ∧ w.heap.size ≤ b ∧ Touch No w w' ∧ MapAt w' b first last (upTo first last)

set_option maxRecDepth 100000 in
set_option maxHeartbeats 1000000 in
theorem new_ok (w : World) (first many : Nat) (h : first + many ≤ 4096) :
    Calls Tryz.prog 30 #[.int .i64 (first : Nat), .int .i64 (many : Nat)] w (NewPost w first (first + many)) := by
  have hz := zMap_zero
  have hz1 := zMap_size
  have hz2 := zMap_ne
  have h1 : (first : Int) ≤ 4096 := by omega
  have h2 : (many : Int) ≤ 4096 - (first : Int) := by omega
  have h0 : ¬ (many : Int) < 0 := by omega
  go_enter Tryz.func30, Tryz.ntmps30
  go_wp2
  clear hz hz1 hz2
  have M0 : Hid (MapAt (w.alloc (.cells (mapCells first ((first : Nat) + (many : Nat) : Int)) 145)) w.heap.size first (first + many) (upTo first first)) := by
    have := map_new w first (first + many) h
    rw [show ((first + many : Nat) : Int) = ((first : Nat) + (many : Nat) : Int) from by omega] at this
    exact this
  have T0 : Hid (Touch No w (w.alloc (.cells (mapCells first ((first : Nat) + (many : Nat) : Int)) 145))) := (Touch.refl _ _).alloc _
  go_loopg [7] many (fun g s7 wr => ∃ k, k + g = first + many ∧ first ≤ k ∧ s7 = .int .i64 ((k : Nat) : Int) ∧ Hid (MapAt wr w.heap.size first (first + many) (upTo first k)) ∧ Hid (Touch No w wr))
  case atStart => exact ⟨first, rfl, Nat.le_refl _, rfl, M0, T0⟩
  case round =>
    clear M0 T0
    obtain ⟨k, hkg, hfk, rfl, M, T⟩ := hrel
    have hlast := M.out.hi
    rw [show ((first + many : Nat) : Int) = ((first : Nat) + (many : Nat) : Int) from by omega] at hlast
    cases gk with
    | zero =>
      obtain rfl : k = first + many := by omega
      go_wp2
      go_ret2
      exact ⟨_, rfl, Nat.le_refl _, T.out, M.out⟩
    | succ g =>
      have hlt : (k : Int) < ((first : Nat) + (many : Nat) : Int) := by omega
      have Hr : Hid (first ≤ k ∧ k < first + many) := ⟨by omega, by omega⟩
      have hk4 : (k : Int) < 4096 := by omega
      go_wp2_with (go_at_call 142; refine (turn_at _ _ _ _ k _ _ M.out Hr.out rfl).mono ?_; rintro e w2 ⟨rfl, ht2, hm2⟩)
      go_roundg g
      case measure => omega
      case rel =>
        refine ⟨k + 1, by omega, by omega, by go_num, ?_, ?_⟩
        · rw [← upTo_next hfk]; exact hm2
        · exact T.out.then ht2 (fun i hi e => by simp only [One] at e; omega)
end Go.Proofs.YtmjeigceclmdoaaGreatDoor
