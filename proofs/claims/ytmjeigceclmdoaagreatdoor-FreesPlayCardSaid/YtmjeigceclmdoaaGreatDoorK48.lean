/-
  The statements' own helpers for a map of pages, second part: free, SameIds, ids, took.
-/
import Derived.Test.YtmjeigceclmdoaaGreatDoorK10
namespace Go.Proofs.YtmjeigceclmdoaaGreatDoor
open Go.RowKit

theorem lst_120 {S : Nat → Bool} (h : ∀ p, S p = true → p < 120) : Fr.lst S = (List.range 120).filter S := by
  refine Fr.sorted_ext _ _ (Fr.lst_sorted S) (List.pairwise_lt_range.filter _) (fun p => ?_)
  rw [Fr.mem_lst]
  simp only [List.mem_filter, List.mem_range]
  constructor
  · rintro ⟨_, h2⟩; exact ⟨h p h2, h2⟩
  · rintro ⟨h1, h2⟩; exact ⟨by omega, h2⟩
theorem range_snoc (S : Nat → Bool) (k : Nat) : (List.range (k + 1)).filter S = (List.range k).filter S ++ (if S k then [k] else []) := by
  rw [List.range_succ, List.filter_append]
  cases h : S k <;> simp [h]
theorem range_len (S : Nat → Bool) (k : Nat) : ((List.range k).filter S).length ≤ k := by
  have := List.length_filter_le S (List.range k); simpa using this

/-- a new slice that reads as pages -/
def IdsPost (w : World) (xs : List Nat) (e : Ending) (w' : World) : Prop :=
  ∃ v, e = .returned v ∧ Own w' w.heap.size 23 v (nums .u32 xs) ∧ Touch No w w'

/-- two slices of numbers: alike? -/
def sameIds (xs ys : List Nat) : Bool := decide (xs = ys)

set_option maxHeartbeats 400000 in
theorem sameIds_len (w : World) (a b : Option Addr) (n m c d : Nat) (h : n ≠ m) :
    Calls Tryz.prog 35 #[.slice a n c, .slice b m d] w fun e w' => e = .returned (.bool false) ∧ w = w' := by
  go_enter Tryz.func35, Tryz.ntmps35
  go_wp2
  go_ret
  exact ⟨rfl, rfl⟩

theorem same_next {xs ys : List Nat} {k : Nat} (hx : k < xs.length) (hy : k < ys.length) (h : xs.take k = ys.take k) (he : xs.getD k 0 = ys.getD k 0) : xs.take (k + 1) = ys.take (k + 1) := by
  rw [take_getD hx, take_getD hy, h, he]
theorem same_not {xs ys : List Nat} {k : Nat} (he : xs.getD k 0 ≠ ys.getD k 0) : sameIds xs ys = false := by
  simp only [sameIds, decide_eq_false_iff_not]
  rintro rfl; exact he rfl

def SamePost (w : World) (xs ys : List Nat) (e : Ending) (w' : World) : Prop := e = .returned (.bool (sameIds xs ys)) ∧ Touch No w w'

set_option maxHeartbeats 1000000 in
theorem sameIds_eq (w : World) (a b : Option Addr) (n c d : Nat) (xs ys : List Nat) (hx : xs.length = n) (hy : ys.length = n) (hn : (n : Int) ≤ 9223372036854775807)
    (ha : Rd w a (nums .u32 xs)) (hb : Rd w b (nums .u32 ys)) :
    Calls Tryz.prog 35 #[.slice a n c, .slice b n d] w (SamePost w xs ys) := by
  have Hx := Lib.hid hx; clear hx
  have Hy := Lib.hid hy; clear hy
  have Ha := Lib.hid ha; clear ha
  have Hb := Lib.hid hb; clear hb
  go_enter Tryz.func35, Tryz.ntmps35
  go_wp2
  go_loopg [5] n (fun g s5 wr => ∃ k : Nat, k + g = n ∧ s5 = .int .i64 ((k : Nat) : Int) ∧ Hid (xs.take k = ys.take k) ∧ Hid (Touch No w wr))
  case atStart => exact ⟨0, by omega, rfl, rfl, Touch.refl _ _⟩
  case round =>
    obtain ⟨k, hkg, rfl, E, T⟩ := hrel
    cases gk with
    | zero =>
      obtain rfl : k = n := by omega
      have Fin : Hid (sameIds xs ys = true) := by
        have := E.out
        rw [List.take_of_length_le (by have := Hx.out; omega), List.take_of_length_le (by have := Hy.out; omega)] at this
        show _ = _
        simp [sameIds, this]
      go_wp2
      go_ret
      exact ⟨ret_bool Fin.out.symm, T.out⟩
    | succ g =>
      have hlt : k < n := by omega
      have hxl : k < xs.length := by have := Hx.out; omega
      have hyl : k < ys.length := by have := Hy.out; omega
      obtain ⟨b1, o1, rfl, h1⟩ := (Ha.out.no T.out).num hxl
      obtain ⟨b2, o2, rfl, h2⟩ := (Hb.out.no T.out).num hyl
      have Next := Lib.hid (same_next hxl hyl E.out)
      have Not := Lib.hid (same_not (xs := xs) (ys := ys) (k := k))
      clear hxl hyl
      generalize xs.getD k 0 = x at *
      generalize ys.getD k 0 = y at *
      by_cases hxy : x = y
      · subst hxy
        go_wp2_with fail
        go_quiet (fail)
        go_wp2
        go_roundg g
        case measure => omega
        case rel => exact ⟨k + 1, by omega, by go_num, Next.out (by first | rfl | trivial), T.out.drewN _⟩
      · have hne : ((x : Int) != (y : Int)) = true := by simp; omega
        have Hxy := Lib.hid hxy; clear hxy
        go_wp2_with fail
        go_quiet (fail)
        go_wp2
        go_ret
        exact ⟨ret_bool (Not.out Hxy.out).symm, T.out.drewN _⟩
end Go.Proofs.YtmjeigceclmdoaaGreatDoor
