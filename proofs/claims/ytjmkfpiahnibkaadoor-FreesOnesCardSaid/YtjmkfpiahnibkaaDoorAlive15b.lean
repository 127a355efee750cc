/-
  The statements' own helpers for a map of pages, fourth part: alive.
-/
import Derived.Test.YtjmkfpiahnibkaaDoorAlive15
namespace Go.Proofs.YtjmkfpiahnibkaaDoor
open Go.RowKit

/-- the table is laid, below the heap's end -/
theorem TabAt.pos {w : World} (h : TabAt w) : 0 < w.heap.size := lt_of_cell (h 0 (by decide))

theorem mark_at (w : World) (b first last p : Nat) (S S' : Nat → Bool) (q r : Int) (h : MapAt w b first last S) (hq : q = (p : Nat)) (hp : p < 4294967296) (hr : r = (markSays first last S p : Nat)) (hS : markSet S p = S') :
    Calls Tryd.prog 9 #[.pointer (some ⟨b, 0, none⟩), .int .u32 q] w fun e w' => e = .returned (.int .i64 r) ∧ Touch (One b) w w' ∧ MapAt w' b first last S' := by
  subst hq hr hS; exact mark_any w b first last p S h hp
theorem is_at (w : World) (b first last p : Nat) (S : Nat → Bool) (q : Int) (c : Bool) (h : MapAt w b first last S) (hq : q = (p : Nat)) (hp : p < 4294967296) (hc : S p = c) :
    Calls Tryd.prog 12 #[.pointer (some ⟨b, 0, none⟩), .int .u32 q] w fun e w' => e = .returned (.bool c) ∧ w = w' := by
  subst hq hc; exact is_any w b first last p S h hp
theorem free_at (w : World) (b first last : Nat) (S : Nat → Bool) (r : Int) (h : MapAt w b first last S) (hr : r = ((Fr.lst S).length : Nat)) :
    Calls Tryd.prog 11 #[.pointer (some ⟨b, 0, none⟩)] w fun e w' => e = .returned (.int .i64 r) ∧ w = w' := by
  subst hr; exact free_any w b first last S h
theorem give_at (w : World) (b first last : Nat) (S S' : Nat → Bool) (a : Option Addr) (n cap : Nat) (xs : List Nat) (r : Int) (h : MapAt w b first last S) (hn : xs.length = n) (hcap : n ≤ cap) (hmax : (cap : Int) ≤ 9223372036854775807)
    (hr : Rd w a (nums .u32 xs)) (hoff : ∀ c o, a = some ⟨c, o, none⟩ → 0 < n → c ≠ b) (hx32 : ∀ x ∈ xs, x < 4294967296) (he : r = (giveSays first last S xs : Nat)) (hS : giveSet first last S xs = S') :
    Calls Tryd.prog 10 #[.pointer (some ⟨b, 0, none⟩), .slice a n cap] w fun e w' => e = .returned (.int .i64 r) ∧ Touch (One b) w w' ∧ MapAt w' b first last S' := by
  subst he hS; exact give_any w b first last S a n cap xs h hn hcap hmax hr hoff hx32

/-- a small new list -/
theorem rd_two (w : World) (T : TypeId) (x y : Nat) : Rd (w.alloc (.cells #[.int .u32 (x : Nat), .int .u32 (y : Nat)] T)) (some ⟨w.heap.size, 0, none⟩) (nums .u32 [x, y]) := by
  intro i v hi
  refine ⟨_, 0, rfl, ?_⟩
  rw [cell_new]
  match i, hi with
  | 0, hi => simpa [nums] using hi
  | 1, hi => simpa [nums] using hi

theorem s0 : (Fr.lst (inn [2, 3, 4, 5, 6])) = [2, 3, 4, 5, 6] := lst_inn (by decide) (by decide)
theorem s3 : (Fr.lst (inn [6])) = [6] := lst_inn (by decide) (by decide)
theorem m4 : markSays 2 7 (inn [4, 5, 6]) 4 = 0 := by decide
theorem m4s : markSet (inn [4, 5, 6]) 4 = inn [5, 6] := flip_inn (M := [5, 6]) (by decide)
theorem m5s : markSet (inn [5, 6]) 5 = inn [6] := flip_inn (M := [6]) (by decide)

set_option maxRecDepth 100000 in
set_option maxHeartbeats 4000000 in
theorem alive_any (w : World) (hT : TabAt w) :
    Calls Tryd.prog 13 #[] w fun e w' => e = .returned (.bool true) ∧ Touch No w w' := by
  have HT := Lib.hid hT; clear hT
  go_enter Tryd.func13, Tryd.ntmps13
  go_wp2_with fail
  refine (new_ok w 2 5 (by decide)).mono ?_
  rintro e w1 ⟨b, rfl, hb, t1, m1⟩
  rw [upTo_inn] at m1
  have Hb := Lib.hid hb; clear hb
  have T1 := Lib.hid t1; clear t1
  have M1 := Lib.hid m1; clear m1
  go_wp2_with fail
  -- took(m, 2, 2, 3)
  refine (took_ok _ b 2 7 [2, 3, 4, 5, 6] 2 _ _ _ _ (M1.out.touch ((Touch.refl No _).alloc _) (fun f => f)) ((HT.out.touch T1.out (fun f => f)).touch ((Touch.refl No _).alloc _) (fun f => f)) (by decide) (by decide) (by decide) rfl rfl (rd_two _ _ 2 3)
    (fun c o e => by have := M1.out.lt; simp at e; omega)).mono ?_
  rintro e w2 ⟨rfl, t2, m2⟩
  have T2 := Lib.hid ((T1.out.alloc _).then t2 (fun i hi e => by have := Hb.out; simp only [One] at e; omega)); clear t2 T1
  have M2 : Hid (MapAt w2 b 2 7 (inn [4, 5, 6])) := m2; clear m2 M1
  go_wp2_with fail
  refine (mark_at _ b 2 7 4 _ _ _ 0 M2.out rfl (by decide) (by decide) m4s).mono ?_
  rintro e w3 ⟨rfl, t3, m3⟩
  have T3 := Lib.hid (T2.out.then t3 (fun i hi e => by have := Hb.out; simp only [One] at e; omega)); clear t3 T2
  have M3 := Lib.hid m3; clear m3 M2
  go_wp2_with fail
  refine (mark_at _ b 2 7 5 _ _ _ 0 M3.out rfl (by decide) (by decide) m5s).mono ?_
  rintro e w4 ⟨rfl, t4, m4⟩
  have T4 := Lib.hid (T3.out.then t4 (fun i hi e => by have := Hb.out; simp only [One] at e; omega)); clear t4 T3
  have M4 := Lib.hid m4; clear m4 M3
  go_wp2_with fail
  refine (mark_at _ b 2 7 5 _ (inn [6]) _ 8 M4.out rfl (by decide) (by decide) rfl).mono ?_
  rintro e w5 ⟨rfl, t5, m5⟩
  have T5 := Lib.hid (T4.out.then t5 (fun i hi e => by have := Hb.out; simp only [One] at e; omega)); clear t5 T4
  have M5 := Lib.hid m5; clear m5 M4
  go_wp2_with fail
  refine (mark_at _ b 2 7 1 _ (inn [6]) _ 1 M5.out rfl (by decide) (by decide) rfl).mono ?_
  rintro e w6 ⟨rfl, t6, m6⟩
  have T6 := Lib.hid (T5.out.then t6 (fun i hi e => by have := Hb.out; simp only [One] at e; omega)); clear t6 T5
  have M6 := Lib.hid m6; clear m6 M5
  go_wp2_with fail
  refine (free_at _ b 2 7 _ 1 M6.out (by rw [s3]; rfl)).mono ?_
  rintro e w7 ⟨rfl, rfl⟩
  go_wp2_with fail
  refine (take_full _ b 2 7 _ 2 M6.out (by rw [s3]; decide)).mono ?_
  rintro e w7 ⟨rfl, rfl⟩
  go_wp2_with fail
  refine (new_bad _ _ _ (by simp [newBad])).mono ?_
  rintro e w7 ⟨rfl, rfl⟩
  go_wp2_with fail
  refine (new_ok _ 4095 1 (by decide)).mono ?_
  rintro e w7 ⟨b7, rfl, hb7, t7, m7⟩
  have M7 := Lib.hid (M6.out.touch t7 (fun f => f))
  have T7 := Lib.hid (T6.out.trans t7)
  clear t7 m7 hb7 M6 T6
  go_wp2_with fail
  refine (new_bad _ _ _ (by simp [newBad])).mono ?_
  rintro e w8 ⟨rfl, rfl⟩
  go_wp2_with fail
  refine (ids_any _ _).mono ?_
  rintro e w8 ⟨rfl, rfl⟩
  go_wp2_with fail
  refine (give_at _ b 2 7 _ (inn [2, 3, 6]) _ _ _ [3, 2] 0 (M7.out.touch ((Touch.refl No _).alloc _) (fun f => f)) rfl (by decide) (by decide) (rd_two _ _ 3 2)
    (fun c o e _ => by have := M7.out.lt; simp at e; omega) (by decide) (by decide) ?_).mono ?_
  · show Fr.add (inn [6]) [3, 2] = _
    rw [add_inn]; exact inn_congr (by decide)
  rintro e w9 ⟨rfl, t9, m9⟩
  have T9 := Lib.hid ((T7.out.alloc _).then t9 (fun i hi e => by have := Hb.out; simp only [One] at e; omega)); clear t9 T7
  have M9 := Lib.hid m9; clear m9 M7
  go_wp2_with fail
  refine (ids_any _ _).mono ?_
  rintro e w10 ⟨rfl, rfl⟩
  go_wp2_with fail
  refine (give_at _ b 2 7 _ (inn [2, 3, 6]) _ _ _ [4, 4] 9 (M9.out.touch ((Touch.refl No _).alloc _) (fun f => f)) rfl (by decide) (by decide) (rd_two _ _ 4 4)
    (fun c o e _ => by have := M9.out.lt; simp at e; omega) (by decide) (by decide) rfl).mono ?_
  rintro e w10 ⟨rfl, t10, m10⟩
  have T10 := Lib.hid ((T9.out.alloc _).then t10 (fun i hi e => by have := Hb.out; simp only [One] at e; omega)); clear t10 T9
  have M10 := Lib.hid m10; clear m10 M9
  go_wp2_with fail
  refine (is_at _ b 2 7 3 _ _ true M10.out rfl (by decide) (by decide)).mono ?_
  rintro e w11 ⟨rfl, rfl⟩
  go_wp2_with fail
  refine (is_at _ b 2 7 4 _ _ false M10.out rfl (by decide) (by decide)).mono ?_
  rintro e w11 ⟨rfl, rfl⟩
  go_wp2_with fail
  refine (took_ok _ b 2 7 [2, 3, 6] 2 _ _ _ _ (M10.out.touch ((Touch.refl No _).alloc _) (fun f => f)) ((HT.out.touch T10.out (fun f => f)).touch ((Touch.refl No _).alloc _) (fun f => f)) (by decide) (by decide) (by decide) rfl rfl (rd_two _ _ 2 3)
    (fun c o e => by have := M10.out.lt; simp at e; omega)).mono ?_
  rintro e w11 ⟨rfl, t11, m11⟩
  have T11 := Lib.hid ((T10.out.alloc _).then t11 (fun i hi e => by have := Hb.out; simp only [One] at e; omega))
  clear t11 m11
  go_wp2
  go_ret
  exact ⟨rfl, T11.out⟩
end Go.Proofs.YtjmkfpiahnibkaaDoor
