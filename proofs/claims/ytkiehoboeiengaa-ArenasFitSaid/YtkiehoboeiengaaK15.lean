/-
  Tensors as they lie in memory: clones and clips of their lists, shapes, tensors.Check, tensors.Same.
-/
import Derived.Test.YtkiehoboeiengaaRows
import Derived.Test.YtkiehoboeiengaaK09
import Derived.Test.YtkiehoboeiengaaK03
import Derived.Test.YtkiehoboeiengaaK14
import Derived.Test.YtkiehoboeiengaaK12
import Derived.Lib.SliceRun
import Derived.Deep.LoopGhost
import Derived.Deep.QuietTactic
import Derived.BigQuiet
import Derived.Deep.RegionLawGrows
namespace Go.Proofs.Ytkiehoboeiengaa
open Go Go.RowKit
set_option linter.unusedSimpArgs false
set_option linter.unusedVariables false

theorem drop_step (xs : List Int) (k : Nat) (h : k < xs.length) : xs.drop k = xs.getD k 0 :: xs.drop (k + 1) := by
  rw [List.drop_eq_getElem_cons h, List.getD_eq_getElem?_getD, List.getElem?_eq_getElem h]; rfl
theorem info_I : ∃ i, Try.prog.info? 3 = some i ∧ i.zero = some (.int .i64 0) ∧ i.size = 1 ∧ i.bytes = 8 := one_info (by kernel_rfl)
set_option maxHeartbeats 2000000 in
theorem cloneI_own (w : World) (a : Option Addr) (n c : Nat) (xs : List Int) (ha : a ≠ none) (hr : Rd w a (ints .i64 xs)) (hl : xs.length = n) (hn : (n : Int) ≤ 1000000000000) :
    Calls Try.prog 78 #[.slice a n c] w fun e w' => ∃ a' c', e = .returned (.slice a' n c') ∧ Own w' w.heap.size 3 (.slice a' n c') (ints .i64 xs) ∧ n ≤ c' ∧ Touch No w w' := by
  obtain ⟨⟨g, o, sp⟩, rfl⟩ : ∃ ad, a = some ad := by cases a with | none => exact absurd rfl ha | some ad => exact ⟨ad, rfl⟩
  have hq := fun (w : World) (a : Option Addr) (n c n' c' : Nat) => Lib.run_eql_slice_nil (P := Try.prog) w 54 3 a n c n' c' Try.underlying54
  obtain ⟨I, hi0, hi1, hi2, hi3⟩ := info_I
  have HI := Lib.hid (And.intro hi0 (And.intro hi1 (And.intro hi2 hi3)))
  have Hl := Lib.hid (show (ints .i64 xs).length = n by rw [ints_length]; exact hl)
  have Hn := Lib.hid hn
  have HR := Lib.hid (hr.no ((Touch.refl No w).alloc (.cells #[] 3)))
  have HO : Hid (Own (w.alloc (.cells #[] 3)) w.heap.size 3 (.slice (some ⟨w.heap.size, 0, none⟩) 0 0) []) := own_of_row (Row.new w 3 #[]) (Nat.le_refl _) rfl (Nat.zero_le _)
  clear hr hn hl hi0 hi1 hi2 hi3 ha
  go_enter Try.func78, Try.ntmps78
  go_wp2_with (refine wpList_append_rd rfl _ _ _ rfl w.heap.size 3 I (.int .i64 0) 8 Try.underlying54 HI.out.1 HI.out.2.1 HI.out.2.2.1 HI.out.2.2.2 rfl _ _ HO.out rfl (some ⟨g, o, sp⟩) n c (ints .i64 xs) rfl Hl.out HR.out (ints_one _ _) (by have := Hn.out; unfold maxLen; simp only [List.length_nil]; omega) (by have := Hn.out; simp only [List.length_nil]; omega) (by simp) ?_)
  rintro v w1 o1 t1
  have o1 : Own w1 w.heap.size 3 v (ints .i64 xs) := o1
  obtain ⟨a', c', rfl, hc, _⟩ := o1.form' (n := n) Hl.out
  have O1 := Lib.hid o1
  have T1 := Lib.hid (((Touch.refl No w).alloc (.cells #[] 3)).then t1 (fun i hi e => absurd (HO.out.block e).1 (Nat.not_le.2 hi)))
  have HC := Lib.hid hc
  clear o1 t1 hc
  go_wp2
  go_ret
  exact ⟨a', c', by simp, O1.out, HC.out, T1.out⟩
theorem clipI_any (w : World) (a : Option Addr) (n c : Nat) (h : n ≤ c) : Calls Try.prog 77 #[.slice a n c] w fun e w' => e = .returned (.slice a n n) ∧ w = w' := by
  have hnc : (n : Int) ≤ (c : Int) := by omega
  have h0 : (0 : Int) ≤ (n : Int) := Int.natCast_nonneg _
  go_enter Try.func77, Try.ntmps77
  go_wp2
  go_ret
  exact ⟨rfl, rfl⟩
set_option maxRecDepth 100000 in
set_option maxHeartbeats 2000000 in
theorem equalI_any (w : World) (a b : Option Addr) (n c n' c' : Nat) (xs ys : List Int) (hr : Rd w a (ints .i64 xs)) (hl : xs.length = n) (hr' : Rd w b (ints .i64 ys)) (hl' : ys.length = n') (hn : (n : Int) ≤ 1000000000000) :
    Calls Try.prog 54 #[.slice a n c, .slice b n' c'] w fun e w' => e = .returned (.bool (decide (xs = ys))) ∧ Touch No w w' := by
  by_cases hnn : n = n'
  · subst hnn
    have hnb : ((n : Int) != (n : Int)) = false := by simp
    have HR := Lib.hid hr
    have HR' := Lib.hid hr'
    have Hl := Lib.hid hl
    have Hl' := Lib.hid hl'
    clear hr hr' hl hl'
    go_enter Try.func54, Try.ntmps54
    go_wp2
    go_loopg [13] n (fun gh s13 wr => ∃ k : Nat, k + gh = n ∧ s13 = .int .i64 ((k : Nat) : Int) ∧ Hid (xs.take k = ys.take k) ∧ Hid (Touch No w wr))
    case atStart => exact ⟨0, by omega, rfl, rfl, Touch.refl _ _⟩
    case round =>
      obtain ⟨k, hkg, rfl, HE, T⟩ := hrel
      cases gk with
      | zero =>
        obtain rfl : k = n := by omega
        have Hres : Hid (decide (xs = ys) = true) := by
          have h := HE.out
          rw [List.take_of_length_le (by rw [Hl.out]; omega), List.take_of_length_le (by rw [Hl'.out]; omega)] at h
          exact decide_eq_true h
        go_wp2
        go_ret
        exact ⟨by rw [Hres.out]; rfl, T.out⟩
      | succ g' =>
        have hki : (k : Int) < (n : Nat) := by omega
        obtain ⟨x, hx⟩ : ∃ x, xs.getD k 0 = x := ⟨_, rfl⟩
        obtain ⟨y, hy⟩ : ∃ y, ys.getD k 0 = y := ⟨_, rfl⟩
        obtain ⟨g1, o1, rfl, hc1⟩ := (HR.out.no T.out).int (i := k) (by rw [Hl.out]; omega)
        obtain ⟨g2, o2, rfl, hc2⟩ := (HR'.out.no T.out).int (i := k) (by rw [Hl'.out]; omega)
        rw [hx] at hc1
        rw [hy] at hc2
        have e1 : xs.take (k + 1) = xs.take k ++ [x] := by rw [List.take_add_one, ← hx, List.getD_eq_getElem?_getD, List.getElem?_eq_getElem (by rw [Hl.out]; omega)]; rfl
        have e2 : ys.take (k + 1) = ys.take k ++ [y] := by rw [List.take_add_one, ← hy, List.getD_eq_getElem?_getD, List.getElem?_eq_getElem (by rw [Hl'.out]; omega)]; rfl
        by_cases hxy : x = y
        · subst hxy
          have HE2 : Hid (xs.take (k + 1) = ys.take (k + 1)) := by show _ = _; rw [e1, e2, HE.out]
          have hb : (x != x) = false := by simp
          clear e1 e2 hx hy
          go_wp2
          go_quiet (fail)
          go_wp2
          have T2 := Lib.hid (T.out.drewN nq)
          go_roundg g'
          case measure => omega
          case rel => exact ⟨k + 1, by omega, by go_num, HE2.out, T2.out⟩
        · have hb : (x != y) = true := by simpa using hxy
          have Hres : Hid (decide (xs = ys) = false) := decide_eq_false (fun e => hxy (by rw [← hx, ← hy, e]))
          clear e1 e2 hx hy hxy
          go_wp2
          go_quiet (fail)
          go_wp2
          go_ret
          exact ⟨by rw [Hres.out]; rfl, T.out.drewN _⟩
  · have hnb : ((n : Int) != (n' : Int)) = true := by simp; omega
    have Hres : Hid (decide (xs = ys) = false) := decide_eq_false (fun e => hnn (by rw [← hl, ← hl', e]))
    clear hr hr' hl hl' hnn
    go_enter Try.func54, Try.ntmps54
    go_wp2
    go_ret
    exact ⟨by rw [Hres.out]; rfl, Touch.refl _ _⟩
theorem info_L : ∃ i, Try.prog.info? 21 = some i ∧ i.zero = some (.int .i32 0) ∧ i.size = 1 ∧ i.bytes = 4 := one_info (by kernel_rfl)
set_option maxHeartbeats 2000000 in
theorem cloneL_own (w : World) (a : Option Addr) (n c : Nat) (xs : List Int) (ha : a ≠ none) (hr : Rd w a (ints .i32 xs)) (hl : xs.length = n) (hn : (n : Int) ≤ 1000000000000) :
    Calls Try.prog 80 #[.slice a n c] w fun e w' => ∃ a' c', e = .returned (.slice a' n c') ∧ Own w' w.heap.size 21 (.slice a' n c') (ints .i32 xs) ∧ n ≤ c' ∧ Touch No w w' := by
  obtain ⟨⟨g, o, sp⟩, rfl⟩ : ∃ ad, a = some ad := by cases a with | none => exact absurd rfl ha | some ad => exact ⟨ad, rfl⟩
  have hq := fun (w : World) (a : Option Addr) (n c n' c' : Nat) => Lib.run_eql_slice_nil (P := Try.prog) w 50 21 a n c n' c' Try.underlying50
  obtain ⟨I, hi0, hi1, hi2, hi3⟩ := info_L
  have HI := Lib.hid (And.intro hi0 (And.intro hi1 (And.intro hi2 hi3)))
  have Hl := Lib.hid (show (ints .i32 xs).length = n by rw [ints_length]; exact hl)
  have Hn := Lib.hid hn
  have HR := Lib.hid (hr.no ((Touch.refl No w).alloc (.cells #[] 21)))
  have HO : Hid (Own (w.alloc (.cells #[] 21)) w.heap.size 21 (.slice (some ⟨w.heap.size, 0, none⟩) 0 0) []) := own_of_row (Row.new w 21 #[]) (Nat.le_refl _) rfl (Nat.zero_le _)
  clear hr hn hl hi0 hi1 hi2 hi3 ha
  go_enter Try.func80, Try.ntmps80
  go_wp2_with (refine wpList_append_rd rfl _ _ _ rfl w.heap.size 21 I (.int .i32 0) 4 Try.underlying50 HI.out.1 HI.out.2.1 HI.out.2.2.1 HI.out.2.2.2 rfl _ _ HO.out rfl (some ⟨g, o, sp⟩) n c (ints .i32 xs) rfl Hl.out HR.out (ints_one _ _) (by have := Hn.out; unfold maxLen; simp only [List.length_nil]; omega) (by have := Hn.out; simp only [List.length_nil]; omega) (by simp) ?_)
  rintro v w1 o1 t1
  have o1 : Own w1 w.heap.size 21 v (ints .i32 xs) := o1
  obtain ⟨a', c', rfl, hc, _⟩ := o1.form' (n := n) Hl.out
  have O1 := Lib.hid o1
  have T1 := Lib.hid (((Touch.refl No w).alloc (.cells #[] 21)).then t1 (fun i hi e => absurd (HO.out.block e).1 (Nat.not_le.2 hi)))
  have HC := Lib.hid hc
  clear o1 t1 hc
  go_wp2
  go_ret
  exact ⟨a', c', by simp, O1.out, HC.out, T1.out⟩
theorem clipL_any (w : World) (a : Option Addr) (n c : Nat) (h : n ≤ c) : Calls Try.prog 79 #[.slice a n c] w fun e w' => e = .returned (.slice a n n) ∧ w = w' := by
  have hnc : (n : Int) ≤ (c : Int) := by omega
  have h0 : (0 : Int) ≤ (n : Int) := Int.natCast_nonneg _
  go_enter Try.func79, Try.ntmps79
  go_wp2
  go_ret
  exact ⟨rfl, rfl⟩
set_option maxRecDepth 100000 in
set_option maxHeartbeats 2000000 in
theorem equalL_any (w : World) (a b : Option Addr) (n c n' c' : Nat) (xs ys : List Int) (hr : Rd w a (ints .i32 xs)) (hl : xs.length = n) (hr' : Rd w b (ints .i32 ys)) (hl' : ys.length = n') (hn : (n : Int) ≤ 1000000000000) :
    Calls Try.prog 55 #[.slice a n c, .slice b n' c'] w fun e w' => e = .returned (.bool (decide (xs = ys))) ∧ Touch No w w' := by
  by_cases hnn : n = n'
  · subst hnn
    have hnb : ((n : Int) != (n : Int)) = false := by simp
    have HR := Lib.hid hr
    have HR' := Lib.hid hr'
    have Hl := Lib.hid hl
    have Hl' := Lib.hid hl'
    clear hr hr' hl hl'
    go_enter Try.func55, Try.ntmps55
    go_wp2
    go_loopg [13] n (fun gh s13 wr => ∃ k : Nat, k + gh = n ∧ s13 = .int .i64 ((k : Nat) : Int) ∧ Hid (xs.take k = ys.take k) ∧ Hid (Touch No w wr))
    case atStart => exact ⟨0, by omega, rfl, rfl, Touch.refl _ _⟩
    case round =>
      obtain ⟨k, hkg, rfl, HE, T⟩ := hrel
      cases gk with
      | zero =>
        obtain rfl : k = n := by omega
        have Hres : Hid (decide (xs = ys) = true) := by
          have h := HE.out
          rw [List.take_of_length_le (by rw [Hl.out]; omega), List.take_of_length_le (by rw [Hl'.out]; omega)] at h
          exact decide_eq_true h
        go_wp2
        go_ret
        exact ⟨by rw [Hres.out]; rfl, T.out⟩
      | succ g' =>
        have hki : (k : Int) < (n : Nat) := by omega
        obtain ⟨x, hx⟩ : ∃ x, xs.getD k 0 = x := ⟨_, rfl⟩
        obtain ⟨y, hy⟩ : ∃ y, ys.getD k 0 = y := ⟨_, rfl⟩
        obtain ⟨g1, o1, rfl, hc1⟩ := (HR.out.no T.out).int (i := k) (by rw [Hl.out]; omega)
        obtain ⟨g2, o2, rfl, hc2⟩ := (HR'.out.no T.out).int (i := k) (by rw [Hl'.out]; omega)
        rw [hx] at hc1
        rw [hy] at hc2
        have e1 : xs.take (k + 1) = xs.take k ++ [x] := by rw [List.take_add_one, ← hx, List.getD_eq_getElem?_getD, List.getElem?_eq_getElem (by rw [Hl.out]; omega)]; rfl
        have e2 : ys.take (k + 1) = ys.take k ++ [y] := by rw [List.take_add_one, ← hy, List.getD_eq_getElem?_getD, List.getElem?_eq_getElem (by rw [Hl'.out]; omega)]; rfl
        by_cases hxy : x = y
        · subst hxy
          have HE2 : Hid (xs.take (k + 1) = ys.take (k + 1)) := by show _ = _; rw [e1, e2, HE.out]
          have hb : (x != x) = false := by simp
          clear e1 e2 hx hy
          go_wp2
          go_quiet (fail)
          go_wp2
          have T2 := Lib.hid (T.out.drewN nq)
          go_roundg g'
          case measure => omega
          case rel => exact ⟨k + 1, by omega, by go_num, HE2.out, T2.out⟩
        · have hb : (x != y) = true := by simpa using hxy
          have Hres : Hid (decide (xs = ys) = false) := decide_eq_false (fun e => hxy (by rw [← hx, ← hy, e]))
          clear e1 e2 hx hy hxy
          go_wp2
          go_quiet (fail)
          go_wp2
          go_ret
          exact ⟨by rw [Hres.out]; rfl, T.out.drewN _⟩
  · have hnb : ((n : Int) != (n' : Int)) = true := by simp; omega
    have Hres : Hid (decide (xs = ys) = false) := decide_eq_false (fun e => hnn (by rw [← hl, ← hl', e]))
    clear hr hr' hl hl' hnn
    go_enter Try.func55, Try.ntmps55
    go_wp2
    go_ret
    exact ⟨by rw [Hres.out]; rfl, Touch.refl _ _⟩
end Go.Proofs.Ytkiehoboeiengaa
