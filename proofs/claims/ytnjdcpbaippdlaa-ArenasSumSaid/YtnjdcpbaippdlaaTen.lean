/-
  Tensors as they lie in memory: clones and clips of their lists, shapes, tensors.Check, tensors.Same.
-/
import Derived.Test.YtnjdcpbaippdlaaRows
import Derived.Test.YtnjdcpbaippdlaaApp
import Derived.Test.YtnjdcpbaippdlaaOpen
import Derived.Test.YtnjdcpbaippdlaaNumA
import Derived.Test.YtnjdcpbaippdlaaNums
import Derived.Lib.SliceRun
import Derived.Deep.LoopGhost
import Derived.Deep.QuietTactic
import Derived.BigQuiet
import Derived.Deep.RegionLawGrows
namespace Go.Proofs.Ytnjdcpbaippdlaa
open Go Go.RowKit
set_option linter.unusedSimpArgs false
set_option linter.unusedVariables false

theorem drop_step (xs : List Int) (k : Nat) (h : k < xs.length) : xs.drop k = xs.getD k 0 :: xs.drop (k + 1) := by
  rw [List.drop_eq_getElem_cons h, List.getD_eq_getElem?_getD, List.getElem?_eq_getElem h]; rfl
theorem info_I : ∃ i, Try.prog.info? 3 = some i ∧ i.zero = some (.int .i64 0) ∧ i.size = 1 ∧ i.bytes = 8 := one_info (by kernel_rfl)
set_option maxHeartbeats 2000000 in
theorem cloneI_own (w : World) (a : Option Addr) (n c : Nat) (xs : List Int) (ha : a ≠ none) (hr : Rd w a (ints .i64 xs)) (hl : xs.length = n) (hn : (n : Int) ≤ 1000000000000) :
    Calls Try.prog 32 #[.slice a n c] w fun e w' => ∃ a' c', e = .returned (.slice a' n c') ∧ Own w' w.heap.size 3 (.slice a' n c') (ints .i64 xs) ∧ n ≤ c' ∧ Touch No w w' := by
  obtain ⟨⟨g, o, sp⟩, rfl⟩ : ∃ ad, a = some ad := by cases a with | none => exact absurd rfl ha | some ad => exact ⟨ad, rfl⟩
  have hq := fun (w : World) (a : Option Addr) (n c n' c' : Nat) => Lib.run_eql_slice_nil (P := Try.prog) w 32 3 a n c n' c' Try.underlying32
  obtain ⟨I, hi0, hi1, hi2, hi3⟩ := info_I
  have HI := Lib.hid (And.intro hi0 (And.intro hi1 (And.intro hi2 hi3)))
  have Hl := Lib.hid (show (ints .i64 xs).length = n by rw [ints_length]; exact hl)
  have Hn := Lib.hid hn
  have HR := Lib.hid (hr.no ((Touch.refl No w).alloc (.cells #[] 3)))
  have HO : Hid (Own (w.alloc (.cells #[] 3)) w.heap.size 3 (.slice (some ⟨w.heap.size, 0, none⟩) 0 0) []) := own_of_row (Row.new w 3 #[]) (Nat.le_refl _) rfl (Nat.zero_le _)
  clear hr hn hl hi0 hi1 hi2 hi3 ha
  go_enter Try.func32, Try.ntmps32
  go_wp2_with (refine wpList_append_rd rfl _ _ _ rfl w.heap.size 3 I (.int .i64 0) 8 Try.underlying32 HI.out.1 HI.out.2.1 HI.out.2.2.1 HI.out.2.2.2 rfl _ _ HO.out rfl (some ⟨g, o, sp⟩) n c (ints .i64 xs) rfl Hl.out HR.out (ints_one _ _) (by have := Hn.out; unfold maxLen; simp only [List.length_nil]; omega) (by have := Hn.out; simp only [List.length_nil]; omega) (by simp) ?_)
  rintro v w1 o1 t1
  have o1 : Own w1 w.heap.size 3 v (ints .i64 xs) := o1
  obtain ⟨a', c', rfl, hc, _⟩ := o1.form' (n := n) Hl.out
  have O1 := Lib.hid o1
  have T1 := Lib.hid (((Touch.refl No w).alloc (.cells #[] 3)).then t1 (fun i hi e => absurd (HO.out.block e).1 (Nat.not_le.2 hi)))
  have HC := Lib.hid hc
  clear o1 t1 hc
  go_wp2
  go_ret
  exact ⟨a', c', by simp, O1.out, HC.out, T1.out⟩
theorem clipI_any (w : World) (a : Option Addr) (n c : Nat) (h : n ≤ c) : Calls Try.prog 31 #[.slice a n c] w fun e w' => e = .returned (.slice a n n) ∧ w = w' := by
  have hnc : (n : Int) ≤ (c : Int) := by omega
  have h0 : (0 : Int) ≤ (n : Int) := Int.natCast_nonneg _
  go_enter Try.func31, Try.ntmps31
  go_wp2
  go_ret
  exact ⟨rfl, rfl⟩
theorem info_L : ∃ i, Try.prog.info? 21 = some i ∧ i.zero = some (.int .i32 0) ∧ i.size = 1 ∧ i.bytes = 4 := one_info (by kernel_rfl)
set_option maxHeartbeats 2000000 in
theorem cloneL_own (w : World) (a : Option Addr) (n c : Nat) (xs : List Int) (ha : a ≠ none) (hr : Rd w a (ints .i32 xs)) (hl : xs.length = n) (hn : (n : Int) ≤ 1000000000000) :
    Calls Try.prog 34 #[.slice a n c] w fun e w' => ∃ a' c', e = .returned (.slice a' n c') ∧ Own w' w.heap.size 21 (.slice a' n c') (ints .i32 xs) ∧ n ≤ c' ∧ Touch No w w' := by
  obtain ⟨⟨g, o, sp⟩, rfl⟩ : ∃ ad, a = some ad := by cases a with | none => exact absurd rfl ha | some ad => exact ⟨ad, rfl⟩
  have hq := fun (w : World) (a : Option Addr) (n c n' c' : Nat) => Lib.run_eql_slice_nil (P := Try.prog) w 33 21 a n c n' c' Try.underlying33
  obtain ⟨I, hi0, hi1, hi2, hi3⟩ := info_L
  have HI := Lib.hid (And.intro hi0 (And.intro hi1 (And.intro hi2 hi3)))
  have Hl := Lib.hid (show (ints .i32 xs).length = n by rw [ints_length]; exact hl)
  have Hn := Lib.hid hn
  have HR := Lib.hid (hr.no ((Touch.refl No w).alloc (.cells #[] 21)))
  have HO : Hid (Own (w.alloc (.cells #[] 21)) w.heap.size 21 (.slice (some ⟨w.heap.size, 0, none⟩) 0 0) []) := own_of_row (Row.new w 21 #[]) (Nat.le_refl _) rfl (Nat.zero_le _)
  clear hr hn hl hi0 hi1 hi2 hi3 ha
  go_enter Try.func34, Try.ntmps34
  go_wp2_with (refine wpList_append_rd rfl _ _ _ rfl w.heap.size 21 I (.int .i32 0) 4 Try.underlying33 HI.out.1 HI.out.2.1 HI.out.2.2.1 HI.out.2.2.2 rfl _ _ HO.out rfl (some ⟨g, o, sp⟩) n c (ints .i32 xs) rfl Hl.out HR.out (ints_one _ _) (by have := Hn.out; unfold maxLen; simp only [List.length_nil]; omega) (by have := Hn.out; simp only [List.length_nil]; omega) (by simp) ?_)
  rintro v w1 o1 t1
  have o1 : Own w1 w.heap.size 21 v (ints .i32 xs) := o1
  obtain ⟨a', c', rfl, hc, _⟩ := o1.form' (n := n) Hl.out
  have O1 := Lib.hid o1
  have T1 := Lib.hid (((Touch.refl No w).alloc (.cells #[] 21)).then t1 (fun i hi e => absurd (HO.out.block e).1 (Nat.not_le.2 hi)))
  have HC := Lib.hid hc
  clear o1 t1 hc
  go_wp2
  go_ret
  exact ⟨a', c', by simp, O1.out, HC.out, T1.out⟩
theorem clipL_any (w : World) (a : Option Addr) (n c : Nat) (h : n ≤ c) : Calls Try.prog 33 #[.slice a n c] w fun e w' => e = .returned (.slice a n n) ∧ w = w' := by
  have hnc : (n : Int) ≤ (c : Int) := by omega
  have h0 : (0 : Int) ≤ (n : Int) := Int.natCast_nonneg _
  go_enter Try.func33, Try.ntmps33
  go_wp2
  go_ret
  exact ⟨rfl, rfl⟩
end Go.Proofs.Ytnjdcpbaippdlaa
