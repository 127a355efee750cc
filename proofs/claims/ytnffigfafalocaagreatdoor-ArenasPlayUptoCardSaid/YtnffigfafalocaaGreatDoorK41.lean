/-
  Package drydocklaw01 by its own text: TwinInts, LeftInts.
  Package drydocklaw01 by its own text: TwinNumbers, LeftNumbers.
-/
import Derived.Test.YtnffigfafalocaaGreatDoorK04
import Derived.Test.YtnffigfafalocaaGreatDoorK36
import Derived.Test.YtnffigfafalocaaGreatDoorK40
import Derived.StillTailTactics
namespace Go.Proofs.YtnffigfafalocaaGreatDoor
open Go Go.RowKit
set_option linter.unusedSimpArgs false

theorem ints_snocI (zs : List Int) (k : Nat) (h : k < zs.length) : ints .i64 (zs.take (k + 1)) = ints .i64 (zs.take k) ++ [.int .i64 (zs.getD k 0)] := by
  rw [List.take_succ_eq_append_getElem h, ints, List.map_append, List.getD_eq_getElem?_getD, List.getElem?_eq_getElem h]; rfl
set_option maxRecDepth 100000 in
set_option maxHeartbeats 2000000 in
theorem twinInts_any (w : World) (a : Option Addr) (n c : Nat) (zs : List Int) (hz : zs.length = n) (hm : (n : Int) ≤ 10000000) (hr : Rd w a (ints .i64 zs)) :
    Calls Tryz.prog 63 #[.slice a n c] w fun e w' => ∃ a' c', e = .returned (.slice a' n c') ∧ n < c' ∧ Own w' w.heap.size 3 (.slice a' (n + 1) c') (ints .i64 zs ++ [.int .i64 77]) ∧ Touch No w w' := by
  have Hz := Lib.hid hz
  have Hr := Lib.hid hr
  obtain ⟨I, hi0, hi1, hi2, hi3⟩ := int_info
  have HI := Lib.hid (And.intro hi0 (And.intro hi1 (And.intro hi2 hi3)))
  clear hz hr hi0 hi1 hi2 hi3
  go_enter Tryz.func63, Tryz.ntmps63
  go_wp2_with (at_make; refine wpList_make_own _ rfl _ _ _ rfl w.heap.size _ I _ 1 Tryz.underlying72 HI.out.1 HI.out.2.1 HI.out.2.2.1 .i64 .i64 _ (n + 1) rfl rfl (by omega) (by rw [HI.out.2.2.2]; omega) (by unfold maxLen; omega) (Nat.le_refl _) ?_; intro w1 hown hgrow)
  have T1 : Hid (Touch No w w1) := (Touch.refl No w).grown hgrow (fun k hk _ => by cases hk)
  have O1 : Hid (Own w1 w.heap.size 3 (.slice (some ⟨w.heap.size, 0, none⟩) 0 (n + 1)) (ints .i64 (zs.take 0))) := hown
  clear hown hgrow
  go_loopg [3, 4] n (fun g s3 s4 wr => ∃ (k : Nat) (v : Value), k + g = n ∧ s4 = .int .i64 ((k : Nat) : Int) ∧ s3 = v ∧ Hid (Own wr w.heap.size 3 v (ints .i64 (zs.take k))) ∧ Hid (Touch No w wr))
  case atStart => exact ⟨0, _, by omega, rfl, rfl, O1, T1⟩
  case round =>
    obtain ⟨k, v, hkg, rfl, rfl, O, T⟩ := hrel
    cases gk with
    | zero =>
      obtain rfl : k = n := by omega
      have hO := O.out
      rw [List.take_of_length_le (by rw [Hz.out]; exact Nat.le_refl _)] at hO
      have hlk : (ints .i64 zs).length = k := by rw [ints_length, Hz.out]
      obtain ⟨al, cl, rfl, _⟩ := hO.form' hlk
      have HO := Lib.hid hO
      have Hlk := Lib.hid hlk
      clear hO hlk O
      go_wp2_with (at_builtin; refine wpList_append1 rfl _ _ _ rfl w.heap.size _ I _ 8 Tryz.underlying72 HI.out.1 HI.out.2.1 HI.out.2.2.1 HI.out.2.2.2 rfl _ (ints .i64 zs) _ HO.out rfl rfl rfl (by rw [Hlk.out]; unfold maxLen; omega) (by rw [Hlk.out]; omega) T.out.size ?_; intro v' w3 hown3 ht3; obtain ⟨a3, c3, rfl, hc3, _⟩ := hown3.form' (n := k + 1) (by rw [List.length_append, Hlk.out]; rfl); have hhead := fun wx : World => run_head (P := Tryz.prog) Tryz.underlying72 HI.out.1 HI.out.2.2.1 a3 (k + 1) c3 k .i64 (show k ≤ c3 by omega) wx)
      have HF : Hid (Own w3 w.heap.size 3 (.slice a3 (k + 1) c3) (ints .i64 zs ++ [.int .i64 77]) ∧ Touch No w w3 ∧ k < c3) := ⟨hown3, T.out.then ht3 (fun i hi e => absurd ((HO.out.block e).1) (by omega)), by omega⟩
      clear hown3 ht3 hc3
      go_wp2
      go_ret
      exact ⟨a3, c3, rfl, HF.out.2.2, HF.out.1, HF.out.2.1⟩
    | succ g =>
      have hlt : (k : Int) < (n : Nat) := by omega
      have hkl : k < zs.length := by rw [Hz.out]; omega
      have hlk : (ints .i64 (zs.take k)).length = k := by rw [ints_length, List.length_take]; omega
      obtain ⟨al, cl, rfl, _⟩ := O.out.form' hlk
      obtain ⟨ga, oa, rfl, hca⟩ := (Hr.out.no T.out).int hkl
      have HN := Lib.hid (ints_snocI zs k hkl)
      obtain ⟨z, hzz⟩ : ∃ z, zs.getD k 0 = z := ⟨_, rfl⟩
      rw [hzz] at hca HN
      have Hlk := Lib.hid hlk
      clear hlk hzz hkl
      go_wp2_with (at_builtin; refine wpList_append1 rfl _ _ _ rfl w.heap.size _ I _ 8 Tryz.underlying72 HI.out.1 HI.out.2.1 HI.out.2.2.1 HI.out.2.2.2 rfl _ _ _ O.out rfl rfl rfl (by rw [Hlk.out]; unfold maxLen; omega) (by rw [Hlk.out]; omega) T.out.size ?_; intro v' w3 hown3 ht3)
      go_roundg g
      case measure => omega
      case rel => exact ⟨k + 1, v', by omega, by go_num, rfl, by rw [HN.out]; exact hown3, T.out.then ht3 (fun i hi e => absurd ((O.out.block e).1) (by omega))⟩
set_option maxRecDepth 100000 in
set_option maxHeartbeats 2000000 in
theorem leftInts_any (w : World) (a' : Option Addr) (n c' : Nat) (a : Option Addr) (c : Nat) (zs : List Int) (hz : zs.length = n) (hm : (n : Int) ≤ 10000000) (hc : n < c') (hr' : Rd w a' (ints .i64 zs ++ [.int .i64 77])) (hr : Rd w a (ints .i64 zs)) :
    Calls Tryz.prog 72 #[.slice a' n c', .slice a n c] w fun e w' => e = .returned (.bool true) ∧ Touch No w w' := by
  obtain ⟨I, hi0, hi1, hi2, hi3⟩ := int_info
  have hhead := fun wx : World => run_head (P := Tryz.prog) Tryz.underlying72 hi0 hi2 a' n c' (n + 1) .i64 hc wx
  have Hhead := Lib.hid hhead
  have Hz := Lib.hid hz
  have Hr := Lib.hid hr
  have Hr' := Lib.hid hr'
  have hcd : decide (c' ≤ n) = false := decide_eq_false (by omega)
  clear hz hr hr' hi0 hi1 hi2 hi3 hhead hc
  go_enter Tryz.func72, Tryz.ntmps72
  go_wp2
  clear hcd
  go_loopg [4, 5] n (fun g s4 s5 wr => ∃ k : Nat, k + g = n ∧ s4 = .bool false ∧ s5 = .int .i64 ((k : Nat) : Int) ∧ Hid (Touch No w wr))
  case atStart => exact ⟨0, by omega, rfl, rfl, Touch.refl _ _⟩
  case round =>
    obtain ⟨k, hkg, rfl, rfl, T⟩ := hrel
    cases gk with
    | zero =>
      obtain rfl : k = n := by omega
      obtain ⟨ga, oa, rfl, hca⟩ := (Hr'.out.no T.out) k (.int .i64 77) (by rw [List.getElem?_append_right (by rw [ints_length, Hz.out]; exact Nat.le_refl _), ints_length, Hz.out, Nat.sub_self]; rfl)
      have hhead : ∀ wx : World, (Instr.slice 72 (.slice (some ⟨ga, oa, none⟩) k c') none (some (.int .i64 ((k : Int) + 1))) none).run Tryz.prog wx = .ok (.slice (some ⟨ga, oa, none⟩) (k + 1) c') wx := fun wx => Hhead.out wx
      clear Hhead Hr'
      go_wp2
      go_ret
      exact ⟨rfl, T.out⟩
    | succ g =>
      have hlt : (k : Int) < (n : Nat) := by omega
      have hkl : k < zs.length := by rw [Hz.out]; omega
      obtain ⟨ga, oa, rfl, hca⟩ := (Hr.out.no T.out).int hkl
      obtain ⟨gb, ob, rfl, hcb⟩ := (Hr'.out.no T.out) k (.int .i64 (zs.getD k 0)) (by rw [List.getElem?_append_left (by rw [ints_length]; exact hkl), ints_get hkl])
      obtain ⟨z, hzz⟩ : ∃ z, zs.getD k 0 = z := ⟨_, rfl⟩
      rw [hzz] at hca hcb
      have hzz2 : (z != z) = false := by simp
      have HT := T
      clear hzz hkl T
      go_wp2
      refine wp_region_still_lit (by kernel_rfl) (by kernel_rfl) ?_
      repeat still_step
      refine wpStill_nil ?_
      have HN : Hid (Touch No w wr.drew) := HT.out.drew
      go_wp2
      go_roundg g
      case measure => omega
      case rel => exact ⟨k + 1, by omega, rfl, by go_num, HN⟩
end Go.Proofs.YtnffigfafalocaaGreatDoor
namespace Go.Proofs.YtnffigfafalocaaGreatDoor
open Go Go.RowKit
set_option linter.unusedSimpArgs false

theorem ints_snocN (zs : List Int) (k : Nat) (h : k < zs.length) : ints .i32 (zs.take (k + 1)) = ints .i32 (zs.take k) ++ [.int .i32 (zs.getD k 0)] := by
  rw [List.take_succ_eq_append_getElem h, ints, List.map_append, List.getD_eq_getElem?_getD, List.getElem?_eq_getElem h]; rfl
set_option maxRecDepth 100000 in
set_option maxHeartbeats 2000000 in
theorem twinNumbers_any (w : World) (a : Option Addr) (n c : Nat) (zs : List Int) (hz : zs.length = n) (hm : (n : Int) ≤ 10000000) (hr : Rd w a (ints .i32 zs)) :
    Calls Tryz.prog 64 #[.slice a n c] w fun e w' => ∃ a' c', e = .returned (.slice a' n c') ∧ n < c' ∧ Own w' w.heap.size 21 (.slice a' (n + 1) c') (ints .i32 zs ++ [.int .i32 77]) ∧ Touch No w w' := by
  have Hz := Lib.hid hz
  have Hr := Lib.hid hr
  obtain ⟨I, hi0, hi1, hi2, hi3⟩ := i32_info
  have HI := Lib.hid (And.intro hi0 (And.intro hi1 (And.intro hi2 hi3)))
  clear hz hr hi0 hi1 hi2 hi3
  go_enter Tryz.func64, Tryz.ntmps64
  go_wp2_with (at_make; refine wpList_make_own _ rfl _ _ _ rfl w.heap.size _ I _ 1 Tryz.underlying73 HI.out.1 HI.out.2.1 HI.out.2.2.1 .i64 .i64 _ (n + 1) rfl rfl (by omega) (by rw [HI.out.2.2.2]; omega) (by unfold maxLen; omega) (Nat.le_refl _) ?_; intro w1 hown hgrow)
  have T1 : Hid (Touch No w w1) := (Touch.refl No w).grown hgrow (fun k hk _ => by cases hk)
  have O1 : Hid (Own w1 w.heap.size 21 (.slice (some ⟨w.heap.size, 0, none⟩) 0 (n + 1)) (ints .i32 (zs.take 0))) := hown
  clear hown hgrow
  go_loopg [3, 4] n (fun g s3 s4 wr => ∃ (k : Nat) (v : Value), k + g = n ∧ s4 = .int .i64 ((k : Nat) : Int) ∧ s3 = v ∧ Hid (Own wr w.heap.size 21 v (ints .i32 (zs.take k))) ∧ Hid (Touch No w wr))
  case atStart => exact ⟨0, _, by omega, rfl, rfl, O1, T1⟩
  case round =>
    obtain ⟨k, v, hkg, rfl, rfl, O, T⟩ := hrel
    cases gk with
    | zero =>
      obtain rfl : k = n := by omega
      have hO := O.out
      rw [List.take_of_length_le (by rw [Hz.out]; exact Nat.le_refl _)] at hO
      have hlk : (ints .i32 zs).length = k := by rw [ints_length, Hz.out]
      obtain ⟨al, cl, rfl, _⟩ := hO.form' hlk
      have HO := Lib.hid hO
      have Hlk := Lib.hid hlk
      clear hO hlk O
      go_wp2_with (at_builtin; refine wpList_append1 rfl _ _ _ rfl w.heap.size _ I _ 4 Tryz.underlying73 HI.out.1 HI.out.2.1 HI.out.2.2.1 HI.out.2.2.2 rfl _ (ints .i32 zs) _ HO.out rfl rfl rfl (by rw [Hlk.out]; unfold maxLen; omega) (by rw [Hlk.out]; omega) T.out.size ?_; intro v' w3 hown3 ht3; obtain ⟨a3, c3, rfl, hc3, _⟩ := hown3.form' (n := k + 1) (by rw [List.length_append, Hlk.out]; rfl); have hhead := fun wx : World => run_head (P := Tryz.prog) Tryz.underlying73 HI.out.1 HI.out.2.2.1 a3 (k + 1) c3 k .i64 (show k ≤ c3 by omega) wx)
      have HF : Hid (Own w3 w.heap.size 21 (.slice a3 (k + 1) c3) (ints .i32 zs ++ [.int .i32 77]) ∧ Touch No w w3 ∧ k < c3) := ⟨hown3, T.out.then ht3 (fun i hi e => absurd ((HO.out.block e).1) (by omega)), by omega⟩
      clear hown3 ht3 hc3
      go_wp2
      go_ret
      exact ⟨a3, c3, rfl, HF.out.2.2, HF.out.1, HF.out.2.1⟩
    | succ g =>
      have hlt : (k : Int) < (n : Nat) := by omega
      have hkl : k < zs.length := by rw [Hz.out]; omega
      have hlk : (ints .i32 (zs.take k)).length = k := by rw [ints_length, List.length_take]; omega
      obtain ⟨al, cl, rfl, _⟩ := O.out.form' hlk
      obtain ⟨ga, oa, rfl, hca⟩ := (Hr.out.no T.out).int hkl
      have HN := Lib.hid (ints_snocN zs k hkl)
      obtain ⟨z, hzz⟩ : ∃ z, zs.getD k 0 = z := ⟨_, rfl⟩
      rw [hzz] at hca HN
      have Hlk := Lib.hid hlk
      clear hlk hzz hkl
      go_wp2_with (at_builtin; refine wpList_append1 rfl _ _ _ rfl w.heap.size _ I _ 4 Tryz.underlying73 HI.out.1 HI.out.2.1 HI.out.2.2.1 HI.out.2.2.2 rfl _ _ _ O.out rfl rfl rfl (by rw [Hlk.out]; unfold maxLen; omega) (by rw [Hlk.out]; omega) T.out.size ?_; intro v' w3 hown3 ht3)
      go_roundg g
      case measure => omega
      case rel => exact ⟨k + 1, v', by omega, by go_num, rfl, by rw [HN.out]; exact hown3, T.out.then ht3 (fun i hi e => absurd ((O.out.block e).1) (by omega))⟩
set_option maxRecDepth 100000 in
set_option maxHeartbeats 2000000 in
theorem leftNumbers_any (w : World) (a' : Option Addr) (n c' : Nat) (a : Option Addr) (c : Nat) (zs : List Int) (hz : zs.length = n) (hm : (n : Int) ≤ 10000000) (hc : n < c') (hr' : Rd w a' (ints .i32 zs ++ [.int .i32 77])) (hr : Rd w a (ints .i32 zs)) :
    Calls Tryz.prog 73 #[.slice a' n c', .slice a n c] w fun e w' => e = .returned (.bool true) ∧ Touch No w w' := by
  obtain ⟨I, hi0, hi1, hi2, hi3⟩ := i32_info
  have hhead := fun wx : World => run_head (P := Tryz.prog) Tryz.underlying73 hi0 hi2 a' n c' (n + 1) .i64 hc wx
  have Hhead := Lib.hid hhead
  have Hz := Lib.hid hz
  have Hr := Lib.hid hr
  have Hr' := Lib.hid hr'
  have hcd : decide (c' ≤ n) = false := decide_eq_false (by omega)
  clear hz hr hr' hi0 hi1 hi2 hi3 hhead hc
  go_enter Tryz.func73, Tryz.ntmps73
  go_wp2
  clear hcd
  go_loopg [4, 5] n (fun g s4 s5 wr => ∃ k : Nat, k + g = n ∧ s4 = .bool false ∧ s5 = .int .i64 ((k : Nat) : Int) ∧ Hid (Touch No w wr))
  case atStart => exact ⟨0, by omega, rfl, rfl, Touch.refl _ _⟩
  case round =>
    obtain ⟨k, hkg, rfl, rfl, T⟩ := hrel
    cases gk with
    | zero =>
      obtain rfl : k = n := by omega
      obtain ⟨ga, oa, rfl, hca⟩ := (Hr'.out.no T.out) k (.int .i32 77) (by rw [List.getElem?_append_right (by rw [ints_length, Hz.out]; exact Nat.le_refl _), ints_length, Hz.out, Nat.sub_self]; rfl)
      have hhead : ∀ wx : World, (Instr.slice 73 (.slice (some ⟨ga, oa, none⟩) k c') none (some (.int .i64 ((k : Int) + 1))) none).run Tryz.prog wx = .ok (.slice (some ⟨ga, oa, none⟩) (k + 1) c') wx := fun wx => Hhead.out wx
      clear Hhead Hr'
      go_wp2
      go_ret
      exact ⟨rfl, T.out⟩
    | succ g =>
      have hlt : (k : Int) < (n : Nat) := by omega
      have hkl : k < zs.length := by rw [Hz.out]; omega
      obtain ⟨ga, oa, rfl, hca⟩ := (Hr.out.no T.out).int hkl
      obtain ⟨gb, ob, rfl, hcb⟩ := (Hr'.out.no T.out) k (.int .i32 (zs.getD k 0)) (by rw [List.getElem?_append_left (by rw [ints_length]; exact hkl), ints_get hkl])
      obtain ⟨z, hzz⟩ : ∃ z, zs.getD k 0 = z := ⟨_, rfl⟩
      rw [hzz] at hca hcb
      have hzz2 : (z != z) = false := by simp
      have HT := T
      clear hzz hkl T
      go_wp2
      refine wp_region_still_lit (by kernel_rfl) (by kernel_rfl) ?_
      repeat still_step
      refine wpStill_nil ?_
      have HN : Hid (Touch No w wr.drew) := HT.out.drew
      go_wp2
      go_roundg g
      case measure => omega
      case rel => exact ⟨k + 1, by omega, rfl, by go_num, HN⟩
end Go.Proofs.YtnffigfafalocaaGreatDoor
