/-
  Package drydocklaw01 by its own text: TwinIds, LeftIds.
  Package drydocklaw01 by its own text: SameBytes.
  Package drydocklaw01 by its own text: SameNumbers of lists that are alike, SameBytes likewise, Beyond of one and of two; bytes as a text.
-/
import Derived.Test.YtkiehoboeiengaaGreatDoorK20
import Derived.Test.YtkiehoboeiengaaGreatDoorK47
import Derived.StillTailTactics
import Derived.Test.YtkiehoboeiengaaGreatDoorRows
import Derived.Test.YtkiehoboeiengaaGreatDoorK01
import Derived.Deep.LoopGhost
import Derived.Laws.BytesArg
import Derived.Test.YtkiehoboeiengaaGreatDoorK26
namespace Go.Proofs.YtkiehoboeiengaaGreatDoor
open Go Go.RowKit
set_option linter.unusedSimpArgs false

theorem ints_snocD (zs : List Int) (k : Nat) (h : k < zs.length) : ints .u32 (zs.take (k + 1)) = ints .u32 (zs.take k) ++ [.int .u32 (zs.getD k 0)] := by
  rw [List.take_succ_eq_append_getElem h, ints, List.map_append, List.getD_eq_getElem?_getD, List.getElem?_eq_getElem h]; rfl
set_option maxRecDepth 100000 in
set_option maxHeartbeats 2000000 in
theorem twinIds_any (w : World) (a : Option Addr) (n c : Nat) (zs : List Int) (hz : zs.length = n) (hm : (n : Int) ≤ 10000000) (hr : Rd w a (ints .u32 zs)) :
    Calls Tryz.prog 19 #[.slice a n c] w fun e w' => ∃ a' c', e = .returned (.slice a' n c') ∧ n < c' ∧ Own w' w.heap.size 48 (.slice a' (n + 1) c') (ints .u32 zs ++ [.int .u32 77]) ∧ Touch No w w' := by
  have Hz := Lib.hid hz
  have Hr := Lib.hid hr
  obtain ⟨I, hi0, hi1, hi2, hi3⟩ := u32_info
  have HI := Lib.hid (And.intro hi0 (And.intro hi1 (And.intro hi2 hi3)))
  clear hz hr hi0 hi1 hi2 hi3
  go_enter Tryz.func19, Tryz.ntmps19
  go_wp2_with (at_make; refine wpList_make_own _ rfl _ _ _ rfl w.heap.size _ I _ 1 Tryz.underlying66 HI.out.1 HI.out.2.1 HI.out.2.2.1 .i64 .i64 _ (n + 1) rfl rfl (by omega) (by rw [HI.out.2.2.2]; omega) (by unfold maxLen; omega) (Nat.le_refl _) ?_; intro w1 hown hgrow)
  have T1 : Hid (Touch No w w1) := (Touch.refl No w).grown hgrow (fun k hk _ => by cases hk)
  have O1 : Hid (Own w1 w.heap.size 48 (.slice (some ⟨w.heap.size, 0, none⟩) 0 (n + 1)) (ints .u32 (zs.take 0))) := hown
  clear hown hgrow
  go_loopg [3, 4] n (fun g s3 s4 wr => ∃ (k : Nat) (v : Value), k + g = n ∧ s4 = .int .i64 ((k : Nat) : Int) ∧ s3 = v ∧ Hid (Own wr w.heap.size 48 v (ints .u32 (zs.take k))) ∧ Hid (Touch No w wr))
  case atStart => exact ⟨0, _, by omega, rfl, rfl, O1, T1⟩
  case round =>
    obtain ⟨k, v, hkg, rfl, rfl, O, T⟩ := hrel
    cases gk with
    | zero =>
      obtain rfl : k = n := by omega
      have hO := O.out
      rw [List.take_of_length_le (by rw [Hz.out]; exact Nat.le_refl _)] at hO
      have hlk : (ints .u32 zs).length = k := by rw [ints_length, Hz.out]
      obtain ⟨al, cl, rfl, _⟩ := hO.form' hlk
      have HO := Lib.hid hO
      have Hlk := Lib.hid hlk
      clear hO hlk O
      go_wp2_with (at_builtin; refine wpList_append1 rfl _ _ _ rfl w.heap.size _ I _ 4 Tryz.underlying66 HI.out.1 HI.out.2.1 HI.out.2.2.1 HI.out.2.2.2 rfl _ (ints .u32 zs) _ HO.out rfl rfl rfl (by rw [Hlk.out]; unfold maxLen; omega) (by rw [Hlk.out]; omega) T.out.size ?_; intro v' w3 hown3 ht3; obtain ⟨a3, c3, rfl, hc3, _⟩ := hown3.form' (n := k + 1) (by rw [List.length_append, Hlk.out]; rfl); have hhead := fun wx : World => run_head (P := Tryz.prog) Tryz.underlying66 HI.out.1 HI.out.2.2.1 a3 (k + 1) c3 k .i64 (show k ≤ c3 by omega) wx)
      have HF : Hid (Own w3 w.heap.size 48 (.slice a3 (k + 1) c3) (ints .u32 zs ++ [.int .u32 77]) ∧ Touch No w w3 ∧ k < c3) := ⟨hown3, T.out.then ht3 (fun i hi e => absurd ((HO.out.block e).1) (by omega)), by omega⟩
      clear hown3 ht3 hc3
      go_wp2
      go_ret
      exact ⟨a3, c3, rfl, HF.out.2.2, HF.out.1, HF.out.2.1⟩
    | succ g =>
      have hlt : (k : Int) < (n : Nat) := by omega
      have hkl : k < zs.length := by rw [Hz.out]; omega
      have hlk : (ints .u32 (zs.take k)).length = k := by rw [ints_length, List.length_take]; omega
      obtain ⟨al, cl, rfl, _⟩ := O.out.form' hlk
      obtain ⟨ga, oa, rfl, hca⟩ := (Hr.out.no T.out).int hkl
      have HN := Lib.hid (ints_snocD zs k hkl)
      obtain ⟨z, hzz⟩ : ∃ z, zs.getD k 0 = z := ⟨_, rfl⟩
      rw [hzz] at hca HN
      have Hlk := Lib.hid hlk
      clear hlk hzz hkl
      go_wp2_with (at_builtin; refine wpList_append1 rfl _ _ _ rfl w.heap.size _ I _ 4 Tryz.underlying66 HI.out.1 HI.out.2.1 HI.out.2.2.1 HI.out.2.2.2 rfl _ _ _ O.out rfl rfl rfl (by rw [Hlk.out]; unfold maxLen; omega) (by rw [Hlk.out]; omega) T.out.size ?_; intro v' w3 hown3 ht3)
      go_roundg g
      case measure => omega
      case rel => exact ⟨k + 1, v', by omega, by go_num, rfl, by rw [HN.out]; exact hown3, T.out.then ht3 (fun i hi e => absurd ((O.out.block e).1) (by omega))⟩
set_option maxRecDepth 100000 in
set_option maxHeartbeats 2000000 in
theorem leftIds_any (w : World) (a' : Option Addr) (n c' : Nat) (a : Option Addr) (c : Nat) (zs : List Int) (hz : zs.length = n) (hm : (n : Int) ≤ 10000000) (hc : n < c') (hr' : Rd w a' (ints .u32 zs ++ [.int .u32 77])) (hr : Rd w a (ints .u32 zs)) :
    Calls Tryz.prog 30 #[.slice a' n c', .slice a n c] w fun e w' => e = .returned (.bool true) ∧ Touch No w w' := by
  obtain ⟨I, hi0, hi1, hi2, hi3⟩ := u32_info
  have hhead := fun wx : World => run_head (P := Tryz.prog) Tryz.underlying66 hi0 hi2 a' n c' (n + 1) .i64 hc wx
  have Hhead := Lib.hid hhead
  have Hz := Lib.hid hz
  have Hr := Lib.hid hr
  have Hr' := Lib.hid hr'
  have hcd : decide (c' ≤ n) = false := decide_eq_false (by omega)
  clear hz hr hr' hi0 hi1 hi2 hi3 hhead hc
  go_enter Tryz.func30, Tryz.ntmps30
  go_wp2
  clear hcd
  go_loopg [4, 5] n (fun g s4 s5 wr => ∃ k : Nat, k + g = n ∧ s4 = .bool false ∧ s5 = .int .i64 ((k : Nat) : Int) ∧ Hid (Touch No w wr))
  case atStart => exact ⟨0, by omega, rfl, rfl, Touch.refl _ _⟩
  case round =>
    obtain ⟨k, hkg, rfl, rfl, T⟩ := hrel
    cases gk with
    | zero =>
      obtain rfl : k = n := by omega
      obtain ⟨ga, oa, rfl, hca⟩ := (Hr'.out.no T.out) k (.int .u32 77) (by rw [List.getElem?_append_right (by rw [ints_length, Hz.out]; exact Nat.le_refl _), ints_length, Hz.out, Nat.sub_self]; rfl)
      have hhead : ∀ wx : World, (Instr.slice 66 (.slice (some ⟨ga, oa, none⟩) k c') none (some (.int .i64 ((k : Int) + 1))) none).run Tryz.prog wx = .ok (.slice (some ⟨ga, oa, none⟩) (k + 1) c') wx := fun wx => Hhead.out wx
      clear Hhead Hr'
      go_wp2
      go_ret
      exact ⟨rfl, T.out⟩
    | succ g =>
      have hlt : (k : Int) < (n : Nat) := by omega
      have hkl : k < zs.length := by rw [Hz.out]; omega
      obtain ⟨ga, oa, rfl, hca⟩ := (Hr.out.no T.out).int hkl
      obtain ⟨gb, ob, rfl, hcb⟩ := (Hr'.out.no T.out) k (.int .u32 (zs.getD k 0)) (by rw [List.getElem?_append_left (by rw [ints_length]; exact hkl), ints_get hkl])
      obtain ⟨z, hzz⟩ : ∃ z, zs.getD k 0 = z := ⟨_, rfl⟩
      rw [hzz] at hca hcb
      have hzz2 : (z != z) = false := by simp
      have HT := T
      clear hzz hkl T
      go_wp2
      refine wp_region_still_lit (by kernel_rfl) (by kernel_rfl) ?_
      repeat still_step
      refine wpStill_nil ?_
      have HN : Hid (Touch No w wr.drew) := HT.out.drew
      go_wp2
      go_roundg g
      case measure => omega
      case rel => exact ⟨k + 1, by omega, rfl, by go_num, HN⟩
end Go.Proofs.YtkiehoboeiengaaGreatDoor
namespace Go.Proofs.YtkiehoboeiengaaGreatDoor
open Go Go.RowKit

theorem take_getD {xs : List Nat} {k : Nat} (h : k < xs.length) : xs.take (k + 1) = xs.take k ++ [xs.getD k 0] := by
  rw [List.take_succ_eq_append_getElem h, List.getD_eq_getElem?_getD, List.getElem?_eq_getElem h]; rfl

/-- two slices of numbers: alike? -/
def sameBytes (xs ys : List Nat) : Bool := decide (xs = ys)

set_option maxHeartbeats 400000 in
theorem sameBytes_len (w : World) (a b : Option Addr) (n m c d : Nat) (h : n ≠ m) :
    Calls Tryz.prog 14 #[.slice a n c, .slice b m d] w fun e w' => e = .returned (.bool false) ∧ w = w' := by
  go_enter Tryz.func14, Tryz.ntmps14
  go_wp2
  go_ret
  exact ⟨rfl, rfl⟩

theorem same_next {xs ys : List Nat} {k : Nat} (hx : k < xs.length) (hy : k < ys.length) (h : xs.take k = ys.take k) (he : xs.getD k 0 = ys.getD k 0) : xs.take (k + 1) = ys.take (k + 1) := by
  rw [take_getD hx, take_getD hy, h, he]
theorem same_not {xs ys : List Nat} {k : Nat} (he : xs.getD k 0 ≠ ys.getD k 0) : sameBytes xs ys = false := by
  simp only [sameBytes, decide_eq_false_iff_not]
  rintro rfl; exact he rfl

def SamePost (w : World) (xs ys : List Nat) (e : Ending) (w' : World) : Prop := e = .returned (.bool (sameBytes xs ys)) ∧ Touch No w w'

set_option maxHeartbeats 1000000 in
theorem sameBytes_eq (w : World) (a b : Option Addr) (n c d : Nat) (xs ys : List Nat) (hx : xs.length = n) (hy : ys.length = n) (hn : (n : Int) ≤ 9223372036854775807)
    (ha : Rd w a (nums .u8 xs)) (hb : Rd w b (nums .u8 ys)) :
    Calls Tryz.prog 14 #[.slice a n c, .slice b n d] w (SamePost w xs ys) := by
  have Hx := Lib.hid hx; clear hx
  have Hy := Lib.hid hy; clear hy
  have Ha := Lib.hid ha; clear ha
  have Hb := Lib.hid hb; clear hb
  go_enter Tryz.func14, Tryz.ntmps14
  go_wp2
  go_loopg [5] n (fun g s5 wr => ∃ k : Nat, k + g = n ∧ s5 = .int .i64 ((k : Nat) : Int) ∧ Hid (xs.take k = ys.take k) ∧ Hid (Touch No w wr))
  case atStart => exact ⟨0, by omega, rfl, rfl, Touch.refl _ _⟩
  case round =>
    obtain ⟨k, hkg, rfl, E, T⟩ := hrel
    cases gk with
    | zero =>
      obtain rfl : k = n := by omega
      have Fin : Hid (sameBytes xs ys = true) := by
        have := E.out
        rw [List.take_of_length_le (by have := Hx.out; omega), List.take_of_length_le (by have := Hy.out; omega)] at this
        show _ = _
        simp [sameBytes, this]
      go_wp2
      go_ret
      exact ⟨ret_bool Fin.out.symm, T.out⟩
    | succ g =>
      have hlt : k < n := by omega
      have hxl : k < xs.length := by have := Hx.out; omega
      have hyl : k < ys.length := by have := Hy.out; omega
      obtain ⟨b1, o1, rfl, h1⟩ := (Ha.out.no T.out).num hxl
      obtain ⟨b2, o2, rfl, h2⟩ := (Hb.out.no T.out).num hyl
      have Next := Lib.hid (same_next hxl hyl E.out)
      have Not := Lib.hid (same_not (xs := xs) (ys := ys) (k := k))
      clear hxl hyl
      generalize xs.getD k 0 = x at *
      generalize ys.getD k 0 = y at *
      by_cases hxy : x = y
      · subst hxy
        go_wp2_with fail
        go_quiet (fail)
        go_wp2
        go_roundg g
        case measure => omega
        case rel => exact ⟨k + 1, by omega, by go_num, Next.out (by first | rfl | trivial), T.out.drewN _⟩
      · have hne : ((x : Int) != (y : Int)) = true := by simp; omega
        have Hxy := Lib.hid hxy; clear hxy
        go_wp2_with fail
        go_quiet (fail)
        go_wp2
        go_ret
        exact ⟨ret_bool (Not.out Hxy.out).symm, T.out.drewN _⟩
end Go.Proofs.YtkiehoboeiengaaGreatDoor
namespace Go.Proofs.YtkiehoboeiengaaGreatDoor
open Go Go.RowKit
set_option linter.unusedSimpArgs false

def TruePost (w : World) (e : Ending) (w' : World) : Prop := e = .returned (.bool true) ∧ Touch No w w'
theorem sameB_any (w : World) (a b : Option Addr) (n c d : Nat) (xs : List Nat) (hx : xs.length = n) (hn : (n : Int) ≤ 9223372036854775807) (ha : Rd w a (nums .u8 xs)) (hb : Rd w b (nums .u8 xs)) :
    Calls Tryz.prog 14 #[.slice a n c, .slice b n d] w (TruePost w) :=
  (sameBytes_eq w a b n c d xs xs hx hx hn ha hb).mono fun _ _ ⟨he, ht⟩ => ⟨by rw [he, sameBytes, decide_eq_true rfl], ht⟩

set_option maxHeartbeats 1000000 in
theorem sameN_any (w : World) (a b : Option Addr) (n c d : Nat) (xs : List Int) (hx : xs.length = n) (hn : (n : Int) ≤ 9223372036854775807) (ha : Rd w a (ints .i32 xs)) (hb : Rd w b (ints .i32 xs)) :
    Calls Tryz.prog 138 #[.slice a n c, .slice b n d] w (TruePost w) := by
  have Hx := Lib.hid hx; clear hx
  have Ha := Lib.hid ha; clear ha
  have Hb := Lib.hid hb; clear hb
  go_enter Tryz.func138, Tryz.ntmps138
  go_wp2
  go_loopg [5] n (fun g s5 wr => ∃ k : Nat, k + g = n ∧ s5 = .int .i64 ((k : Nat) : Int) ∧ Hid (Touch No w wr))
  case atStart => exact ⟨0, by omega, rfl, Touch.refl _ _⟩
  case round =>
    obtain ⟨k, hkg, rfl, T⟩ := hrel
    cases gk with
    | zero =>
      obtain rfl : k = n := by omega
      go_wp2
      go_ret
      exact ⟨rfl, T.out⟩
    | succ g =>
      have hlt : k < n := by omega
      have hxl : k < xs.length := by have := Hx.out; omega
      obtain ⟨b1, o1, rfl, h1⟩ := (Ha.out.no T.out).int hxl
      obtain ⟨b2, o2, rfl, h2⟩ := (Hb.out.no T.out).int hxl
      clear hxl
      generalize xs.getD k 0 = x at *
      go_wp2_with fail
      go_quiet (fail)
      go_wp2
      go_roundg g
      case measure => omega
      case rel => exact ⟨k + 1, by omega, by go_num, T.out.drewN _⟩

end Go.Proofs.YtkiehoboeiengaaGreatDoor
