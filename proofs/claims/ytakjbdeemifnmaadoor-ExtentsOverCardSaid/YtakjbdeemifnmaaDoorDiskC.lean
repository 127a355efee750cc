/-
  Package disks by its own text: New, Sync.
-/
import Derived.Test.YtakjbdeemifnmaaDoorDiskB
import Derived.Laws.MakeOwn
namespace Go.Proofs.YtakjbdeemifnmaaDoor
open Go Go.RowKit

theorem made_flat {α : Type} {f : α → List Value} {k : Nat} (hf : ∀ x, (f x).length = k) (hk : 0 < k) (x : α) (n : Nat) : madeCells (f x).toArray (n * k) = ((List.replicate n x).flatMap f).toArray := by
  apply Array.ext'
  refine List.ext_getElem? (fun i => ?_)
  have hl : ((List.replicate n x).flatMap f).length = n * k := by rw [flat_length hf]; simp
  by_cases hi : i < n * k
  · have hq : i / k < n := (Nat.div_lt_iff_lt_mul hk).2 hi
    have he : i = (i / k) * k + i % k := (Nat.div_add_mod' i k).symm
    have hm := Nat.mod_lt i hk
    have h1 : ((List.replicate n x).flatMap f)[i]? = (f x)[i % k]? := by
      conv => lhs; rw [he]
      exact flat_get hf _ _ _ x (by rw [List.getElem?_replicate]; simp [hq]) hm
    rw [show ((List.replicate n x).flatMap f).toArray.toList = (List.replicate n x).flatMap f from rfl, h1]
    unfold madeCells
    simp [hi, hf, List.getElem?_eq_getElem (show i % k < (f x).length by rw [hf]; exact hm)]
  · rw [List.getElem?_eq_none (by rw [Array.length_toList, size_madeCells]; omega), List.getElem?_eq_none (by rw [hl]; omega)]

set_option maxHeartbeats 2000000 in
theorem new_is (w : World) (n : Nat) (h1 : 1 ≤ n) (hn : n ≤ 16384) :
    Calls Tryd.prog 8 #[.int .i64 (n : Nat)] w fun e w' => ∃ d, e = .returned (.tuple #[.pointer (some ⟨d, 0, none⟩), .int .i64 0]) ∧ w.heap.size ≤ d ∧ DiskAt w' d (Dk.new n) (fun k => w.heap.size ≤ k) ∧ Touch No w w' := by
  obtain ⟨I, z, hI⟩ := sec_is
  have hmk : ∀ wx : World, (Instr.makeSlice 47 (.int .i64 (n : Int)) (.int .i64 (n : Int))).run Tryd.prog wx = .ok (.slice (some ⟨wx.heap.size, 0, none⟩) n n) (wx.alloc (.cells ((List.replicate n Dk.noughts).flatMap secCells).toArray 62)) := fun wx => by
    have := run_make (P := Tryd.prog) wx 47 62 I z Tryd.underlying47 hI.info hI.zero .i64 .i64 (n : Int) (n : Int) (by omega) (by omega) (by rw [hI.bytes]; omega) (by omega)
    rw [this, hI.cells, hI.size, Int.toNat_natCast, made_flat secCells_length (by decide)]
  clear hI
  have g1 : ¬ (n : Int) < 1 := by omega
  have g2 : ¬ (16384 : Int) < (n : Int) := by omega
  go_enter Tryd.func8, Tryd.ntmps8
  go_wp2_with fail
  have hl : (List.replicate n Dk.noughts).length = n := List.length_replicate
  have hR : Row (w.alloc (.cells ((List.replicate n Dk.noughts).flatMap secCells).toArray 62)) w.heap.size 62 ((List.replicate n Dk.noughts).flatMap secCells ++ []) := by
    rw [List.append_nil]; exact Row.new w _ _
  have hc := of_is _ _ n (List.replicate n Dk.noughts) [] hR (by rw [hl]; exact h1) (by rw [hl]; exact hn) (by rw [hl]; exact Nat.le_refl _) (by unfold maxLen; omega) (fun s hs => by rw [(List.mem_replicate.1 hs).2]; exact Dk.noughts_ok)
  rw [hl] at hc
  refine hc.mono ?_
  rintro e w1 ⟨d, rfl, k1, k2, k3⟩
  have K1 := Lib.hid k1
  have K2 := Lib.hid k2
  have K3 := Lib.hid k3
  clear k1 k2 k3
  go_wp2
  go_ret2
  have hs := K1.out
  rw [size_alloc] at hs
  refine ⟨d, rfl, by omega, ?_, ((Touch.refl No w).alloc _).trans K3.out⟩
  obtain ⟨gs, gn, cs, cn, rs, rn, vw, h, o1, o2, o3, o4⟩ := K2.out
  have P : ∀ k, (k = w.heap.size ∨ (w.alloc (.cells ((List.replicate n Dk.noughts).flatMap secCells).toArray 62)).heap.size ≤ k) → w.heap.size ≤ k := fun k hk => by
    rw [size_alloc] at hk; omega
  exact ⟨gs, gn, cs, cn, rs, rn, vw, h, P _ o1, P _ o2, P _ o3, fun k hk => P _ (o4 k hk)⟩
set_option maxHeartbeats 2000000 in
/-- New of no number of sectors that a disk may have -/
theorem new_bad (w : World) (n : Int) (h : n < 1 ∨ 16384 < n) : Calls Tryd.prog 8 #[.int .i64 n] w fun e w' => e = .returned (.tuple #[.pointer none, .int .i64 1]) ∧ w = w' := by
  by_cases g1 : n < 1
  · go_enter Tryd.func8, Tryd.ntmps8
    go_wp2_with fail
    go_ret2
    exact ⟨rfl, rfl⟩
  · have g2 : 16384 < n := by omega
    go_enter Tryd.func8, Tryd.ntmps8
    go_wp2_with fail
    go_ret2
    exact ⟨rfl, rfl⟩

end Go.Proofs.YtakjbdeemifnmaaDoor
