/-
  slices.Sort at []uint32: it sorts.
-/
import Derived.Test.YtnffigfafalocaaGreatDoorK17
import Derived.Sort.AssemblyPlain
namespace Go.Proofs.YtnffigfafalocaaGreatDoor
open Go.Sort Go.RowKit

theorem callees13U : Callees13U where
  ins := Su.insertionSort_u
  brk := Su.breakPatterns_u
  piv := Su.choosePivot_u
  par := Su.partialInsertionSort_u
  peq := Su.partitionEqualOrdered_u
  prt := Su.partitionOrdered_u
theorem plain13U : Plain13 where
  swo := swo_ltInt
  ins := insertionSort_holds
  par := partialInsertionSort_holds
  prt := partition_holds _
  peq := partitionEqual_holds _
  pdq := pdq_sorts _
theorem pdqWalkU : pdqWalk_intU := fun blk off cap a b limit d w hH hb hab hbd hsz hl hB =>
  Su.pdqsort_u callees13U plain13U (b - a + 1) blk off cap a b limit d w (by omega) hH hb hab hbd hsz hl hB
/-- slices.Sort at []uint32: the cells then hold the sorted list -/
theorem sortU (blk off cap : Nat) (zs : List Int) (w : World) (hH : Holds (Value.int .u32) w blk off zs.toArray) (hblk : blk < w.heap.size) (hsz : zs.length < 4611686018427387904) :
    Calls Tryz.prog 133 #[.slice (some ⟨blk, off, none⟩) zs.length cap] w fun e w' =>
      e = .returned (.tuple #[]) ∧ ∃ n os, w' = grow (putRow (Value.int .u32) (Sort.ahead w n) blk off (zs.mergeSort fun x y => decide (x ≤ y)).toArray) os := by
  have h := Su.Sort_u pdqWalkU blk off cap zs.toArray w hH hblk (by simpa using hsz)
  have e : Sort.sort ltInt zs.toArray = (zs.mergeSort fun x y => decide (x ≤ y)).toArray := by rw [← sortInt zs]
  rw [e] at h
  simpa using h
end Go.Proofs.YtnffigfafalocaaGreatDoor
