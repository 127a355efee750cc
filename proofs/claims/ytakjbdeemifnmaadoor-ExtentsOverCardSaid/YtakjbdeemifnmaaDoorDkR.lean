/-
  What is read of a sector. No program in sight.
-/
import Derived.Test.YtakjbdeemifnmaaDoorDk
namespace Go.Proofs.YtakjbdeemifnmaaDoor
open Go Go.RowKit
namespace Dk
def bytesOf (s : Sec) : List Nat := if s.bad = 1 then [] else s.b
def errOf (s : Sec) : Nat := if s.bad = 1 then 12 else 0
theorem bytes_le {s : Sec} (h : s.Ok) : (bytesOf s).length ≤ 64 := by
  unfold bytesOf; split
  · simp
  · rw [h.b.len]; exact Nat.le_refl _
end Dk
end Go.Proofs.YtakjbdeemifnmaaDoor
