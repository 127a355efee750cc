/-
  Package disks by its own text: Fail.
-/
import Derived.Test.YtakjbdeemifnmaaDoorDiskW
import Derived.Test.YtakjbdeemifnmaaDoorDkB
import Derived.Test.YtakjbdeemifnmaaDoorRng
import Derived.StillTailTactics
import Derived.Deep.RegionLaw
import Derived.Outline
namespace Go.Proofs.YtakjbdeemifnmaaDoor
open Go Go.RowKit
set_option linter.unusedSimpArgs false

theorem splice_go (l : List Value) (o : Nat) (vs : List Value) : Go.splice l o vs = splice l o vs := by
  unfold Go.splice splice; first | rfl | simp | rw [List.append_assoc]
/-- a write that waits, in the row of those -/
theorem waits_at {w : World} {T : TypeId} {aw : Option Addr} {n cw : Nat} {xs : List Dk.Wr} (h : w.ownsRow 0 T 66 (.slice aw n cw) n (xs.flatMap wrCells)) {i : Nat} {y : Dk.Wr} (hn : xs.length = n) (hy : xs[i]? = some y) :
    ∃ gw, aw = some ⟨gw, 0, none⟩ ∧ w.rangeAt gw (i * 66) (wrCells y) := by
  have hi : i < n := by
    rcases Nat.lt_or_ge i xs.length with h | h
    · omega
    · rw [List.getElem?_eq_none h] at hy; cases hy
  obtain ⟨g, c, r, hv, _, hR, _⟩ := ownRow h (by intro e; cases e; omega)
  cases hv
  refine ⟨g, rfl, hR.range (fun j v hj => ?_)⟩
  have hj66 : j < 66 := by
    rcases Nat.lt_or_ge j (wrCells y).length with h | h
    · rw [wrCells_length] at h; exact h
    · rw [List.getElem?_eq_none h] at hj; cases hj
  rw [List.getElem?_append_left (by
    rw [flat_length wrCells_length, hn]
    have := Nat.mul_le_mul_right 66 hi
    omega), flat_get wrCells_length xs i j y hy hj66]
  exact hj

end Go.Proofs.YtakjbdeemifnmaaDoor
