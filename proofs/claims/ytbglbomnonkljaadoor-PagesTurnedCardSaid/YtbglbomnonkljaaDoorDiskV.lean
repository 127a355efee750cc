/-
  Package disks by its own text: Rot.
-/
import Derived.Test.YtbglbomnonkljaaDoorDiskU
import Derived.StillTailTactics
import Derived.Laws.BitsAllLaws
namespace Go.Proofs.YtbglbomnonkljaaDoor
open Go Go.RowKit
set_option linter.unusedSimpArgs false

theorem map_set_cells {b : List Nat} {p v : Nat} (hl : b.length = 64) : (List.range 64).map (fun j => Value.int .u8 (((b.set p v).getD j 0 : Nat) : Int)) = ((List.range 64).map (fun j => Value.int .u8 ((b.getD j 0 : Nat) : Int))).set p (.int .u8 (v : Nat)) := by
  rw [bytes_cells (by rw [List.length_set]; exact hl), bytes_cells hl, nums, nums, List.map_set]
theorem turnS_cells (p x : Nat) (s : Dk.Sec) (hp : p < 64) (hl : s.b.length = 64) : secCells (Dk.turnS p x s) = (secCells s).set p (.int .u8 ((s.b.getD p 0 ^^^ x : Nat) : Int)) := by
  rw [secCells, secCells, List.set_append_left _ _ (by simp; omega), Dk.turnS, Dk.turnB, map_set_cells hl]
theorem turnW_cells (p x : Nat) (y : Dk.Wr) (hp : p < 64) (hl : y.b.length = 64) : wrCells ⟨y.n, Dk.turnB y.b p x, y.elder⟩ = (wrCells y).set (1 + p) (.int .u8 ((y.b.getD p 0 ^^^ x : Nat) : Int)) := by
  rw [wrCells, wrCells, Nat.add_comm 1 p, List.set_cons_succ, List.set_append_left _ _ (by simp; omega), Dk.turnB, map_set_cells hl]
def rotF (p x : Nat) (y : Dk.Wr) : Dk.Wr := ⟨y.n, Dk.turnB y.b p x, y.elder⟩
theorem byte_lt {b : List Nat} (h : Dk.Bytes b) (p : Nat) : b.getD p 0 < 256 := by
  rw [List.getD_eq_getElem?_getD]
  cases hq : b[p]? with
  | none => simp
  | some z => exact h.lt z (List.mem_of_getElem? hq)

end Go.Proofs.YtbglbomnonkljaaDoor
