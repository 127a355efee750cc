/-
  What the rows of this seat share: the table of de Bruijn laid in its variable, a world for the witness.
-/
import Derived.Test.YtjmkfpiahnibkaaDoorCards
import Derived.Test.YtjmkfpiahnibkaaDoorTie
import Derived.Test.YtjmkfpiahnibkaaDoorLaw
import Derived.Test.YtjmkfpiahnibkaaDoorOpen15
import Derived.Deep.DeepHandedRow
import Derived.Lib.LaidTab
namespace Go.Proofs.YtjmkfpiahnibkaaDoor
open Go.ChangeShapes Go.WideShapes Go.ChangeAt Go.RowKit

theorem own : ownKnob Tryd.prog.godebug = none := by kernel_rfl
theorem laidOut : laidOutB Tryd.prog = true := by kernel_rfl
def tab : Array Value := (Lib.deBruijn64tab.map fun (n : Nat) => Value.int .u8 n).toArray
noncomputable def laidWorld (os : Os) : World :=
  { World.holding Tryd.prog os ⟨#[], #[], []⟩ with heap := (World.holding Tryd.prog os ⟨#[], #[], []⟩).heap.modify 0 fun
      | .cells _ t frozen => .cells tab t frozen
      | o => o }
theorem gTab : Tryd.prog.globalNamed "math/bits.deBruijn64tab" = some 0 := by kernel_rfl
theorem gTabType : (Tryd.prog.globals[0]?).map (·.type) = some 55 := by kernel_rfl
theorem cells_tab : Tryd.prog.cellsOf 55 = 64 := by kernel_rfl
/-- what the rows' list gives -/
theorem tab_at {W : World} (h : laidMetH Tryd.prog [("math/bits.deBruijn64tab", Rows.laid_math_bits_deBruijn64tab)] W) : TabAt W := by
  have ht : Lib.TabIs Tryd.prog W "math/bits.deBruijn64tab" .u8 (Lib.deBruijn64tab.map fun (n : Nat) => (n : Int)) :=
    Lib.tabIs_of_head (rest := []) gTab gTabType Tryd.underlying55 Tryd.underlying5 cells_u8 cells_tab h
  intro j hj
  have hlen : (Lib.deBruijn64tab.map fun (n : Nat) => (n : Int)).length = 64 := by decide
  have hl2 : Lib.deBruijn64tab.length = 64 := by decide
  have := ht.cell gTab j (by rw [hlen]; exact hj)
  rw [this]
  rw [List.getD_eq_getElem?_getD, List.getD_eq_getElem?_getD, List.getElem?_map, List.getElem?_eq_getElem (by rw [hl2]; exact hj)]
  rfl

/-- the law's two last arguments are numbers: what the reading gives -/
theorem wf_u8 {n : Int} (h : (Lit.int .u8 n).wf = true) : ∃ m : Nat, n = (m : Nat) ∧ m < 256 := by
  have := bounds_u8 h
  exact ⟨n.toNat, by omega, by omega⟩
end Go.Proofs.YtjmkfpiahnibkaaDoor
