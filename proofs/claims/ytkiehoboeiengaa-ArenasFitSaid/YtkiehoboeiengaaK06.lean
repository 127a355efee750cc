/-
  What comes in, opened: numbers of sixteen bits.
-/
import Derived.Test.YtkiehoboeiengaaK03
import Derived.Test.YtkiehoboeiengaaK05
import Derived.Test.YtkiehoboeiengaaK04
import Derived.Test.YtkiehoboeiengaaProg
import Derived.Laws.IdiomArrays
import Derived.Lib.SmallJoins
namespace Go.Proofs.Ytkiehoboeiengaa
open Go.ChangeShapes Go.WideShapes Go.ChangeAt Go.RowKit

section
variable {H : Type} {enc : TypeId × Value → H} {w : World}
theorem cells_u16 : Try.prog.cellsOf 64 = 1 := by kernel_rfl
theorem bytes_u16 : Try.prog.bytesOf 64 = 2 := by kernel_rfl
theorem open_u16s {fuel : Nat} {cs : List Value} {x : DataW H × List MemPlace} (h : DataW.trod enc Try.prog w 0 (fun _ => true) true fuel 73 cs = some x) (hz : ∀ n ∈ DataW.weights Try.prog 73 x.1, n ≤ reachBytes) :
    ∃ a n cap b, cs = [.slice a n cap] ∧ (b : List Nat).length = n ∧ n ≤ cap ∧ (cap : Int) ≤ 140737488355328 ∧ Rd w a (nums .u16 b) ∧ ∀ x ∈ b, x < 65536 := by
  obtain ⟨a, cap, zs, rfl, hl, hm, hr, hwf, hwt, _⟩ := open_list Try.underlying73 Try.underlying64 cells_u16 h
  have hpos : ∀ z ∈ zs, 0 ≤ z := fun z hz' => (bounds_u16 (hwf z hz')).1
  refine ⟨a, zs.length, cap, zs.map Int.toNat, rfl, by rw [List.length_map], hl, ?_, by rw [← ints_nums hpos]; exact hr, fun x hx => by obtain ⟨z, hz', rfl⟩ := List.mem_map.1 hx; have := bounds_u16 (hwf z hz'); omega⟩
  rcases hwt with h0 | h0
  · omega
  · have := hz _ h0
    rw [bytes_u16] at this
    unfold reachBytes at this
    omega
end
end Go.Proofs.Ytkiehoboeiengaa
