/-
  What comes in, opened: numbers.
-/
import Derived.Test.YtkiehoboeiengaaK03
import Derived.Test.YtkiehoboeiengaaK05
import Derived.Test.YtkiehoboeiengaaK04
import Derived.Test.YtkiehoboeiengaaProg
import Derived.Laws.IdiomArrays
import Derived.Lib.SmallJoins
namespace Go.Proofs.Ytkiehoboeiengaa
open Go.ChangeShapes Go.WideShapes Go.ChangeAt Go.RowKit

section
variable {H : Type} {enc : TypeId × Value → H} {w : World}
theorem cells_i32 : Try.prog.cellsOf 21 = 1 := by kernel_rfl
theorem bytes_i32 : Try.prog.bytesOf 21 = 4 := by kernel_rfl
theorem wf_u32 {n : Int} (h : (Lit.int .u32 n).wf = true) : ∃ m : Nat, n = (m : Nat) ∧ m < 4294967296 := by
  have := bounds_u32 h
  exact ⟨n.toNat, by omega, by omega⟩

theorem open_numbers {fuel : Nat} {cs : List Value} {x : DataW H × List MemPlace} (h : DataW.trod enc Try.prog w 0 (fun _ => true) true fuel 50 cs = some x) (hz : ∀ n ∈ DataW.weights Try.prog 50 x.1, n ≤ reachBytes) :
    ∃ a n cap b, cs = [.slice a n cap] ∧ Ints w a n cap b := by
  obtain ⟨a, cap, zs, rfl, hl, hm, hr, hwf, hwt, _⟩ := open_list Try.underlying50 Try.underlying21 cells_i32 h
  refine ⟨a, zs.length, cap, zs, rfl, rfl, hl, ?_, hr, fun x hx => bounds_i32 (hwf x hx)⟩
  rcases hwt with h0 | h0
  · omega
  · have := hz _ h0
    rw [bytes_i32] at this
    unfold reachBytes at this
    omega
end
end Go.Proofs.Ytkiehoboeiengaa
