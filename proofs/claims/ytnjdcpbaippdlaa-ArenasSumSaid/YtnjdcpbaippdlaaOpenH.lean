/-
  What comes in, opened: numbers of sixteen bits.
-/
import Derived.Test.YtnjdcpbaippdlaaOpen
import Derived.Test.YtnjdcpbaippdlaaIn
import Derived.Test.YtnjdcpbaippdlaaPlain03
import Derived.Test.YtnjdcpbaippdlaaProg
import Derived.Laws.IdiomArrays
import Derived.Lib.SmallJoins
namespace Go.Proofs.Ytnjdcpbaippdlaa
open Go.ChangeShapes Go.WideShapes Go.ChangeAt Go.RowKit

section
variable {H : Type} {enc : TypeId × Value → H} {w : World}
theorem cells_u16 : Try.prog.cellsOf 22 = 1 := by kernel_rfl
theorem bytes_u16 : Try.prog.bytesOf 22 = 2 := by kernel_rfl
end
end Go.Proofs.Ytnjdcpbaippdlaa
