/-
  What the plain rows of this seat share.
-/
import Derived.Test.YtechmboimpbjpaaLaw
import Derived.Test.YtechmboimpbjpaaOpen
import Derived.Deep.DeepHandedRow
namespace Go.Proofs.Ytechmboimpbjpaa
theorem own : ownKnob Try.prog.godebug = none := by kernel_rfl
theorem laidOut : laidOutB Try.prog = true := by kernel_rfl
end Go.Proofs.Ytechmboimpbjpaa
