/-
  The lock of package sync, under this program's numbers.
-/
import Derived.Test.YtnjdcpbaippdlaaRows
import Derived.Test.YtnjdcpbaippdlaaBase
import Derived.Conc.MuLone
import Derived.KernelRfl
namespace Go.Proofs.Ytnjdcpbaippdlaa
open Go Go.RowKit
abbrev muLink : Go.Conc.Locks.MuLink := { lock := 15, unlock := 16, ilock := 24, iunlock := 25, lockSlow := 41, unlockSlow := 44, disable := 37, enable := 39, acquire := 40, relMerge := 42, cas32 := 38, add32 := 43, tMutex := 53, tIMutex := 51, tPMutex := 72, tPIMutex := 83, tPI32 := 85, tUP := 87, tNoCopy := 49, tU32 := 31 }
theorem muLib : Go.Conc.Locks.MuLib Try.prog muLink :=
  ⟨Try.func15, Try.func16, Try.func24, Try.func25, Try.func37, Try.func39, Try.func40, Try.func42, Try.func38, Try.func43, Try.underlying51, Try.runUnderlying51, Try.sizeOf51, Try.isAgg51, Try.zeroValue51, Try.underlying53, Try.runUnderlying53, Try.sizeOf53, Try.isAgg53, Try.zeroValue53, Try.underlying72, Try.runUnderlying72, Try.sizeOf72, Try.isAgg72, Try.zeroValue72, Try.underlying83, Try.runUnderlying83, Try.sizeOf83, Try.isAgg83, Try.zeroValue83, Try.underlying85, Try.runUnderlying85, Try.sizeOf85, Try.isAgg85, Try.zeroValue85, Try.underlying87, Try.runUnderlying87, Try.sizeOf87, Try.isAgg87, Try.zeroValue87, Try.underlying49, Try.runUnderlying49, Try.sizeOf49, Try.isAgg49, Try.zeroValue49, Try.underlying21, Try.runUnderlying21, Try.sizeOf21, Try.isAgg21, Try.zeroValue21, (by kernel_rfl)⟩
end Go.Proofs.Ytnjdcpbaippdlaa
