/-
  The lock of package sync, under this program's numbers.
-/
import Derived.Test.YtkiehoboeiengaaRows
import Derived.Test.YtkiehoboeiengaaK02
import Derived.Conc.MuLone
import Derived.KernelRfl
namespace Go.Proofs.Ytkiehoboeiengaa
open Go Go.RowKit
abbrev muLink : Go.Conc.Locks.MuLink := { lock := 48, unlock := 49, ilock := 71, iunlock := 72, lockSlow := 95, unlockSlow := 98, disable := 91, enable := 93, acquire := 94, relMerge := 96, cas32 := 92, add32 := 97, tMutex := 114, tIMutex := 112, tPMutex := 144, tPIMutex := 161, tPI32 := 163, tUP := 165, tNoCopy := 110, tU32 := 31 }
theorem muLib : Go.Conc.Locks.MuLib Try.prog muLink :=
  ⟨Try.func48, Try.func49, Try.func71, Try.func72, Try.func91, Try.func93, Try.func94, Try.func96, Try.func92, Try.func97, Try.underlying112, Try.runUnderlying112, Try.sizeOf112, Try.isAgg112, Try.zeroValue112, Try.underlying114, Try.runUnderlying114, Try.sizeOf114, Try.isAgg114, Try.zeroValue114, Try.underlying144, Try.runUnderlying144, Try.sizeOf144, Try.isAgg144, Try.zeroValue144, Try.underlying161, Try.runUnderlying161, Try.sizeOf161, Try.isAgg161, Try.zeroValue161, Try.underlying163, Try.runUnderlying163, Try.sizeOf163, Try.isAgg163, Try.zeroValue163, Try.underlying165, Try.runUnderlying165, Try.sizeOf165, Try.isAgg165, Try.zeroValue165, Try.underlying110, Try.runUnderlying110, Try.sizeOf110, Try.isAgg110, Try.zeroValue110, Try.underlying21, Try.runUnderlying21, Try.sizeOf21, Try.isAgg21, Try.zeroValue21, (by kernel_rfl)⟩
end Go.Proofs.Ytkiehoboeiengaa
