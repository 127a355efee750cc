/-
  Bytes and numbers as they come in. No program in sight.
-/
import Derived.Test.YtnjdcpbaippdlaaOpen
namespace Go.Proofs.Ytnjdcpbaippdlaa
open Go Go.RowKit
/-- bytes as they come in -/
structure Bytes (w : World) (a : Option Addr) (n c : Nat) (b : List Nat) : Prop where
  len : b.length = n
  cap : n ≤ c
  max : (c : Int) ≤ 140737488351232
  rd : Rd w a (nums .u8 b)
  lt : ∀ x ∈ b, x < 256
structure Ints (w : World) (a : Option Addr) (n c : Nat) (zs : List Int) : Prop where
  len : zs.length = n
  cap : n ≤ c
  max : (c : Int) ≤ 140737488355328
  rd : Rd w a (ints .i32 zs)
  lt : ∀ x ∈ zs, -2147483648 ≤ x ∧ x ≤ 2147483647

theorem Bytes.nlow {w : World} {a : Option Addr} {n c : Nat} {b : List Nat} (h : Bytes w a n c b) : (n : Int) ≤ 140737488351232 := by have := h.cap; have := h.max; omega
theorem Bytes.nmax {w : World} {a : Option Addr} {n c : Nat} {b : List Nat} (h : Bytes w a n c b) : (n : Int) ≤ 140737488355328 := by have := h.cap; have := h.max; omega
theorem Ints.nmax {w : World} {a : Option Addr} {n c : Nat} {b : List Int} (h : Ints w a n c b) : (n : Int) ≤ 140737488355328 := by have := h.cap; have := h.max; omega
end Go.Proofs.Ytnjdcpbaippdlaa
