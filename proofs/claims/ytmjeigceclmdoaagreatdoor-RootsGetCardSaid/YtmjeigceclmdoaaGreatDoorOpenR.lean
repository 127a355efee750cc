/-
  What comes in, opened: a root by value.
-/
import Derived.Test.YtmjeigceclmdoaaGreatDoorDoor99
import Derived.Lib.SmallJoins
namespace Go.Proofs.YtmjeigceclmdoaaGreatDoor
open Go.ChangeShapes Go.WideShapes Go.ChangeAt Go.RowKit

section
variable {H : Type} {enc : TypeId × Value → H} {w : World}
set_option maxRecDepth 100000 in
theorem open_root {base : Nat} {v : Value} {d : DataW H} {p : List MemPlace} (hv : Value.okWide Tryz.prog w .any base 101 v) (h : DataW.Trod enc Tryz.prog w 0 (fun _ => true) true 101 v d p) :
    ∃ a b c : Nat, v = .agg #[.int .u32 (a : Nat), .int .u32 (b : Nat), .int .u32 (c : Nat)] ∧ a < 4294967296 ∧ b < 4294967296 ∧ c < 4294967296 := by
  obtain ⟨v0, v1, v2, y0, y1, y2, n, rfl, rfl, rfl, hy0, hy1, hy2⟩ := Go.Joins.open_agg3 Tryz.underlying101 (by kernel_rfl) (by kernel_rfl) hv h
  obtain ⟨x0, e0, _, w0⟩ := DataW.trod_int Tryz.underlying23 hy0
  obtain ⟨x1, e1, _, w1⟩ := DataW.trod_int Tryz.underlying23 hy1
  obtain ⟨x2, e2, _, w2⟩ := DataW.trod_int Tryz.underlying23 hy2
  simp at e0 e1 e2
  subst e0 e1 e2
  have b0 := bounds_u32 w0
  have b1 := bounds_u32 w1
  have b2 := bounds_u32 w2
  exact ⟨x0.toNat, x1.toNat, x2.toNat, by rw [Int.toNat_of_nonneg b0.1, Int.toNat_of_nonneg b1.1, Int.toNat_of_nonneg b2.1], by omega, by omega, by omega⟩
end
end Go.Proofs.YtmjeigceclmdoaaGreatDoor
