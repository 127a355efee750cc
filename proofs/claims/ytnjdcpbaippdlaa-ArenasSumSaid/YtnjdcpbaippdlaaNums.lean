/-
  Package nums by its own text: put, PutFour, four, GetFour.
-/
import Derived.Test.YtnjdcpbaippdlaaProg
import Derived.Test.YtnjdcpbaippdlaaRt
import Derived.Test.YtnjdcpbaippdlaaApp
import Derived.Test.YtnjdcpbaippdlaaArr
import Derived.Deep.LoopGhost
import Derived.Laws.MakeOwn
import Derived.Laws.CopyOwn
import Derived.Laws.BitsAllLaws
namespace Go.Proofs.Ytnjdcpbaippdlaa
open Go Go.RowKit
set_option linter.unusedSimpArgs false

/-- what a type's zero and room are (one cell) -/
theorem one_info {T : TypeId} {k : IntKind} {bytes : Nat} (h : (Try.prog.info? T).map (fun i => (i.zero, i.size, i.bytes)) = some (some (.int k 0), 1, bytes)) :
    ∃ i, Try.prog.info? T = some i ∧ i.zero = some (.int k 0) ∧ i.size = 1 ∧ i.bytes = bytes := by
  cases hi : Try.prog.info? T with
  | none => simp [hi] at h
  | some i =>
    rw [hi] at h
    simp only [Option.map_some, Option.some.injEq, Prod.mk.injEq] at h
    exact ⟨i, rfl, h.1, h.2.1, h.2.2⟩
theorem u8_info : ∃ i, Try.prog.info? 5 = some i ∧ i.zero = some (.int .u8 0) ∧ i.size = 1 ∧ i.bytes = 1 := one_info (by kernel_rfl)

theorem made_zeros (n : Nat) : madeCells #[Value.int .u8 0] n = (List.replicate n (Value.int .u8 0)).toArray := by
  apply Array.ext'
  refine List.ext_getElem? (fun j => ?_)
  unfold madeCells
  by_cases hj : j < n
  · simp [hj, List.getElem?_replicate, Nat.mod_one]
  · simp [hj, List.getElem?_replicate]

theorem rd_new (w : World) (T : TypeId) (vs : Array Value) (fr : Nat × Nat) : Rd (w.alloc (.cells vs T fr)) (some ⟨w.heap.size, 0, none⟩) vs.toList := by
  intro i v hi
  refine ⟨_, _, rfl, ?_⟩
  have hh := heap_alloc_new w (.cells vs T fr)
  simp only [World.cell?]; rw [hh, Nat.zero_add]
  simpa using hi
theorem four_cells {x : Nat} (h : x < 4294967296) : #[Value.int IntKind.u8 ((x : Int) % 256), Value.int IntKind.u8 ((x : Int) / 256 % 256), Value.int IntKind.u8 ((x : Int) / 65536 % 256), Value.int IntKind.u8 ((x : Int) / 16777216)].toList = nums .u8 (Rt.four x) := by
  have e0 : (x : Int) % 256 = ((x % 256 : Nat) : Int) := by omega
  have e1 : (x : Int) / 256 % 256 = ((x / 256 % 256 : Nat) : Int) := by omega
  have e2 : (x : Int) / 65536 % 256 = ((x / 65536 % 256 : Nat) : Int) := by omega
  have e3 : (x : Int) / 16777216 = ((x / 16777216 % 256 : Nat) : Int) := by omega
  rw [e0, e1, e2, e3]; rfl
/-- put: numbers behind bytes, in memory of their own -/
def PutPost (w : World) (xs : List Nat) (N : Nat) (e : Ending) (w' : World) : Prop :=
  ∃ a c, e = .returned (.slice a N c) ∧ Own w' w.heap.size 5 (.slice a N c) (nums .u8 xs) ∧ Touch No w w'

/-! ### four, GetFour -/
theorem or_shift {a b k : Nat} (h : a < 2 ^ k) : a ||| b * 2 ^ k = a + b * 2 ^ k := by
  rw [Nat.or_comm, Nat.add_comm, Nat.mul_comm]
  exact (Nat.two_pow_add_eq_or_of_lt h b).symm
def GetPost (w : World) (b : List Nat) (e : Ending) (w' : World) : Prop := e = .returned (.tuple #[.int .u32 (if b.length < 4 then 0 else Rt.unfour b : Nat), .int .i64 (if b.length < 4 then 5 else 0 : Nat)]) ∧ Touch No w w'
end Go.Proofs.Ytnjdcpbaippdlaa
