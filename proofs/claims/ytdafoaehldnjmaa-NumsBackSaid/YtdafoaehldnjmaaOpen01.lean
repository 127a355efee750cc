/-
  What comes in, opened: bytes, numbers, two bytes in an array.
-/
import Derived.Test.YtdafoaehldnjmaaOpen
import Derived.Test.YtdafoaehldnjmaaIn
import Derived.Test.YtdafoaehldnjmaaPlain03
import Derived.Test.YtdafoaehldnjmaaProg
import Derived.Laws.IdiomArrays
import Derived.Lib.SmallJoins
namespace Go.Proofs.Ytdafoaehldnjmaa
open Go.ChangeShapes Go.WideShapes Go.ChangeAt Go.RowKit

section
variable {H : Type} {enc : TypeId × Value → H} {w : World}
theorem cells_u8 : Try.prog.cellsOf 5 = 1 := by kernel_rfl
theorem cells_i32 : Try.prog.cellsOf 21 = 1 := by kernel_rfl
theorem cells_bytes : Try.prog.cellsOf 24 = 1 := by kernel_rfl
theorem bytes_u8 : Try.prog.bytesOf 5 = 1 := by kernel_rfl
theorem bytes_i32 : Try.prog.bytesOf 21 = 4 := by kernel_rfl
theorem wf_u32 {n : Int} (h : (Lit.int .u32 n).wf = true) : ∃ m : Nat, n = (m : Nat) ∧ m < 4294967296 := by
  have := bounds_u32 h
  exact ⟨n.toNat, by omega, by omega⟩

theorem open_bytes {fuel : Nat} {cs : List Value} {x : DataW H × List MemPlace} (h : DataW.trod enc Try.prog w 0 (fun _ => true) true fuel 24 cs = some x) (hz : ∀ n ∈ DataW.weights Try.prog 24 x.1, n ≤ reachBytes) :
    ∃ a n cap b, cs = [.slice a n cap] ∧ Bytes w a n cap b := by
  obtain ⟨a, cap, zs, rfl, hl, hm, hr, hwf, hwt, _⟩ := open_list Try.underlying24 Try.underlying5 cells_u8 h
  have hpos : ∀ z ∈ zs, 0 ≤ z := fun z hz' => (bounds_u8 (hwf z hz')).1
  refine ⟨a, zs.length, cap, zs.map Int.toNat, rfl, by rw [List.length_map], hl, ?_, by rw [← ints_nums hpos]; exact hr, fun x hx => by obtain ⟨z, hz', rfl⟩ := List.mem_map.1 hx; have := bounds_u8 (hwf z hz'); omega⟩
  rcases hwt with h0 | h0
  · omega
  · have := hz _ h0
    rw [bytes_u8] at this
    unfold reachBytes at this
    omega
theorem open_numbers {fuel : Nat} {cs : List Value} {x : DataW H × List MemPlace} (h : DataW.trod enc Try.prog w 0 (fun _ => true) true fuel 23 cs = some x) (hz : ∀ n ∈ DataW.weights Try.prog 23 x.1, n ≤ reachBytes) :
    ∃ a n cap b, cs = [.slice a n cap] ∧ Ints w a n cap b := by
  obtain ⟨a, cap, zs, rfl, hl, hm, hr, hwf, hwt, _⟩ := open_list Try.underlying23 Try.underlying21 cells_i32 h
  refine ⟨a, zs.length, cap, zs, rfl, rfl, hl, ?_, hr, fun x hx => bounds_i32 (hwf x hx)⟩
  rcases hwt with h0 | h0
  · omega
  · have := hz _ h0
    rw [bytes_i32] at this
    unfold reachBytes at this
    omega
theorem list2 {α : Type} (l : List α) (h : l.length = 2) : ∃ a b, l = [a, b] := by
  match l, h with
  | [a, b], _ => exact ⟨a, b, rfl⟩
/-- two bytes in an array, by value -/
theorem open_around {base : Nat} {v : Value} {d : DataW H} {p : List MemPlace} (hv : Value.okWide Try.prog w .any base 25 v) (h : DataW.Trod enc Try.prog w 0 (fun _ => true) true 25 v d p) (hz : ∀ n ∈ DataW.weights Try.prog 25 d, n ≤ reachBytes) :
    ∃ a0 n0 c0 b0 a1 n1 c1 b1, v = .agg #[.slice a0 n0 c0, .slice a1 n1 c1] ∧ Bytes w a0 n0 c0 b0 ∧ Bytes w a1 n1 c1 b1 := by
  obtain ⟨cs, rfl, hsz, _⟩ : ∃ cs, v = .agg cs ∧ cs.size = Try.prog.cellsOf 25 ∧ Row.okWide Try.prog w .any base 25 cs := by
    simpa [Value.okWide, Try.underlying25] using hv
  rw [show Try.prog.cellsOf 25 = 2 by kernel_rfl] at hsz
  obtain ⟨l⟩ := cs
  obtain ⟨v0, v1, rfl⟩ := list2 l hsz
  obtain ⟨fuel, hf⟩ := h
  obtain ⟨xs, m, _, hx, _, hlen, hel⟩ := DataW.trod_array Try.underlying25 hf
  obtain ⟨x0, x1, rfl⟩ := list2 xs hlen
  have e0 := hel 0 (by decide)
  have e1 := hel 1 (by decide)
  rw [cells_bytes] at e0 e1
  have hd : d = .agg [x0.1, x1.1] := congrArg Prod.fst hx
  subst hd
  simp only [DataW.weights, Try.underlying25, DataW.weightsAll, List.mem_append] at hz
  obtain ⟨a0, n0, c0, b0, h0, B0⟩ := open_bytes (x := x0) e0 (fun n hn => hz n (Or.inl hn))
  obtain ⟨a1, n1, c1, b1, h1, B1⟩ := open_bytes (x := x1) e1 (fun n hn => hz n (Or.inr (Or.inl hn)))
  have h0 : [v0] = [Value.slice a0 n0 c0] := h0
  have h1 : [v1] = [Value.slice a1 n1 c1] := h1
  cases h0
  cases h1
  exact ⟨a0, n0, c0, b0, a1, n1, c1, b1, rfl, B0, B1⟩
end
end Go.Proofs.Ytdafoaehldnjmaa
