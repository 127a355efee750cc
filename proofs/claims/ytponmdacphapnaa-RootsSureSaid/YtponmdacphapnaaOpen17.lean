/-
  What comes in, opened: a root by value.
-/
import Derived.Test.YtponmdacphapnaaOpen
import Derived.Test.YtponmdacphapnaaRt
import Derived.Test.YtponmdacphapnaaPlain03
import Derived.Test.YtponmdacphapnaaProg
import Derived.Lib.SmallJoins
namespace Go.Proofs.Ytponmdacphapnaa
open Go.ChangeShapes Go.WideShapes Go.ChangeAt Go.RowKit

section
variable {H : Type} {enc : TypeId × Value → H} {w : World}
set_option maxRecDepth 100000 in
theorem open_root {base : Nat} {v : Value} {d : DataW H} {p : List MemPlace} (hv : Value.okWide Try.prog w .any base 24 v) (h : DataW.Trod enc Try.prog w 0 (fun _ => true) true 24 v d p) :
    ∃ a b c : Nat, v = .agg #[.int .u32 (a : Nat), .int .u32 (b : Nat), .int .u32 (c : Nat)] ∧ a < 4294967296 ∧ b < 4294967296 ∧ c < 4294967296 := by
  obtain ⟨v0, v1, v2, y0, y1, y2, n, rfl, rfl, rfl, hy0, hy1, hy2⟩ := Go.Joins.open_agg3 Try.underlying24 (by kernel_rfl) (by kernel_rfl) hv h
  obtain ⟨x0, e0, _, w0⟩ := DataW.trod_int Try.underlying22 hy0
  obtain ⟨x1, e1, _, w1⟩ := DataW.trod_int Try.underlying22 hy1
  obtain ⟨x2, e2, _, w2⟩ := DataW.trod_int Try.underlying22 hy2
  simp at e0 e1 e2
  subst e0 e1 e2
  have b0 := bounds_u32 w0
  have b1 := bounds_u32 w1
  have b2 := bounds_u32 w2
  exact ⟨x0.toNat, x1.toNat, x2.toNat, by rw [Int.toNat_of_nonneg b0.1, Int.toNat_of_nonneg b1.1, Int.toNat_of_nonneg b2.1], by omega, by omega, by omega⟩
end
/-! a struct of five one-cell fields -/
section
open Go.Joins Go.Deep
variable {H : Type} {P : Program} {enc : TypeId × Value → H} {w : World} {base : Nat} {spare : Nat → Bool} {held : Bool}
theorem array5 {α : Type} {cs : Array α} (h : cs.size = 5) : ∃ c0 c1 c2 c3 c4, cs = #[c0, c1, c2, c3, c4] := by
  obtain ⟨l⟩ := cs
  match l, h with
  | [c0, c1, c2, c3, c4], _ => exact ⟨c0, c1, c2, c3, c4, rfl⟩
theorem open_agg5 {r : Reach} {b0 : Nat} {t : TypeId} {f0 f1 f2 f3 f4 : Field} {v : Value} {d : DataW H} {p : List MemPlace} (hs : P.underlying t = some (.struct #[f0, f1, f2, f3, f4])) (hone : oneCellFields P #[f0, f1, f2, f3, f4] = true) (hC : P.cellsOf t = 5)
    (hv : Value.okWide P w r b0 t v) (h : DataW.Trod enc P w base spare held t v d p) :
    ∃ (v0 v1 v2 v3 v4 : Value) (y0 y1 y2 y3 y4 : DataW H × List MemPlace) (n : Nat), v = .agg #[v0, v1, v2, v3, v4] ∧
      DataW.trod enc P w base spare held n f0.type [v0] = some y0 ∧ DataW.trod enc P w base spare held n f1.type [v1] = some y1 ∧ DataW.trod enc P w base spare held n f2.type [v2] = some y2 ∧ DataW.trod enc P w base spare held n f3.type [v3] = some y3 ∧ DataW.trod enc P w base spare held n f4.type [v4] = some y4 := by
  obtain ⟨cs, rfl, hsz⟩ := okWide_struct hs hv
  obtain ⟨c0, c1, c2, c3, c4, rfl⟩ := array5 (hsz.trans hC)
  obtain ⟨fuel, hf⟩ := h
  obtain ⟨xs, n, _, hx, hl, hlen, hf⟩ := DataW.trod_struct hs hf
  have hget : ∀ i f (c : Value), (#[f0, f1, f2, f3, f4] : Array Field)[i]? = some f → ([c0, c1, c2, c3, c4].drop i).take 1 = [c] → f.offset = i → P.cellsOf f.type = 1 → ∃ y, DataW.trod enc P w base spare held n f.type [c] = some y := fun i f c hi hc ho h1 => by
    have hi5 : i < 5 := by
      rcases Nat.lt_or_ge i 5 with h | h
      · exact h
      · rw [Array.getElem?_eq_none (by simpa using h)] at hi; cases hi
    have hlx : i < xs.length := by rw [hlen]; simpa using hi5
    have := hf i f hi
    rw [ho, h1] at this
    simp only [Value.cells] at this
    rw [hc] at this
    exact ⟨_, this.trans (List.getElem?_eq_getElem hlx)⟩
  obtain ⟨o0, k0⟩ := hone_of hone 0 f0 rfl
  obtain ⟨o1, k1⟩ := hone_of hone 1 f1 rfl
  obtain ⟨o2, k2⟩ := hone_of hone 2 f2 rfl
  obtain ⟨o3, k3⟩ := hone_of hone 3 f3 rfl
  obtain ⟨o4, k4⟩ := hone_of hone 4 f4 rfl
  obtain ⟨y0, h0⟩ := hget 0 f0 c0 rfl rfl o0 k0
  obtain ⟨y1, h1⟩ := hget 1 f1 c1 rfl rfl o1 k1
  obtain ⟨y2, h2⟩ := hget 2 f2 c2 rfl rfl o2 k2
  obtain ⟨y3, h3⟩ := hget 3 f3 c3 rfl rfl o3 k3
  obtain ⟨y4, h4⟩ := hget 4 f4 c4 rfl rfl o4 k4
  exact ⟨c0, c1, c2, c3, c4, y0, y1, y2, y3, y4, n, rfl, h0, h1, h2, h3, h4⟩
end

section
variable {H : Type} {enc : TypeId × Value → H} {w : World}
theorem cells_u8 : Try.prog.cellsOf 5 = 1 := by kernel_rfl
set_option maxRecDepth 100000 in
theorem open_turned {base : Nat} {v : Value} {d : DataW H} {p : List MemPlace} (hv : Value.okWide Try.prog w .any base 45 v) (h : DataW.Trod enc Try.prog w 0 (fun _ => true) true 45 v d p) :
    ∃ (m s a b : Nat) (q : Bool), v = .agg #[.int .u8 (m : Nat), .int .u8 (s : Nat), .int .u8 (a : Nat), .int .u8 (b : Nat), .bool q] ∧ m < 256 ∧ s < 256 ∧ a < 256 ∧ b < 256 := by
  obtain ⟨v0, v1, v2, v3, v4, y0, y1, y2, y3, y4, n, rfl, hy0, hy1, hy2, hy3, hy4⟩ := open_agg5 Try.underlying45 (by kernel_rfl) (by kernel_rfl) hv h
  obtain ⟨x0, e0, _, w0⟩ := DataW.trod_int Try.underlying5 hy0
  obtain ⟨x1, e1, _, w1⟩ := DataW.trod_int Try.underlying5 hy1
  obtain ⟨x2, e2, _, w2⟩ := DataW.trod_int Try.underlying5 hy2
  obtain ⟨x3, e3, _, w3⟩ := DataW.trod_int Try.underlying5 hy3
  obtain ⟨q, e4, _⟩ := DataW.trod_bool Try.underlying4 hy4
  simp at e0 e1 e2 e3 e4
  subst e0 e1 e2 e3 e4
  obtain ⟨m0, rfl, h0⟩ := wf_u8 w0
  obtain ⟨m1, rfl, h1⟩ := wf_u8 w1
  obtain ⟨m2, rfl, h2⟩ := wf_u8 w2
  obtain ⟨m3, rfl, h3⟩ := wf_u8 w3
  exact ⟨m0, m1, m2, m3, q, rfl, h0, h1, h2, h3⟩
end
end Go.Proofs.Ytponmdacphapnaa
