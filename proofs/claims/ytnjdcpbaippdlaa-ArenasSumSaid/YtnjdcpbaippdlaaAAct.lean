/-
  Acts as they lie in memory (drydock/drydocklaw24.Act).
-/
import Derived.Test.YtnjdcpbaippdlaaOpen
namespace Go.Proofs.Ytnjdcpbaippdlaa
open Go Go.RowKit

/-- an act as it lies in memory -/
structure ADeed where
  kind : Nat
  id : Nat
  bytes : Int
  t_s : List Int
  t_s_a : Option Addr
  t_s_cap : Nat
  t_l : List Int
  t_l_a : Option Addr
  t_l_cap : Nat
def ADeed.cells (x : ADeed) : List Value := [.int .u8 (x.kind : Nat), .int .u32 (x.id : Nat), .int .i64 x.bytes, .slice x.t_s_a x.t_s.length x.t_s_cap, .slice x.t_l_a x.t_l.length x.t_l_cap]
structure ADeedAt (w : World) (c o : Nat) (x : ADeed) : Prop where
  cell : ∀ j, j < 5 → w.cell? ⟨c, o + j, none⟩ = x.cells[j]?
  kind_lt : x.kind < 256
  id_lt : x.id < 4294967296
  bytes_in : -9223372036854775808 ≤ x.bytes ∧ x.bytes ≤ 9223372036854775807
  t_s_rd : Rd w x.t_s_a (ints .i64 x.t_s)
  t_s_le : x.t_s.length ≤ x.t_s_cap
  t_s_max : (x.t_s_cap : Int) * 8 ≤ 140737488355328
  t_s_each : ∀ y ∈ x.t_s, (Lit.int .i64 y).wf = true
  t_l_rd : Rd w x.t_l_a (ints .i32 x.t_l)
  t_l_le : x.t_l.length ≤ x.t_l_cap
  t_l_max : (x.t_l_cap : Int) * 4 ≤ 140737488355328
  t_l_each : ∀ y ∈ x.t_l, (Lit.int .i32 y).wf = true
theorem ADeed.some (x : ADeed) {j : Nat} (hj : j < 5) : ∃ v, x.cells[j]? = Option.some v := ⟨_, List.getElem?_eq_getElem hj⟩
theorem ADeedAt.touch {w w' : World} {c o : Nat} {x : ADeed} (h : ADeedAt w c o x) (t : Touch No w w') : ADeedAt w' c o x :=
  { h with
    cell := fun j hj => by
      obtain ⟨v, hv⟩ := x.some hj
      have := h.cell j hj
      rw [hv] at this ⊢
      exact t.cell (fun f => f) this
    t_s_rd := h.t_s_rd.no t
    t_l_rd := h.t_l_rd.no t
  }
/-- the slice at ad reads as these acts -/
def IsADeeds (w : World) (ad : Option Addr) (acts : List ADeed) : Prop := ∀ i x, acts[i]? = some x → ∃ c o, ad = some ⟨c, o, none⟩ ∧ ADeedAt w c (o + i * 5) x
theorem IsADeeds.touch {w w' : World} {ad : Option Addr} {acts : List ADeed} (h : IsADeeds w ad acts) (t : Touch No w w') : IsADeeds w' ad acts := fun i x hx =>
  let ⟨c, o, e, ha⟩ := h i x hx; ⟨c, o, e, ha.touch t⟩
end Go.Proofs.Ytnjdcpbaippdlaa
