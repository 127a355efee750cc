/-
  Slices with room of their own, as parts; a book's lists. No program in sight.
-/
import Derived.Test.YtmjeigceclmdoaaGreatDoorSl
import Derived.ArgAppend
namespace Go.Proofs.YtmjeigceclmdoaaGreatDoor
open Go Go.RowKit
set_option linter.unusedVariables false

/-- room for cap cells at a -/
def RoomAt (w : World) (T : TypeId) (a : Option Addr) (cap : Nat) (vs : List Value) (O : Nat → Prop) : Prop :=
  cap = 0 ∨ ∃ g o cs, a = some ⟨g, o, none⟩ ∧ w.heap[g]? = some (.cells cs T (0, 0)) ∧ o + cap ≤ cs.size ∧ O g ∧ ∀ (i : Nat) v, vs[i]? = some v → cs[o + i]? = some v
/-- a slice with its room, that reads so -/
def Part.sl (T : TypeId) (a : Option Addr) (n cap : Nat) (vs : List Value) : Part where
  P w O := vs.length = n ∧ n ≤ cap ∧ cap ≤ maxLen ∧ (∀ k, O k → k < w.heap.size) ∧ RoomAt w T a cap vs O
  stable := fun {F w w' O} ⟨h1, h2, h3, h4, h5⟩ t hF => ⟨h1, h2, h3, fun k hk => Nat.lt_of_lt_of_le (h4 k hk) t.size, by
    rcases h5 with h5 | ⟨g, o, cs, ha, hg, hc, hO, hv⟩
    · exact Or.inl h5
    · exact Or.inr ⟨g, o, cs, ha, by rw [t.block g (h4 g hO) (hF g hO)]; exact hg, hc, hO, hv⟩⟩
  lt := fun {w O} h => h.2.2.2.1
section
variable {w w' : World} {T : TypeId} {a : Option Addr} {n cap : Nat} {vs : List Value} {O : Nat → Prop}
theorem sl_len (h : (Part.sl T a n cap vs).P w O) : vs.length = n ∧ n ≤ cap ∧ cap ≤ maxLen := ⟨h.1, h.2.1, h.2.2.1⟩
theorem sl_rd (h : (Part.sl T a n cap vs).P w O) : Rd w a vs := by
  obtain ⟨h1, h2, h3, h4, h5⟩ := h
  intro i v hi
  have hlt : i < vs.length := by
    rcases Nat.lt_or_ge i vs.length with h | h
    · exact h
    · rw [List.getElem?_eq_none h] at hi; cases hi
  rcases h5 with h5 | ⟨g, o, cs, rfl, hg, hc, hO, hv⟩
  · omega
  · exact ⟨g, o, rfl, by simp only [World.cell?, hg]; simpa using hv i v hi⟩
theorem sl_cut {m : Nat} (h : (Part.sl T a n cap vs).P w O) (hm : m ≤ n) : (Part.sl T a m cap (vs.take m)).P w O := by
  obtain ⟨h1, h2, h3, h4, h5⟩ := h
  refine ⟨by rw [List.length_take]; omega, by omega, h3, h4, ?_⟩
  rcases h5 with h5 | ⟨g, o, cs, ha, hg, hc, hO, hv⟩
  · exact Or.inl h5
  · refine Or.inr ⟨g, o, cs, ha, hg, hc, hO, fun i v hi => ?_⟩
    rw [List.getElem?_take] at hi
    split at hi
    · exact hv i v hi
    · cases hi
/-- new memory of a call's own -/
theorem born_sl {base c : Nat} (t : Touch No w w') (hb : w.heap.size ≤ base) (h : Own w' base T (.slice a n c) vs) (hc : n ≤ cap) (hc' : cap ≤ c) : Born w (.sl T a n cap vs) w' := by
  obtain ⟨hl, h⟩ := h
  rcases h with ⟨hv, h0⟩ | ⟨g, cp, cur, hv, hg, hh, hn, hm, hs, ht⟩
  · cases hv
    exact ⟨t, fun _ => False, ⟨h0, hc, by omega, fun _ f => f.elim, Or.inl (by omega)⟩, fun _ f => f.elim⟩
  · cases hv
    have hgs : g < w'.heap.size := (Array.getElem?_eq_some_iff.1 hh).1
    refine ⟨t, fun k => k = g, ⟨by omega, hc, by omega, fun k hk => by rw [hk]; exact hgs, Or.inr ⟨g, 0, cur, rfl, hh, by omega, rfl, fun i v hi => ?_⟩⟩, fun k hk => by rw [hk]; omega⟩
    rw [← ht, List.getElem?_take] at hi
    split at hi
    · rw [Nat.zero_add]; simpa using hi
    · cases hi
theorem row_at {g : Nat} {cs : Array Value} (h : w.heap[g]? = some (.cells cs T (0, 0))) : Row w g T cs.toList := by
  rw [Row, Array.toArray_toList]; exact h
/-- one cell of it, written anew -/
theorem sl_set {i : Nat} (h : (Part.sl T a n cap vs).P w O) (hi : i < n) (v : Value) : ∃ g o, a = some ⟨g, o, none⟩ ∧ O g ∧ w.frozen? ⟨g, o + i, none⟩ = false ∧ (∃ u, w.cell? ⟨g, o + i, none⟩ = some u) ∧
    (Part.sl T a n cap (vs.set i v)).P (w.setCell ⟨g, o + i, none⟩ v) O ∧ Touch O w (w.setCell ⟨g, o + i, none⟩ v) := by
  obtain ⟨h1, h2, h3, h4, h5⟩ := h
  rcases h5 with h5 | ⟨g, o, cs, rfl, hg, hc, hO, hv⟩
  · omega
  · have hR := row_at hg
    have hR' := hR.setCell (o + i) v
    refine ⟨g, o, rfl, hO, hR.soft _, ?_, ?_, (Touch.refl O w).setCell (p := ⟨g, o + i, none⟩) (fun _ => hO) v⟩
    · refine ⟨cs[o + i]'(by omega), ?_⟩
      rw [hR.cell]; simp [Array.getElem?_eq_getElem (show o + i < cs.size by omega)]
    · refine ⟨by rw [List.length_set]; exact h1, h2, h3, fun k hk => by have := h4 k hk; simpa [World.setCell] using this, Or.inr ⟨g, o, (cs.toList.set (o + i) v).toArray, rfl, ?_, by simp; exact hc, hO, fun j u hj => ?_⟩⟩
      · exact hR'
      · rw [List.getElem?_set] at hj
        simp only [List.getElem?_toArray, List.getElem?_set]
        by_cases e : i = j
        · subst e
          rw [if_pos rfl] at hj ⊢
          split at hj
          · cases hj
            rw [if_pos (by simp; omega)]
          · cases hj
        · rw [if_neg e] at hj
          rw [if_neg (by omega)]
          simpa using hv j u hj
end
end Go.Proofs.YtmjeigceclmdoaaGreatDoor
