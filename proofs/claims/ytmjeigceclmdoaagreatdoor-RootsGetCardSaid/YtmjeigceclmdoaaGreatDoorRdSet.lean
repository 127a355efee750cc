/-
  A store into what reads as a list. No program in sight.
-/
import Derived.Test.YtmjeigceclmdoaaGreatDoorArr
namespace Go.Proofs.YtmjeigceclmdoaaGreatDoor
open Go Go.RowKit

theorem Rd.set {w : World} {g o : Nat} {vs : List Value} (h : Rd w (some ⟨g, o, none⟩) vs) {p : Nat} (hp : p < vs.length) (v : Value) : Rd (w.setCell ⟨g, o + p, none⟩ v) (some ⟨g, o, none⟩) (vs.set p v) := by
  intro i u hi
  refine ⟨g, o, rfl, ?_⟩
  rw [List.getElem?_set] at hi
  by_cases e : p = i
  · subst e
    rw [if_pos rfl, if_pos hp] at hi
    obtain ⟨g', o', e', hc⟩ := h p vs[p] (List.getElem?_eq_getElem hp)
    cases e'
    rw [cell_set hc]; exact hi
  · rw [if_neg e] at hi
    obtain ⟨g', o', e', hc⟩ := h i u hi
    cases e'
    rw [cell_set_ne (Or.inr (by omega))]; exact hc
theorem Own.soft {w : World} {base : Nat} {T : TypeId} {g o n c : Nat} {vs : List Value} (h : Own w base T (.slice (some ⟨g, o, none⟩) n c) vs) (k : Nat) : w.frozen? ⟨g, k, none⟩ = false := by
  obtain ⟨_, h⟩ := h
  rcases h with ⟨h, _⟩ | ⟨g', cap, cur, hv, _, hh, _⟩
  · cases h
  · cases hv
    have hR : Row w g T cur.toList := by rw [Row, Array.toArray_toList]; exact hh
    exact hR.soft k

end Go.Proofs.YtmjeigceclmdoaaGreatDoor
