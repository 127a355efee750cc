/-
  Package disks by its own text: Bad.
-/
import Derived.Test.YtakjbdeemifnmaaDoorDiskT
import Derived.Test.YtakjbdeemifnmaaDoorDiskG
namespace Go.Proofs.YtakjbdeemifnmaaDoor
open Go Go.RowKit
set_option linter.unusedSimpArgs false

/-- one cell of a write that waits -/
theorem rows_get {w : World} {T : TypeId} {gw m cw : Nat} {l : List Dk.Wr} (h : w.ownsRow 0 T 66 (.slice (some ⟨gw, 0, none⟩) m cw) m (l.flatMap wrCells)) (hl : l.length = m) {i j : Nat} {y : Dk.Wr} (hy : l[i]? = some y) (hj : j < 66) :
    w.cell? ⟨gw, i * 66 + j, none⟩ = (wrCells y)[j]? ∧ w.frozen? ⟨gw, i * 66 + j, none⟩ = false := by
  have hi : i < m := by
    rcases Nat.lt_or_ge i l.length with h | h
    · omega
    · rw [List.getElem?_eq_none h] at hy; cases hy
  obtain ⟨g, c, r, hv, _, hR, _⟩ := ownRow h (by intro e; cases e)
  cases hv
  refine ⟨?_, hR.soft _⟩
  rw [hR.cell, List.getElem?_append_left (by
    rw [flat_length wrCells_length, hl]
    have := Nat.mul_le_mul_right 66 hi
    omega), flat_get wrCells_length l i j y hy hj]
theorem rows_set {w : World} {T : TypeId} {gw m cw : Nat} {l : List Dk.Wr} (h : w.ownsRow 0 T 66 (.slice (some ⟨gw, 0, none⟩) m cw) m (l.flatMap wrCells)) (hl : l.length = m) {i j : Nat} {y y' : Dk.Wr} {v : Value} (hy : l[i]? = some y) (hj : j < 66) (he : wrCells y' = (wrCells y).set j v) :
    (w.setCell ⟨gw, i * 66 + j, none⟩ v).ownsRow 0 T 66 (.slice (some ⟨gw, 0, none⟩) m cw) m ((l.set i y').flatMap wrCells) := by
  have hi : i < m := by
    rcases Nat.lt_or_ge i l.length with h | h
    · omega
    · rw [List.getElem?_eq_none h] at hy; cases hy
  obtain ⟨h0, h⟩ := h
  rcases h with ⟨h, _⟩ | ⟨g, cap, cur, hv, hg, hh, hn, hc, hs, ht⟩
  · cases h
  cases hv
  refine ⟨by rw [flat_length wrCells_length, List.length_set, hl], Or.inr ⟨gw, cw, cur.setIfInBounds (i * 66 + j) v, rfl, hg, ?_, hn, hc, by simpa using hs, ?_⟩⟩
  · have hR : Row w gw T cur.toList := by rw [Row, Array.toArray_toList]; exact hh
    have := hR.setCell (i * 66 + j) v
    rw [Row] at this
    rw [this]
    congr 2
    apply Array.ext'; simp
  · rw [Array.toList_setIfInBounds, List.take_set]
    rw [ht]
    have := flat_cell wrCells_length l i j y y' v [] hy hj he
    simpa using this

/-- the cells of a sector that is bad -/
theorem bad_cells (s : Dk.Sec) : secCells (Dk.badS s) = (secCells s).set 64 (.int .i64 1) := by
  rw [secCells, secCells, List.set_append_right _ _ (by simp)]; simp [Dk.badS]
theorem badW_cells (y : Dk.Wr) : wrCells ⟨y.n, y.b, 1⟩ = (wrCells y).set 65 (.int .i64 1) := by
  rw [wrCells, wrCells, List.set_cons_succ, List.set_append_right _ _ (by simp)]; simp
def badF (y : Dk.Wr) : Dk.Wr := ⟨y.n, y.b, 1⟩
/-- one cell of a sector in its row -/
theorem sec_put {w : World} {g : Nat} {T : TypeId} {l : List Dk.Sec} {r : List Value} (h : Row w g T (l.flatMap secCells ++ r)) {n j : Nat} (hn : n < l.length) (hj : j < 65) (f : Dk.Sec → Dk.Sec) {v : Value} (he : secCells (f (Dk.at_ l n)) = (secCells (Dk.at_ l n)).set j v) :
    Row (w.setCell ⟨g, n * 65 + j, none⟩ v) g T ((Dk.upd l n f).flatMap secCells ++ r) := by
  rw [Dk.upd, ← flat_cell secCells_length l n j _ _ v r (Dk.at_get hn) hj he]
  exact h.setCell _ _
theorem modify_set {α : Type} {l : List α} {i : Nat} {y : α} (f : α → α) (h : l[i]? = some y) : l.modify i f = l.set i (f y) := by
  refine List.ext_getElem? (fun j => ?_)
  rw [List.getElem?_modify, List.getElem?_set]
  by_cases e : i = j
  · subst e
    have hi : i < l.length := by
      rcases Nat.lt_or_ge i l.length with h' | h'
      · exact h'
      · rw [List.getElem?_eq_none h'] at h; cases h
    rw [h]; simp [hi]
  · simp [e]

theorem waits_base {w : World} {T : TypeId} {aw : Option Addr} {m cw : Nat} {l : List Dk.Wr} (h : w.ownsRow 0 T 66 (.slice aw m cw) m (l.flatMap wrCells)) (hl : l.length = m) :
    ∃ gw, ∀ (i : Nat) (y : Dk.Wr), l[i]? = some y → aw = some ⟨gw, 0, none⟩ := by
  cases aw with
  | none => 
    refine ⟨0, fun i y hy => ?_⟩
    obtain ⟨g, c, r, hv, _⟩ := ownRow h (by
      intro e; cases e
      have : l = [] := List.eq_nil_of_length_eq_zero hl
      rw [this] at hy; cases hy)
    cases hv
  | some a =>
    obtain ⟨g, c, r, hv, _⟩ := ownRow h (by intro e; cases e)
    cases hv
    exact ⟨g, fun _ _ _ => rfl⟩

end Go.Proofs.YtakjbdeemifnmaaDoor
