/-
  What the walks of a book's functions share. No program in sight.
-/
import Derived.Test.YtmjeigceclmdoaaGreatDoorBkBook
import Derived.Test.YtmjeigceclmdoaaGreatDoorBkP2
namespace Go.Proofs.YtmjeigceclmdoaaGreatDoor
open Go Go.RowKit
set_option linter.unusedVariables false

theorem perm_mid {α : Type} (a b : α) (T : List α) (x : α) (D : List α) : (a :: b :: (T ++ x :: D)).Perm (x :: a :: b :: (T ++ D)) := by
  have h : (a :: b :: (T ++ x :: D)).Perm (a :: b :: x :: (T ++ D)) := (List.perm_middle.cons b).cons a
  exact h.trans (((List.Perm.swap x b _).cons a).trans (List.Perm.swap x a _))
/-- what the arr part says of the i-th element -/
theorem arr_at {w : World} {T : TypeId} {v : Value} {B : List HE} {O : Nat → Prop} (h : (Part.arr T v B.length (heNew B)).P w O) {i : Nat} (hi : i < B.length) :
    ∃ gb cb, v = .slice (some ⟨gb, 0, none⟩) B.length cb ∧ O gb ∧ w.cell? ⟨gb, i * 3, none⟩ = some (.slice B[i].a B[i].n B[i].c) ∧ w.cell? ⟨gb, i * 3 + 1, none⟩ = some nilSl ∧ w.cell? ⟨gb, i * 3 + 2, none⟩ = some (.int .i64 (B[i].k : Nat)) := by
  obtain ⟨⟨hl, hh⟩, hin, _⟩ := h
  rcases hh with ⟨_, h0⟩ | ⟨gb, cb, cur, hv, _, hh, hn, hc, hs, ht⟩
  · omega
  · have hc : ∀ j, j < 3 → w.cell? ⟨gb, i * 3 + j, none⟩ = (B[i].cells nilSl)[j]? := fun j hj => by
      have h1 : (heNew B)[i * 3 + j]? = (B[i].cells nilSl)[j]? := by
        have hd : B = B.take i ++ B[i] :: B.drop (i + 1) := by rw [← List.drop_eq_getElem_cons hi, List.take_append_drop]
        have h2 : heNew B = heNew (B.take i) ++ (B[i].cells nilSl ++ heNew (B.drop (i + 1))) := by
          have h3 : heNew (B.take i ++ B[i] :: B.drop (i + 1)) = heNew (B.take i) ++ (B[i].cells nilSl ++ heNew (B.drop (i + 1))) := by rw [heNew, List.flatMap_append, List.flatMap_cons]; rfl
          rw [← hd] at h3; exact h3
        rw [h2, List.getElem?_append_right (by rw [heNew_length, List.length_take]; omega), heNew_length, List.length_take, show i * 3 + j - min i B.length * 3 = j by omega, List.getElem?_append_left (by rw [HE.cells_length]; exact hj)]
      rw [← h1, ← ht, List.getElem?_take, if_pos (by omega)]
      simp only [World.cell?, hh]
      simp
    exact ⟨gb, cb, hv, hin gb (by rw [hv]; rfl), hc 0 (by decide), hc 1 (by decide), hc 2 (by decide)⟩
theorem TurnsL.comp {w w1 w2 : World} {O O' : Nat → Prop} {l : List Part} (t : Touch O w w1) (hin : ∀ k, O' k → O k ∨ w.heap.size ≤ k) (h : TurnsL w1 O' l w2) : TurnsL w O l w2 := by
  obtain ⟨t2, O2, h3, h4⟩ := h
  refine ⟨t.then t2 (fun i hi hO => (hin i hO).elim id (fun h => absurd hi (Nat.not_lt.2 h))), O2, h3, fun i hi => ?_⟩
  rcases h4 i hi with h | h
  · exact hin i h
  · exact Or.inr (Nat.le_trans t.size h)
theorem take_next {vs : List Value} {k : Nat} {x : Value} (h : vs.take k = List.replicate k x) (hk : k < vs.length) : (vs.set k x).take (k + 1) = List.replicate (k + 1) x := by
  rw [List.take_succ_eq_append_getElem (by rw [List.length_set]; exact hk), List.take_set_of_le (Nat.le_refl _), h, List.getElem_set_self, List.replicate_succ']
theorem perm_mid3 {α : Type} (a b : α) (T : List α) (x : α) (D : List α) : (a :: b :: (T ++ x :: D)).Perm (a :: b :: x :: (T ++ D)) := (List.perm_middle.cons b).cons a
theorem zip_snoc {α β γ : Type} (f : α → β → γ) {xs : List α} {ys : List β} (h : xs.length = ys.length) (a : α) (b : β) : List.zipWith f (xs ++ [a]) (ys ++ [b]) = List.zipWith f xs ys ++ [f a b] := by
  rw [List.zipWith_append h]; rfl
theorem zip_get {α β γ : Type} (f : α → β → γ) {xs : List α} {ys : List β} {i : Nat} {a : α} {b : β} (ha : xs[i]? = some a) (hb : ys[i]? = some b) : f a b ∈ List.zipWith f xs ys := by
  apply List.mem_of_getElem? (i := i)
  rw [List.getElem?_zipWith, ha, hb]
end Go.Proofs.YtmjeigceclmdoaaGreatDoor
