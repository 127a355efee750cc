/-
  A book as one part: what it has been told of lies in blocks of its own.
-/
import Derived.Test.YtmjeigceclmdoaaGreatDoorBkP
namespace Go.Proofs.YtmjeigceclmdoaaGreatDoor
open Go Go.RowKit
set_option linter.unusedVariables false

def bookParts (g n : Nat) (vB vI vN vD : Value) (B I N D : List HE) : List Part :=
  Part.row g 48 (bookCells n vB vI vN vD) :: Part.arr 204 vB B.length (heNew B) :: Part.arr 209 vI I.length (heNew I) ::
    Part.arr 206 vN N.length (heNew N) :: Part.arr 212 vD D.length (heNew D) ::
    (B.map (Part.room 5) ++ (I.map (Part.room 3) ++ (N.map (Part.room 21) ++ D.map (Part.room 23))))
def Part.book (g n : Nat) (B I N D : List HE) : Part where
  P w O := (∃ vB vI vN vD, (I = [] → vI = nilSl) ∧ Al w (bookParts g n vB vI vN vD B I N D) O) ∧ ∀ k, O k → k < w.heap.size
  stable := fun {F w w' O} ⟨⟨vB, vI, vN, vD, h0, h⟩, hl⟩ t hF => ⟨⟨vB, vI, vN, vD, h0, Al.stable t h hF⟩, fun k hk => Nat.lt_of_lt_of_le (hl k hk) t.size⟩
  lt := fun {w O} h => h.2
theorem TurnsL.wrap {w w' : World} {A : Nat → Prop} {l : List Part} {p : Part} (h : TurnsL w A l w') (hp : ∀ O, Al w' l O → (∀ k, O k → k < w'.heap.size) → p.P w' O) : TurnsL w A [p] w' := by
  obtain ⟨t, O', h1, h2⟩ := h
  refine ⟨t, fun k => O' k ∧ k < w'.heap.size, ⟨fun k => O' k ∧ k < w'.heap.size, fun _ => False, hp _ h1.cut (fun k hk => hk.2), trivial, fun _ _ f => f, fun _ h => h, fun _ f => f.elim⟩, fun k hk => h2 k hk.1⟩
theorem Al.swap2 {w : World} {p q : Part} {l : List Part} {O : Nat → Prop} (h : Al w (p :: q :: l) O) : Al w (q :: p :: l) O := h.perm (List.Perm.swap _ _ _)
/-- one part for another -/
theorem Al.imp1 {w : World} {p q : Part} {l : List Part} {O : Nat → Prop} (h : Al w (p :: l) O) (hp : ∀ A, p.P w A → q.P w A) : Al w (q :: l) O := by
  obtain ⟨A, B, ha, hb, hd, h1, h2⟩ := h
  exact ⟨A, B, hp A ha, hb, hd, h1, h2⟩
/-- a new book -/
theorem book_new {w : World} {g : Nat} (h : Row w g 48 (bookCells 0 nilSl nilSl nilSl nilSl)) : (Part.book g 0 [] [] [] []).P w (fun k => k = g) := by
  have hN : ∀ (T : TypeId), (Part.arr T nilSl 0 []).P w (fun _ => False) := arr_nil w
  refine ⟨⟨nilSl, nilSl, nilSl, nilSl, fun _ => rfl, ?_⟩, fun k hk => by rw [hk]; exact h.lt⟩
  refine ⟨fun k => k = g, fun _ => False, ⟨h, rfl, fun k hk => by rw [hk]; exact h.lt⟩, ?_, fun _ _ f => f, fun _ h => h, fun _ f => f.elim⟩
  exact ⟨_, fun _ => False, hN _, ⟨_, fun _ => False, hN _, ⟨_, fun _ => False, hN _, ⟨_, fun _ => False, hN _, trivial, fun _ _ f => f, fun _ h => h, fun _ f => f⟩, fun _ _ f => f, fun _ h => h, fun _ f => f⟩, fun _ _ f => f, fun _ h => h, fun _ f => f⟩, fun _ _ f => f, fun _ h => h, fun _ f => f⟩
/-- a list joins those of its kind -/
theorem perm_in {α : Type} (l1 B R : List α) (x : α) : (l1 ++ (B ++ R) ++ [x]).Perm (l1 ++ ((B ++ [x]) ++ R)) := by
  rw [List.append_assoc l1]
  refine List.Perm.append_left l1 ?_
  rw [List.append_assoc, List.append_assoc]
  exact List.Perm.append_left B List.perm_append_comm
end Go.Proofs.YtmjeigceclmdoaaGreatDoor
