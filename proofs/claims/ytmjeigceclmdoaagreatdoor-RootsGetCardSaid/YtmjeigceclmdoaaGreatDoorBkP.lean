/-
  A book: its cells, its lists, what is held. No program in sight.
-/
import Derived.Test.YtmjeigceclmdoaaGreatDoorBk
import Derived.Laws.OwnMore
namespace Go.Proofs.YtmjeigceclmdoaaGreatDoor
open Go Go.RowKit
set_option linter.unusedVariables false

/-- a list that a book holds, and its number -/
structure HE where
  a : Option Addr
  n : Nat
  c : Nat
  k : Nat
/-- its three cells; the middle one: what became of it -/
def HE.cells (e : HE) (long : Value) : List Value := [.slice e.a e.n e.c, long, .int .i64 (e.k : Nat)]
theorem HE.cells_length (e : HE) (v : Value) : (e.cells v).length = 3 := rfl
def heCells (B : List HE) (ls : List Value) : List Value := (B.zip ls).flatMap fun x => x.1.cells x.2
def nilSl : Value := .slice none 0 0
/-- nothing has become of these yet -/
def heNew (B : List HE) : List Value := B.flatMap fun e => e.cells nilSl
theorem flat3_length {α : Type} (f : α → List Value) (hf : ∀ x, (f x).length = 3) (l : List α) : (l.flatMap f).length = l.length * 3 := by
  induction l with
  | nil => rfl
  | cons x r ih => rw [List.flatMap_cons, List.length_append, ih, hf, List.length_cons]; omega
theorem heNew_length (B : List HE) : (heNew B).length = B.length * 3 := flat3_length _ (fun e => e.cells_length _) B
theorem heNew_snoc (B : List HE) (e : HE) : heNew (B ++ [e]) = heNew B ++ e.cells nilSl := by simp [heNew]
theorem heNew_one (B : List HE) : ∀ u ∈ heNew B, u.oneCell' = true := by
  intro u hu
  obtain ⟨e, _, he⟩ := List.mem_flatMap.1 hu
  simp only [HE.cells, List.mem_cons, List.not_mem_nil, or_false] at he
  rcases he with rfl | rfl | rfl <;> rfl
/-- the book's own cells -/
def bookCells (n : Nat) (vB vI vN vD : Value) : List Value := .int .i64 (n : Nat) :: vB :: vI :: vN :: vD :: List.replicate 11 nilSl
/-- a row of three cells an element -/
def Part.arr (T : TypeId) (v : Value) (m : Nat) (cs : List Value) : Part where
  P w O := w.ownsRow 0 T 3 v m cs ∧ (∀ k, InBlock v k → O k) ∧ ∀ k, O k → k < w.heap.size
  stable := fun {F w w' O} ⟨h1, h2, h3⟩ t hF => by
    refine ⟨?_, h2, fun k hk => Nat.lt_of_lt_of_le (h3 k hk) t.size⟩
    obtain ⟨hl, hh⟩ := h1
    refine ⟨hl, hh.imp id ?_⟩
    rintro ⟨g, cap, cur, rfl, hg, hgt, q⟩
    exact ⟨g, cap, cur, rfl, hg, by rw [t.block g (Array.getElem?_eq_some_iff.1 hgt).1 (hF g (h2 g rfl))]; exact hgt, q⟩
  lt := fun {w O} h => h.2.2
theorem arr_nil (w : World) (T : TypeId) : (Part.arr T nilSl 0 []).P w (fun _ => False) := ⟨⟨rfl, Or.inl ⟨rfl, rfl⟩⟩, ⟨(fun k h => by cases h), fun _ f => f.elim⟩⟩
/-- a slice whose cells nobody asks -/
def Part.room (T : TypeId) (e : HE) : Part where
  P w O := ∃ vs, (Part.sl T e.a e.n e.c vs).P w O
  stable := fun {F w w' O} ⟨vs, h⟩ t hF => ⟨vs, (Part.sl T e.a e.n e.c vs).stable h t hF⟩
  lt := fun {w O} ⟨vs, h⟩ => (Part.sl T e.a e.n e.c vs).lt h
/-- slices that read so -/
def Part.full (T : TypeId) (mk : Nat → Value) (e : HE) : Part := Part.sl T e.a e.n e.c (List.replicate e.n (mk e.k))
end Go.Proofs.YtmjeigceclmdoaaGreatDoor
