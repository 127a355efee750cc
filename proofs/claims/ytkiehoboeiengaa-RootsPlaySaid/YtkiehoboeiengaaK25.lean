/-
  Package drydocklaw01 by its own text: a book's lists of numbers, grown.
  Package drydocklaw01 by its own text: a book's lists of numbers, looked at.
  Package drydocklaw01 by its own text: a book's lists of ids, filled with marks.
  Package drydocklaw01 by its own text: a book's lists of ids, grown.
  Package drydocklaw01 by its own text: a book's lists of ids, looked at.
  Package drydocklaw01 by its own text: a book's lists of which there are none.
  Package drydocklaw01 by its own text: Book.Apart.
  What the laws with a book share: parts read, parts told to the book, the end.
-/
import Derived.Test.YtkiehoboeiengaaK24
import Derived.Test.YtkiehoboeiengaaK20
import Derived.Test.YtkiehoboeiengaaK09
import Derived.StillTailTactics
import Derived.Test.YtkiehoboeiengaaK19
namespace Go.Proofs.Ytkiehoboeiengaa
open Go Go.RowKit
set_option linter.unusedSimpArgs false
set_option linter.unusedVariables false

end Go.Proofs.Ytkiehoboeiengaa
namespace Go.Proofs.Ytkiehoboeiengaa
open Go Go.RowKit
set_option linter.unusedSimpArgs false
set_option linter.unusedVariables false

end Go.Proofs.Ytkiehoboeiengaa
namespace Go.Proofs.Ytkiehoboeiengaa
open Go Go.RowKit
set_option linter.unusedSimpArgs false

def mkD (k : Nat) : Value := .int .u32 ((k : Nat) : Int)
end Go.Proofs.Ytkiehoboeiengaa
namespace Go.Proofs.Ytkiehoboeiengaa
open Go Go.RowKit
set_option linter.unusedSimpArgs false
set_option linter.unusedVariables false

end Go.Proofs.Ytkiehoboeiengaa
namespace Go.Proofs.Ytkiehoboeiengaa
open Go Go.RowKit
set_option linter.unusedSimpArgs false
set_option linter.unusedVariables false

end Go.Proofs.Ytkiehoboeiengaa
namespace Go.Proofs.Ytkiehoboeiengaa
open Go Go.RowKit
set_option linter.unusedSimpArgs false
end Go.Proofs.Ytkiehoboeiengaa
namespace Go.Proofs.Ytkiehoboeiengaa
open Go Go.RowKit
set_option linter.unusedSimpArgs false
set_option linter.unusedVariables false

section
variable {α : Type} (r b n d : α) (X Y Z : List α)
theorem mid2 (T : List α) (x y : α) : (X ++ x :: y :: T).Perm (x :: y :: (X ++ T)) := List.perm_middle.trans (List.perm_middle.cons x)
theorem permB1 : ((r :: b :: X) ++ (n :: d :: (Y ++ Z))).Perm (r :: b :: n :: d :: (X ++ (Y ++ Z))) := ((mid2 X (Y ++ Z) n d).cons b).cons r
theorem permN1 : ((r :: n :: Y) ++ (b :: d :: (X ++ Z))).Perm (r :: b :: n :: d :: (X ++ (Y ++ Z))) :=
  ((((mid2 Y (X ++ Z) b d).trans (((List.perm_append_comm_assoc Y X Z).cons d).cons b)).cons n).trans (List.Perm.swap b n _)).cons r
theorem permD1 : ((r :: d :: Z) ++ (b :: n :: (X ++ Y))).Perm (r :: b :: n :: d :: (X ++ (Y ++ Z))) := by
  have h : (Z ++ (X ++ Y)).Perm (X ++ (Y ++ Z)) := by rw [← List.append_assoc X Y Z]; exact List.perm_append_comm
  exact ((((mid2 Z (X ++ Y) b n).trans ((h.cons n).cons b)).cons d).trans ((List.Perm.swap b d _).trans ((List.Perm.swap n d _).cons b))).cons r
end
theorem Calls.step {P : Program} {f : FuncId} {args : Array Value} {w w1 : World} {A : Nat → Prop} {l l' m : List Part} {v : Ending} (h : TurnsL w A (l ++ m) w1) (C : ∀ F, Al w1 l F → (∀ k, F k → k < w1.heap.size) → Calls P f args w1 fun e w' => e = v ∧ TurnsL w1 F l' w') :
    Calls P f args w1 fun e w' => e = v ∧ TurnsL w A (l' ++ m) w' := by
  obtain ⟨t, O, hO, hin⟩ := h
  obtain ⟨F, hF, hFO, hf⟩ := hO.frame
  exact (C _ hF.cut (fun k hk => hk.2)).mono fun e w' ⟨he, tt, O', h1, h2⟩ => ⟨he, TurnsL.comp t hin (hf w' l' ⟨tt.mono (fun k _ hk => hk.1), O', h1, fun k hk => (h2 k hk).imp (fun h => h.1) id⟩)⟩
theorem Calls.stepE {P : Program} {f : FuncId} {args : Array Value} {w w1 : World} {A : Nat → Prop} {l m : List Part} {l' : List Value → List Part} {q : Nat} {v : Ending} (h : TurnsL w A (l ++ m) w1) (C : ∀ F, Al w1 l F → Calls P f args w1 fun e w' => e = v ∧ ∃ ls : List Value, ls.length = q ∧ TurnsL w1 F (l' ls) w') :
    Calls P f args w1 fun e w' => e = v ∧ ∃ ls : List Value, ls.length = q ∧ TurnsL w A (l' ls ++ m) w' := by
  obtain ⟨t, O, hO, hin⟩ := h
  obtain ⟨F, hF, hFO, hf⟩ := hO.frame
  exact (C F hF).mono fun e w' ⟨he, ls, hl, ht⟩ => ⟨he, ls, hl, TurnsL.comp t hin (hf w' _ ht)⟩
theorem TurnsL.row {w w1 : World} {A : Nat → Prop} {g : Nat} {T : TypeId} {cs : List Value} {m : List Part} (h : TurnsL w A (Part.row g T cs :: m) w1) : Row w1 g T cs := by
  obtain ⟨_, O, ⟨R, _, hR, _⟩, _⟩ := h
  exact hR.1
theorem TurnsL.al {w w1 : World} {A : Nat → Prop} {l m : List Part} (h : TurnsL w A (l ++ m) w1) : ∃ O, Al w1 l O := by
  obtain ⟨_, O, hO, _⟩ := h
  obtain ⟨F, hF, _⟩ := hO.frame
  exact ⟨F, hF⟩
def BkOk (B : List HE) : Prop := B.length ≤ 100000 ∧ (∀ e ∈ B, e.k ≤ 1000000) ∧ ∀ e ∈ B, e.n ≤ 10000000
def BkOkB (B : List HE) : Prop := B.length ≤ 100000 ∧ (∀ e ∈ B, e.k ≤ 1000000) ∧ ∀ e ∈ B, e.n ≤ 140737488351232
end Go.Proofs.Ytkiehoboeiengaa
namespace Go.Proofs.Ytkiehoboeiengaa
open Go Go.RowKit
set_option linter.unusedVariables false

theorem nums_ints (k : IntKind) (b : List Nat) : ints k (b.map fun (x : Nat) => (x : Int)) = nums k b := by
  simp [ints, nums, List.map_map, Function.comp]
theorem Sl.rd {w0 w : World} {l : List Part} (h : Sl w0 w l) {T : TypeId} {a : Option Addr} {n c : Nat} {vs : List Value} (hp : Part.sl T a n c vs ∈ l) : Rd w a vs := by
  obtain ⟨A, ha, _⟩ := h.mem hp
  exact sl_rd ha
theorem Sl.step {P : Program} {f : FuncId} {args : Array Value} {w0 w1 : World} {l l' m : List Part} {v : Ending} (h : Sl w0 w1 (l ++ m)) (C : ∀ F, Al w1 l F → Calls P f args w1 fun e w' => e = v ∧ TurnsL w1 F l' w') :
    Calls P f args w1 fun e w' => e = v ∧ Sl w0 w' (l' ++ m) := by
  obtain ⟨F, hF, _, hf⟩ := h.frame
  exact (C F hF).mono fun e w' ⟨he, ht⟩ => ⟨he, hf w' l' ht⟩
/-- a part that says less -/
theorem Sl.imp1 {w0 w : World} {p q : Part} {l : List Part} (h : Sl w0 w (p :: l)) (hp : ∀ A, p.P w A → q.P w A) : Sl w0 w (q :: l) := by
  obtain ⟨O, h1, h2, t⟩ := h
  exact ⟨O, h1.imp1 hp, h2, t⟩
theorem Sl.imp2 {w0 w : World} {r p q : Part} {l : List Part} (h : Sl w0 w (r :: p :: l)) (hp : ∀ A, p.P w A → q.P w A) : Sl w0 w (r :: q :: l) :=
  ((h.perm (List.Perm.swap _ _ _)).imp1 hp).perm (List.Perm.swap _ _ _)
/-- a twin: what is told to the book is without the mark -/
theorem sl_twin {w : World} {T : TypeId} {a : Option Addr} {n c : Nat} {vs : List Value} {v : Value} {A : Nat → Prop} (h : (Part.sl T a (n + 1) c (vs ++ [v])).P w A) : (Part.sl T a n c vs).P w A := by
  have h1 := sl_cut h (Nat.le_succ n)
  have hl := (sl_len h).1
  have : (vs ++ [v]).take n = vs := by
    rw [List.length_append] at hl
    have h2 : vs.length = n := by simpa using hl
    rw [← h2, List.take_left]
  rw [this] at h1
  exact h1
theorem born_own {w w' : World} {T : TypeId} {a : Option Addr} {n c : Nat} {vs : List Value} (t : Touch No w w') (h : Own w' w.heap.size T (.slice a n c) vs) : Born w (Part.sl T a n c vs) w' := by
  obtain ⟨a', c', e, hc, _⟩ := h.form
  cases e
  exact born_sl t (Nat.le_refl _) h hc (Nat.le_refl _)
theorem rd_pre {w : World} {a : Option Addr} {vs us : List Value} (h : Rd w a (vs ++ us)) : Rd w a vs := fun i v hi => h i v (by
  have hlt : i < vs.length := by
    rcases Nat.lt_or_ge i vs.length with h | h
    · exact h
    · rw [List.getElem?_eq_none h] at hi; cases hi
  rw [List.getElem?_append_left hlt]; exact hi)
theorem bkOkB_nil : BkOkB [] := ⟨Nat.zero_le _, (fun e h => by cases h), fun e h => by cases h⟩
theorem bkOk_nil : BkOk [] := ⟨Nat.zero_le _, (fun e h => by cases h), fun e h => by cases h⟩
end Go.Proofs.Ytkiehoboeiengaa
