/-
  Slices with room of their own, as parts; a book's lists. No program in sight.
  A book: its cells, its lists, what is held. No program in sight.
  Package drydocklaw01 by its own text: a book is told of bytes.
  A book as one part: what it has been told of lies in blocks of its own.
  Package drydocklaw01 by its own text: Book.Bytes.
  Package drydocklaw01 by its own text: a book is told of bytes.
  Package drydocklaw01 by its own text: a book is told of bytes.
  Package drydocklaw01 by its own text: Book.Numbers, Book.Ids.
-/
import Derived.Test.YtkiehoboeiengaaK18
import Derived.ArgAppend
import Derived.Laws.OwnMore
import Derived.Test.YtkiehoboeiengaaK09
namespace Go.Proofs.Ytkiehoboeiengaa
open Go Go.RowKit
set_option linter.unusedVariables false

/-- room for cap cells at a -/
def RoomAt (w : World) (T : TypeId) (a : Option Addr) (cap : Nat) (vs : List Value) (O : Nat → Prop) : Prop :=
  cap = 0 ∨ ∃ g o cs, a = some ⟨g, o, none⟩ ∧ w.heap[g]? = some (.cells cs T (0, 0)) ∧ o + cap ≤ cs.size ∧ O g ∧ ∀ (i : Nat) v, vs[i]? = some v → cs[o + i]? = some v
/-- a slice with its room, that reads so -/
def Part.sl (T : TypeId) (a : Option Addr) (n cap : Nat) (vs : List Value) : Part where
  P w O := vs.length = n ∧ n ≤ cap ∧ cap ≤ maxLen ∧ (∀ k, O k → k < w.heap.size) ∧ RoomAt w T a cap vs O
  stable := fun {F w w' O} ⟨h1, h2, h3, h4, h5⟩ t hF => ⟨h1, h2, h3, fun k hk => Nat.lt_of_lt_of_le (h4 k hk) t.size, by
    rcases h5 with h5 | ⟨g, o, cs, ha, hg, hc, hO, hv⟩
    · exact Or.inl h5
    · exact Or.inr ⟨g, o, cs, ha, by rw [t.block g (h4 g hO) (hF g hO)]; exact hg, hc, hO, hv⟩⟩
  lt := fun {w O} h => h.2.2.2.1
section
variable {w w' : World} {T : TypeId} {a : Option Addr} {n cap : Nat} {vs : List Value} {O : Nat → Prop}
theorem sl_len (h : (Part.sl T a n cap vs).P w O) : vs.length = n ∧ n ≤ cap ∧ cap ≤ maxLen := ⟨h.1, h.2.1, h.2.2.1⟩
theorem sl_rd (h : (Part.sl T a n cap vs).P w O) : Rd w a vs := by
  obtain ⟨h1, h2, h3, h4, h5⟩ := h
  intro i v hi
  have hlt : i < vs.length := by
    rcases Nat.lt_or_ge i vs.length with h | h
    · exact h
    · rw [List.getElem?_eq_none h] at hi; cases hi
  rcases h5 with h5 | ⟨g, o, cs, rfl, hg, hc, hO, hv⟩
  · omega
  · exact ⟨g, o, rfl, by simp only [World.cell?, hg]; simpa using hv i v hi⟩
theorem sl_cut {m : Nat} (h : (Part.sl T a n cap vs).P w O) (hm : m ≤ n) : (Part.sl T a m cap (vs.take m)).P w O := by
  obtain ⟨h1, h2, h3, h4, h5⟩ := h
  refine ⟨by rw [List.length_take]; omega, by omega, h3, h4, ?_⟩
  rcases h5 with h5 | ⟨g, o, cs, ha, hg, hc, hO, hv⟩
  · exact Or.inl h5
  · refine Or.inr ⟨g, o, cs, ha, hg, hc, hO, fun i v hi => ?_⟩
    rw [List.getElem?_take] at hi
    split at hi
    · exact hv i v hi
    · cases hi
/-- new memory of a call's own -/
theorem born_sl {base c : Nat} (t : Touch No w w') (hb : w.heap.size ≤ base) (h : Own w' base T (.slice a n c) vs) (hc : n ≤ cap) (hc' : cap ≤ c) : Born w (.sl T a n cap vs) w' := by
  obtain ⟨hl, h⟩ := h
  rcases h with ⟨hv, h0⟩ | ⟨g, cp, cur, hv, hg, hh, hn, hm, hs, ht⟩
  · cases hv
    exact ⟨t, fun _ => False, ⟨h0, hc, by omega, fun _ f => f.elim, Or.inl (by omega)⟩, fun _ f => f.elim⟩
  · cases hv
    have hgs : g < w'.heap.size := (Array.getElem?_eq_some_iff.1 hh).1
    refine ⟨t, fun k => k = g, ⟨by omega, hc, by omega, fun k hk => by rw [hk]; exact hgs, Or.inr ⟨g, 0, cur, rfl, hh, by omega, rfl, fun i v hi => ?_⟩⟩, fun k hk => by rw [hk]; omega⟩
    rw [← ht, List.getElem?_take] at hi
    split at hi
    · rw [Nat.zero_add]; simpa using hi
    · cases hi
theorem row_at {g : Nat} {cs : Array Value} (h : w.heap[g]? = some (.cells cs T (0, 0))) : Row w g T cs.toList := by
  rw [Row, Array.toArray_toList]; exact h
/-- one cell of it, written anew -/
theorem sl_set {i : Nat} (h : (Part.sl T a n cap vs).P w O) (hi : i < n) (v : Value) : ∃ g o, a = some ⟨g, o, none⟩ ∧ O g ∧ w.frozen? ⟨g, o + i, none⟩ = false ∧ (∃ u, w.cell? ⟨g, o + i, none⟩ = some u) ∧
    (Part.sl T a n cap (vs.set i v)).P (w.setCell ⟨g, o + i, none⟩ v) O ∧ Touch O w (w.setCell ⟨g, o + i, none⟩ v) := by
  obtain ⟨h1, h2, h3, h4, h5⟩ := h
  rcases h5 with h5 | ⟨g, o, cs, rfl, hg, hc, hO, hv⟩
  · omega
  · have hR := row_at hg
    have hR' := hR.setCell (o + i) v
    refine ⟨g, o, rfl, hO, hR.soft _, ?_, ?_, (Touch.refl O w).setCell (p := ⟨g, o + i, none⟩) (fun _ => hO) v⟩
    · refine ⟨cs[o + i]'(by omega), ?_⟩
      rw [hR.cell]; simp [Array.getElem?_eq_getElem (show o + i < cs.size by omega)]
    · refine ⟨by rw [List.length_set]; exact h1, h2, h3, fun k hk => by have := h4 k hk; simpa [World.setCell] using this, Or.inr ⟨g, o, (cs.toList.set (o + i) v).toArray, rfl, ?_, by simp; exact hc, hO, fun j u hj => ?_⟩⟩
      · exact hR'
      · rw [List.getElem?_set] at hj
        simp only [List.getElem?_toArray, List.getElem?_set]
        by_cases e : i = j
        · subst e
          rw [if_pos rfl] at hj ⊢
          split at hj
          · cases hj
            rw [if_pos (by simp; omega)]
          · cases hj
        · rw [if_neg e] at hj
          rw [if_neg (by omega)]
          simpa using hv j u hj
end
end Go.Proofs.Ytkiehoboeiengaa
namespace Go.Proofs.Ytkiehoboeiengaa
open Go Go.RowKit
set_option linter.unusedVariables false

/-- a list that a book holds, and its number -/
structure HE where
  a : Option Addr
  n : Nat
  c : Nat
  k : Nat
/-- its three cells; the middle one: what became of it -/
def HE.cells (e : HE) (long : Value) : List Value := [.slice e.a e.n e.c, long, .int .i64 (e.k : Nat)]
theorem HE.cells_length (e : HE) (v : Value) : (e.cells v).length = 3 := rfl
def heCells (B : List HE) (ls : List Value) : List Value := (B.zip ls).flatMap fun x => x.1.cells x.2
def nilSl : Value := .slice none 0 0
/-- nothing has become of these yet -/
def heNew (B : List HE) : List Value := B.flatMap fun e => e.cells nilSl
theorem flat3_length {α : Type} (f : α → List Value) (hf : ∀ x, (f x).length = 3) (l : List α) : (l.flatMap f).length = l.length * 3 := by
  induction l with
  | nil => rfl
  | cons x r ih => rw [List.flatMap_cons, List.length_append, ih, hf, List.length_cons]; omega
theorem heNew_length (B : List HE) : (heNew B).length = B.length * 3 := flat3_length _ (fun e => e.cells_length _) B
theorem heNew_snoc (B : List HE) (e : HE) : heNew (B ++ [e]) = heNew B ++ e.cells nilSl := by simp [heNew]
theorem heNew_one (B : List HE) : ∀ u ∈ heNew B, u.oneCell' = true := by
  intro u hu
  obtain ⟨e, _, he⟩ := List.mem_flatMap.1 hu
  simp only [HE.cells, List.mem_cons, List.not_mem_nil, or_false] at he
  rcases he with rfl | rfl | rfl <;> rfl
/-- the book's own cells -/
def bookCells (n : Nat) (vB vI vN vD : Value) : List Value := .int .i64 (n : Nat) :: vB :: vI :: vN :: vD :: List.replicate 11 nilSl
/-- a row of three cells an element -/
def Part.arr (T : TypeId) (v : Value) (m : Nat) (cs : List Value) : Part where
  P w O := w.ownsRow 0 T 3 v m cs ∧ (∀ k, InBlock v k → O k) ∧ ∀ k, O k → k < w.heap.size
  stable := fun {F w w' O} ⟨h1, h2, h3⟩ t hF => by
    refine ⟨?_, h2, fun k hk => Nat.lt_of_lt_of_le (h3 k hk) t.size⟩
    obtain ⟨hl, hh⟩ := h1
    refine ⟨hl, hh.imp id ?_⟩
    rintro ⟨g, cap, cur, rfl, hg, hgt, q⟩
    exact ⟨g, cap, cur, rfl, hg, by rw [t.block g (Array.getElem?_eq_some_iff.1 hgt).1 (hF g (h2 g rfl))]; exact hgt, q⟩
  lt := fun {w O} h => h.2.2
theorem arr_nil (w : World) (T : TypeId) : (Part.arr T nilSl 0 []).P w (fun _ => False) := ⟨⟨rfl, Or.inl ⟨rfl, rfl⟩⟩, ⟨(fun k h => by cases h), fun _ f => f.elim⟩⟩
/-- a slice whose cells nobody asks -/
def Part.room (T : TypeId) (e : HE) : Part where
  P w O := ∃ vs, (Part.sl T e.a e.n e.c vs).P w O
  stable := fun {F w w' O} ⟨vs, h⟩ t hF => ⟨vs, (Part.sl T e.a e.n e.c vs).stable h t hF⟩
  lt := fun {w O} ⟨vs, h⟩ => (Part.sl T e.a e.n e.c vs).lt h
/-- slices that read so -/
def Part.full (T : TypeId) (mk : Nat → Value) (e : HE) : Part := Part.sl T e.a e.n e.c (List.replicate e.n (mk e.k))
end Go.Proofs.Ytkiehoboeiengaa
namespace Go.Proofs.Ytkiehoboeiengaa
open Go Go.RowKit
set_option linter.unusedSimpArgs false

end Go.Proofs.Ytkiehoboeiengaa
namespace Go.Proofs.Ytkiehoboeiengaa
open Go Go.RowKit
set_option linter.unusedVariables false

theorem TurnsL.wrap {w w' : World} {A : Nat → Prop} {l : List Part} {p : Part} (h : TurnsL w A l w') (hp : ∀ O, Al w' l O → (∀ k, O k → k < w'.heap.size) → p.P w' O) : TurnsL w A [p] w' := by
  obtain ⟨t, O', h1, h2⟩ := h
  refine ⟨t, fun k => O' k ∧ k < w'.heap.size, ⟨fun k => O' k ∧ k < w'.heap.size, fun _ => False, hp _ h1.cut (fun k hk => hk.2), trivial, fun _ _ f => f, fun _ h => h, fun _ f => f.elim⟩, fun k hk => h2 k hk.1⟩
theorem Al.swap2 {w : World} {p q : Part} {l : List Part} {O : Nat → Prop} (h : Al w (p :: q :: l) O) : Al w (q :: p :: l) O := h.perm (List.Perm.swap _ _ _)
/-- one part for another -/
theorem Al.imp1 {w : World} {p q : Part} {l : List Part} {O : Nat → Prop} (h : Al w (p :: l) O) (hp : ∀ A, p.P w A → q.P w A) : Al w (q :: l) O := by
  obtain ⟨A, B, ha, hb, hd, h1, h2⟩ := h
  exact ⟨A, B, hp A ha, hb, hd, h1, h2⟩
/-- a list joins those of its kind -/
theorem perm_in {α : Type} (l1 B R : List α) (x : α) : (l1 ++ (B ++ R) ++ [x]).Perm (l1 ++ ((B ++ [x]) ++ R)) := by
  rw [List.append_assoc l1]
  refine List.Perm.append_left l1 ?_
  rw [List.append_assoc, List.append_assoc]
  exact List.Perm.append_left B List.perm_append_comm
end Go.Proofs.Ytkiehoboeiengaa
namespace Go.Proofs.Ytkiehoboeiengaa
open Go Go.RowKit
set_option linter.unusedSimpArgs false

end Go.Proofs.Ytkiehoboeiengaa
namespace Go.Proofs.Ytkiehoboeiengaa
open Go Go.RowKit
set_option linter.unusedSimpArgs false

end Go.Proofs.Ytkiehoboeiengaa
namespace Go.Proofs.Ytkiehoboeiengaa
open Go Go.RowKit
set_option linter.unusedSimpArgs false

end Go.Proofs.Ytkiehoboeiengaa
namespace Go.Proofs.Ytkiehoboeiengaa
open Go Go.RowKit
set_option linter.unusedSimpArgs false

theorem permN {α : Type} (a b c d : α) (t : List α) : (a :: b :: c :: d :: t).Perm (a :: d :: b :: c :: t) := (((List.Perm.swap d c t).cons b).trans (List.Perm.swap d b _)).cons a
theorem permD {α : Type} (a b c d e : α) (t : List α) : (a :: b :: c :: d :: e :: t).Perm (a :: e :: b :: c :: d :: t) := ((permN b c d e t).trans (List.Perm.swap e b _)).cons a
/-- the row of a book and one of its arrays, one element longer -/
theorem two_turn {w w' : World} {F : Nat → Prop} {g : Nat} {TB TH : TypeId} {cs cs' : List Value} {v v' : Value} {m m' : Nat} {xs xs' : List Value} (hF : Al w [Part.row g TB cs, Part.arr TH v m xs] F)
    (hrow' : Row w' g TB cs') (hown : w'.ownsRow 0 TH 3 v' m' xs') (ht : Touch (fun k => k = g ∨ InBlock v k) w w') (hin' : ∀ k, InBlock v' k → InBlock v k ∨ w.heap.size ≤ k) : TurnsL w F [Part.row g TB cs', Part.arr TH v' m' xs'] w' := by
  obtain ⟨R1, R2, ⟨hrow, hg, _⟩, ⟨R3, _, ⟨harr, hin, _⟩, _, _, hR3, _⟩, hdR, hRF, hRF2⟩ := hF
  refine ⟨ht.mono (fun k _ hk => ?_), fun k => k = g ∨ InBlock v' k, ⟨fun k => k = g, InBlock v', ⟨hrow', rfl, fun k hk => by rw [hk]; exact hrow'.lt⟩, ⟨InBlock v', fun _ => False, ⟨hown, fun _ h => h, fun k hk => (rowBlock hown hk).2⟩, trivial, fun _ _ f => f, fun _ h => h, fun _ f => f.elim⟩, fun k hk hb => ?_, fun k hk => Or.inl hk, fun k hk => Or.inr hk⟩, fun k hk => ?_⟩
  · rcases hk with rfl | hk
    · exact hRF _ hg
    · exact hRF2 k (hR3 k (hin k hk))
  · rw [hk] at hb
    rcases hin' g hb with h | h
    · exact hdR g hg (hR3 g (hin g h))
    · have := hrow.lt; omega
  · rcases hk with rfl | hk
    · exact Or.inl (hRF _ hg)
    · exact (hin' k hk).imp (fun h => hRF2 k (hR3 k (hin k h))) id
theorem two_get {w : World} {F : Nat → Prop} {g : Nat} {TB TH : TypeId} {cs : List Value} {v : Value} {m : Nat} {xs : List Value} (hF : Al w [Part.row g TB cs, Part.arr TH v m xs] F) : Row w g TB cs ∧ w.ownsRow 0 TH 3 v m xs ∧ ¬ InBlock v g := by
  obtain ⟨R1, R2, ⟨hrow, hg, _⟩, ⟨R3, _, ⟨harr, hin, _⟩, _, _, hR3, _⟩, hdR, hRF, hRF2⟩ := hF
  exact ⟨hrow, harr, fun h => hdR g hg (hR3 g (hin g h))⟩
end Go.Proofs.Ytkiehoboeiengaa
