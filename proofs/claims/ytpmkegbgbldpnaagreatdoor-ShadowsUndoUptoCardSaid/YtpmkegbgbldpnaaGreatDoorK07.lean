/-
  States that stand beside each other, as a list that may be put in another order. No program in sight.
  Slices with room of their own, as parts; a book's lists. No program in sight.
  A book: its cells, its lists, what is held. No program in sight.
  Package drydocklaw01 by its own text: a book is told of bytes.
  A book as one part: what it has been told of lies in blocks of its own.
  Package drydocklaw01 by its own text: Book.Bytes.
-/
import Derived.Test.YtpmkegbgbldpnaaGreatDoorK06
import Derived.ArgAppend
import Derived.Laws.OwnMore
import Derived.Test.YtpmkegbgbldpnaaGreatDoorK04
namespace Go.Proofs.YtpmkegbgbldpnaaGreatDoor
open Go Go.RowKit
set_option linter.unusedVariables false

/-- these, each in blocks of its own, all of which are O's -/
def Al (w : World) : List Part → (Nat → Prop) → Prop
  | [], _ => True
  | p :: l, O => ∃ A B, p.P w A ∧ Al w l B ∧ (∀ k, A k → ¬ B k) ∧ (∀ k, A k → O k) ∧ ∀ k, B k → O k
section
variable {w w' : World} {l m : List Part} {O O' : Nat → Prop}
theorem Al.mono (h : Al w l O) (hO : ∀ k, O k → O' k) : Al w l O' := by
  cases l with
  | nil => trivial
  | cons p l =>
    obtain ⟨A, B, ha, hb, hd, h1, h2⟩ := h
    exact ⟨A, B, ha, hb, hd, fun k hk => hO k (h1 k hk), fun k hk => hO k (h2 k hk)⟩
theorem Al.stable {F : Nat → Prop} (t : Touch F w w') : ∀ {l : List Part} {O : Nat → Prop}, Al w l O → (∀ k, O k → ¬ F k) → Al w' l O
  | [], _, _, _ => trivial
  | p :: l, O, ⟨A, B, ha, hb, hd, h1, h2⟩, hF => ⟨A, B, p.stable ha t (fun k hk => hF k (h1 k hk)), Al.stable t hb (fun k hk => hF k (h2 k hk)), hd, h1, h2⟩
theorem Al.no (t : Touch No w w') (h : Al w l O) : Al w' l O := Al.stable t h (fun _ _ f => f)
/-- no more blocks than there are -/
theorem Al.cut : ∀ {l : List Part} {O : Nat → Prop}, Al w l O → Al w l (fun k => O k ∧ k < w.heap.size)
  | [], _, _ => trivial
  | p :: l, O, ⟨A, B, ha, hb, hd, h1, h2⟩ => ⟨A, _, ha, Al.cut hb, fun k hk h => hd k hk h.1, fun k hk => ⟨h1 k hk, p.lt ha k hk⟩, fun k hk => ⟨h2 k hk.1, hk.2⟩⟩
theorem Al.append : ∀ {l m : List Part} {O : Nat → Prop}, Al w (l ++ m) O → ∃ A B, Al w l A ∧ Al w m B ∧ (∀ k, A k → ¬ B k) ∧ (∀ k, A k → O k) ∧ ∀ k, B k → O k
  | [], m, O, h => ⟨fun _ => False, O, trivial, h, fun _ f => f.elim, fun _ f => f.elim, fun _ h => h⟩
  | p :: l, m, O, ⟨A, B, ha, hb, hd, h1, h2⟩ => by
    obtain ⟨C, D, hc, hdd, hcd, h3, h4⟩ := Al.append hb
    refine ⟨fun k => A k ∨ C k, D, ⟨A, C, ha, hc, fun k hk h => hd k hk (h3 k h), fun k => Or.inl, fun k => Or.inr⟩, hdd, fun k hk h => ?_, fun k hk => ?_, fun k hk => h2 k (h4 k hk)⟩
    · rcases hk with hk | hk
      · exact hd k hk (h4 k h)
      · exact hcd k hk h
    · rcases hk with hk | hk
      · exact h1 k hk
      · exact h2 k (h3 k hk)
theorem Al.join : ∀ {l m : List Part} {A B O : Nat → Prop}, Al w l A → Al w m B → (∀ k, A k → ¬ B k) → (∀ k, A k → O k) → (∀ k, B k → O k) → Al w (l ++ m) O
  | [], m, A, B, O, _, hb, _, _, h2 => hb.mono h2
  | p :: l, m, A, B, O, ⟨C, D, hc, hd, hcd, h3, h4⟩, hb, hdis, h1, h2 => by
    refine ⟨C, fun k => D k ∨ B k, hc, Al.join hd hb (fun k hk => hdis k (h4 k hk)) (fun k => Or.inl) (fun k => Or.inr), fun k hk h => ?_, fun k hk => h1 k (h3 k hk), fun k hk => ?_⟩
    · rcases h with h | h
      · exact hcd k hk h
      · exact hdis k (h3 k hk) h
    · rcases hk with hk | hk
      · exact h1 k (h4 k hk)
      · exact h2 k hk
theorem Al.perm (h : l.Perm m) : ∀ {O : Nat → Prop}, Al w l O → Al w m O := by
  induction h with
  | nil => intro O h; exact h
  | cons p _ ih => rintro O ⟨A, B, ha, hb, hd, h1, h2⟩; exact ⟨A, B, ha, ih hb, hd, h1, h2⟩
  | swap p q l =>
    rintro O ⟨A, B, ha, ⟨C, D, hc, hdd, hcd, h3, h4⟩, hd, h1, h2⟩
    refine ⟨C, fun k => A k ∨ D k, hc, ⟨A, D, ha, hdd, fun k hk h => hd k hk (h4 k h), fun k => Or.inl, fun k => Or.inr⟩, fun k hk h => ?_, fun k hk => h2 k (h3 k hk), fun k hk => ?_⟩
    · rcases h with h | h
      · exact hd k h (h3 k hk)
      · exact hcd k hk h
    · rcases hk with hk | hk
      · exact h1 k hk
      · exact h2 k (h4 k hk)
  | trans _ _ ih1 ih2 => intro O h; exact ih2 (ih1 h)
theorem Al.head {p : Part} (h : Al w (p :: l) O) : ∃ A, p.P w A ∧ ∀ k, A k → O k := by
  obtain ⟨A, B, ha, _, _, h1, _⟩ := h
  exact ⟨A, ha, h1⟩
theorem Al.tail {p : Part} (h : Al w (p :: l) O) : Al w l O := by
  obtain ⟨A, B, _, hb, _, _, h2⟩ := h
  exact hb.mono h2
theorem Al.mem {p : Part} : ∀ {l : List Part} {O : Nat → Prop}, Al w l O → p ∈ l → ∃ A, p.P w A ∧ ∀ k, A k → O k
  | q :: l, O, h, hp => by
    rcases List.mem_cons.1 hp with rfl | hp
    · exact h.head
    · exact Al.mem h.tail hp
end

/-- in their blocks, and in new ones, these became those -/
def TurnsL (w : World) (O : Nat → Prop) (l' : List Part) (w' : World) : Prop := Touch O w w' ∧ ∃ O', Al w' l' O' ∧ ∀ k, O' k → O k ∨ w.heap.size ≤ k
theorem TurnsL.no {w w1 w2 : World} {O : Nat → Prop} {l : List Part} (h : TurnsL w O l w1) (t : Touch No w1 w2) : TurnsL w O l w2 := by
  obtain ⟨t1, O', h1, h2⟩ := h
  exact ⟨t1.then t (fun _ _ f => f.elim), O', h1.no t, h2⟩
theorem TurnsL.then {w w1 w2 : World} {O : Nat → Prop} {l l2 : List Part} (h : TurnsL w O l w1) (k : ∀ O', Al w1 l O' → (∀ k, O' k → O k ∨ w.heap.size ≤ k) → TurnsL w1 O' l2 w2) : TurnsL w O l2 w2 := by
  obtain ⟨t1, O1, h1, h2⟩ := h
  obtain ⟨t2, O2, h3, h4⟩ := k O1 h1 h2
  refine ⟨t1.then t2 (fun i hi hO => (h2 i hO).elim id (fun h => absurd hi (Nat.not_lt.2 h))), O2, h3, fun i hi => ?_⟩
  rcases h4 i hi with h | h
  · exact h2 i h
  · exact Or.inr (Nat.le_trans t1.size h)
theorem TurnsL.same {w : World} {O : Nat → Prop} {l : List Part} (h : Al w l O) : TurnsL w O l w := ⟨Touch.refl _ _, O, h, fun _ h => Or.inl h⟩
theorem TurnsL.perm {w w' : World} {O : Nat → Prop} {l m : List Part} (h : TurnsL w O l w') (hp : l.Perm m) : TurnsL w O m w' := by
  obtain ⟨t, O', h1, h2⟩ := h
  exact ⟨t, O', h1.perm hp, h2⟩
theorem TurnsL.pre {w w1 w2 : World} {O : Nat → Prop} {l : List Part} (t : Touch No w w1) (h : TurnsL w1 O l w2) : TurnsL w O l w2 := by
  obtain ⟨t1, O', h1, h2⟩ := h
  exact ⟨(t.no : Touch O w w1).then t1 (fun _ _ h => h), O', h1, fun k hk => (h2 k hk).imp id (fun h => Nat.le_trans t.size h)⟩
/-- .. whatever stands beside them -/
theorem Al.frame {w : World} {l m : List Part} {O : Nat → Prop} (h : Al w (l ++ m) O) : ∃ A, Al w l A ∧ (∀ k, A k → O k) ∧ ∀ w' l', TurnsL w A l' w' → TurnsL w O (l' ++ m) w' := by
  obtain ⟨A, B, ha, hb, hd, h1, h2⟩ := h.append
  refine ⟨A, ha, h1, fun w' l' ht => ?_⟩
  obtain ⟨t, A', ha', hin⟩ := ht
  refine ⟨t.mono (fun k _ hk => h1 k hk), fun k => A' k ∨ (B k ∧ k < w.heap.size), Al.join ha' (Al.stable t hb.cut (fun k hk f => hd k f hk.1)) (fun k hk hB => ?_) (fun k => Or.inl) (fun k => Or.inr), fun k hk => ?_⟩
  · rcases hin k hk with h | h
    · exact hd k h hB.1
    · have := hB.2
      omega
  · rcases hk with hk | hk
    · exact (hin k hk).imp (h1 k) id
    · exact Or.inl (h2 k hk.1)
/-- these, made since w0 -/
def Sl (w0 w : World) (l : List Part) : Prop := ∃ O, Al w l O ∧ (∀ k, O k → w0.heap.size ≤ k ∧ k < w.heap.size) ∧ Touch No w0 w
section
variable {w0 w w' : World} {l m : List Part}
theorem Sl.end (h : Sl w0 w l) : Touch No w0 w := by obtain ⟨O, _, _, t⟩ := h; exact t
theorem Sl.nil (t : Touch No w0 w) : Sl w0 w [] := ⟨fun _ => False, trivial, fun _ f => f.elim, t⟩
theorem Sl.no (h : Sl w0 w l) (t : Touch No w w') : Sl w0 w' l := by
  obtain ⟨O, h1, h2, t0⟩ := h
  exact ⟨O, h1.no t, fun k hk => ⟨(h2 k hk).1, Nat.lt_of_lt_of_le (h2 k hk).2 t.size⟩, t0.trans t⟩
theorem Sl.perm (h : Sl w0 w l) (hp : l.Perm m) : Sl w0 w m := by
  obtain ⟨O, h1, h2, t0⟩ := h
  exact ⟨O, h1.perm hp, h2, t0⟩
theorem Sl.mem (h : Sl w0 w l) {p : Part} (hp : p ∈ l) : ∃ A, p.P w A ∧ ∀ k, A k → w0.heap.size ≤ k ∧ k < w.heap.size := by
  obtain ⟨O, h1, h2, _⟩ := h
  obtain ⟨A, ha, hA⟩ := h1.mem hp
  exact ⟨A, ha, fun k hk => h2 k (hA k hk)⟩
theorem Sl.frame (h : Sl w0 w (l ++ m)) : ∃ A, Al w l A ∧ (∀ k, A k → w0.heap.size ≤ k ∧ k < w.heap.size) ∧ ∀ w' l', TurnsL w A l' w' → Sl w0 w' (l' ++ m) := by
  obtain ⟨O, h1, h2, t0⟩ := h
  obtain ⟨A, ha, hA, hf⟩ := h1.frame
  refine ⟨A, ha, fun k hk => h2 k (hA k hk), fun w' l' ht => ?_⟩
  obtain ⟨t, O', hO', hin⟩ := hf w' l' ht
  refine ⟨_, hO'.cut, fun k hk => ⟨?_, hk.2⟩, t0.then t (fun i hi f => absurd hi (Nat.not_lt.2 (h2 i f).1))⟩
  rcases hin k hk.1 with h | h
  · exact (h2 k h).1
  · exact Nat.le_trans t0.size h
theorem Sl.push (h : Sl w0 w l) {p : Part} (b : Born w p w') : Sl w0 w' (p :: l) := by
  obtain ⟨O, h1, h2, t0⟩ := h
  obtain ⟨t, A, ha, hge⟩ := b
  have hs := t.size
  refine ⟨fun k => A k ∨ O k, ⟨A, O, ha, h1.no t, fun k hk ho => ?_, fun k => Or.inl, fun k => Or.inr⟩, fun k hk => ?_, t0.trans t⟩
  · have := hge k hk
    have := (h2 k ho).2
    omega
  · rcases hk with hk | hk
    · exact ⟨Nat.le_trans t0.size (hge k hk), p.lt ha k hk⟩
    · exact ⟨(h2 k hk).1, Nat.lt_of_lt_of_le (h2 k hk).2 hs⟩
theorem Sl.drop {p : Part} (h : Sl w0 w (p :: l)) : Sl w0 w l := by
  obtain ⟨O, h1, h2, t0⟩ := h
  exact ⟨O, h1.tail, h2, t0⟩
end
end Go.Proofs.YtpmkegbgbldpnaaGreatDoor
namespace Go.Proofs.YtpmkegbgbldpnaaGreatDoor
open Go Go.RowKit
set_option linter.unusedVariables false

/-- room for cap cells at a -/
def RoomAt (w : World) (T : TypeId) (a : Option Addr) (cap : Nat) (vs : List Value) (O : Nat → Prop) : Prop :=
  cap = 0 ∨ ∃ g o cs, a = some ⟨g, o, none⟩ ∧ w.heap[g]? = some (.cells cs T (0, 0)) ∧ o + cap ≤ cs.size ∧ O g ∧ ∀ (i : Nat) v, vs[i]? = some v → cs[o + i]? = some v
/-- a slice with its room, that reads so -/
def Part.sl (T : TypeId) (a : Option Addr) (n cap : Nat) (vs : List Value) : Part where
  P w O := vs.length = n ∧ n ≤ cap ∧ cap ≤ maxLen ∧ (∀ k, O k → k < w.heap.size) ∧ RoomAt w T a cap vs O
  stable := fun {F w w' O} ⟨h1, h2, h3, h4, h5⟩ t hF => ⟨h1, h2, h3, fun k hk => Nat.lt_of_lt_of_le (h4 k hk) t.size, by
    rcases h5 with h5 | ⟨g, o, cs, ha, hg, hc, hO, hv⟩
    · exact Or.inl h5
    · exact Or.inr ⟨g, o, cs, ha, by rw [t.block g (h4 g hO) (hF g hO)]; exact hg, hc, hO, hv⟩⟩
  lt := fun {w O} h => h.2.2.2.1
section
variable {w w' : World} {T : TypeId} {a : Option Addr} {n cap : Nat} {vs : List Value} {O : Nat → Prop}
theorem sl_len (h : (Part.sl T a n cap vs).P w O) : vs.length = n ∧ n ≤ cap ∧ cap ≤ maxLen := ⟨h.1, h.2.1, h.2.2.1⟩
theorem sl_rd (h : (Part.sl T a n cap vs).P w O) : Rd w a vs := by
  obtain ⟨h1, h2, h3, h4, h5⟩ := h
  intro i v hi
  have hlt : i < vs.length := by
    rcases Nat.lt_or_ge i vs.length with h | h
    · exact h
    · rw [List.getElem?_eq_none h] at hi; cases hi
  rcases h5 with h5 | ⟨g, o, cs, rfl, hg, hc, hO, hv⟩
  · omega
  · exact ⟨g, o, rfl, by simp only [World.cell?, hg]; simpa using hv i v hi⟩
/-- new memory of a call's own -/
theorem born_sl {base c : Nat} (t : Touch No w w') (hb : w.heap.size ≤ base) (h : Own w' base T (.slice a n c) vs) (hc : n ≤ cap) (hc' : cap ≤ c) : Born w (.sl T a n cap vs) w' := by
  obtain ⟨hl, h⟩ := h
  rcases h with ⟨hv, h0⟩ | ⟨g, cp, cur, hv, hg, hh, hn, hm, hs, ht⟩
  · cases hv
    exact ⟨t, fun _ => False, ⟨h0, hc, by omega, fun _ f => f.elim, Or.inl (by omega)⟩, fun _ f => f.elim⟩
  · cases hv
    have hgs : g < w'.heap.size := (Array.getElem?_eq_some_iff.1 hh).1
    refine ⟨t, fun k => k = g, ⟨by omega, hc, by omega, fun k hk => by rw [hk]; exact hgs, Or.inr ⟨g, 0, cur, rfl, hh, by omega, rfl, fun i v hi => ?_⟩⟩, fun k hk => by rw [hk]; omega⟩
    rw [← ht, List.getElem?_take] at hi
    split at hi
    · rw [Nat.zero_add]; simpa using hi
    · cases hi
theorem row_at {g : Nat} {cs : Array Value} (h : w.heap[g]? = some (.cells cs T (0, 0))) : Row w g T cs.toList := by
  rw [Row, Array.toArray_toList]; exact h
/-- one cell of it, written anew -/
theorem sl_set {i : Nat} (h : (Part.sl T a n cap vs).P w O) (hi : i < n) (v : Value) : ∃ g o, a = some ⟨g, o, none⟩ ∧ O g ∧ w.frozen? ⟨g, o + i, none⟩ = false ∧ (∃ u, w.cell? ⟨g, o + i, none⟩ = some u) ∧
    (Part.sl T a n cap (vs.set i v)).P (w.setCell ⟨g, o + i, none⟩ v) O ∧ Touch O w (w.setCell ⟨g, o + i, none⟩ v) := by
  obtain ⟨h1, h2, h3, h4, h5⟩ := h
  rcases h5 with h5 | ⟨g, o, cs, rfl, hg, hc, hO, hv⟩
  · omega
  · have hR := row_at hg
    have hR' := hR.setCell (o + i) v
    refine ⟨g, o, rfl, hO, hR.soft _, ?_, ?_, (Touch.refl O w).setCell (p := ⟨g, o + i, none⟩) (fun _ => hO) v⟩
    · refine ⟨cs[o + i]'(by omega), ?_⟩
      rw [hR.cell]; simp [Array.getElem?_eq_getElem (show o + i < cs.size by omega)]
    · refine ⟨by rw [List.length_set]; exact h1, h2, h3, fun k hk => by have := h4 k hk; simpa [World.setCell] using this, Or.inr ⟨g, o, (cs.toList.set (o + i) v).toArray, rfl, ?_, by simp; exact hc, hO, fun j u hj => ?_⟩⟩
      · exact hR'
      · rw [List.getElem?_set] at hj
        simp only [List.getElem?_toArray, List.getElem?_set]
        by_cases e : i = j
        · subst e
          rw [if_pos rfl] at hj ⊢
          split at hj
          · cases hj
            rw [if_pos (by simp; omega)]
          · cases hj
        · rw [if_neg e] at hj
          rw [if_neg (by omega)]
          simpa using hv j u hj
end
end Go.Proofs.YtpmkegbgbldpnaaGreatDoor
namespace Go.Proofs.YtpmkegbgbldpnaaGreatDoor
open Go Go.RowKit
set_option linter.unusedVariables false

/-- a list that a book holds, and its number -/
structure HE where
  a : Option Addr
  n : Nat
  c : Nat
  k : Nat
/-- its three cells; the middle one: what became of it -/
def HE.cells (e : HE) (long : Value) : List Value := [.slice e.a e.n e.c, long, .int .i64 (e.k : Nat)]
theorem HE.cells_length (e : HE) (v : Value) : (e.cells v).length = 3 := rfl
def nilSl : Value := .slice none 0 0
/-- nothing has become of these yet -/
def heNew (B : List HE) : List Value := B.flatMap fun e => e.cells nilSl
theorem flat3_length {α : Type} (f : α → List Value) (hf : ∀ x, (f x).length = 3) (l : List α) : (l.flatMap f).length = l.length * 3 := by
  induction l with
  | nil => rfl
  | cons x r ih => rw [List.flatMap_cons, List.length_append, ih, hf, List.length_cons]; omega
theorem heNew_length (B : List HE) : (heNew B).length = B.length * 3 := flat3_length _ (fun e => e.cells_length _) B
theorem heNew_snoc (B : List HE) (e : HE) : heNew (B ++ [e]) = heNew B ++ e.cells nilSl := by simp [heNew]
/-- the book's own cells -/
def bookCells (n : Nat) (vB vI vN vD : Value) : List Value := .int .i64 (n : Nat) :: vB :: vI :: vN :: vD :: List.replicate 11 nilSl
/-- a row of three cells an element -/
def Part.arr (T : TypeId) (v : Value) (m : Nat) (cs : List Value) : Part where
  P w O := w.ownsRow 0 T 3 v m cs ∧ (∀ k, InBlock v k → O k) ∧ ∀ k, O k → k < w.heap.size
  stable := fun {F w w' O} ⟨h1, h2, h3⟩ t hF => by
    refine ⟨?_, h2, fun k hk => Nat.lt_of_lt_of_le (h3 k hk) t.size⟩
    obtain ⟨hl, hh⟩ := h1
    refine ⟨hl, hh.imp id ?_⟩
    rintro ⟨g, cap, cur, rfl, hg, hgt, q⟩
    exact ⟨g, cap, cur, rfl, hg, by rw [t.block g (Array.getElem?_eq_some_iff.1 hgt).1 (hF g (h2 g rfl))]; exact hgt, q⟩
  lt := fun {w O} h => h.2.2
/-- a slice whose cells nobody asks -/
def Part.room (T : TypeId) (e : HE) : Part where
  P w O := ∃ vs, (Part.sl T e.a e.n e.c vs).P w O
  stable := fun {F w w' O} ⟨vs, h⟩ t hF => ⟨vs, (Part.sl T e.a e.n e.c vs).stable h t hF⟩
  lt := fun {w O} ⟨vs, h⟩ => (Part.sl T e.a e.n e.c vs).lt h
/-- slices that read so -/
def Part.full (T : TypeId) (mk : Nat → Value) (e : HE) : Part := Part.sl T e.a e.n e.c (List.replicate e.n (mk e.k))
end Go.Proofs.YtpmkegbgbldpnaaGreatDoor
namespace Go.Proofs.YtpmkegbgbldpnaaGreatDoor
open Go Go.RowKit
set_option linter.unusedSimpArgs false

end Go.Proofs.YtpmkegbgbldpnaaGreatDoor
namespace Go.Proofs.YtpmkegbgbldpnaaGreatDoor
open Go Go.RowKit
set_option linter.unusedVariables false

def bookParts (g n : Nat) (vB vI vN vD : Value) (B I N D : List HE) : List Part :=
  Part.row g 88 (bookCells n vB vI vN vD) :: Part.arr 253 vB B.length (heNew B) :: Part.arr 256 vI I.length (heNew I) ::
    Part.arr 258 vN N.length (heNew N) :: Part.arr 251 vD D.length (heNew D) ::
    (B.map (Part.room 5) ++ (I.map (Part.room 3) ++ (N.map (Part.room 21) ++ D.map (Part.room 24))))
def Part.book (g n : Nat) (B I N D : List HE) : Part where
  P w O := (∃ vB vI vN vD, (I = [] → vI = nilSl) ∧ Al w (bookParts g n vB vI vN vD B I N D) O) ∧ ∀ k, O k → k < w.heap.size
  stable := fun {F w w' O} ⟨⟨vB, vI, vN, vD, h0, h⟩, hl⟩ t hF => ⟨⟨vB, vI, vN, vD, h0, Al.stable t h hF⟩, fun k hk => Nat.lt_of_lt_of_le (hl k hk) t.size⟩
  lt := fun {w O} h => h.2
theorem TurnsL.wrap {w w' : World} {A : Nat → Prop} {l : List Part} {p : Part} (h : TurnsL w A l w') (hp : ∀ O, Al w' l O → (∀ k, O k → k < w'.heap.size) → p.P w' O) : TurnsL w A [p] w' := by
  obtain ⟨t, O', h1, h2⟩ := h
  refine ⟨t, fun k => O' k ∧ k < w'.heap.size, ⟨fun k => O' k ∧ k < w'.heap.size, fun _ => False, hp _ h1.cut (fun k hk => hk.2), trivial, fun _ _ f => f, fun _ h => h, fun _ f => f.elim⟩, fun k hk => h2 k hk.1⟩
/-- a list joins those of its kind -/
theorem perm_in {α : Type} (l1 B R : List α) (x : α) : (l1 ++ (B ++ R) ++ [x]).Perm (l1 ++ ((B ++ [x]) ++ R)) := by
  rw [List.append_assoc l1]
  refine List.Perm.append_left l1 ?_
  rw [List.append_assoc, List.append_assoc]
  exact List.Perm.append_left B List.perm_append_comm
end Go.Proofs.YtpmkegbgbldpnaaGreatDoor
namespace Go.Proofs.YtpmkegbgbldpnaaGreatDoor
open Go Go.RowKit
set_option linter.unusedSimpArgs false

end Go.Proofs.YtpmkegbgbldpnaaGreatDoor
