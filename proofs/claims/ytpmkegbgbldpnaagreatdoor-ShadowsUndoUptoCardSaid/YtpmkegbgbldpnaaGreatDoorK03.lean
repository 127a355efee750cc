/-
  Lists by rising numbers: looked at, put, gone. No program in sight.
  Rows of many cells: whole arrays and structs loaded out of, and stored into, the middle of a block. No program in sight.
-/
import Derived.Test.YtpmkegbgbldpnaaGreatDoorK01
import Derived.Laws.Rows
import Derived.Laws.Tables
import Derived.Laws.CopyRow
namespace Go.Proofs.YtpmkegbgbldpnaaGreatDoor
open Go Go.RowKit
set_option linter.unusedVariables false
namespace Mp
section
variable {α : Type}
def look : List (Nat × α) → Nat → Option α
  | [], _ => none
  | (k, x) :: r, id => if k = id then some x else look r id
def put : List (Nat × α) → Nat → α → List (Nat × α)
  | [], id, x => [(id, x)]
  | (k, y) :: r, id, x => if id < k then (id, x) :: (k, y) :: r else if id = k then (id, x) :: r else (k, y) :: put r id x
def del (l : List (Nat × α)) (id : Nat) : List (Nat × α) := l.filter fun p => p.1 != id
/-- rising -/
def Up (l : List (Nat × α)) : Prop := l.Pairwise (fun p q => p.1 < q.1)
theorem look_put_same (l : List (Nat × α)) (id : Nat) (x : α) : look (put l id x) id = some x := by
  induction l with
  | nil => simp [put, look]
  | cons p r ih =>
    obtain ⟨k, y⟩ := p
    unfold put
    split
    · simp [look]
    · split
      · simp [look]
      · rename_i h1 h2
        rw [look, if_neg (fun e => h2 e.symm)]; exact ih
theorem look_put_other (l : List (Nat × α)) {id id' : Nat} (h : id' ≠ id) (x : α) : look (put l id x) id' = look l id' := by
  induction l with
  | nil => simp [put, look, Ne.symm h]
  | cons p r ih =>
    obtain ⟨k, y⟩ := p
    unfold put
    split
    · rw [look, if_neg (Ne.symm h)]
    · split
      · rename_i h2
        subst h2
        rw [look, look, if_neg (Ne.symm h), if_neg (Ne.symm h)]
      · rw [look, look, ih]
theorem look_del_same (l : List (Nat × α)) (id : Nat) : look (del l id) id = none := by
  induction l with
  | nil => rfl
  | cons p r ih =>
    obtain ⟨k, y⟩ := p
    by_cases h : k = id
    · subst h
      rw [del, List.filter_cons_of_neg (by simp)]
      exact ih
    · rw [del, List.filter_cons_of_pos (by simpa using h), look, if_neg h]
      exact ih
theorem look_del_other (l : List (Nat × α)) {id id' : Nat} (hne : id' ≠ id) : look (del l id) id' = look l id' := by
  induction l with
  | nil => rfl
  | cons p r ih =>
    obtain ⟨k, y⟩ := p
    by_cases h : k = id
    · subst h
      rw [del, List.filter_cons_of_neg (by simp), look, if_neg (Ne.symm hne)]
      exact ih
    · rw [del, List.filter_cons_of_pos (by simpa using h), look, look]
      rw [del] at ih
      rw [ih]
theorem put_mem (l : List (Nat × α)) (id : Nat) (x : α) : ∀ p ∈ put l id x, p.1 = id ∨ p ∈ l := by
  induction l with
  | nil => intro p hp; rw [put, List.mem_singleton] at hp; exact Or.inl (by rw [hp])
  | cons q r ih =>
    obtain ⟨k, y⟩ := q
    intro p hp
    unfold put at hp
    split at hp
    · rcases List.mem_cons.1 hp with rfl | hp
      · exact Or.inl rfl
      · exact Or.inr hp
    · split at hp
      · rcases List.mem_cons.1 hp with rfl | hp
        · exact Or.inl rfl
        · exact Or.inr (List.mem_cons_of_mem _ hp)
      · rcases List.mem_cons.1 hp with rfl | hp
        · exact Or.inr List.mem_cons_self
        · exact (ih p hp).imp (fun h => h) (List.mem_cons_of_mem _)
theorem up_put {l : List (Nat × α)} (h : Up l) (id : Nat) (x : α) : Up (put l id x) := by
  induction l with
  | nil => exact List.pairwise_singleton _ _
  | cons q r ih =>
    obtain ⟨k, y⟩ := q
    obtain ⟨h1, h2⟩ := List.pairwise_cons.1 h
    unfold put
    split
    · rename_i hk
      refine List.pairwise_cons.2 ⟨fun p hp => ?_, h⟩
      rcases List.mem_cons.1 hp with rfl | hp
      · exact hk
      · exact Nat.lt_trans hk (h1 p hp)
    · split
      · rename_i h3 h4
        subst h4
        exact List.pairwise_cons.2 ⟨fun p hp => h1 p hp, h2⟩
      · rename_i h3 h4
        refine List.pairwise_cons.2 ⟨fun p hp => ?_, ih h2⟩
        rcases put_mem r id x p hp with e | hp
        · rw [e]; show k < id; omega
        · exact h1 p hp
theorem up_del {l : List (Nat × α)} (h : Up l) (id : Nat) : Up (del l id) := h.sublist List.filter_sublist
theorem look_none {l : List (Nat × α)} {id : Nat} (h : ∀ p ∈ l, p.1 ≠ id) : look l id = none := by
  induction l with
  | nil => rfl
  | cons q r ih =>
    obtain ⟨k, y⟩ := q
    rw [look, if_neg (h (k, y) List.mem_cons_self)]
    exact ih (fun p hp => h p (List.mem_cons_of_mem _ hp))

theorem look_up_none {l : List (Nat × α)} (_h : Up l) {id : Nat} (hl : ∀ p ∈ l, id < p.1) : look l id = none := look_none (fun p hp e => by have := hl p hp; omega)
theorem look_mem {l : List (Nat × α)} (hu : Up l) {p : Nat × α} (hp : p ∈ l) : look l p.1 = some p.2 := by
  induction l with
  | nil => cases hp
  | cons q r ih =>
    obtain ⟨k, y⟩ := q
    obtain ⟨h1, h2⟩ := List.pairwise_cons.1 hu
    rcases List.mem_cons.1 hp with rfl | hp
    · rw [look, if_pos rfl]
    · have := h1 p hp
      rw [look, if_neg (by simp only at this; omega)]
      exact ih h2 hp
theorem mem_of_look {l : List (Nat × α)} {id : Nat} {x : α} (h : look l id = some x) : (id, x) ∈ l := by
  induction l with
  | nil => cases h
  | cons q r ih =>
    obtain ⟨k, y⟩ := q
    rw [look] at h
    by_cases e : k = id
    · subst e; rw [if_pos rfl] at h; cases h; exact List.mem_cons_self
    · rw [if_neg e] at h; exact List.mem_cons_of_mem _ (ih h)
theorem mem_iff {l : List (Nat × α)} (hu : Up l) {id : Nat} {x : α} : (id, x) ∈ l ↔ look l id = some x := ⟨fun h => look_mem hu h, mem_of_look⟩
theorem look_none_iff {l : List (Nat × α)} {id : Nat} : look l id = none ↔ ∀ p ∈ l, p.1 ≠ id := by
  refine ⟨fun h p hp e => ?_, look_none⟩
  subst e
  induction l with
  | nil => cases hp
  | cons q r ih =>
    obtain ⟨k, y⟩ := q
    rw [look] at h
    by_cases e : k = p.1
    · rw [if_pos e] at h; cases h
    · rw [if_neg e] at h
      rcases List.mem_cons.1 hp with rfl | hp
      · exact e rfl
      · exact ih hp h
/-- what is there, when one was put -/
theorem mem_put {l : List (Nat × α)} (hu : Up l) {id : Nat} {x : α} {p : Nat × α} : p ∈ put l id x ↔ p = (id, x) ∨ p.1 ≠ id ∧ p ∈ l := by
  obtain ⟨k, y⟩ := p
  rw [mem_iff (up_put hu id x)]
  by_cases e : k = id
  · subst e
    rw [look_put_same]
    constructor
    · intro h; injection h with h; subst h; exact Or.inl rfl
    · rintro (h | ⟨h, _⟩)
      · injection h with _ h; rw [h]
      · exact absurd rfl h
  · rw [look_put_other l e, ← mem_iff hu]
    constructor
    · exact fun h => Or.inr ⟨e, h⟩
    · rintro (h | ⟨_, h⟩)
      · injection h with h; exact absurd h e
      · exact h
theorem mem_del {l : List (Nat × α)} {id : Nat} {p : Nat × α} : p ∈ del l id ↔ p ∈ l ∧ p.1 ≠ id := by
  rw [del, List.mem_filter]; simp
theorem put_length_none {l : List (Nat × α)} {id : Nat} (h : look l id = none) (x : α) : (put l id x).length = l.length + 1 := by
  induction l with
  | nil => rfl
  | cons q r ih =>
    obtain ⟨k, y⟩ := q
    have hk : k ≠ id := fun e => by rw [look, if_pos e] at h; cases h
    rw [look, if_neg hk] at h
    unfold put
    split
    · rfl
    · rw [if_neg (fun e => hk e.symm)]
      simp only [List.length_cons, ih h]
theorem put_length_some {l : List (Nat × α)} (hu : Up l) {id : Nat} {y : α} (h : look l id = some y) (x : α) : (put l id x).length = l.length := by
  induction l with
  | nil => cases h
  | cons q r ih =>
    obtain ⟨k, z⟩ := q
    obtain ⟨h1, h2⟩ := List.pairwise_cons.1 hu
    unfold put
    by_cases hk : k = id
    · subst hk
      rw [if_neg (Nat.lt_irrefl _), if_pos rfl]; rfl
    · rw [look, if_neg hk] at h
      by_cases hlt : id < k
      · have : look r id = none := look_none (fun p hp e => by have := h1 p hp; simp only at this; omega)
        rw [this] at h; cases h
      · rw [if_neg hlt, if_neg (fun e => hk e.symm)]
        simp only [List.length_cons, ih h2 h]
theorem put_length_le (l : List (Nat × α)) (id : Nat) (x : α) : (put l id x).length ≤ l.length + 1 := by
  induction l with
  | nil => exact Nat.le_refl _
  | cons q r ih =>
    obtain ⟨k, y⟩ := q
    unfold put
    split
    · exact Nat.le_refl _
    · split
      · simp
      · simp only [List.length_cons]; omega
/-- two rising lists that say the same are the same -/
theorem ext {l m : List (Nat × α)} (hl : Up l) (hm : Up m) (h : ∀ id, look l id = look m id) : l = m := by
  induction l generalizing m with
  | nil =>
    cases m with
    | nil => rfl
    | cons q r =>
      have := h q.1
      rw [look_mem hm List.mem_cons_self] at this
      cases this
  | cons p l ih =>
    cases m with
    | nil =>
      have := h p.1
      rw [look_mem hl List.mem_cons_self] at this
      cases this
    | cons q r =>
      obtain ⟨h1, h2⟩ := List.pairwise_cons.1 hl
      obtain ⟨h3, h4⟩ := List.pairwise_cons.1 hm
      have e1 := h p.1
      rw [look_mem hl List.mem_cons_self] at e1
      have e2 := h q.1
      rw [look_mem hm List.mem_cons_self] at e2
      have m1 : p ∈ q :: r := mem_of_look e1.symm
      have m2 : q ∈ p :: l := mem_of_look e2
      have epq : p = q := by
        rcases List.mem_cons.1 m1 with e | e
        · exact e
        · rcases List.mem_cons.1 m2 with e' | e'
          · exact e'.symm
          · have := h3 p e
            have := h1 q e'
            omega
      subst epq
      rw [ih h2 h4 (fun id => ?_)]
      by_cases e : p.1 = id
      · subst e
        rw [look_up_none h2 h1, look_up_none h4 h3]
      · have := h id
        obtain ⟨k, y⟩ := p
        rw [look, look, if_neg e, if_neg e] at this
        exact this
theorem del_none {l : List (Nat × α)} {id : Nat} (h : look l id = none) : del l id = l := by
  rw [del, List.filter_eq_self]
  intro p hp
  have := look_none_iff.1 h p hp
  simpa using this
theorem map_up {β : Type} {l : List (Nat × α)} (h : Up l) (f : Nat × α → β) : Up (l.map fun p => (p.1, f p)) := List.pairwise_map.2 h
end
end Mp
end Go.Proofs.YtpmkegbgbldpnaaGreatDoor
namespace Go.Proofs.YtpmkegbgbldpnaaGreatDoor
open Go Go.RowKit

/-- block g is a row of these cells -/
def Row (w : World) (g : Nat) (T : TypeId) (l : List Value) : Prop := w.heap[g]? = some (.cells l.toArray T (0, 0))
def splice (l : List Value) (o : Nat) (vs : List Value) : List Value := l.take o ++ vs ++ l.drop (o + vs.length)
theorem Row.lt {w : World} {g : Nat} {T : TypeId} {l : List Value} (h : Row w g T l) : g < w.heap.size := by
  by_cases hb : g < w.heap.size
  · exact hb
  · rw [Row, Array.getElem?_eq_none (Nat.le_of_not_lt hb)] at h; cases h
theorem Row.touch {F : Nat → Prop} {w w' : World} {g : Nat} {T : TypeId} {l : List Value} (h : Row w g T l) (t : Touch F w w') (hF : ¬ F g) : Row w' g T l := by
  rw [Row, t.block g h.lt hF]; exact h
theorem Row.cell {w : World} {g : Nat} {T : TypeId} {l : List Value} (h : Row w g T l) (o : Nat) : w.cell? ⟨g, o, none⟩ = l[o]? := by
  simp only [World.cell?]; rw [h]; simp
theorem Row.soft {w : World} {g : Nat} {T : TypeId} {l : List Value} (h : Row w g T l) (o : Nat) : w.frozen? ⟨g, o, none⟩ = false := by
  simp only [World.frozen?]; rw [h]; simp
theorem Row.new (w : World) (T : TypeId) (c : Array Value) : Row (w.alloc (.cells c T)) w.heap.size T c.toList := by
  rw [Row, Array.toArray_toList]; exact heap_alloc_new w _
theorem Row.setRow {w : World} {g : Nat} {T : TypeId} {l : List Value} (h : Row w g T l) (l' : List Value) : Row (w.setRow g l'.toArray) g T l' := setRow_heap w g _ _ _ _ h
theorem Row.setCell {w : World} {g : Nat} {T : TypeId} {l : List Value} (h : Row w g T l) (o : Nat) (v : Value) : Row (w.setCell ⟨g, o, none⟩ v) g T (l.set o v) := by
  rw [setCell_eq_setRow w g o _ T (0, 0) v h]
  have := setRow_heap w g l.toArray (l.toArray.setIfInBounds o v) T (0, 0) h
  rw [Row, this]; simp
theorem Touch.setRow {F : Nat → Prop} {a w : World} (h : Touch F a w) {g : Nat} (hg : g < a.heap.size → F g) (c : Array Value) : Touch F a (w.setRow g c) :=
  ⟨h.os, h.tape, h.output, by simpa [World.setRow] using h.size, fun k hk hF => by
    have hne : g ≠ k := fun e => hF (e ▸ hg (e ▸ hk))
    rw [← h.block k hk hF]
    simp only [World.setRow, Array.getElem?_modify]
    rw [if_neg hne]⟩
section
variable {P : Program}

theorem add_off (g o j : Nat) : (⟨g, o, none⟩ : Addr).add j = ⟨g, o + j, none⟩ := by unfold Addr.add; split <;> simp_all

theorem run_store_mid {w : World} {g o : Nat} {T ty : TypeId} {l : List Value} (hg : Row w g T l) (vs : List Value) (hi : (P.info? ty).map (·.size) = some vs.length) (ho : o + vs.length ≤ l.length) (h1 : ∀ v ∈ vs, v.oneCell' = true) :
    (storeVar ty ⟨g, o, none⟩ (.agg vs.toArray)).run P w = .ok () (w.setRow g (splice l o vs).toArray) := by
  have hst := run_storeCells_at P g o T vs 0 l.toArray w hg (by simpa using ho) h1
  cases hq : P.info? ty with
  | none => simp [hq] at hi
  | some i =>
    have hs : i.size = vs.length := by simpa [hq] using hi
    simp only [Nat.add_zero] at hst
    simp [storeVar, Sem.run_bind, sizeOf, typeInfo, hq, hs, Value.cells, hst, splice]

/-- a whole array or struct into the middle of a row -/
theorem wp_store_mid {o : Oper} {a : Act} {w : World} {K : Act → World → Prop} {Q : Exit → Act → World → Prop} (ty : TypeId) (x y : Operand) (hop : o.op = .store ty x y) (g off : Nat) (T : TypeId) (l : List Value) (hg : Row w g T l)
    (hx : a.eval x = .pointer (some ⟨g, off, none⟩)) (vs : List Value) (hy : a.eval y = .agg vs.toArray)
    (hi : (P.info? ty).map (·.size) = some vs.length) (ho : off + vs.length ≤ l.length) (h1 : ∀ v ∈ vs, v.oneCell' = true) (h : K (a.put o.dst undef) (w.setRow g (splice l off vs).toArray)) : o.wp P a w K Q := by
  unfold Oper.wp execOp
  simp only [hop, hx, hy, Instr.storeAt, Instr.sureAddr, Sem.run_bind, Sem.run_pure, Result.andThen_ok, run_store_mid hg vs hi ho h1]
  exact h
theorem wpList_store_mid {ops : Array Oper} {rest : List Oper} {o : Oper} {a : Act} {w : World} {Q : Exit → Act → World → Prop} (hgd : o.guard = none) (ty : TypeId) (x y : Operand) (hop : o.op = .store ty x y) (g off : Nat) (T : TypeId) (l : List Value) (hg : Row w g T l)
    (hx : a.eval x = .pointer (some ⟨g, off, none⟩)) (vs : List Value) (hy : a.eval y = .agg vs.toArray)
    (hi : (P.info? ty).map (·.size) = some vs.length) (ho : off + vs.length ≤ l.length) (h1 : ∀ v ∈ vs, v.oneCell' = true) (h : wpList P ops Q rest (a.put o.dst undef) (w.setRow g (splice l off vs).toArray)) : wpList P ops Q (o :: rest) a w :=
  wpList_plain hgd fun _ hK => wp_store_mid ty x y hop g off T l hg hx vs hy hi ho h1 (hK _ _ h)
end
end Go.Proofs.YtpmkegbgbldpnaaGreatDoor
