/-
  Lists by rising numbers: looked at, put, gone. No program in sight.
  Rows of many cells: whole arrays and structs loaded out of, and stored into, the middle of a block. No program in sight.
  The plain mathematics of a disk of sectors: what each call makes of it, and how it lies in rows of cells.
  Package disks by its own text: a disk in memory; ask, Len, Waits.
-/
import Derived.Test.YtpmkegbgbldpnaaGreatDoorK01
import Derived.Laws.Rows
import Derived.Laws.Tables
import Derived.Laws.CopyRow
import Derived.Test.YtpmkegbgbldpnaaGreatDoorRows
import Derived.Lib.SliceRun
import Derived.Deep.LoopGhost
namespace Go.Proofs.YtpmkegbgbldpnaaGreatDoor
open Go Go.RowKit
set_option linter.unusedVariables false
namespace Mp
section
variable {α : Type}
def look : List (Nat × α) → Nat → Option α
  | [], _ => none
  | (k, x) :: r, id => if k = id then some x else look r id
def put : List (Nat × α) → Nat → α → List (Nat × α)
  | [], id, x => [(id, x)]
  | (k, y) :: r, id, x => if id < k then (id, x) :: (k, y) :: r else if id = k then (id, x) :: r else (k, y) :: put r id x
/-- rising -/
def Up (l : List (Nat × α)) : Prop := l.Pairwise (fun p q => p.1 < q.1)
theorem look_put_same (l : List (Nat × α)) (id : Nat) (x : α) : look (put l id x) id = some x := by
  induction l with
  | nil => simp [put, look]
  | cons p r ih =>
    obtain ⟨k, y⟩ := p
    unfold put
    split
    · simp [look]
    · split
      · simp [look]
      · rename_i h1 h2
        rw [look, if_neg (fun e => h2 e.symm)]; exact ih
theorem look_put_other (l : List (Nat × α)) {id id' : Nat} (h : id' ≠ id) (x : α) : look (put l id x) id' = look l id' := by
  induction l with
  | nil => simp [put, look, Ne.symm h]
  | cons p r ih =>
    obtain ⟨k, y⟩ := p
    unfold put
    split
    · rw [look, if_neg (Ne.symm h)]
    · split
      · rename_i h2
        subst h2
        rw [look, look, if_neg (Ne.symm h), if_neg (Ne.symm h)]
      · rw [look, look, ih]
theorem put_mem (l : List (Nat × α)) (id : Nat) (x : α) : ∀ p ∈ put l id x, p.1 = id ∨ p ∈ l := by
  induction l with
  | nil => intro p hp; rw [put, List.mem_singleton] at hp; exact Or.inl (by rw [hp])
  | cons q r ih =>
    obtain ⟨k, y⟩ := q
    intro p hp
    unfold put at hp
    split at hp
    · rcases List.mem_cons.1 hp with rfl | hp
      · exact Or.inl rfl
      · exact Or.inr hp
    · split at hp
      · rcases List.mem_cons.1 hp with rfl | hp
        · exact Or.inl rfl
        · exact Or.inr (List.mem_cons_of_mem _ hp)
      · rcases List.mem_cons.1 hp with rfl | hp
        · exact Or.inr List.mem_cons_self
        · exact (ih p hp).imp (fun h => h) (List.mem_cons_of_mem _)
theorem up_put {l : List (Nat × α)} (h : Up l) (id : Nat) (x : α) : Up (put l id x) := by
  induction l with
  | nil => exact List.pairwise_singleton _ _
  | cons q r ih =>
    obtain ⟨k, y⟩ := q
    obtain ⟨h1, h2⟩ := List.pairwise_cons.1 h
    unfold put
    split
    · rename_i hk
      refine List.pairwise_cons.2 ⟨fun p hp => ?_, h⟩
      rcases List.mem_cons.1 hp with rfl | hp
      · exact hk
      · exact Nat.lt_trans hk (h1 p hp)
    · split
      · rename_i h3 h4
        subst h4
        exact List.pairwise_cons.2 ⟨fun p hp => h1 p hp, h2⟩
      · rename_i h3 h4
        refine List.pairwise_cons.2 ⟨fun p hp => ?_, ih h2⟩
        rcases put_mem r id x p hp with e | hp
        · rw [e]; show k < id; omega
        · exact h1 p hp
theorem look_none {l : List (Nat × α)} {id : Nat} (h : ∀ p ∈ l, p.1 ≠ id) : look l id = none := by
  induction l with
  | nil => rfl
  | cons q r ih =>
    obtain ⟨k, y⟩ := q
    rw [look, if_neg (h (k, y) List.mem_cons_self)]
    exact ih (fun p hp => h p (List.mem_cons_of_mem _ hp))

theorem look_up_none {l : List (Nat × α)} (_h : Up l) {id : Nat} (hl : ∀ p ∈ l, id < p.1) : look l id = none := look_none (fun p hp e => by have := hl p hp; omega)
theorem look_mem {l : List (Nat × α)} (hu : Up l) {p : Nat × α} (hp : p ∈ l) : look l p.1 = some p.2 := by
  induction l with
  | nil => cases hp
  | cons q r ih =>
    obtain ⟨k, y⟩ := q
    obtain ⟨h1, h2⟩ := List.pairwise_cons.1 hu
    rcases List.mem_cons.1 hp with rfl | hp
    · rw [look, if_pos rfl]
    · have := h1 p hp
      rw [look, if_neg (by simp only at this; omega)]
      exact ih h2 hp
theorem mem_of_look {l : List (Nat × α)} {id : Nat} {x : α} (h : look l id = some x) : (id, x) ∈ l := by
  induction l with
  | nil => cases h
  | cons q r ih =>
    obtain ⟨k, y⟩ := q
    rw [look] at h
    by_cases e : k = id
    · subst e; rw [if_pos rfl] at h; cases h; exact List.mem_cons_self
    · rw [if_neg e] at h; exact List.mem_cons_of_mem _ (ih h)
theorem mem_iff {l : List (Nat × α)} (hu : Up l) {id : Nat} {x : α} : (id, x) ∈ l ↔ look l id = some x := ⟨fun h => look_mem hu h, mem_of_look⟩
theorem look_none_iff {l : List (Nat × α)} {id : Nat} : look l id = none ↔ ∀ p ∈ l, p.1 ≠ id := by
  refine ⟨fun h p hp e => ?_, look_none⟩
  subst e
  induction l with
  | nil => cases hp
  | cons q r ih =>
    obtain ⟨k, y⟩ := q
    rw [look] at h
    by_cases e : k = p.1
    · rw [if_pos e] at h; cases h
    · rw [if_neg e] at h
      rcases List.mem_cons.1 hp with rfl | hp
      · exact e rfl
      · exact ih hp h
/-- what is there, when one was put -/
theorem mem_put {l : List (Nat × α)} (hu : Up l) {id : Nat} {x : α} {p : Nat × α} : p ∈ put l id x ↔ p = (id, x) ∨ p.1 ≠ id ∧ p ∈ l := by
  obtain ⟨k, y⟩ := p
  rw [mem_iff (up_put hu id x)]
  by_cases e : k = id
  · subst e
    rw [look_put_same]
    constructor
    · intro h; injection h with h; subst h; exact Or.inl rfl
    · rintro (h | ⟨h, _⟩)
      · injection h with _ h; rw [h]
      · exact absurd rfl h
  · rw [look_put_other l e, ← mem_iff hu]
    constructor
    · exact fun h => Or.inr ⟨e, h⟩
    · rintro (h | ⟨_, h⟩)
      · injection h with h; exact absurd h e
      · exact h
theorem put_length_none {l : List (Nat × α)} {id : Nat} (h : look l id = none) (x : α) : (put l id x).length = l.length + 1 := by
  induction l with
  | nil => rfl
  | cons q r ih =>
    obtain ⟨k, y⟩ := q
    have hk : k ≠ id := fun e => by rw [look, if_pos e] at h; cases h
    rw [look, if_neg hk] at h
    unfold put
    split
    · rfl
    · rw [if_neg (fun e => hk e.symm)]
      simp only [List.length_cons, ih h]
theorem put_length_some {l : List (Nat × α)} (hu : Up l) {id : Nat} {y : α} (h : look l id = some y) (x : α) : (put l id x).length = l.length := by
  induction l with
  | nil => cases h
  | cons q r ih =>
    obtain ⟨k, z⟩ := q
    obtain ⟨h1, h2⟩ := List.pairwise_cons.1 hu
    unfold put
    by_cases hk : k = id
    · subst hk
      rw [if_neg (Nat.lt_irrefl _), if_pos rfl]; rfl
    · rw [look, if_neg hk] at h
      by_cases hlt : id < k
      · have : look r id = none := look_none (fun p hp e => by have := h1 p hp; simp only at this; omega)
        rw [this] at h; cases h
      · rw [if_neg hlt, if_neg (fun e => hk e.symm)]
        simp only [List.length_cons, ih h2 h]
theorem put_length_le (l : List (Nat × α)) (id : Nat) (x : α) : (put l id x).length ≤ l.length + 1 := by
  induction l with
  | nil => exact Nat.le_refl _
  | cons q r ih =>
    obtain ⟨k, y⟩ := q
    unfold put
    split
    · exact Nat.le_refl _
    · split
      · simp
      · simp only [List.length_cons]; omega
/-- two rising lists that say the same are the same -/
theorem ext {l m : List (Nat × α)} (hl : Up l) (hm : Up m) (h : ∀ id, look l id = look m id) : l = m := by
  induction l generalizing m with
  | nil =>
    cases m with
    | nil => rfl
    | cons q r =>
      have := h q.1
      rw [look_mem hm List.mem_cons_self] at this
      cases this
  | cons p l ih =>
    cases m with
    | nil =>
      have := h p.1
      rw [look_mem hl List.mem_cons_self] at this
      cases this
    | cons q r =>
      obtain ⟨h1, h2⟩ := List.pairwise_cons.1 hl
      obtain ⟨h3, h4⟩ := List.pairwise_cons.1 hm
      have e1 := h p.1
      rw [look_mem hl List.mem_cons_self] at e1
      have e2 := h q.1
      rw [look_mem hm List.mem_cons_self] at e2
      have m1 : p ∈ q :: r := mem_of_look e1.symm
      have m2 : q ∈ p :: l := mem_of_look e2
      have epq : p = q := by
        rcases List.mem_cons.1 m1 with e | e
        · exact e
        · rcases List.mem_cons.1 m2 with e' | e'
          · exact e'.symm
          · have := h3 p e
            have := h1 q e'
            omega
      subst epq
      rw [ih h2 h4 (fun id => ?_)]
      by_cases e : p.1 = id
      · subst e
        rw [look_up_none h2 h1, look_up_none h4 h3]
      · have := h id
        obtain ⟨k, y⟩ := p
        rw [look, look, if_neg e, if_neg e] at this
        exact this
/-- put behind all -/
theorem put_last {l : List (Nat × α)} {id : Nat} (h : ∀ p ∈ l, p.1 < id) (x : α) : put l id x = l ++ [(id, x)] := by
  induction l with
  | nil => rfl
  | cons q r ih =>
    obtain ⟨k, y⟩ := q
    have := h (k, y) List.mem_cons_self
    unfold put
    rw [if_neg (by simp only at this; omega), if_neg (by simp only at this; omega), ih (fun p hp => h p (List.mem_cons_of_mem _ hp))]
    rfl
theorem map_up {β : Type} {l : List (Nat × α)} (h : Up l) (f : Nat × α → β) : Up (l.map fun p => (p.1, f p)) := List.pairwise_map.2 h
end
end Mp
end Go.Proofs.YtpmkegbgbldpnaaGreatDoor
namespace Go.Proofs.YtpmkegbgbldpnaaGreatDoor
open Go Go.RowKit

/-- block g is a row of these cells -/
def Row (w : World) (g : Nat) (T : TypeId) (l : List Value) : Prop := w.heap[g]? = some (.cells l.toArray T (0, 0))
def splice (l : List Value) (o : Nat) (vs : List Value) : List Value := l.take o ++ vs ++ l.drop (o + vs.length)
theorem Row.lt {w : World} {g : Nat} {T : TypeId} {l : List Value} (h : Row w g T l) : g < w.heap.size := by
  by_cases hb : g < w.heap.size
  · exact hb
  · rw [Row, Array.getElem?_eq_none (Nat.le_of_not_lt hb)] at h; cases h
theorem Row.touch {F : Nat → Prop} {w w' : World} {g : Nat} {T : TypeId} {l : List Value} (h : Row w g T l) (t : Touch F w w') (hF : ¬ F g) : Row w' g T l := by
  rw [Row, t.block g h.lt hF]; exact h
theorem Row.cell {w : World} {g : Nat} {T : TypeId} {l : List Value} (h : Row w g T l) (o : Nat) : w.cell? ⟨g, o, none⟩ = l[o]? := by
  simp only [World.cell?]; rw [h]; simp
theorem Row.soft {w : World} {g : Nat} {T : TypeId} {l : List Value} (h : Row w g T l) (o : Nat) : w.frozen? ⟨g, o, none⟩ = false := by
  simp only [World.frozen?]; rw [h]; simp
theorem Row.new (w : World) (T : TypeId) (c : Array Value) : Row (w.alloc (.cells c T)) w.heap.size T c.toList := by
  rw [Row, Array.toArray_toList]; exact heap_alloc_new w _
theorem Row.setRow {w : World} {g : Nat} {T : TypeId} {l : List Value} (h : Row w g T l) (l' : List Value) : Row (w.setRow g l'.toArray) g T l' := setRow_heap w g _ _ _ _ h
theorem Row.setCell {w : World} {g : Nat} {T : TypeId} {l : List Value} (h : Row w g T l) (o : Nat) (v : Value) : Row (w.setCell ⟨g, o, none⟩ v) g T (l.set o v) := by
  rw [setCell_eq_setRow w g o _ T (0, 0) v h]
  have := setRow_heap w g l.toArray (l.toArray.setIfInBounds o v) T (0, 0) h
  rw [Row, this]; simp
theorem Touch.setRow {F : Nat → Prop} {a w : World} (h : Touch F a w) {g : Nat} (hg : g < a.heap.size → F g) (c : Array Value) : Touch F a (w.setRow g c) :=
  ⟨h.os, h.tape, h.output, by simpa [World.setRow] using h.size, fun k hk hF => by
    have hne : g ≠ k := fun e => hF (e ▸ hg (e ▸ hk))
    rw [← h.block k hk hF]
    simp only [World.setRow, Array.getElem?_modify]
    rw [if_neg hne]⟩
section
variable {P : Program}

theorem add_off (g o j : Nat) : (⟨g, o, none⟩ : Addr).add j = ⟨g, o + j, none⟩ := by unfold Addr.add; split <;> simp_all

theorem run_store_mid {w : World} {g o : Nat} {T ty : TypeId} {l : List Value} (hg : Row w g T l) (vs : List Value) (hi : (P.info? ty).map (·.size) = some vs.length) (ho : o + vs.length ≤ l.length) (h1 : ∀ v ∈ vs, v.oneCell' = true) :
    (storeVar ty ⟨g, o, none⟩ (.agg vs.toArray)).run P w = .ok () (w.setRow g (splice l o vs).toArray) := by
  have hst := run_storeCells_at P g o T vs 0 l.toArray w hg (by simpa using ho) h1
  cases hq : P.info? ty with
  | none => simp [hq] at hi
  | some i =>
    have hs : i.size = vs.length := by simpa [hq] using hi
    simp only [Nat.add_zero] at hst
    simp [storeVar, Sem.run_bind, sizeOf, typeInfo, hq, hs, Value.cells, hst, splice]

/-- a whole array or struct into the middle of a row -/
theorem wp_store_mid {o : Oper} {a : Act} {w : World} {K : Act → World → Prop} {Q : Exit → Act → World → Prop} (ty : TypeId) (x y : Operand) (hop : o.op = .store ty x y) (g off : Nat) (T : TypeId) (l : List Value) (hg : Row w g T l)
    (hx : a.eval x = .pointer (some ⟨g, off, none⟩)) (vs : List Value) (hy : a.eval y = .agg vs.toArray)
    (hi : (P.info? ty).map (·.size) = some vs.length) (ho : off + vs.length ≤ l.length) (h1 : ∀ v ∈ vs, v.oneCell' = true) (h : K (a.put o.dst undef) (w.setRow g (splice l off vs).toArray)) : o.wp P a w K Q := by
  unfold Oper.wp execOp
  simp only [hop, hx, hy, Instr.storeAt, Instr.sureAddr, Sem.run_bind, Sem.run_pure, Result.andThen_ok, run_store_mid hg vs hi ho h1]
  exact h
theorem wpList_store_mid {ops : Array Oper} {rest : List Oper} {o : Oper} {a : Act} {w : World} {Q : Exit → Act → World → Prop} (hgd : o.guard = none) (ty : TypeId) (x y : Operand) (hop : o.op = .store ty x y) (g off : Nat) (T : TypeId) (l : List Value) (hg : Row w g T l)
    (hx : a.eval x = .pointer (some ⟨g, off, none⟩)) (vs : List Value) (hy : a.eval y = .agg vs.toArray)
    (hi : (P.info? ty).map (·.size) = some vs.length) (ho : off + vs.length ≤ l.length) (h1 : ∀ v ∈ vs, v.oneCell' = true) (h : wpList P ops Q rest (a.put o.dst undef) (w.setRow g (splice l off vs).toArray)) : wpList P ops Q (o :: rest) a w :=
  wpList_plain hgd fun _ hK => wp_store_mid ty x y hop g off T l hg hx vs hy hi ho h1 (hK _ _ h)
end
end Go.Proofs.YtpmkegbgbldpnaaGreatDoor
namespace Go.Proofs.YtpmkegbgbldpnaaGreatDoor
open Go Go.RowKit

/-! ### rows of equal pieces -/
section
variable {α : Type} {f : α → List Value} {k : Nat}
theorem flat_length (hf : ∀ x, (f x).length = k) : ∀ (l : List α), (l.flatMap f).length = l.length * k
  | [] => by simp
  | x :: l => by rw [List.flatMap_cons, List.length_append, hf, flat_length hf l, List.length_cons, Nat.add_mul]; omega
theorem flat_get (hf : ∀ x, (f x).length = k) : ∀ (l : List α) (n j : Nat) (x : α), l[n]? = some x → j < k → (l.flatMap f)[n * k + j]? = (f x)[j]?
  | [], n, j, x, h, _ => by simp at h
  | y :: l, 0, j, x, h, hj => by
    have : y = x := by simpa using h
    subst this
    rw [List.flatMap_cons, Nat.zero_mul, Nat.zero_add, List.getElem?_append_left (by rw [hf]; exact hj)]
  | y :: l, n + 1, j, x, h, hj => by
    have h' : l[n]? = some x := by simpa using h
    rw [List.flatMap_cons, List.getElem?_append_right (by rw [hf, Nat.add_mul]; omega), hf, ← flat_get hf l n j x h' hj]
    congr 1
    rw [Nat.add_mul]; omega
theorem flat_set (hf : ∀ x, (f x).length = k) : ∀ (l : List α) (n : Nat) (y : α) (r : List Value), n < l.length → splice (l.flatMap f ++ r) (n * k) (f y) = (l.set n y).flatMap f ++ r
  | [], n, y, r, h => by simp at h
  | x :: l, 0, y, r, _ => by
    simp only [splice, Nat.zero_mul, List.take_zero, List.nil_append, Nat.zero_add, List.set_cons_zero, List.flatMap_cons, List.append_assoc]
    rw [hf, List.drop_append_of_le_length (by rw [hf]; exact Nat.le_refl _), List.drop_of_length_le (by rw [hf]; exact Nat.le_refl _), List.nil_append]
  | x :: l, n + 1, y, r, h => by
    have hn : n < l.length := by simpa using h
    have ih := flat_set hf l n y r hn
    simp only [splice, List.set_cons_succ, List.flatMap_cons, List.append_assoc] at ih ⊢
    rw [← ih]
    have e : (n + 1) * k = (f x).length + n * k := by rw [hf, Nat.add_mul]; omega
    rw [e, List.take_append, Nat.add_assoc, List.drop_append]
    have h1 : (f x).length + n * k - (f x).length = n * k := by omega
    have h2 : (f x).length + (n * k + (f y).length) - (f x).length = n * k + (f y).length := by omega
    rw [h1, h2, List.take_of_length_le (by omega), List.drop_of_length_le (by omega)]
    simp
/-- one cell of a piece -/
theorem flat_cell (hf : ∀ x, (f x).length = k) (l : List α) (n j : Nat) (x y : α) (v : Value) (r : List Value) (hx : l[n]? = some x) (hj : j < k) (hy : f y = (f x).set j v) : (l.flatMap f ++ r).set (n * k + j) v = (l.set n y).flatMap f ++ r := by
  have hn : n < l.length := by
    rcases Nat.lt_or_ge n l.length with h | h
    · exact h
    · rw [List.getElem?_eq_none h] at hx; cases hx
  rw [← flat_set hf l n y r hn, hy]
  refine List.ext_getElem? (fun i => ?_)
  have hlen : (l.flatMap f).length = l.length * k := flat_length hf l
  have hnk : n * k + k ≤ l.length * k := by have := Nat.mul_le_mul_right k hn; rw [Nat.succ_mul] at this; exact this
  have hlx := hf x
  have ht : ((l.flatMap f ++ r).take (n * k)).length = n * k := by rw [List.length_take, List.length_append]; omega
  simp only [splice, List.length_set]
  by_cases h1 : i < n * k
  · rw [List.append_assoc, List.getElem?_append_left (by rw [ht]; exact h1), List.getElem?_take_of_lt h1, List.getElem?_set_ne (by omega)]
  · by_cases h2 : i < n * k + k
    · obtain ⟨q, rfl⟩ : ∃ q, i = n * k + q := ⟨i - n * k, by omega⟩
      rw [List.getElem?_append_left (by rw [List.length_append, ht, List.length_set]; omega), List.getElem?_append_right (by rw [ht]; omega), ht, Nat.add_sub_cancel_left]
      by_cases h3 : q = j
      · subst h3
        rw [List.getElem?_set_self (by rw [List.length_append]; omega), List.getElem?_set_self (by omega)]
      · rw [List.getElem?_set_ne (by omega), List.getElem?_set_ne (Ne.symm h3), List.getElem?_append_left (by omega), flat_get hf l n q x hx (by omega)]
    · rw [List.getElem?_set_ne (by omega)]
      symm
      rw [List.getElem?_append_right (by rw [List.length_append, ht, List.length_set]; omega), List.length_append, ht, List.length_set, List.getElem?_drop]
      congr 1
      omega
end

namespace Dk
structure Sec where
  b : List Nat
  bad : Nat
structure Wr where
  n : Nat
  b : List Nat
  elder : Nat
structure Disk where
  sure : List Sec
  seen : List Sec
  waits : List Wr

structure Bytes (b : List Nat) : Prop where
  len : b.length = 64
  lt : ∀ x ∈ b, x < 256
structure Sec.Ok (s : Sec) : Prop where
  b : Bytes s.b
  bad : s.bad ≤ 1
structure Wr.Ok (n : Nat) (x : Wr) : Prop where
  n : x.n < n
  b : Bytes x.b
  elder : x.elder ≤ 1
structure Ok (d : Disk) : Prop where
  len : d.sure.length = d.seen.length
  pos : 1 ≤ d.seen.length
  top : d.seen.length ≤ 16384
  sure : ∀ s ∈ d.sure, s.Ok
  seen : ∀ s ∈ d.seen, s.Ok
  waits : ∀ x ∈ d.waits, x.Ok d.seen.length

/-- a sector's bytes: what is written, noughts behind it -/
def pad (b : List Nat) : List Nat := b ++ List.replicate (64 - b.length) 0
def noughts : Sec := ⟨List.replicate 64 0, 0⟩
def new (n : Nat) : Disk := ⟨List.replicate n noughts, List.replicate n noughts, []⟩
def write (d : Disk) (n : Nat) (b : List Nat) : Disk := ⟨d.sure, d.seen.set n ⟨pad b, 0⟩, d.waits ++ [⟨n, pad b, 0⟩]⟩
def sync (d : Disk) : Disk := ⟨d.seen, d.seen, []⟩
def badS (s : Sec) : Sec := ⟨s.b, 1⟩
def badW (n : Nat) (y : Wr) : Wr := if y.n = n then ⟨y.n, y.b, 1⟩ else y
def at_ (l : List Sec) (n : Nat) : Sec := l.getD n noughts
def upd (l : List Sec) (n : Nat) (f : Sec → Sec) : List Sec := l.set n (f (at_ l n))
def bad (d : Disk) (n : Nat) : Disk := ⟨upd d.sure n badS, upd d.seen n badS, d.waits.map (badW n)⟩
def tornS (y : Wr) (s : Sec) : Sec := ⟨y.b.take 32 ++ s.b.drop 32, s.bad⟩
def keptS (y : Wr) (s : Sec) : Sec := ⟨y.b, s.bad &&& y.elder⟩
def failStep (keep : Nat) (torn : Int) (l : List Sec) (i : Nat) (y : Wr) : List Sec :=
  if (i : Int) = torn then upd l y.n (tornS y) else if keep.testBit (i % 64) then upd l y.n (keptS y) else l
def failed (keep : Nat) (torn : Int) : List Sec → Nat → List Wr → List Sec
  | l, _, [] => l
  | l, i, y :: r => failed keep torn (failStep keep torn l i y) (i + 1) r
def fail (d : Disk) (keep : Nat) (torn : Int) : Disk := ⟨failed keep torn d.sure 0 d.waits, failed keep torn d.sure 0 d.waits, []⟩

theorem pad_ok {b : List Nat} (h : b.length ≤ 64) (hb : ∀ x ∈ b, x < 256) : Bytes (pad b) :=
  ⟨by simp [pad]; omega, fun x hx => by
    rcases List.mem_append.1 hx with h | h
    · exact hb x h
    · have := (List.mem_replicate.1 h).2; omega⟩
theorem noughts_ok : noughts.Ok := ⟨⟨by simp [noughts], fun x hx => by have := (List.mem_replicate.1 hx).2; omega⟩, by simp [noughts]⟩
theorem upd_length (l : List Sec) (n : Nat) (f : Sec → Sec) : (upd l n f).length = l.length := by simp [upd]
theorem mem_set {α : Type} {l : List α} {n : Nat} {y x : α} (h : x ∈ l.set n y) : x ∈ l ∨ x = y := List.mem_or_eq_of_mem_set h
theorem at_mem {l : List Sec} {n : Nat} (h : n < l.length) : at_ l n ∈ l := by
  rw [at_, List.getD_eq_getElem?_getD, List.getElem?_eq_getElem h]; exact List.getElem_mem h
theorem at_get {l : List Sec} {n : Nat} (h : n < l.length) : l[n]? = some (at_ l n) := by
  rw [at_, List.getD_eq_getElem?_getD, List.getElem?_eq_getElem h]; rfl
theorem upd_ok {l : List Sec} {n : Nat} {f : Sec → Sec} (h : ∀ s ∈ l, s.Ok) (hn : n < l.length) (hf : ∀ s, s.Ok → (f s).Ok) : ∀ s ∈ upd l n f, s.Ok := by
  intro s hs
  rcases mem_set hs with h' | h'
  · exact h s h'
  · rw [h']; exact hf _ (h _ (at_mem hn))
theorem tornS_ok {y : Wr} {m : Nat} (hy : y.Ok m) {s : Sec} (h : s.Ok) : (tornS y s).Ok := by
  refine ⟨⟨by simp [tornS, hy.b.len, h.b.len], fun x hx => ?_⟩, h.bad⟩
  rcases List.mem_append.1 hx with h' | h'
  · exact hy.b.lt x (List.mem_of_mem_take h')
  · exact h.b.lt x (List.mem_of_mem_drop h')
theorem keptS_ok {y : Wr} {m : Nat} (hy : y.Ok m) {s : Sec} (h : s.Ok) : (keptS y s).Ok := ⟨hy.b, by
  have h1 := h.bad
  have h2 := hy.elder
  simp only [keptS]
  have : s.bad &&& y.elder ≤ s.bad := Nat.and_le_left
  omega⟩
theorem failStep_ok {keep : Nat} {torn : Int} {l : List Sec} {i : Nat} {y : Wr} (h : ∀ s ∈ l, s.Ok) (hy : y.Ok l.length) : (∀ s ∈ failStep keep torn l i y, s.Ok) ∧ (failStep keep torn l i y).length = l.length := by
  unfold failStep
  split
  · exact ⟨upd_ok h hy.n (fun s hs => tornS_ok hy hs), upd_length _ _ _⟩
  · split
    · exact ⟨upd_ok h hy.n (fun s hs => keptS_ok hy hs), upd_length _ _ _⟩
    · exact ⟨h, rfl⟩
theorem failed_ok {keep : Nat} {torn : Int} : ∀ (ws : List Wr) (l : List Sec) (i : Nat), (∀ s ∈ l, s.Ok) → (∀ y ∈ ws, y.Ok l.length) → (∀ s ∈ failed keep torn l i ws, s.Ok) ∧ (failed keep torn l i ws).length = l.length
  | [], l, i, h, _ => ⟨h, rfl⟩
  | y :: ws, l, i, h, hw => by
    have h1 := failStep_ok (keep := keep) (torn := torn) (i := i) h (hw y (by simp))
    have h2 := failed_ok (keep := keep) (torn := torn) ws (failStep keep torn l i y) (i + 1) h1.1 (fun z hz => by rw [h1.2]; exact hw z (by simp [hz]))
    exact ⟨h2.1, h2.2.trans h1.2⟩
theorem failed_snoc {keep : Nat} {torn : Int} : ∀ (ws : List Wr) (l : List Sec) (i : Nat) (y : Wr), failed keep torn l i (ws ++ [y]) = failStep keep torn (failed keep torn l i ws) (i + ws.length) y
  | [], l, i, y => by simp [failed]
  | z :: ws, l, i, y => by
    rw [List.cons_append, failed, failed_snoc ws, failed, List.length_cons]
    congr 1; omega

theorem new_ok {n : Nat} (h1 : 1 ≤ n) (h2 : n ≤ 16384) : Ok (new n) :=
  ⟨by simp [new], by simp [new]; exact h1, by simp [new]; exact h2, fun s hs => by rw [(List.mem_replicate.1 hs).2]; exact noughts_ok, fun s hs => by rw [(List.mem_replicate.1 hs).2]; exact noughts_ok, fun x hx => by simp [new] at hx⟩
theorem write_ok {d : Disk} (h : Ok d) {n : Nat} {b : List Nat} (hn : n < d.seen.length) (hl : b.length ≤ 64) (hb : ∀ x ∈ b, x < 256) : Ok (write d n b) :=
  ⟨by simp [write, h.len], by simp [write]; exact h.pos, by simp [write]; exact h.top, h.sure,
    fun s hs => by rcases mem_set hs with h' | h'; exact h.seen s h'; rw [h']; exact ⟨pad_ok hl hb, Nat.zero_le _⟩,
    fun x hx => by
      have e : (write d n b).seen.length = d.seen.length := by simp [write]
      rw [e]
      rcases List.mem_append.1 hx with h' | h'
      · exact h.waits x h'
      · have : x = ⟨n, pad b, 0⟩ := by simpa using h'
        rw [this]; exact ⟨hn, pad_ok hl hb, Nat.zero_le _⟩⟩
theorem sync_ok {d : Disk} (h : Ok d) : Ok (sync d) := ⟨rfl, h.pos, h.top, h.seen, h.seen, fun x hx => by simp [sync] at hx⟩
end Dk

/-! ### how they lie in memory -/
def secCells (s : Dk.Sec) : List Value := (List.range 64).map (fun j => Value.int .u8 ((s.b.getD j 0 : Nat) : Int)) ++ [.int .i64 (s.bad : Nat)]
def wrCells (x : Dk.Wr) : List Value := .int .i64 (x.n : Nat) :: ((List.range 64).map (fun j => Value.int .u8 ((x.b.getD j 0 : Nat) : Int)) ++ [.int .i64 (x.elder : Nat)])
theorem secCells_length (s : Dk.Sec) : (secCells s).length = 65 := by simp [secCells]
theorem wrCells_length (x : Dk.Wr) : (wrCells x).length = 66 := by simp [wrCells]
theorem bytes_cells {b : List Nat} (h : b.length = 64) : (List.range 64).map (fun j => Value.int .u8 ((b.getD j 0 : Nat) : Int)) = nums .u8 b := by
  refine List.ext_getElem? (fun i => ?_)
  simp only [nums, List.getElem?_map]
  by_cases hi : i < 64
  · rw [List.getElem?_range hi, List.getElem?_eq_getElem (by omega)]
    simp [List.getD_eq_getElem?_getD, List.getElem?_eq_getElem (show i < b.length by omega)]
  · rw [List.getElem?_eq_none (by simp; omega), List.getElem?_eq_none (by omega)]; rfl
end Go.Proofs.YtpmkegbgbldpnaaGreatDoor
namespace Go.Proofs.YtpmkegbgbldpnaaGreatDoor
open Go Go.RowKit

theorem sec_bad (s : Dk.Sec) : (secCells s)[64]? = some (.int .i64 (s.bad : Nat)) := by
  rw [secCells, List.getElem?_append_right (by simp)]; simp
theorem wr_n (x : Dk.Wr) : (wrCells x)[0]? = some (.int .i64 (x.n : Nat)) := rfl
theorem wr_elder (x : Dk.Wr) : (wrCells x)[65]? = some (.int .i64 (x.elder : Nat)) := by
  rw [wrCells, List.getElem?_cons_succ, List.getElem?_append_right (by simp)]; simp

/-- a disk in its blocks: d itself, what is sure, what is seen, what waits -/
structure DiskIn (w : World) (d gs gn cs cn : Nat) (rs rn : List Value) (vw : Value) (D : Dk.Disk) : Prop where
  ok : Dk.Ok D
  c0 : w.cell? ⟨d, 0, none⟩ = some (.slice (some ⟨gs, 0, none⟩) D.sure.length cs)
  c1 : w.cell? ⟨d, 1, none⟩ = some (.slice (some ⟨gn, 0, none⟩) D.seen.length cn)
  c2 : w.cell? ⟨d, 2, none⟩ = some vw
  soft : ∀ o, w.frozen? ⟨d, o, none⟩ = false
  sure : Row w gs 117 (D.sure.flatMap secCells ++ rs)
  seen : Row w gn 117 (D.seen.flatMap secCells ++ rn)
  lcs : D.sure.length ≤ cs
  lcn : D.seen.length ≤ cn
  mcs : cs ≤ maxLen
  mcn : cn ≤ maxLen
  waits : w.ownsRow 0 115 66 vw D.waits.length (D.waits.flatMap wrCells)
  ne : d ≠ gs ∧ d ≠ gn ∧ gs ≠ gn
  wne : ∀ k, InBlock vw k → k ≠ d ∧ k ≠ gs ∧ k ≠ gn

/-- a disk whose blocks are among O -/
def DiskAt (w : World) (d : Nat) (D : Dk.Disk) (O : Nat → Prop) : Prop :=
  ∃ gs gn cs cn rs rn vw, DiskIn w d gs gn cs cn rs rn vw D ∧ O d ∧ O gs ∧ O gn ∧ (∀ k, InBlock vw k → O k)

theorem DiskIn.lt {w : World} {d gs gn cs cn : Nat} {rs rn : List Value} {vw : Value} {D : Dk.Disk} (h : DiskIn w d gs gn cs cn rs rn vw D) : d < w.heap.size := lt_of_cell h.c0
theorem DiskAt.lt {w : World} {d : Nat} {D : Dk.Disk} {O : Nat → Prop} (h : DiskAt w d D O) : d < w.heap.size := by
  obtain ⟨gs, gn, cs, cn, rs, rn, vw, h, _⟩ := h; exact h.lt
theorem DiskAt.ok {w : World} {d : Nat} {D : Dk.Disk} {O : Nat → Prop} (h : DiskAt w d D O) : Dk.Ok D := by
  obtain ⟨gs, gn, cs, cn, rs, rn, vw, h, _⟩ := h; exact h.ok
theorem rowTouch {F : Nat → Prop} {w w' : World} {base e size n : Nat} {v : Value} {xs : List Value} (h : w.ownsRow base e size v n xs) (t : Touch F w w') (hF : ∀ b, InBlock v b → ¬ F b) : w'.ownsRow base e size v n xs := by
  obtain ⟨hl, h⟩ := h
  refine ⟨hl, ?_⟩
  rcases h with h | ⟨g, cap, cur, hv, hg, hh, r⟩
  · exact Or.inl h
  · have hb : g < w.heap.size := by
      by_cases hb : g < w.heap.size
      · exact hb
      · simp [Array.getElem?_eq_none (Nat.le_of_not_lt hb)] at hh
    exact Or.inr ⟨g, cap, cur, hv, hg, by rw [t.block g hb (hF g (by rw [hv]; rfl))]; exact hh, r⟩
theorem rowBlock {w : World} {base e size n : Nat} {v : Value} {xs : List Value} (h : w.ownsRow base e size v n xs) {k : Nat} (hk : InBlock v k) : base ≤ k ∧ k < w.heap.size := by
  obtain ⟨hl, h⟩ := h
  rcases h with ⟨rfl, _⟩ | ⟨g, cap, cur, rfl, hg, hh, r⟩
  · cases hk
  · have e : g = k := by simpa [InBlock, Value.ownBlock] using hk
    subst e
    refine ⟨hg, ?_⟩
    by_cases hb : g < w.heap.size
    · exact hb
    · simp [Array.getElem?_eq_none (Nat.le_of_not_lt hb)] at hh
theorem DiskIn.touch {F : Nat → Prop} {w w' : World} {d gs gn cs cn : Nat} {rs rn : List Value} {vw : Value} {D : Dk.Disk} (h : DiskIn w d gs gn cs cn rs rn vw D) (t : Touch F w w') (hd : ¬ F d) (hs : ¬ F gs) (hn : ¬ F gn) (hw : ∀ k, InBlock vw k → ¬ F k) :
    DiskIn w' d gs gn cs cn rs rn vw D :=
  ⟨h.ok, t.cell hd h.c0, t.cell hd h.c1, t.cell hd h.c2, fun o => (t.frozen h.lt hd o).trans (h.soft o), h.sure.touch t hs, h.seen.touch t hn, h.lcs, h.lcn, h.mcs, h.mcn, rowTouch h.waits t hw, h.ne, h.wne⟩
theorem DiskAt.touch {F : Nat → Prop} {w w' : World} {d : Nat} {D : Dk.Disk} {O : Nat → Prop} (h : DiskAt w d D O) (t : Touch F w w') (hF : ∀ k, k < w.heap.size → O k → ¬ F k) : DiskAt w' d D O := by
  obtain ⟨gs, gn, cs, cn, rs, rn, vw, h, o1, o2, o3, o4⟩ := h
  exact ⟨gs, gn, cs, cn, rs, rn, vw, h.touch t (hF _ h.lt o1) (hF _ h.sure.lt o2) (hF _ h.seen.lt o3) (fun k hk => hF k (rowBlock h.waits hk).2 (o4 k hk)), o1, o2, o3, o4⟩
theorem DiskAt.no {w w' : World} {d : Nat} {D : Dk.Disk} {O : Nat → Prop} (h : DiskAt w d D O) (t : Touch No w w') : DiskAt w' d D O := h.touch t (fun _ _ _ f => f)

/-- p is no disk that a call made -/
def NotDisk (w : World) (p : Value) : Prop := p = .pointer none ∨ ∃ b, p = .pointer (some ⟨b, 0, none⟩) ∧ w.cell? ⟨b, 1, none⟩ = some (.slice none 0 0)

/-- what ask says of a disk -/
def askSays (len : Nat) (n : Int) : Nat := if 0 ≤ n ∧ n < len then 0 else 1

set_option maxHeartbeats 400000 in
theorem ask_not (w : World) (p : Value) (n : Int) (h : NotDisk w p) : Calls Tryz.prog 54 #[p, .int .i64 n] w fun e w' => e = .returned (.int .i64 2) ∧ w = w' := by
  have hq := fun wx => Lib.run_eql_slice_nil (P := Tryz.prog) wx 108 117 none 0 0 0 0 Tryz.underlying108
  rcases h with rfl | ⟨b, rfl, h⟩
  all_goals
    go_enter Tryz.func54, Tryz.ntmps54
    go_wp2
    go_ret
    exact ⟨rfl, rfl⟩

set_option maxHeartbeats 400000 in
theorem ask_any (w : World) (d : Nat) (D : Dk.Disk) (O : Nat → Prop) (n : Int) (h : DiskAt w d D O) :
    Calls Tryz.prog 54 #[.pointer (some ⟨d, 0, none⟩), .int .i64 n] w fun e w' => e = .returned (.int .i64 (askSays D.seen.length n : Nat)) ∧ w = w' := by
  obtain ⟨gs, gn, cs, cn, rs, rn, vw, h, _⟩ := h
  have hq := fun wx => Lib.run_eql_slice_nil (P := Tryz.prog) wx 108 117 (some ⟨gn, 0, none⟩) D.seen.length cn 0 0 Tryz.underlying108
  have hc := h.c1
  have Fin : Hid (∀ r : Nat, ((0 ≤ n ∧ n < D.seen.length) ∧ r = 0 ∨ (n < 0 ∨ D.seen.length ≤ n) ∧ r = 1) → askSays D.seen.length n = r) := fun r hr => by
    unfold askSays
    rcases hr with ⟨h1, rfl⟩ | ⟨h1, rfl⟩
    · rw [if_pos h1]
    · rw [if_neg (by omega)]
  clear h
  generalize D.seen.length = m at *
  by_cases h0 : n < 0
  · go_enter Tryz.func54, Tryz.ntmps54
    go_wp2
    go_ret
    exact ⟨by rw [Fin.out 1 (Or.inr ⟨Or.inl h0, rfl⟩)]; rfl, rfl⟩
  · by_cases h1 : n < m
    · have h1' : ¬ (m : Int) ≤ n := by omega
      go_enter Tryz.func54, Tryz.ntmps54
      go_wp2
      go_ret
      exact ⟨by rw [Fin.out 0 (Or.inl ⟨⟨by omega, h1⟩, rfl⟩)]; rfl, rfl⟩
    · have h1' : (m : Int) ≤ n := by omega
      go_enter Tryz.func54, Tryz.ntmps54
      go_wp2
      go_ret
      exact ⟨by rw [Fin.out 1 (Or.inr ⟨Or.inr h1', rfl⟩)]; rfl, rfl⟩
end Go.Proofs.YtpmkegbgbldpnaaGreatDoor
