/-
  Rows of many cells: whole arrays and structs loaded out of, and stored into, the middle of a block. No program in sight.
-/
import Derived.Test.YtnjdcpbaippdlaaBase
import Derived.Laws.Rows
import Derived.Laws.Tables
import Derived.Laws.CopyRow
namespace Go.Proofs.Ytnjdcpbaippdlaa
open Go Go.RowKit

/-- block g is a row of these cells -/
def Row (w : World) (g : Nat) (T : TypeId) (l : List Value) : Prop := w.heap[g]? = some (.cells l.toArray T (0, 0))
def splice (l : List Value) (o : Nat) (vs : List Value) : List Value := l.take o ++ vs ++ l.drop (o + vs.length)
theorem splice_length {l : List Value} {o : Nat} {vs : List Value} (h : o + vs.length ≤ l.length) : (splice l o vs).length = l.length := by
  simp [splice]; omega
theorem Row.lt {w : World} {g : Nat} {T : TypeId} {l : List Value} (h : Row w g T l) : g < w.heap.size := by
  by_cases hb : g < w.heap.size
  · exact hb
  · rw [Row, Array.getElem?_eq_none (Nat.le_of_not_lt hb)] at h; cases h
theorem Row.touch {F : Nat → Prop} {w w' : World} {g : Nat} {T : TypeId} {l : List Value} (h : Row w g T l) (t : Touch F w w') (hF : ¬ F g) : Row w' g T l := by
  rw [Row, t.block g h.lt hF]; exact h
theorem Row.cell {w : World} {g : Nat} {T : TypeId} {l : List Value} (h : Row w g T l) (o : Nat) : w.cell? ⟨g, o, none⟩ = l[o]? := by
  simp only [World.cell?]; rw [h]; simp
theorem Row.soft {w : World} {g : Nat} {T : TypeId} {l : List Value} (h : Row w g T l) (o : Nat) : w.frozen? ⟨g, o, none⟩ = false := by
  simp only [World.frozen?]; rw [h]; simp
theorem Row.new (w : World) (T : TypeId) (c : Array Value) : Row (w.alloc (.cells c T)) w.heap.size T c.toList := by
  rw [Row, Array.toArray_toList]; exact heap_alloc_new w _
theorem Row.setRow {w : World} {g : Nat} {T : TypeId} {l : List Value} (h : Row w g T l) (l' : List Value) : Row (w.setRow g l'.toArray) g T l' := setRow_heap w g _ _ _ _ h
theorem Row.setCell {w : World} {g : Nat} {T : TypeId} {l : List Value} (h : Row w g T l) (o : Nat) (v : Value) : Row (w.setCell ⟨g, o, none⟩ v) g T (l.set o v) := by
  rw [setCell_eq_setRow w g o _ T (0, 0) v h]
  have := setRow_heap w g l.toArray (l.toArray.setIfInBounds o v) T (0, 0) h
  rw [Row, this]; simp
theorem Touch.setRow {F : Nat → Prop} {a w : World} (h : Touch F a w) {g : Nat} (hg : g < a.heap.size → F g) (c : Array Value) : Touch F a (w.setRow g c) :=
  ⟨h.os, h.tape, h.output, by simpa [World.setRow] using h.size, fun k hk hF => by
    have hne : g ≠ k := fun e => hF (e ▸ hg (e ▸ hk))
    rw [← h.block k hk hF]
    simp only [World.setRow, Array.getElem?_modify]
    rw [if_neg hne]⟩
theorem setRow_size (w : World) (g : Nat) (c : Array Value) : (w.setRow g c).heap.size = w.heap.size := by simp [World.setRow]

section
variable {P : Program}

theorem add_off (g o j : Nat) : (⟨g, o, none⟩ : Addr).add j = ⟨g, o + j, none⟩ := by unfold Addr.add; split <;> simp_all

theorem run_load_mid {w : World} {g o n : Nat} {T ty : TypeId} {l : List Value} (hg : Row w g T l) {d : TypeDesc} (hu : P.underlying ty = some d) (hd : (match d with | .struct _ | .array _ _ => true | _ => false) = true)
    (hi : (P.info? ty).map (·.size) = some n) (ho : o + n ≤ l.length) : (loadVar ty ⟨g, o, none⟩).run P w = .ok (.agg ((l.drop o).take n).toArray) w := by
  have hlen : ((l.drop o).take n).length = n := by simp; omega
  have hl : (loadCells ⟨g, o, none⟩ ((l.drop o).take n).length).run P w = .ok ((l.drop o).take n).toArray w :=
    run_loadCells_list (P := P) w ⟨g, o, none⟩ _ (fun j v hv => by
      rw [add_off, hg.cell]
      rw [List.getElem?_take] at hv
      split at hv
      · rwa [List.getElem?_drop] at hv
      · cases hv)
  rw [hlen] at hl
  cases hq : P.info? ty with
  | none => simp [hq] at hi
  | some i =>
    have hs : i.size = n := by simpa [hq] using hi
    have hagg : (isAgg ty).run P w = .ok true w := by
      unfold isAgg
      rw [Sem.run_bind, run_underlying hu w]
      cases d <;> simp_all
    simp [loadVar, Sem.run_bind, hagg, sizeOf, typeInfo, hq, hs, hl]

theorem run_store_mid {w : World} {g o : Nat} {T ty : TypeId} {l : List Value} (hg : Row w g T l) (vs : List Value) (hi : (P.info? ty).map (·.size) = some vs.length) (ho : o + vs.length ≤ l.length) (h1 : ∀ v ∈ vs, v.oneCell' = true) :
    (storeVar ty ⟨g, o, none⟩ (.agg vs.toArray)).run P w = .ok () (w.setRow g (splice l o vs).toArray) := by
  have hst := run_storeCells_at P g o T vs 0 l.toArray w hg (by simpa using ho) h1
  cases hq : P.info? ty with
  | none => simp [hq] at hi
  | some i =>
    have hs : i.size = vs.length := by simpa [hq] using hi
    simp only [Nat.add_zero] at hst
    simp [storeVar, Sem.run_bind, sizeOf, typeInfo, hq, hs, Value.cells, hst, splice]

/-- a whole array or struct out of the middle of a row -/
theorem wp_load_mid {o : Oper} {a : Act} {w : World} {K : Act → World → Prop} {Q : Exit → Act → World → Prop} (ty : TypeId) (x : Operand) (hop : o.op = .load ty x) (n g off : Nat) (T : TypeId) (l : List Value) (hg : Row w g T l)
    (hx : a.eval x = .pointer (some ⟨g, off, none⟩)) (d : TypeDesc) (hu : P.underlying ty = some d) (hd : (match d with | .struct _ | .array _ _ => true | _ => false) = true)
    (hi : (P.info? ty).map (·.size) = some n) (ho : off + n ≤ l.length) (h : K (a.put o.dst (.agg ((l.drop off).take n).toArray)) w) : o.wp P a w K Q := by
  unfold Oper.wp execOp
  simp only [hop, hx, Instr.loadAt, Instr.sureAddr, Sem.run_bind, Sem.run_pure, Result.andThen_ok, run_load_mid hg hu hd hi ho]
  exact h
theorem wpList_load_mid {ops : Array Oper} {rest : List Oper} {o : Oper} {a : Act} {w : World} {Q : Exit → Act → World → Prop} (hgd : o.guard = none) (ty : TypeId) (x : Operand) (hop : o.op = .load ty x) (n g off : Nat) (T : TypeId) (l : List Value) (hg : Row w g T l)
    (hx : a.eval x = .pointer (some ⟨g, off, none⟩)) (d : TypeDesc) (hu : P.underlying ty = some d) (hd : (match d with | .struct _ | .array _ _ => true | _ => false) = true)
    (hi : (P.info? ty).map (·.size) = some n) (ho : off + n ≤ l.length) (h : wpList P ops Q rest (a.put o.dst (.agg ((l.drop off).take n).toArray)) w) : wpList P ops Q (o :: rest) a w :=
  wpList_plain hgd fun _ hK => wp_load_mid ty x hop n g off T l hg hx d hu hd hi ho (hK _ _ h)
theorem step_load_mid {ops : Array Oper} {o : Oper} {a : Act} {w : World} {K : Act → World → Prop} {Q : Exit → Act → World → Prop} {E : Prop} (hgd : o.guard = none) (ty : TypeId) (x : Operand) (hop : o.op = .load ty x) (n g off : Nat) (T : TypeId) (l : List Value) (hg : Row w g T l)
    (hx : a.eval x = .pointer (some ⟨g, off, none⟩)) (d : TypeDesc) (hu : P.underlying ty = some d) (hd : (match d with | .struct _ | .array _ _ => true | _ => false) = true)
    (hi : (P.info? ty).map (·.size) = some n) (ho : off + n ≤ l.length) (h : K (a.put o.dst (.agg ((l.drop off).take n).toArray)) w) :
    if Region.wanted o (yielded ops a.tmps) = true then Oper.wp P o a w K Q else E := by
  have hw : Region.wanted o (yielded ops a.tmps) = true := by simp [Region.wanted, hgd]
  rw [if_pos hw]
  exact wp_load_mid ty x hop n g off T l hg hx d hu hd hi ho h

/-- a whole array or struct into the middle of a row -/
theorem wp_store_mid {o : Oper} {a : Act} {w : World} {K : Act → World → Prop} {Q : Exit → Act → World → Prop} (ty : TypeId) (x y : Operand) (hop : o.op = .store ty x y) (g off : Nat) (T : TypeId) (l : List Value) (hg : Row w g T l)
    (hx : a.eval x = .pointer (some ⟨g, off, none⟩)) (vs : List Value) (hy : a.eval y = .agg vs.toArray)
    (hi : (P.info? ty).map (·.size) = some vs.length) (ho : off + vs.length ≤ l.length) (h1 : ∀ v ∈ vs, v.oneCell' = true) (h : K (a.put o.dst undef) (w.setRow g (splice l off vs).toArray)) : o.wp P a w K Q := by
  unfold Oper.wp execOp
  simp only [hop, hx, hy, Instr.storeAt, Instr.sureAddr, Sem.run_bind, Sem.run_pure, Result.andThen_ok, run_store_mid hg vs hi ho h1]
  exact h
theorem wpList_store_mid {ops : Array Oper} {rest : List Oper} {o : Oper} {a : Act} {w : World} {Q : Exit → Act → World → Prop} (hgd : o.guard = none) (ty : TypeId) (x y : Operand) (hop : o.op = .store ty x y) (g off : Nat) (T : TypeId) (l : List Value) (hg : Row w g T l)
    (hx : a.eval x = .pointer (some ⟨g, off, none⟩)) (vs : List Value) (hy : a.eval y = .agg vs.toArray)
    (hi : (P.info? ty).map (·.size) = some vs.length) (ho : off + vs.length ≤ l.length) (h1 : ∀ v ∈ vs, v.oneCell' = true) (h : wpList P ops Q rest (a.put o.dst undef) (w.setRow g (splice l off vs).toArray)) : wpList P ops Q (o :: rest) a w :=
  wpList_plain hgd fun _ hK => wp_store_mid ty x y hop g off T l hg hx vs hy hi ho h1 (hK _ _ h)
theorem step_store_mid {ops : Array Oper} {o : Oper} {a : Act} {w : World} {K : Act → World → Prop} {Q : Exit → Act → World → Prop} {E : Prop} (hgd : o.guard = none) (ty : TypeId) (x y : Operand) (hop : o.op = .store ty x y) (g off : Nat) (T : TypeId) (l : List Value) (hg : Row w g T l)
    (hx : a.eval x = .pointer (some ⟨g, off, none⟩)) (vs : List Value) (hy : a.eval y = .agg vs.toArray)
    (hi : (P.info? ty).map (·.size) = some vs.length) (ho : off + vs.length ≤ l.length) (h1 : ∀ v ∈ vs, v.oneCell' = true) (h : K (a.put o.dst undef) (w.setRow g (splice l off vs).toArray)) :
    if Region.wanted o (yielded ops a.tmps) = true then Oper.wp P o a w K Q else E := by
  have hw : Region.wanted o (yielded ops a.tmps) = true := by simp [Region.wanted, hgd]
  rw [if_pos hw]
  exact wp_store_mid ty x y hop g off T l hg hx vs hy hi ho h1 h
end
end Go.Proofs.Ytnjdcpbaippdlaa
