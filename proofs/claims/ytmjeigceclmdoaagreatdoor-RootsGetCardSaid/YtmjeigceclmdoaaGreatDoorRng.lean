/-
  Whole arrays and structs loaded out of, and stored into, a stretch of cells. No program in sight.
-/
import Derived.Test.YtmjeigceclmdoaaGreatDoorArr
import Derived.Deep.MidRow
namespace Go.Proofs.YtmjeigceclmdoaaGreatDoor
open Go Go.RowKit

section
variable {P : Program}
/-- a whole array or struct that stands at g from off on -/
theorem run_load_range {w : World} {g o n : Nat} {ty : TypeId} {vs : List Value} (hr : w.rangeAt g o vs) (hn : vs.length = n) {d : TypeDesc} (hu : P.underlying ty = some d) (hd : (match d with | .struct _ | .array _ _ => true | _ => false) = true)
    (hi : (P.info? ty).map (·.size) = some n) : (loadVar ty ⟨g, o, none⟩).run P w = .ok (.agg vs.toArray) w := by
  have hl : (loadCells ⟨g, o, none⟩ vs.length).run P w = .ok vs.toArray w :=
    run_loadCells_list (P := P) w ⟨g, o, none⟩ _ (fun j v hv => by rw [add_off]; exact hr j v hv)
  rw [hn] at hl
  cases hq : P.info? ty with
  | none => simp [hq] at hi
  | some i =>
    have hs : i.size = n := by simpa [hq] using hi
    have hagg : (isAgg ty).run P w = .ok true w := by
      unfold isAgg
      rw [Sem.run_bind, run_underlying hu w]
      cases d <;> simp_all
    simp [loadVar, Sem.run_bind, hagg, sizeOf, typeInfo, hq, hs, hl]
theorem wpList_load_range {ops : Array Oper} {rest : List Oper} {o : Oper} {a : Act} {w : World} {Q : Exit → Act → World → Prop} (hgd : o.guard = none) (ty : TypeId) (x : Operand) (hop : o.op = .load ty x) (n g off : Nat) (vs : List Value) (hr : w.rangeAt g off vs) (hn : vs.length = n)
    (hx : a.eval x = .pointer (some ⟨g, off, none⟩)) (d : TypeDesc) (hu : P.underlying ty = some d) (hd : (match d with | .struct _ | .array _ _ => true | _ => false) = true)
    (hi : (P.info? ty).map (·.size) = some n) (h : wpList P ops Q rest (a.put o.dst (.agg vs.toArray)) w) : wpList P ops Q (o :: rest) a w :=
  wpList_plain hgd fun _ hK => by
    unfold Oper.wp execOp
    simp only [hop, hx, Instr.loadAt, Instr.sureAddr, Sem.run_bind, Sem.run_pure, Result.andThen_ok, run_load_range hr hn hu hd hi]
    exact hK _ _ h
end
theorem Row.range {w : World} {g : Nat} {T : TypeId} {l : List Value} (h : Row w g T l) {o : Nat} {vs : List Value} (hv : ∀ j v, vs[j]? = some v → l[o + j]? = some v) : w.rangeAt g o vs := fun j v hj => by
  rw [h.cell]; exact hv j v hj
end Go.Proofs.YtmjeigceclmdoaaGreatDoor
