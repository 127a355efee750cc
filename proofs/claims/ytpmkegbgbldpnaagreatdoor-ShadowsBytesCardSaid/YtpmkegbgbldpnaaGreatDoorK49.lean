/-
  errors.As at the error type of package shadows: turned from the worked example.
  Package drydocklaw01 by its own text: SameBytes.
  Package drydocklaw01 by its own text: SameNumbers of lists that are alike, SameBytes likewise, Beyond of one and of two; bytes as a text.
  Layer 18's law: what a store has.
  Rows of structs (so many cells an element) that a call makes by append: as parts; append of a row that reads so. No program in sight.
  Layer 18's law: things but those of one id, plain; lists of things that the law makes.
  Package drydocklaw18 by its own text: the walk of ShadowsUndo.
  Layer 18's laws: a store that was committed, opened again behind a failure.
  Package shadows by its own text: a disk that can't be opened.
  Layer 18's law: whatever a disk's bytes are: what is opened goes on. Plain.
-/
import Derived.Test.YtpmkegbgbldpnaaGreatDoorK48
import Derived.WalkKit
import Derived.LaidEql
import Derived.Stop.Asserts
import Derived.RowKitTokens
import Derived.Test.YtpmkegbgbldpnaaGreatDoorRows
import Derived.Test.YtpmkegbgbldpnaaGreatDoorK01
import Derived.Deep.LoopGhost
import Derived.Test.YtpmkegbgbldpnaaGreatDoorK08
import Derived.Laws.BytesArg
import Derived.Test.YtpmkegbgbldpnaaGreatDoorK17
import Derived.Test.YtpmkegbgbldpnaaGreatDoorK47
import Derived.Test.YtpmkegbgbldpnaaGreatDoorK06
import Derived.Test.YtpmkegbgbldpnaaGreatDoorK07
import Derived.Maps.AppendAt
import Derived.Test.YtpmkegbgbldpnaaGreatDoorK02
import Derived.Deep.DeepCutAuto
import Derived.Deep.CutBlock
import Derived.Lib.SmallJoins
namespace Go.Proofs.YtpmkegbgbldpnaaGreatDoor
open Go.RowKit Go.Extern.Stop Go.Stop Go.Extern


theorem Tas_valueOf27 (t : Addr) (w : World) : (ReflectliteValue.unpack (.iface 130 (.pointer (some t)))).run Tryz.prog w
    = .ok (.agg #[.pointer (some ⟨6, 130, none⟩), .pointer (some ⟨w.heap.size, 0, none⟩), .int .u64 150]) (w.alloc (.cells #[.pointer (some t)] 130)) := by kernel_rfl
theorem Tas_type27 (a : Addr) (w : World) : (ReflectliteValue.methodAny (ReflectliteValue.valueError "reflectlite.Value.Type" 0) (fun t _ _ _ => ReflectliteType.toType t) #[.agg #[.pointer (some ⟨6, 130, none⟩), .pointer (some a), .int .u64 150]]).run Tryz.prog w
    = .ok (.iface 336 (.agg #[.pointer (some ⟨6, 130, none⟩)])) w := by kernel_rfl
theorem Tas_methodKind (h : Value) (w : World) : (Go.method 552 336 (.agg #[h]) "Kind").run Tryz.prog w = .ok (314, h) w := by kernel_rfl
theorem Tas_kind27 (w : World) : ((ReflectliteType.abiMethod fun t => (fun a : Nat => Value.int IntKind.u8 (a : Int)) <$> Rtype.kind t) #[.pointer (some ⟨6, 130, none⟩)]).run Tryz.prog w = .ok (.int .u8 22) w := by kernel_rfl
theorem Tas_kind25 (w : World) : ((ReflectliteType.abiMethod fun t => (fun a : Nat => Value.int IntKind.u8 (a : Int)) <$> Rtype.kind t) #[.pointer (some ⟨6, 125, none⟩)]).run Tryz.prog w = .ok (.int .u8 22) w := by kernel_rfl


theorem rlm (z : Sem Value) (f : TypeId → Addr → Nat → Nat → Sem Value) (v : Value) :
    ReflectliteValue.method z f #[v] = (do match ← ReflectliteValue.parts v with | none => z | some (t, a, fl) => f t a fl (fl % 32)) := rfl
theorem Tas_parts27 (a : Addr) (w : World) : (ReflectliteValue.parts (.agg #[.pointer (some ⟨6, 130, none⟩), .pointer (some a), .int .u64 150])).run Tryz.prog w = .ok (some (130, a, 150)) w := by kernel_rfl
/-- (Value).IsNil at the Value of a **p.E that is not nil. -/
theorem Tas_isNil27 (a p : Addr) (W : World) (ha : W.cell? a = some (.pointer (some p))) :
    (ReflectliteValue.method (ReflectliteValue.valueError "reflectlite.Value.IsNil" 0) ReflectliteValue.isNil #[.agg #[.pointer (some ⟨6, 130, none⟩), .pointer (some a), .int .u64 150]]).run Tryz.prog W = .ok (.bool false) W := by
  rw [rlm]
  simp only [Sem.run_bind, Tas_parts27, Result.andThen]
  simp [ReflectliteValue.isNil, loadVar, isAgg, underlying, Tryz.underlying130, ha, Result.andThen]

theorem Tas_methodElem (h : Value) (w : World) : (Go.method 552 336 (.agg #[h]) "Elem").run Tryz.prog w = .ok (327, .agg #[h]) w := by kernel_rfl
theorem Tas_methodImplements (h : Value) (w : World) : (Go.method 552 336 (.agg #[h]) "Implements").run Tryz.prog w = .ok (328, .agg #[h]) w := by kernel_rfl
theorem Tas_methodAssignableTo (h : Value) (w : World) : (Go.method 552 336 (.agg #[h]) "AssignableTo").run Tryz.prog w = .ok (325, .agg #[h]) w := by kernel_rfl
theorem Tas_elem27 (w : World) : (ReflectliteType.method ReflectliteType.elem #[.agg #[.pointer (some ⟨6, 130, none⟩)]]).run Tryz.prog w = .ok (.iface 336 (.agg #[.pointer (some ⟨6, 125, none⟩)])) w := by kernel_rfl
theorem Tas_implements25 (w : World) : (ReflectliteType.relation "Implements" ReflectliteType.implements_ #[.agg #[.pointer (some ⟨6, 125, none⟩)], .iface 336 (.agg #[.pointer (some ⟨6, 128, none⟩)])]).run Tryz.prog w = .ok (.bool true) w := by kernel_rfl
theorem Tas_typeOf25 (v : Value) (w : World) : (ReflectliteType.typeOf #[.iface 125 v]).run Tryz.prog w = .ok (.iface 336 (.agg #[.pointer (some ⟨6, 125, none⟩)])) w := by kernel_rfl
theorem Tas_assignable25 (w : World) : (ReflectliteType.relation "AssignableTo" ReflectliteType.assignableTo #[.agg #[.pointer (some ⟨6, 125, none⟩)], .iface 336 (.agg #[.pointer (some ⟨6, 125, none⟩)])]).run Tryz.prog w = .ok (.bool true) w := by kernel_rfl
theorem Tas_valueOf25 (e : Addr) (w : World) : (ReflectliteValue.unpack (.iface 125 (.pointer (some e)))).run Tryz.prog w
    = .ok (.agg #[.pointer (some ⟨6, 125, none⟩), .pointer (some ⟨w.heap.size, 0, none⟩), .int .u64 150]) (w.alloc (.cells #[.pointer (some e)] 125)) := by kernel_rfl

theorem Tas_elemOf27 (w : World) : (Rtype.elem? 130).run Tryz.prog w = .ok (some 125) w := by kernel_rfl
theorem Tas_mk25 (p : Addr) (w : World) : (ReflectliteValue.mk 125 p ReflectliteValue.flagAddr).run Tryz.prog w = .ok (.agg #[.pointer (some ⟨6, 125, none⟩), .pointer (some p), .int .u64 406]) w := by kernel_rfl
/-- (Value).Elem at the Value of a **p.E that is not nil: the Value of the *p.E variable that it points to, addressable. -/
theorem Tas_elemV27 (a p : Addr) (W : World) (ha : W.cell? a = some (.pointer (some p))) :
    (ReflectliteValue.method (ReflectliteValue.valueError "reflectlite.Value.Elem" 0) ReflectliteValue.elem #[.agg #[.pointer (some ⟨6, 130, none⟩), .pointer (some a), .int .u64 150]]).run Tryz.prog W
      = .ok (.agg #[.pointer (some ⟨6, 125, none⟩), .pointer (some p), .int .u64 406]) W := by
  rw [rlm]
  simp only [Sem.run_bind, Tas_parts27, Result.andThen]
  simp [ReflectliteValue.elem, loadVar, isAgg, underlying, Tryz.underlying130, ha, Result.andThen, Tas_elemOf27, Tas_mk25]
theorem rls (v x : Value) : ReflectliteValue.set #[v, x] = (do
    let (some (dst, a, fl), some (src, b, _)) := (← ReflectliteValue.parts v, ← ReflectliteValue.parts x)
      | unsupported (.noEntry "extern/(internal/reflectlite.Value).Set.zeroValue")
    if fl / ReflectliteValue.flagAddr % 2 == 0 then unsupported (.noEntry "extern/(internal/reflectlite.Value).Set.unaddressable")
    let val ← loadVar src b
    if ← Rtype.directlyAssignable dst src then storeVar dst a val
    else if ← Rtype.implements dst src then
      if (← Rtype.kind src) == 20 then
        match val with
        | .nilIface => unsupported (.noEntry "extern/reflectlite: a nil value of one interface type handed on as a value of another")
        | _ => storeVar dst a val
      else storeVar dst a (.iface src val)
    else panicString ("reflectlite.Set: value of type " ++ (← Rtype.spelt src) ++ " is not assignable to type " ++ (← Rtype.spelt dst))
    pure (.tuple #[])) := rfl
theorem Tas_parts25a (a : Addr) (w : World) : (ReflectliteValue.parts (.agg #[.pointer (some ⟨6, 125, none⟩), .pointer (some a), .int .u64 406])).run Tryz.prog w = .ok (some (125, a, 406)) w := by kernel_rfl
theorem Tas_parts25 (a : Addr) (w : World) : (ReflectliteValue.parts (.agg #[.pointer (some ⟨6, 125, none⟩), .pointer (some a), .int .u64 150])).run Tryz.prog w = .ok (some (125, a, 150)) w := by kernel_rfl
theorem Tas_direct25 (w : World) : (Rtype.directlyAssignable 125 125).run Tryz.prog w = .ok true w := by kernel_rfl
/-- (Value).Set: the *p.E variable at 'ta' gets what the Value's own variable 'b' holds. -/
theorem Tas_set25 (ta b e : Addr) (old : Value) (W : World) (hb : W.cell? b = some (.pointer (some e))) (ht : W.cell? ta = some old) (hf : W.frozen? ta = false) :
    (ReflectliteValue.set #[.agg #[.pointer (some ⟨6, 125, none⟩), .pointer (some ta), .int .u64 406], .agg #[.pointer (some ⟨6, 125, none⟩), .pointer (some b), .int .u64 150]]).run Tryz.prog W
      = .ok (.tuple #[]) (W.setCell ta (.pointer (some e))) := by
  rw [rls]
  simp only [Sem.run_bind, Tas_parts25a, Tas_parts25, Result.andThen]
  simp [ReflectliteValue.flagAddr, loadVar, isAgg, underlying, Tryz.underlying125, hb, Result.andThen, Tas_direct25, storeVar, Value.cells, storeCells, Addr.add]
  rw [run_store Tryz.prog W ta _ _ (by rfl)]
  simp [ht, hf]

set_option maxHeartbeats 4000000 in
theorem as_hit (e t : Addr) (old : Value) (w : World) (hg : w.cell? ⟨0, 0, none⟩ = some (.iface 336 (.agg #[.pointer (some ⟨6, 128, none⟩)]))) (ht0 : w.cell? t = some old) (hf0 : w.frozen? t = false) :
    Calls Tryz.prog 56 #[.iface 125 (.pointer (some e)), .iface 130 (.pointer (some t))] w fun ev w' => ev = .returned (.bool true) ∧ w' = ((((w.alloc (.cells #[.pointer (some t)] 130)).alloc (.cells #[.pointer (some ⟨6, 130, none⟩), .pointer (some ⟨w.heap.size, 0, none⟩), .int .u64 150] 199)).alloc (.cells #[.pointer (some ⟨6, 130, none⟩), .pointer (some ⟨w.heap.size, 0, none⟩), .int .u64 150] 199)).alloc (.cells #[.pointer (some e)] 125)).setCell t (.pointer (some e)) := by
  have h6 := @run_callFunc_extern Tryz.prog 143 _ (fun args => ReflectliteValue.unpack (args.getD 0 (.tuple #[]))) Tryz.func143 (by kernel_rfl) (by kernel_rfl) (by kernel_rfl) (by kernel_rfl)
  have h7 := @run_callFunc_extern Tryz.prog 144 _ (ReflectliteValue.methodAny (ReflectliteValue.valueError "reflectlite.Value.Type" 0) (fun t _ _ _ => ReflectliteType.toType t)) Tryz.func144 (by kernel_rfl) (by kernel_rfl) (by kernel_rfl) (by kernel_rfl)
  have h8 := @run_callFunc_extern Tryz.prog 145 _ (ReflectliteValue.method (ReflectliteValue.valueError "reflectlite.Value.IsNil" 0) ReflectliteValue.isNil) Tryz.func145 (by kernel_rfl) (by kernel_rfl) (by kernel_rfl) (by kernel_rfl)
  have h27 := @run_callFunc_extern Tryz.prog 314 _ (ReflectliteType.abiMethod fun t => do pure (.int .u8 (← Rtype.kind t))) Tryz.func314 (by kernel_rfl) (by kernel_rfl) (by kernel_rfl) (by kernel_rfl)
  have h37 := @run_callFunc_extern Tryz.prog 327 _ (ReflectliteType.method ReflectliteType.elem) Tryz.func327 (by kernel_rfl) (by kernel_rfl) (by kernel_rfl) (by kernel_rfl)
  have h38 := @run_callFunc_extern Tryz.prog 328 _ (ReflectliteType.relation "Implements" ReflectliteType.implements_) Tryz.func328 (by kernel_rfl) (by kernel_rfl) (by kernel_rfl) (by kernel_rfl)
  have h10 := @run_callFunc_extern Tryz.prog 219 _ ReflectliteType.typeOf Tryz.func219 (by kernel_rfl) (by kernel_rfl) (by kernel_rfl) (by kernel_rfl)
  have h35 := @run_callFunc_extern Tryz.prog 325 _ (ReflectliteType.relation "AssignableTo" ReflectliteType.assignableTo) Tryz.func325 (by kernel_rfl) (by kernel_rfl) (by kernel_rfl) (by kernel_rfl)
  have h11 := @run_callFunc_extern Tryz.prog 220 _ (ReflectliteValue.method (ReflectliteValue.valueError "reflectlite.Value.Elem" 0) ReflectliteValue.elem) Tryz.func220 (by kernel_rfl) (by kernel_rfl) (by kernel_rfl) (by kernel_rfl)
  have h12 := @run_callFunc_extern Tryz.prog 221 _ ReflectliteValue.set Tryz.func221 (by kernel_rfl) (by kernel_rfl) (by kernel_rfl) (by kernel_rfl)
  have tO := Tas_typeOf25
  have mA := Tas_methodAssignableTo
  have a25 := Tas_assignable25
  have v25 := Tas_valueOf25
  have f6 := Tas_valueOf27
  have f7 := Tas_type27
  have mK := Tas_methodKind
  have mE := Tas_methodElem
  have mI := Tas_methodImplements
  have k27 := Tas_kind27
  have k25 := Tas_kind25
  have e27 := Tas_elem27
  have i25 := Tas_implements25
  have n8 := Tas_isNil27 ⟨w.heap.size, 0, none⟩ t ((w.alloc (.cells #[.pointer (some t)] 130)).alloc (.cells #[.pointer (some ⟨6, 130, none⟩), .pointer (some ⟨w.heap.size, 0, none⟩), .int .u64 150] 199)) (by simp)
  have hlt : 0 < w.heap.size := by
    rcases Nat.eq_zero_or_pos w.heap.size with h0 | h
    · simp [World.cell?, h0] at hg
    · exact h
  have hg2 : ((w.alloc (.cells #[.pointer (some t)] 130)).alloc (.cells #[.pointer (some ⟨6, 130, none⟩), .pointer (some ⟨w.heap.size, 0, none⟩), .int .u64 150] 199)).cell? ⟨0, 0, none⟩ = some (.iface 336 (.agg #[.pointer (some ⟨6, 128, none⟩)])) := by
    rw [World.cell?_alloc_lt _ _ ⟨0, 0, none⟩ (by simp), World.cell?_alloc_lt _ _ ⟨0, 0, none⟩ hlt]; exact hg
  have htl : t.block < w.heap.size := by
    rcases Nat.lt_or_ge t.block w.heap.size with h | h
    · exact h
    · simp [World.cell?, Array.getElem?_eq_none h] at ht0
  have el := Tas_elemV27 ⟨w.heap.size, 0, none⟩ t (((w.alloc (.cells #[.pointer (some t)] 130)).alloc (.cells #[.pointer (some ⟨6, 130, none⟩), .pointer (some ⟨w.heap.size, 0, none⟩), .int .u64 150] 199)).alloc (.cells #[.pointer (some ⟨6, 130, none⟩), .pointer (some ⟨w.heap.size, 0, none⟩), .int .u64 150] 199)) (by rw [World.cell?_alloc_lt _ _ ⟨w.heap.size, 0, none⟩ (by simp; omega)]; simp)
  have st := Tas_set25 t ⟨w.heap.size + 1 + 1 + 1, 0, none⟩ e old ((((w.alloc (.cells #[.pointer (some t)] 130)).alloc (.cells #[.pointer (some ⟨6, 130, none⟩), .pointer (some ⟨w.heap.size, 0, none⟩), .int .u64 150] 199)).alloc (.cells #[.pointer (some ⟨6, 130, none⟩), .pointer (some ⟨w.heap.size, 0, none⟩), .int .u64 150] 199)).alloc (.cells #[.pointer (some e)] 125))
    (by rw [World.cell?_alloc_at _ _ _ _ (by simp)]; rfl)
    (by rw [World.cell?_alloc_lt _ _ t (by simp; omega), World.cell?_alloc_lt _ _ t (by simp; omega), World.cell?_alloc_lt _ _ t (by simp; omega), World.cell?_alloc_lt _ _ t htl]; exact ht0)
    (by rw [World.frozen?_alloc_old _ _ t (by simp; omega), World.frozen?_alloc_old _ _ t (by simp; omega), World.frozen?_alloc_old _ _ t (by simp; omega), World.frozen?_alloc_old _ _ t (Nat.ne_of_lt htl)]; exact hf0)
  go_enter Tryz.func56, Tryz.ntmps56
  go_wp2
  refine wp_loop_rounds 1 ?_
  rw [rounds_succ]
  go_wp2
  go_ret
  exact ⟨rfl, rfl⟩
end Go.Proofs.YtpmkegbgbldpnaaGreatDoor
namespace Go.Proofs.YtpmkegbgbldpnaaGreatDoor
open Go Go.RowKit

end Go.Proofs.YtpmkegbgbldpnaaGreatDoor
namespace Go.Proofs.YtpmkegbgbldpnaaGreatDoor
open Go Go.RowKit
set_option linter.unusedSimpArgs false

end Go.Proofs.YtpmkegbgbldpnaaGreatDoor
namespace Go.Proofs.YtpmkegbgbldpnaaGreatDoor
open Go Go.RowKit
set_option linter.unusedSimpArgs false
set_option linter.unusedVariables false
section
variable {w0 w w' : World} {s d f : Nat} {T : Sh.Sto} {E : List Part}
end
end Go.Proofs.YtpmkegbgbldpnaaGreatDoor
namespace Go.Proofs.YtpmkegbgbldpnaaGreatDoor
open Go Go.RowKit
set_option linter.unusedSimpArgs false
set_option linter.unusedVariables false
section
variable {P : Program} {w : World}
end
end Go.Proofs.YtpmkegbgbldpnaaGreatDoor
namespace Go.Proofs.YtpmkegbgbldpnaaGreatDoor
set_option maxRecDepth 100000
open Go Go.RowKit
set_option linter.unusedSimpArgs false
set_option linter.unusedVariables false
namespace Sh
def but (id : Nat) (l : List TgDeed) : List TgDeed := l.filter fun x => !decide (x.id = id)
end Sh
section
variable {u : Bool} {w0 w w' : World} {s d f : Nat} {T : Sh.Sto} {E : List Part}
end
end Go.Proofs.YtpmkegbgbldpnaaGreatDoor
namespace Go.Proofs.YtpmkegbgbldpnaaGreatDoor
open Go Go.RowKit
set_option linter.unusedSimpArgs false
set_option linter.unusedVariables false
theorem TabAt.no {w w' : World} (h : TabAt w) (t : Touch No w w') : TabAt w' := fun j hj => t.cell (fun f => f) (h j hj)
section
variable {w0 w w' : World} {s d f : Nat} {T : Sh.Sto} {E : List Part}
end
end Go.Proofs.YtpmkegbgbldpnaaGreatDoor
namespace Go.Proofs.YtpmkegbgbldpnaaGreatDoor
open Go Go.RowKit
set_option linter.unusedSimpArgs false
set_option linter.unusedVariables false
section
variable {w0 w w' : World} {s d f : Nat} {D : Dk.Disk} {T : Sh.Sto} {E : List Part}
theorem shOpen_again (h : Dd w0 w d D E) (lo : 32 ≤ D.seen.length) (hi : D.seen.length ≤ 16384) (hrd : Sh.readsP D = .ok T) (hu : Mp.Up T.kept) (hlt : ∀ p ∈ T.kept, p.1 < 4294967296) (hl : T.kept.length ≤ 64) :
    Calls Tryz.prog 13 #[.pointer (some ⟨d, 0, none⟩)] w fun e w' => ∃ s f, e = .returned (.tuple #[.pointer (some ⟨s, 0, none⟩), .int .i64 0]) ∧ Sg true w0 w' s d f { T with now := T.kept, puts := 64 } E := by
  refine shOpen_ok h lo hi T hu hlt hl (fun w2 s2 E2 h2 => (shReads_any h2 lo hi).mono ?_)
  rintro e w' (⟨T', f, e1, _, he, hs⟩ | ⟨k, b, st, e1, _⟩)
  · rw [hrd] at e1
    cases e1
    exact ⟨he, f, hs⟩
  · rw [hrd] at e1; cases e1
end
namespace Sh
end Sh
end Go.Proofs.YtpmkegbgbldpnaaGreatDoor
namespace Go.Proofs.YtpmkegbgbldpnaaGreatDoor
open Go Go.RowKit Go.Maps
set_option linter.unusedSimpArgs false
set_option linter.unusedVariables false
/-- package errors' variable holds the handle of the type 'error' -/
def ErrAt (w : World) : Prop := w.cell? ⟨0, 0, none⟩ = some (.iface 336 (.agg #[.pointer (some ⟨6, 128, none⟩)]))
theorem ErrAt.no {w w' : World} (h : ErrAt w) (t : Touch No w w') : ErrAt w' := t.cell (fun f => f) h
section
variable {w0 w w' : World} {d : Nat} {D : Dk.Disk} {E : List Part}
theorem Dd.setRow {x : Nat} {T : TypeId} {vs : List Value} (h : Dd w0 w d D (Part.row x T vs :: E)) (i : Nat) (v : Value) : Dd w0 (w.setCell ⟨x, i, none⟩ v) d D (Part.row x T (vs.set i v) :: E) := by
  obtain ⟨A, ⟨h1, h2, h3⟩, hA, _, hf⟩ := h.with
  refine hf _ [_] ⟨(Touch.refl A w).setCell (p := ⟨x, i, none⟩) (fun _ => h2) v, A, ⟨A, fun _ => False, ⟨?_, h2, fun k hk => ?_⟩, trivial, fun _ _ f => f, fun _ h => h, fun _ f => f.elim⟩, fun k hk => Or.inl hk⟩
  · exact h1.setCell i v
  · have := h3 k hk; simpa [World.setCell] using this
set_option maxRecDepth 100000 in
set_option maxHeartbeats 8000000 in
theorem shOpen_bad (h : Dd w0 w d D E) (lo : 32 ≤ D.seen.length) (hi : D.seen.length ≤ 16384) (k : Nat) (hrd : Sh.readsP D = .error k) (hE : ErrAt w0) :
    Calls Tryz.prog 13 #[.pointer (some ⟨d, 0, none⟩)] w fun e w' => e = .returned (.tuple #[.pointer none, .int .i64 (k : Nat)]) ∧ Dd w0 w' d D E := by
  have hmm := @run_makeMap Tryz.prog
  have H := Lib.hid h
  have Hlo := Lib.hid lo
  have Hhi := Lib.hid hi
  have HRd := Lib.hid hrd
  have HE := Lib.hid hE
  have CL : Hid (Calls Tryz.prog 55 #[.pointer (some ⟨d, 0, none⟩)] w fun e w' => e = .returned (.int .i64 (D.seen.length : Nat)) ∧ w = w') := h.len
  obtain ⟨n, hn⟩ : ∃ n, D.seen.length = n := ⟨_, rfl⟩
  rw [hn] at CL lo hi
  have hn0 : ¬ (n : Int) = 0 := by omega
  have hn32 : ¬ (n : Int) < 32 := by omega
  clear h hrd hn hE
  go_enter Tryz.func13, Tryz.ntmps13
  go_wp2_with fail
  refine CL.out.mono ?_
  rintro e w' ⟨rfl, rfl⟩
  go_wp2_with fail
  obtain ⟨w1, hw1⟩ : ∃ w1, w1 = (w.alloc (.map #[] 0)).alloc (.cells #[.pointer (some ⟨d, 0, none⟩), .int .u32 0, .map none, .map (some w.heap.size), .slice none 0 0, .pointer none] 124) := ⟨_, rfl⟩
  obtain ⟨s, hs⟩ : ∃ s, s = w.heap.size + 1 := ⟨_, rfl⟩
  have S1 : Hid (Dd w0 w1 d D (Part.sto s (some ⟨d, 0, none⟩) none false ⟨0, [], 0, [], []⟩ :: E)) := by
    show Dd _ _ _ _ _
    rw [hw1, hs]
    exact Dd.push H.out (born_sto w d)
  obtain ⟨w2, hw2⟩ : ∃ w2, w2 = w1.alloc (.cells #[.pointer none] 125) := ⟨_, rfl⟩
  obtain ⟨F, hF⟩ : ∃ F, F = w1.heap.size := ⟨_, rfl⟩
  have S2 : Hid (Dd w0 w2 d D (Part.sto s (some ⟨d, 0, none⟩) none false ⟨0, [], 0, [], []⟩ :: Part.row F 125 [.pointer none] :: E)) := by
    show Dd _ _ _ _ _
    rw [hw2, hF]
    exact Dd.perm (Dd.push S1.out (Born.row w1 125 #[.pointer none])) (List.Perm.swap _ _ _)
  have hF2 : s + 1 = F := by rw [hF, hs, hw1]; simp
  have CR := Lib.hid (shReads_any S2.out Hlo.out Hhi.out)
  rw [← hw1, ← hw2, ← hs, hF2]
  clear hw1 hw2 hF hF2 S1 S2 H CL hmm
  refine CR.out.mono ?_
  rintro e w3 (⟨T', f, e1, _, _, _⟩ | ⟨k', b, st, e1, rfl, s3⟩)
  · rw [HRd.out] at e1; cases e1
  · rw [HRd.out] at e1
    obtain rfl : k = k' := by cases e1; rfl
    have S3 := Lib.hid s3
    have rF : Row w3 F 125 [.pointer none] := Dd.row s3 (List.mem_cons_of_mem _ List.mem_cons_self)
    have ht0 : w3.cell? ⟨F, 0, none⟩ = some (.pointer none) := rF.cell 0
    have hf0 : w3.frozen? ⟨F, 0, none⟩ = false := rF.soft 0
    have CA := Lib.hid (as_hit ⟨b, 0, none⟩ ⟨F, 0, none⟩ (.pointer none) w3 (HE.out.no s3.end) ht0 hf0)
    clear s3 CR rF ht0 hf0 e1
    unfold faultV
    go_wp2_with fail
    refine CA.out.mono ?_
    rintro e w4 ⟨rfl, hw4⟩
    have S4 : Hid (Dd w0 w4 d D (Part.row F 125 [.pointer (some ⟨b, 0, none⟩)] :: Part.row b 132 [.string st, .int .i64 (k : Nat)] :: E)) := by
      show Dd _ _ _ _ _
      have h1 := Dd.no (Dd.perm S3.out (List.Perm.swap _ _ _)) (((((Touch.refl No w3).alloc (.cells #[.pointer (some ⟨F, 0, none⟩)] 130)).alloc (.cells #[.pointer (some ⟨6, 130, none⟩), .pointer (some ⟨w3.heap.size, 0, none⟩), .int .u64 150] 199)).alloc (.cells #[.pointer (some ⟨6, 130, none⟩), .pointer (some ⟨w3.heap.size, 0, none⟩), .int .u64 150] 199)).alloc (.cells #[.pointer (some ⟨b, 0, none⟩)] 125))
      have h2 := Dd.setRow h1 0 (.pointer (some ⟨b, 0, none⟩))
      rw [hw4]
      exact h2
    have f0 : w4.cell? ⟨F, 0, none⟩ = some (.pointer (some ⟨b, 0, none⟩)) := (Dd.row S4.out List.mem_cons_self).cell 0
    have f1 : w4.cell? ⟨b, 1, none⟩ = some (.int .i64 (k : Nat)) := (Dd.row S4.out (List.mem_cons_of_mem _ List.mem_cons_self)).cell 1
    clear hw4 S3 CA
    go_wp2_with fail
    go_quiet (fail)
    go_wp2
    go_ret2
    exact ⟨rfl, (S4.out.drop.drop).no ((Touch.refl No w4).drewN _)⟩
end
end Go.Proofs.YtpmkegbgbldpnaaGreatDoor
namespace Go.Proofs.YtpmkegbgbldpnaaGreatDoor
set_option maxRecDepth 100000
open Go Go.RowKit
set_option linter.unusedSimpArgs false
set_option linter.unusedVariables false
namespace Sh
theorem reads_err {D : Dk.Disk} {k : Nat} (h : readsP D = .error k) : k ≠ 0 := by
  unfold readsP at h
  split at h
  · cases h
  · split at h
    · rename_i g; cases h; exact g
    · split at h
      · cases h; decide
      · split at h
        · rename_i g; cases h; exact g
        · split at h
          · cases h; decide
          · split at h
            · cases h; decide
            · split at h
              · rename_i g; cases h; exact g
              · split at h
                · cases h; decide
                · split at h
                  · cases h; decide
                  · cases h
theorem ok_root_put {T : Sto} (h : Ok T) (hr : Rt.At T.D T.epoch) (id : Nat) (b : List Nat) : Rt.At (putT T id b).D (putT T id b).epoch := by
  unfold putT
  split
  · exact hr.pages (fun p hp => (h.put_new hp).1) _ _
  · exact hr
theorem ok_comE {T : Sto} (h : Ok T) (hr : Rt.At T.D T.epoch) : comE T = 0 ∨ comE T = 6 ∨ comE T = 1 := by
  by_cases hf : comF T
  · have h2 : Rt.At (comD2 T) T.epoch := (hr.page ((h.com_free (x := comH T) (by rw [comL_cons hf]; exact List.mem_cons_self)).1) _ _).pages (fun p hp => (h.com_free (List.mem_of_mem_tail hp)).1) _ _
    rw [comE, if_pos hf, Rt.wE]
    have h3 : Rt.findE (comD2 T) = 0 ∨ Rt.findE (comD2 T) = 7 := by
      rcases h2 with ⟨h, _⟩ | ⟨h, _⟩
      · exact Or.inr h
      · exact Or.inl h
    rw [if_neg (by omega)]
    split
    · exact Or.inr (Or.inr rfl)
    · exact Or.inl rfl
  · rw [comE, if_neg hf]; exact Or.inr (Or.inl rfl)
theorem putE_any {T : Sto} {id n : Nat} (h1 : n ≤ 65536) : putE T id n = 0 ∨ putE T id n = 6 ∨ putE T id n = 3 := by
  unfold putE
  rw [if_neg (by omega)]
  split
  · exact Or.inr (Or.inr rfl)
  · split
    · exact Or.inr (Or.inl rfl)
    · exact Or.inl rfl
theorem ok_get {T : Sto} (h : Ok T) {id : Nat} (hid : id < 4294967296) {b : List Nat} (he : putE T id b.length = 0) : getE (putT T id b) id = 0 ∧ getB (putT T id b) id = b := by
  have ho := h.put hid b
  have e : putT T id b = ⟨Ex.wD T.D (nx T.epoch) (putL T id b.length) b, Fr.sub (dropS T (Mp.look T.now id)) (putL T id b.length), T.epoch, Mp.put T.now id ⟨b.length, nx T.epoch, putL T id b.length, true⟩, T.kept, T.table, T.puts + 1⟩ := by rw [putT, if_pos he]
  have hm := h.put_may he
  have hg : Good (Ex.wD T.D (nx T.epoch) (putL T id b.length) b) ⟨b.length, nx T.epoch, putL T id b.length, true⟩ b := Good.new _ _ hm
  have hr := hg.read ((Ex.may_len (Ex.wD_len _ _ _ _)).2 hm) (fun y hy => by have := (h.put_new hy).2.1; have := many_le h.hi; omega) (nx_lt _)
  rw [e, getE, getB]
  simp only [Mp.look_put_same]
  exact hr
end Sh
end Go.Proofs.YtpmkegbgbldpnaaGreatDoor
