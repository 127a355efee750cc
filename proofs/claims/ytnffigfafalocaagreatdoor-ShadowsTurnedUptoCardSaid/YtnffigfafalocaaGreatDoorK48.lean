/-
  errors.As at the error type of package shadows: turned from the worked example.
  Package drydocklaw01 by its own text: SameBytes.
  Package drydocklaw01 by its own text: SameNumbers of lists that are alike, SameBytes likewise, Beyond of one and of two; bytes as a text.
  Layer 18's law: what a store has.
  Rows of structs (so many cells an element) that a call makes by append: as parts; append of a row that reads so. No program in sight.
  Layer 18's law: things but those of one id, plain; lists of things that the law makes.
  Package drydocklaw18 by its own text: the walk of ShadowsUndo.
  Layer 18's laws: a store that was committed, opened again behind a failure.
  Package shadows by its own text: a disk that can't be opened.
  Layer 18's law: whatever a disk's bytes are: what is opened goes on. Plain.
  Package drydocklaw18 by its own text: the walk of ShadowsBytes.
  What comes in, opened: lists of bytes. What the rows' list gives: the table and the handle of the type 'error'.
  What comes in, opened: a list of acts as it is read (drydock/drydocklaw18.Thing).
  What comes in, opened: things, and how much they are together.
  What comes in, opened: things that are committed, and which byte turns, and by what.
-/
import Derived.Test.YtnffigfafalocaaGreatDoorK47
import Derived.WalkKit
import Derived.LaidEql
import Derived.Stop.Asserts
import Derived.RowKitTokens
import Derived.Test.YtnffigfafalocaaGreatDoorRows
import Derived.Test.YtnffigfafalocaaGreatDoorK01
import Derived.Deep.LoopGhost
import Derived.Test.YtnffigfafalocaaGreatDoorK08
import Derived.Laws.BytesArg
import Derived.Test.YtnffigfafalocaaGreatDoorK16
import Derived.Test.YtnffigfafalocaaGreatDoorK45
import Derived.Test.YtnffigfafalocaaGreatDoorK07
import Derived.Maps.AppendAt
import Derived.Test.YtnffigfafalocaaGreatDoorK02
import Derived.Deep.DeepCutAuto
import Derived.Deep.CutBlock
import Derived.Lib.SmallJoins
import Derived.Test.YtnffigfafalocaaGreatDoorK46
import Derived.Test.YtnffigfafalocaaGreatDoorProg
import Derived.Laws.IdiomArrays
namespace Go.Proofs.YtnffigfafalocaaGreatDoor
open Go.RowKit Go.Extern.Stop Go.Stop Go.Extern


theorem Tas_valueOf27 (t : Addr) (w : World) : (ReflectliteValue.unpack (.iface 139 (.pointer (some t)))).run Tryz.prog w
    = .ok (.agg #[.pointer (some ⟨6, 139, none⟩), .pointer (some ⟨w.heap.size, 0, none⟩), .int .u64 150]) (w.alloc (.cells #[.pointer (some t)] 139)) := by kernel_rfl
theorem Tas_type27 (a : Addr) (w : World) : (ReflectliteValue.methodAny (ReflectliteValue.valueError "reflectlite.Value.Type" 0) (fun t _ _ _ => ReflectliteType.toType t) #[.agg #[.pointer (some ⟨6, 139, none⟩), .pointer (some a), .int .u64 150]]).run Tryz.prog w
    = .ok (.iface 342 (.agg #[.pointer (some ⟨6, 139, none⟩)])) w := by kernel_rfl
theorem Tas_methodKind (h : Value) (w : World) : (Go.method 542 342 (.agg #[h]) "Kind").run Tryz.prog w = .ok (305, h) w := by kernel_rfl
theorem Tas_kind27 (w : World) : ((ReflectliteType.abiMethod fun t => (fun a : Nat => Value.int IntKind.u8 (a : Int)) <$> Rtype.kind t) #[.pointer (some ⟨6, 139, none⟩)]).run Tryz.prog w = .ok (.int .u8 22) w := by kernel_rfl
theorem Tas_kind25 (w : World) : ((ReflectliteType.abiMethod fun t => (fun a : Nat => Value.int IntKind.u8 (a : Int)) <$> Rtype.kind t) #[.pointer (some ⟨6, 134, none⟩)]).run Tryz.prog w = .ok (.int .u8 22) w := by kernel_rfl


theorem rlm (z : Sem Value) (f : TypeId → Addr → Nat → Nat → Sem Value) (v : Value) :
    ReflectliteValue.method z f #[v] = (do match ← ReflectliteValue.parts v with | none => z | some (t, a, fl) => f t a fl (fl % 32)) := rfl
theorem Tas_parts27 (a : Addr) (w : World) : (ReflectliteValue.parts (.agg #[.pointer (some ⟨6, 139, none⟩), .pointer (some a), .int .u64 150])).run Tryz.prog w = .ok (some (139, a, 150)) w := by kernel_rfl
/-- (Value).IsNil at the Value of a **p.E that is not nil. -/
theorem Tas_isNil27 (a p : Addr) (W : World) (ha : W.cell? a = some (.pointer (some p))) :
    (ReflectliteValue.method (ReflectliteValue.valueError "reflectlite.Value.IsNil" 0) ReflectliteValue.isNil #[.agg #[.pointer (some ⟨6, 139, none⟩), .pointer (some a), .int .u64 150]]).run Tryz.prog W = .ok (.bool false) W := by
  rw [rlm]
  simp only [Sem.run_bind, Tas_parts27, Result.andThen]
  simp [ReflectliteValue.isNil, loadVar, isAgg, underlying, Tryz.underlying139, ha, Result.andThen]

theorem Tas_methodElem (h : Value) (w : World) : (Go.method 542 342 (.agg #[h]) "Elem").run Tryz.prog w = .ok (318, .agg #[h]) w := by kernel_rfl
theorem Tas_methodImplements (h : Value) (w : World) : (Go.method 542 342 (.agg #[h]) "Implements").run Tryz.prog w = .ok (319, .agg #[h]) w := by kernel_rfl
theorem Tas_methodAssignableTo (h : Value) (w : World) : (Go.method 542 342 (.agg #[h]) "AssignableTo").run Tryz.prog w = .ok (316, .agg #[h]) w := by kernel_rfl
theorem Tas_elem27 (w : World) : (ReflectliteType.method ReflectliteType.elem #[.agg #[.pointer (some ⟨6, 139, none⟩)]]).run Tryz.prog w = .ok (.iface 342 (.agg #[.pointer (some ⟨6, 134, none⟩)])) w := by kernel_rfl
theorem Tas_implements25 (w : World) : (ReflectliteType.relation "Implements" ReflectliteType.implements_ #[.agg #[.pointer (some ⟨6, 134, none⟩)], .iface 342 (.agg #[.pointer (some ⟨6, 137, none⟩)])]).run Tryz.prog w = .ok (.bool true) w := by kernel_rfl
theorem Tas_typeOf25 (v : Value) (w : World) : (ReflectliteType.typeOf #[.iface 134 v]).run Tryz.prog w = .ok (.iface 342 (.agg #[.pointer (some ⟨6, 134, none⟩)])) w := by kernel_rfl
theorem Tas_assignable25 (w : World) : (ReflectliteType.relation "AssignableTo" ReflectliteType.assignableTo #[.agg #[.pointer (some ⟨6, 134, none⟩)], .iface 342 (.agg #[.pointer (some ⟨6, 134, none⟩)])]).run Tryz.prog w = .ok (.bool true) w := by kernel_rfl
theorem Tas_valueOf25 (e : Addr) (w : World) : (ReflectliteValue.unpack (.iface 134 (.pointer (some e)))).run Tryz.prog w
    = .ok (.agg #[.pointer (some ⟨6, 134, none⟩), .pointer (some ⟨w.heap.size, 0, none⟩), .int .u64 150]) (w.alloc (.cells #[.pointer (some e)] 134)) := by kernel_rfl

theorem Tas_elemOf27 (w : World) : (Rtype.elem? 139).run Tryz.prog w = .ok (some 134) w := by kernel_rfl
theorem Tas_mk25 (p : Addr) (w : World) : (ReflectliteValue.mk 134 p ReflectliteValue.flagAddr).run Tryz.prog w = .ok (.agg #[.pointer (some ⟨6, 134, none⟩), .pointer (some p), .int .u64 406]) w := by kernel_rfl
/-- (Value).Elem at the Value of a **p.E that is not nil: the Value of the *p.E variable that it points to, addressable. -/
theorem Tas_elemV27 (a p : Addr) (W : World) (ha : W.cell? a = some (.pointer (some p))) :
    (ReflectliteValue.method (ReflectliteValue.valueError "reflectlite.Value.Elem" 0) ReflectliteValue.elem #[.agg #[.pointer (some ⟨6, 139, none⟩), .pointer (some a), .int .u64 150]]).run Tryz.prog W
      = .ok (.agg #[.pointer (some ⟨6, 134, none⟩), .pointer (some p), .int .u64 406]) W := by
  rw [rlm]
  simp only [Sem.run_bind, Tas_parts27, Result.andThen]
  simp [ReflectliteValue.elem, loadVar, isAgg, underlying, Tryz.underlying139, ha, Result.andThen, Tas_elemOf27, Tas_mk25]
theorem rls (v x : Value) : ReflectliteValue.set #[v, x] = (do
    let (some (dst, a, fl), some (src, b, _)) := (← ReflectliteValue.parts v, ← ReflectliteValue.parts x)
      | unsupported (.noEntry "extern/(internal/reflectlite.Value).Set.zeroValue")
    if fl / ReflectliteValue.flagAddr % 2 == 0 then unsupported (.noEntry "extern/(internal/reflectlite.Value).Set.unaddressable")
    let val ← loadVar src b
    if ← Rtype.directlyAssignable dst src then storeVar dst a val
    else if ← Rtype.implements dst src then
      if (← Rtype.kind src) == 20 then
        match val with
        | .nilIface => unsupported (.noEntry "extern/reflectlite: a nil value of one interface type handed on as a value of another")
        | _ => storeVar dst a val
      else storeVar dst a (.iface src val)
    else panicString ("reflectlite.Set: value of type " ++ (← Rtype.spelt src) ++ " is not assignable to type " ++ (← Rtype.spelt dst))
    pure (.tuple #[])) := rfl
theorem Tas_parts25a (a : Addr) (w : World) : (ReflectliteValue.parts (.agg #[.pointer (some ⟨6, 134, none⟩), .pointer (some a), .int .u64 406])).run Tryz.prog w = .ok (some (134, a, 406)) w := by kernel_rfl
theorem Tas_parts25 (a : Addr) (w : World) : (ReflectliteValue.parts (.agg #[.pointer (some ⟨6, 134, none⟩), .pointer (some a), .int .u64 150])).run Tryz.prog w = .ok (some (134, a, 150)) w := by kernel_rfl
theorem Tas_direct25 (w : World) : (Rtype.directlyAssignable 134 134).run Tryz.prog w = .ok true w := by kernel_rfl
/-- (Value).Set: the *p.E variable at 'ta' gets what the Value's own variable 'b' holds. -/
theorem Tas_set25 (ta b e : Addr) (old : Value) (W : World) (hb : W.cell? b = some (.pointer (some e))) (ht : W.cell? ta = some old) (hf : W.frozen? ta = false) :
    (ReflectliteValue.set #[.agg #[.pointer (some ⟨6, 134, none⟩), .pointer (some ta), .int .u64 406], .agg #[.pointer (some ⟨6, 134, none⟩), .pointer (some b), .int .u64 150]]).run Tryz.prog W
      = .ok (.tuple #[]) (W.setCell ta (.pointer (some e))) := by
  rw [rls]
  simp only [Sem.run_bind, Tas_parts25a, Tas_parts25, Result.andThen]
  simp [ReflectliteValue.flagAddr, loadVar, isAgg, underlying, Tryz.underlying134, hb, Result.andThen, Tas_direct25, storeVar, Value.cells, storeCells, Addr.add]
  rw [run_store Tryz.prog W ta _ _ (by rfl)]
  simp [ht, hf]

set_option maxHeartbeats 4000000 in
theorem as_hit (e t : Addr) (old : Value) (w : World) (hg : w.cell? ⟨0, 0, none⟩ = some (.iface 342 (.agg #[.pointer (some ⟨6, 137, none⟩)]))) (ht0 : w.cell? t = some old) (hf0 : w.frozen? t = false) :
    Calls Tryz.prog 59 #[.iface 134 (.pointer (some e)), .iface 139 (.pointer (some t))] w fun ev w' => ev = .returned (.bool true) ∧ w' = ((((w.alloc (.cells #[.pointer (some t)] 139)).alloc (.cells #[.pointer (some ⟨6, 139, none⟩), .pointer (some ⟨w.heap.size, 0, none⟩), .int .u64 150] 213)).alloc (.cells #[.pointer (some ⟨6, 139, none⟩), .pointer (some ⟨w.heap.size, 0, none⟩), .int .u64 150] 213)).alloc (.cells #[.pointer (some e)] 134)).setCell t (.pointer (some e)) := by
  have h6 := @run_callFunc_extern Tryz.prog 154 _ (fun args => ReflectliteValue.unpack (args.getD 0 (.tuple #[]))) Tryz.func154 (by kernel_rfl) (by kernel_rfl) (by kernel_rfl) (by kernel_rfl)
  have h7 := @run_callFunc_extern Tryz.prog 155 _ (ReflectliteValue.methodAny (ReflectliteValue.valueError "reflectlite.Value.Type" 0) (fun t _ _ _ => ReflectliteType.toType t)) Tryz.func155 (by kernel_rfl) (by kernel_rfl) (by kernel_rfl) (by kernel_rfl)
  have h8 := @run_callFunc_extern Tryz.prog 156 _ (ReflectliteValue.method (ReflectliteValue.valueError "reflectlite.Value.IsNil" 0) ReflectliteValue.isNil) Tryz.func156 (by kernel_rfl) (by kernel_rfl) (by kernel_rfl) (by kernel_rfl)
  have h27 := @run_callFunc_extern Tryz.prog 305 _ (ReflectliteType.abiMethod fun t => do pure (.int .u8 (← Rtype.kind t))) Tryz.func305 (by kernel_rfl) (by kernel_rfl) (by kernel_rfl) (by kernel_rfl)
  have h37 := @run_callFunc_extern Tryz.prog 318 _ (ReflectliteType.method ReflectliteType.elem) Tryz.func318 (by kernel_rfl) (by kernel_rfl) (by kernel_rfl) (by kernel_rfl)
  have h38 := @run_callFunc_extern Tryz.prog 319 _ (ReflectliteType.relation "Implements" ReflectliteType.implements_) Tryz.func319 (by kernel_rfl) (by kernel_rfl) (by kernel_rfl) (by kernel_rfl)
  have h10 := @run_callFunc_extern Tryz.prog 221 _ ReflectliteType.typeOf Tryz.func221 (by kernel_rfl) (by kernel_rfl) (by kernel_rfl) (by kernel_rfl)
  have h35 := @run_callFunc_extern Tryz.prog 316 _ (ReflectliteType.relation "AssignableTo" ReflectliteType.assignableTo) Tryz.func316 (by kernel_rfl) (by kernel_rfl) (by kernel_rfl) (by kernel_rfl)
  have h11 := @run_callFunc_extern Tryz.prog 222 _ (ReflectliteValue.method (ReflectliteValue.valueError "reflectlite.Value.Elem" 0) ReflectliteValue.elem) Tryz.func222 (by kernel_rfl) (by kernel_rfl) (by kernel_rfl) (by kernel_rfl)
  have h12 := @run_callFunc_extern Tryz.prog 223 _ ReflectliteValue.set Tryz.func223 (by kernel_rfl) (by kernel_rfl) (by kernel_rfl) (by kernel_rfl)
  have tO := Tas_typeOf25
  have mA := Tas_methodAssignableTo
  have a25 := Tas_assignable25
  have v25 := Tas_valueOf25
  have f6 := Tas_valueOf27
  have f7 := Tas_type27
  have mK := Tas_methodKind
  have mE := Tas_methodElem
  have mI := Tas_methodImplements
  have k27 := Tas_kind27
  have k25 := Tas_kind25
  have e27 := Tas_elem27
  have i25 := Tas_implements25
  have n8 := Tas_isNil27 ⟨w.heap.size, 0, none⟩ t ((w.alloc (.cells #[.pointer (some t)] 139)).alloc (.cells #[.pointer (some ⟨6, 139, none⟩), .pointer (some ⟨w.heap.size, 0, none⟩), .int .u64 150] 213)) (by simp)
  have hlt : 0 < w.heap.size := by
    rcases Nat.eq_zero_or_pos w.heap.size with h0 | h
    · simp [World.cell?, h0] at hg
    · exact h
  have hg2 : ((w.alloc (.cells #[.pointer (some t)] 139)).alloc (.cells #[.pointer (some ⟨6, 139, none⟩), .pointer (some ⟨w.heap.size, 0, none⟩), .int .u64 150] 213)).cell? ⟨0, 0, none⟩ = some (.iface 342 (.agg #[.pointer (some ⟨6, 137, none⟩)])) := by
    rw [World.cell?_alloc_lt _ _ ⟨0, 0, none⟩ (by simp), World.cell?_alloc_lt _ _ ⟨0, 0, none⟩ hlt]; exact hg
  have htl : t.block < w.heap.size := by
    rcases Nat.lt_or_ge t.block w.heap.size with h | h
    · exact h
    · simp [World.cell?, Array.getElem?_eq_none h] at ht0
  have el := Tas_elemV27 ⟨w.heap.size, 0, none⟩ t (((w.alloc (.cells #[.pointer (some t)] 139)).alloc (.cells #[.pointer (some ⟨6, 139, none⟩), .pointer (some ⟨w.heap.size, 0, none⟩), .int .u64 150] 213)).alloc (.cells #[.pointer (some ⟨6, 139, none⟩), .pointer (some ⟨w.heap.size, 0, none⟩), .int .u64 150] 213)) (by rw [World.cell?_alloc_lt _ _ ⟨w.heap.size, 0, none⟩ (by simp; omega)]; simp)
  have st := Tas_set25 t ⟨w.heap.size + 1 + 1 + 1, 0, none⟩ e old ((((w.alloc (.cells #[.pointer (some t)] 139)).alloc (.cells #[.pointer (some ⟨6, 139, none⟩), .pointer (some ⟨w.heap.size, 0, none⟩), .int .u64 150] 213)).alloc (.cells #[.pointer (some ⟨6, 139, none⟩), .pointer (some ⟨w.heap.size, 0, none⟩), .int .u64 150] 213)).alloc (.cells #[.pointer (some e)] 134))
    (by rw [World.cell?_alloc_at _ _ _ _ (by simp)]; rfl)
    (by rw [World.cell?_alloc_lt _ _ t (by simp; omega), World.cell?_alloc_lt _ _ t (by simp; omega), World.cell?_alloc_lt _ _ t (by simp; omega), World.cell?_alloc_lt _ _ t htl]; exact ht0)
    (by rw [World.frozen?_alloc_old _ _ t (by simp; omega), World.frozen?_alloc_old _ _ t (by simp; omega), World.frozen?_alloc_old _ _ t (by simp; omega), World.frozen?_alloc_old _ _ t (Nat.ne_of_lt htl)]; exact hf0)
  go_enter Tryz.func59, Tryz.ntmps59
  go_wp2
  refine wp_loop_rounds 1 ?_
  rw [rounds_succ]
  go_wp2
  go_ret
  exact ⟨rfl, rfl⟩
end Go.Proofs.YtnffigfafalocaaGreatDoor
namespace Go.Proofs.YtnffigfafalocaaGreatDoor
open Go Go.RowKit

theorem take_getD_sb {xs : List Nat} {k : Nat} (h : k < xs.length) : xs.take (k + 1) = xs.take k ++ [xs.getD k 0] := by
  rw [List.take_succ_eq_append_getElem h, List.getD_eq_getElem?_getD, List.getElem?_eq_getElem h]; rfl

/-- two slices of numbers: alike? -/
def sameBytes (xs ys : List Nat) : Bool := decide (xs = ys)

theorem same_next {xs ys : List Nat} {k : Nat} (hx : k < xs.length) (hy : k < ys.length) (h : xs.take k = ys.take k) (he : xs.getD k 0 = ys.getD k 0) : xs.take (k + 1) = ys.take (k + 1) := by
  rw [take_getD_sb hx, take_getD_sb hy, h, he]
theorem same_not {xs ys : List Nat} {k : Nat} (he : xs.getD k 0 ≠ ys.getD k 0) : sameBytes xs ys = false := by
  simp only [sameBytes, decide_eq_false_iff_not]
  rintro rfl; exact he rfl

def SamePost (w : World) (xs ys : List Nat) (e : Ending) (w' : World) : Prop := e = .returned (.bool (sameBytes xs ys)) ∧ Touch No w w'

set_option maxHeartbeats 1000000 in
theorem sameBytes_eq (w : World) (a b : Option Addr) (n c d : Nat) (xs ys : List Nat) (hx : xs.length = n) (hy : ys.length = n) (hn : (n : Int) ≤ 9223372036854775807)
    (ha : Rd w a (nums .u8 xs)) (hb : Rd w b (nums .u8 ys)) :
    Calls Tryz.prog 13 #[.slice a n c, .slice b n d] w (SamePost w xs ys) := by
  have Hx := Lib.hid hx; clear hx
  have Hy := Lib.hid hy; clear hy
  have Ha := Lib.hid ha; clear ha
  have Hb := Lib.hid hb; clear hb
  go_enter Tryz.func13, Tryz.ntmps13
  go_wp2
  go_loopg [5] n (fun g s5 wr => ∃ k : Nat, k + g = n ∧ s5 = .int .i64 ((k : Nat) : Int) ∧ Hid (xs.take k = ys.take k) ∧ Hid (Touch No w wr))
  case atStart => exact ⟨0, by omega, rfl, rfl, Touch.refl _ _⟩
  case round =>
    obtain ⟨k, hkg, rfl, E, T⟩ := hrel
    cases gk with
    | zero =>
      obtain rfl : k = n := by omega
      have Fin : Hid (sameBytes xs ys = true) := by
        have := E.out
        rw [List.take_of_length_le (by have := Hx.out; omega), List.take_of_length_le (by have := Hy.out; omega)] at this
        show _ = _
        simp [sameBytes, this]
      go_wp2
      go_ret
      exact ⟨ret_bool Fin.out.symm, T.out⟩
    | succ g =>
      have hlt : k < n := by omega
      have hxl : k < xs.length := by have := Hx.out; omega
      have hyl : k < ys.length := by have := Hy.out; omega
      obtain ⟨b1, o1, rfl, h1⟩ := (Ha.out.no T.out).num hxl
      obtain ⟨b2, o2, rfl, h2⟩ := (Hb.out.no T.out).num hyl
      have Next := Lib.hid (same_next hxl hyl E.out)
      have Not := Lib.hid (same_not (xs := xs) (ys := ys) (k := k))
      clear hxl hyl
      generalize xs.getD k 0 = x at *
      generalize ys.getD k 0 = y at *
      by_cases hxy : x = y
      · subst hxy
        go_wp2_with fail
        go_quiet (fail)
        go_wp2
        go_roundg g
        case measure => omega
        case rel => exact ⟨k + 1, by omega, by go_num, Next.out (by first | rfl | trivial), T.out.drewN _⟩
      · have hne : ((x : Int) != (y : Int)) = true := by simp; omega
        have Hxy := Lib.hid hxy; clear hxy
        go_wp2_with fail
        go_quiet (fail)
        go_wp2
        go_ret
        exact ⟨ret_bool (Not.out Hxy.out).symm, T.out.drewN _⟩
end Go.Proofs.YtnffigfafalocaaGreatDoor
namespace Go.Proofs.YtnffigfafalocaaGreatDoor
open Go Go.RowKit
set_option linter.unusedSimpArgs false

def TruePost (w : World) (e : Ending) (w' : World) : Prop := e = .returned (.bool true) ∧ Touch No w w'
theorem sameB_any (w : World) (a b : Option Addr) (n c d : Nat) (xs : List Nat) (hx : xs.length = n) (hn : (n : Int) ≤ 9223372036854775807) (ha : Rd w a (nums .u8 xs)) (hb : Rd w b (nums .u8 xs)) :
    Calls Tryz.prog 13 #[.slice a n c, .slice b n d] w (TruePost w) :=
  (sameBytes_eq w a b n c d xs xs hx hx hn ha hb).mono fun _ _ ⟨he, ht⟩ => ⟨by rw [he, sameBytes, decide_eq_true rfl], ht⟩

end Go.Proofs.YtnffigfafalocaaGreatDoor
namespace Go.Proofs.YtnffigfafalocaaGreatDoor
open Go Go.RowKit
set_option linter.unusedSimpArgs false
set_option linter.unusedVariables false
section
variable {w0 w w' : World} {s d f : Nat} {T : Sh.Sto} {E : List Part}
end
end Go.Proofs.YtnffigfafalocaaGreatDoor
namespace Go.Proofs.YtnffigfafalocaaGreatDoor
open Go Go.RowKit
set_option linter.unusedSimpArgs false
set_option linter.unusedVariables false
section
variable {P : Program} {w : World}
end
end Go.Proofs.YtnffigfafalocaaGreatDoor
namespace Go.Proofs.YtnffigfafalocaaGreatDoor
set_option maxRecDepth 100000
open Go Go.RowKit
set_option linter.unusedSimpArgs false
set_option linter.unusedVariables false
namespace Sh
def but (id : Nat) (l : List TgDeed) : List TgDeed := l.filter fun x => !decide (x.id = id)
end Sh
section
variable {u : Bool} {w0 w w' : World} {s d f : Nat} {T : Sh.Sto} {E : List Part}
end
end Go.Proofs.YtnffigfafalocaaGreatDoor
namespace Go.Proofs.YtnffigfafalocaaGreatDoor
open Go Go.RowKit
set_option linter.unusedSimpArgs false
set_option linter.unusedVariables false
theorem TabAt.no {w w' : World} (h : TabAt w) (t : Touch No w w') : TabAt w' := fun j hj => t.cell (fun f => f) (h j hj)
section
variable {w0 w w' : World} {s d f : Nat} {T : Sh.Sto} {E : List Part}
end
end Go.Proofs.YtnffigfafalocaaGreatDoor
namespace Go.Proofs.YtnffigfafalocaaGreatDoor
open Go Go.RowKit
set_option linter.unusedSimpArgs false
set_option linter.unusedVariables false
section
variable {w0 w w' : World} {s d f : Nat} {D : Dk.Disk} {T : Sh.Sto} {E : List Part}
theorem shOpen_again (h : Dd w0 w d D E) (lo : 32 ≤ D.seen.length) (hi : D.seen.length ≤ 16384) (hrd : Sh.readsP D = .ok T) (hu : Mp.Up T.kept) (hlt : ∀ p ∈ T.kept, p.1 < 4294967296) (hl : T.kept.length ≤ 64) :
    Calls Tryz.prog 11 #[.pointer (some ⟨d, 0, none⟩)] w fun e w' => ∃ s f, e = .returned (.tuple #[.pointer (some ⟨s, 0, none⟩), .int .i64 0]) ∧ Sg true w0 w' s d f { T with now := T.kept, puts := 64 } E := by
  refine shOpen_ok h lo hi T hu hlt hl (fun w2 s2 E2 h2 => (shReads_any h2 lo hi).mono ?_)
  rintro e w' (⟨T', f, e1, _, he, hs⟩ | ⟨k, b, st, e1, _⟩)
  · rw [hrd] at e1
    cases e1
    exact ⟨he, f, hs⟩
  · rw [hrd] at e1; cases e1
end
namespace Sh
set_option maxRecDepth 100000 in
theorem com_calm_disk {T : Sto} (h : comE T = 0) : (comT T).D.sure = (comT T).D.seen ∧ (comT T).D.waits = [] := by
  have hf : comF T := by
    by_cases hf : comF T
    · exact hf
    · rw [comE, if_neg hf] at h; cases h
  have hr : Rt.wE (comD2 T) (comR T) = 0 := by rw [comE, if_pos hf] at h; exact h
  rw [comT, if_pos hf, if_pos hr]
  show (Rt.wD _ _).sure = (Rt.wD _ _).seen ∧ (Rt.wD _ _).waits = []
  rw [Rt.wD, if_pos hr]
  exact ⟨rfl, rfl⟩
end Sh
end Go.Proofs.YtnffigfafalocaaGreatDoor
namespace Go.Proofs.YtnffigfafalocaaGreatDoor
open Go Go.RowKit Go.Maps
set_option linter.unusedSimpArgs false
set_option linter.unusedVariables false
/-- package errors' variable holds the handle of the type 'error' -/
def ErrAt (w : World) : Prop := w.cell? ⟨0, 0, none⟩ = some (.iface 342 (.agg #[.pointer (some ⟨6, 137, none⟩)]))
theorem ErrAt.no {w w' : World} (h : ErrAt w) (t : Touch No w w') : ErrAt w' := t.cell (fun f => f) h
section
variable {w0 w w' : World} {d : Nat} {D : Dk.Disk} {E : List Part}
theorem Dd.setRow {x : Nat} {T : TypeId} {vs : List Value} (h : Dd w0 w d D (Part.row x T vs :: E)) (i : Nat) (v : Value) : Dd w0 (w.setCell ⟨x, i, none⟩ v) d D (Part.row x T (vs.set i v) :: E) := by
  obtain ⟨A, ⟨h1, h2, h3⟩, hA, _, hf⟩ := h.with
  refine hf _ [_] ⟨(Touch.refl A w).setCell (p := ⟨x, i, none⟩) (fun _ => h2) v, A, ⟨A, fun _ => False, ⟨?_, h2, fun k hk => ?_⟩, trivial, fun _ _ f => f, fun _ h => h, fun _ f => f.elim⟩, fun k hk => Or.inl hk⟩
  · exact h1.setCell i v
  · have := h3 k hk; simpa [World.setCell] using this
set_option maxRecDepth 100000 in
set_option maxHeartbeats 8000000 in
theorem shOpen_bad (h : Dd w0 w d D E) (lo : 32 ≤ D.seen.length) (hi : D.seen.length ≤ 16384) (k : Nat) (hrd : Sh.readsP D = .error k) (hE : ErrAt w0) :
    Calls Tryz.prog 11 #[.pointer (some ⟨d, 0, none⟩)] w fun e w' => e = .returned (.tuple #[.pointer none, .int .i64 (k : Nat)]) ∧ Dd w0 w' d D E := by
  have hmm := @run_makeMap Tryz.prog
  have H := Lib.hid h
  have Hlo := Lib.hid lo
  have Hhi := Lib.hid hi
  have HRd := Lib.hid hrd
  have HE := Lib.hid hE
  have CL : Hid (Calls Tryz.prog 58 #[.pointer (some ⟨d, 0, none⟩)] w fun e w' => e = .returned (.int .i64 (D.seen.length : Nat)) ∧ w = w') := h.len
  obtain ⟨n, hn⟩ : ∃ n, D.seen.length = n := ⟨_, rfl⟩
  rw [hn] at CL lo hi
  have hn0 : ¬ (n : Int) = 0 := by omega
  have hn32 : ¬ (n : Int) < 32 := by omega
  clear h hrd hn hE
  go_enter Tryz.func11, Tryz.ntmps11
  go_wp2_with fail
  refine CL.out.mono ?_
  rintro e w' ⟨rfl, rfl⟩
  go_wp2_with fail
  obtain ⟨w1, hw1⟩ : ∃ w1, w1 = (w.alloc (.map #[] 0)).alloc (.cells #[.pointer (some ⟨d, 0, none⟩), .int .u32 0, .map none, .map (some w.heap.size), .slice none 0 0, .pointer none] 106) := ⟨_, rfl⟩
  obtain ⟨s, hs⟩ : ∃ s, s = w.heap.size + 1 := ⟨_, rfl⟩
  have S1 : Hid (Dd w0 w1 d D (Part.sto s (some ⟨d, 0, none⟩) none false ⟨0, [], 0, [], []⟩ :: E)) := by
    show Dd _ _ _ _ _
    rw [hw1, hs]
    exact Dd.push H.out (born_sto w d)
  obtain ⟨w2, hw2⟩ : ∃ w2, w2 = w1.alloc (.cells #[.pointer none] 134) := ⟨_, rfl⟩
  obtain ⟨F, hF⟩ : ∃ F, F = w1.heap.size := ⟨_, rfl⟩
  have S2 : Hid (Dd w0 w2 d D (Part.sto s (some ⟨d, 0, none⟩) none false ⟨0, [], 0, [], []⟩ :: Part.row F 134 [.pointer none] :: E)) := by
    show Dd _ _ _ _ _
    rw [hw2, hF]
    exact Dd.perm (Dd.push S1.out (Born.row w1 134 #[.pointer none])) (List.Perm.swap _ _ _)
  have hF2 : s + 1 = F := by rw [hF, hs, hw1]; simp
  have CR := Lib.hid (shReads_any S2.out Hlo.out Hhi.out)
  rw [← hw1, ← hw2, ← hs, hF2]
  clear hw1 hw2 hF hF2 S1 S2 H CL hmm
  refine CR.out.mono ?_
  rintro e w3 (⟨T', f, e1, _, _, _⟩ | ⟨k', b, st, e1, rfl, s3⟩)
  · rw [HRd.out] at e1; cases e1
  · rw [HRd.out] at e1
    obtain rfl : k = k' := by cases e1; rfl
    have S3 := Lib.hid s3
    have rF : Row w3 F 134 [.pointer none] := Dd.row s3 (List.mem_cons_of_mem _ List.mem_cons_self)
    have ht0 : w3.cell? ⟨F, 0, none⟩ = some (.pointer none) := rF.cell 0
    have hf0 : w3.frozen? ⟨F, 0, none⟩ = false := rF.soft 0
    have CA := Lib.hid (as_hit ⟨b, 0, none⟩ ⟨F, 0, none⟩ (.pointer none) w3 (HE.out.no s3.end) ht0 hf0)
    clear s3 CR rF ht0 hf0 e1
    unfold faultV
    go_wp2_with fail
    refine CA.out.mono ?_
    rintro e w4 ⟨rfl, hw4⟩
    have S4 : Hid (Dd w0 w4 d D (Part.row F 134 [.pointer (some ⟨b, 0, none⟩)] :: Part.row b 141 [.string st, .int .i64 (k : Nat)] :: E)) := by
      show Dd _ _ _ _ _
      have h1 := Dd.no (Dd.perm S3.out (List.Perm.swap _ _ _)) (((((Touch.refl No w3).alloc (.cells #[.pointer (some ⟨F, 0, none⟩)] 139)).alloc (.cells #[.pointer (some ⟨6, 139, none⟩), .pointer (some ⟨w3.heap.size, 0, none⟩), .int .u64 150] 213)).alloc (.cells #[.pointer (some ⟨6, 139, none⟩), .pointer (some ⟨w3.heap.size, 0, none⟩), .int .u64 150] 213)).alloc (.cells #[.pointer (some ⟨b, 0, none⟩)] 134))
      have h2 := Dd.setRow h1 0 (.pointer (some ⟨b, 0, none⟩))
      rw [hw4]
      exact h2
    have f0 : w4.cell? ⟨F, 0, none⟩ = some (.pointer (some ⟨b, 0, none⟩)) := (Dd.row S4.out List.mem_cons_self).cell 0
    have f1 : w4.cell? ⟨b, 1, none⟩ = some (.int .i64 (k : Nat)) := (Dd.row S4.out (List.mem_cons_of_mem _ List.mem_cons_self)).cell 1
    clear hw4 S3 CA
    go_wp2_with fail
    go_quiet (fail)
    go_wp2
    go_ret2
    exact ⟨rfl, (S4.out.drop.drop).no ((Touch.refl No w4).drewN _)⟩
end
end Go.Proofs.YtnffigfafalocaaGreatDoor
namespace Go.Proofs.YtnffigfafalocaaGreatDoor
set_option maxRecDepth 100000
open Go Go.RowKit
set_option linter.unusedSimpArgs false
set_option linter.unusedVariables false
namespace Sh
end Sh
end Go.Proofs.YtnffigfafalocaaGreatDoor
namespace Go.Proofs.YtnffigfafalocaaGreatDoor
open Go Go.RowKit
set_option linter.unusedSimpArgs false
set_option linter.unusedVariables false
end Go.Proofs.YtnffigfafalocaaGreatDoor
namespace Go.Proofs.YtnffigfafalocaaGreatDoor
open Go.ChangeShapes Go.WideShapes Go.ChangeAt Go.RowKit
set_option linter.unusedSimpArgs false
set_option linter.unusedVariables false
section
variable {H : Type} {enc : TypeId × Value → H} {w : World}
end
theorem errRt : (Tryz.prog.cutTypes.find? (·.1 == "internal/reflectlite.rtype")).map (·.2) = some 342 := by kernel_rfl
theorem errG : Tryz.prog.globalNamed "errors.errorType" = some 0 := by kernel_rfl
theorem errRow : ((List.range Tryz.prog.types.size).filter fun t => Tryz.prog.rowNamed t [101, 114, 114, 111, 114]) = [137] := by kernel_rfl
theorem tab_errE {W : World} (h : laidMetH Tryz.prog [("math/bits.deBruijn64tab", Rows.laid_math_bits_deBruijn64tab), ("unicode/utf8.acceptRanges", Rows.laid_unicode_utf8_acceptRanges), ("errors.errorType", Rows.laid_errors_errorType), ("unicode/utf8.first", Rows.laid_unicode_utf8_first)] W) : TabAt W ∧ ErrAt W := by
  have h' : laidMet Tryz.prog [("math/bits.deBruijn64tab", Rows.laid_math_bits_deBruijn64tab), ("unicode/utf8.acceptRanges", Rows.laid_unicode_utf8_acceptRanges), ("unicode/utf8.first", Rows.laid_unicode_utf8_first)] W ∧ handlesMet Tryz.prog [("errors.errorType", Rows.laid_errors_errorType)] W := h
  refine ⟨tab_of h'.1, ?_⟩
  obtain ⟨name, u, ty, e1, e2, e3, e4, e5⟩ := h'.2 _ (List.mem_singleton.2 rfl)
  have en : name = [101, 114, 114, 111, 114] := (Option.some.inj e1).symm
  subst en
  obtain rfl := Option.some.inj (errRt.symm.trans e2)
  have hm : ty ∈ (List.range Tryz.prog.types.size).filter fun t => Tryz.prog.rowNamed t [101, 114, 114, 111, 114] := List.mem_filter.2 ⟨List.mem_range.2 e3, e4⟩
  rw [errRow] at hm
  obtain rfl := List.mem_singleton.1 hm
  have hh : typeHandle Tryz.prog 137 = .pointer (some ⟨6, 137, none⟩) := by kernel_rfl
  rw [hh] at e5
  have := World.var?_cell errG e5 0
  unfold ErrAt
  simpa using this
end Go.Proofs.YtnffigfafalocaaGreatDoor
namespace Go.Proofs.YtnffigfafalocaaGreatDoor
open Go.ChangeShapes Go.WideShapes Go.ChangeAt Go.RowKit
set_option linter.unusedSimpArgs false

section
variable {H : Type} {enc : TypeId × Value → H} {w : World}

theorem cells_tg_act : Tryz.prog.cellsOf 41 = 2 := by kernel_rfl
theorem cells_tg_u32 : Tryz.prog.cellsOf 38 = 1 := by kernel_rfl
theorem cells_tg_bytes : Tryz.prog.cellsOf 39 = 1 := by kernel_rfl
theorem cells_tg_bytes_e : Tryz.prog.cellsOf 5 = 1 := by kernel_rfl
theorem bytes_tg_bytes : Tryz.prog.bytesOf 5 = 1 := by kernel_rfl
set_option maxRecDepth 100000 in
set_option maxHeartbeats 4000000 in
/-- one act -/
theorem open_tg_deed {fuel : Nat} {cs : List Value} {x : DataW H × List MemPlace} {c o : Nat} (hc : ∀ j, j < 2 → w.cell? ⟨c, o + j, none⟩ = cs[j]?)
    (h : DataW.trod enc Tryz.prog w 0 (fun _ => true) true fuel 41 cs = some x) (hz : ∀ n ∈ DataW.weights Tryz.prog 41 x.1, n ≤ reachBytes) :
    ∃ d : TgDeed, TgDeedAt w c o d := by
  obtain ⟨xs, n, rfl, rfl, hlen, hxs, hf⟩ := DataW.trod_struct Tryz.underlying41 h
  rw [cells_tg_act] at hlen
  have f0 : DataW.trod enc Tryz.prog w 0 (fun _ => true) true n 38 (List.take (Tryz.prog.cellsOf 38) (List.drop 0 cs)) = xs[0]? := hf 0 _ rfl
  rw [cells_tg_u32] at f0
  have f1 : DataW.trod enc Tryz.prog w 0 (fun _ => true) true n 39 (List.take (Tryz.prog.cellsOf 39) (List.drop 1 cs)) = xs[1]? := hf 1 _ rfl
  rw [cells_tg_bytes] at f1
  match xs, hxs with
  | [x0, x1], _ =>
  match cs, hlen with
  | [c0, c1], _ =>
    obtain ⟨i0, e0, _, w0⟩ := DataW.trod_int Tryz.underlying38 (show DataW.trod enc Tryz.prog w 0 (fun _ => true) true _ 38 [c0] = some x0 from f0)
    obtain ⟨a1, cap1, z1, e1, hl1, hm1, hr1, hwf1, hwt1, _⟩ := open_list Tryz.underlying39 Tryz.underlying5 cells_tg_bytes_e (show DataW.trod enc Tryz.prog w 0 (fun _ => true) true _ 39 [c1] = some x1 from f1)
    simp only [List.cons.injEq, and_true] at e0 e1
    subst e0 e1
    have b0 := bounds_u32 w0
    have hpos1 : ∀ z ∈ z1, 0 ≤ z := fun z hz' => (bounds_u8 (hwf1 z hz')).1
    have hcap1 : (cap1 : Int) * 1 ≤ 140737488355328 := by
      rcases hwt1 with h0 | h0
      · omega
      · have : cap1 * Tryz.prog.bytesOf 5 ≤ reachBytes := hz _ (by
          simp only [DataW.weights, Tryz.underlying41, DataW.weightsEach, List.map_cons, List.map_nil, List.mem_append]
          exact Or.inr (Or.inl h0))
        rw [bytes_tg_bytes] at this
        unfold reachBytes at this
        omega
    refine ⟨⟨i0.toNat, z1.map Int.toNat, a1, cap1⟩, { cell := ?_, id_lt := ?_, b_rd := ?_, b_le := ?_, b_max := ?_, b_each := ?_ }⟩
    · intro j hj
      rw [hc j hj]
      simp only [TgDeed.cells, List.length_map, Int.toNat_of_nonneg b0.1]
    · show i0.toNat < 4294967296
      omega
    · show Rd w a1 (nums .u8 (z1.map Int.toNat))
      rw [← ints_nums hpos1]; exact hr1
    · show (z1.map Int.toNat).length ≤ cap1
      rw [List.length_map]; exact hl1
    · exact hcap1
    · intro y hy
      obtain ⟨z, hz', rfl⟩ := List.mem_map.1 hy
      have := bounds_u8 (hwf1 z hz')
      omega

end
end Go.Proofs.YtnffigfafalocaaGreatDoor
namespace Go.Proofs.YtnffigfafalocaaGreatDoor
open Go.ChangeShapes Go.WideShapes Go.ChangeAt Go.RowKit
set_option linter.unusedSimpArgs false
set_option linter.unusedVariables false
theorem bulk_one {H : Type} (d : DataW H) : 1 ≤ Rows.uptoBulk d := by
  cases d with
  | lit l => cases l <;> simp [Rows.uptoBulk]
  | nil => simp [Rows.uptoBulk]
  | ptr d => simp [Rows.uptoBulk]
  | slice elems spare => simp [Rows.uptoBulk]
  | agg parts => simp [Rows.uptoBulk]
  | iface t d => simp [Rows.uptoBulk]
  | map entries => simp [Rows.uptoBulk]
  | held h => simp [Rows.uptoBulk]
theorem bulk_len {H : Type} (l : List (DataW H)) : l.length ≤ Rows.uptoBulkAll l := by
  induction l with
  | nil => simp [Rows.uptoBulkAll]
  | cons x r ih => have := bulk_one x; simp only [Rows.uptoBulkAll, List.length_cons]; omega
theorem bulk_part {H : Type} {d : DataW H} {l : List (DataW H)} (h : d ∈ l) : Rows.uptoBulk d ≤ Rows.uptoBulkAll l := by
  induction l with
  | nil => cases h
  | cons x r ih =>
    simp only [Rows.uptoBulkAll]
    rcases List.mem_cons.1 h with e | e
    · subst e; omega
    · have := ih e; omega
section
variable {H : Type} {enc : TypeId × Value → H} {w : World}
/-- a slice is as long as its reading is great -/
theorem bulk_slice {t e : TypeId} {fuel : Nat} {cs : List Value} {x : DataW H × List MemPlace} (ht : Tryz.prog.underlying t = some (.slice e)) (h : DataW.trod enc Tryz.prog w 0 (fun _ => true) true fuel t cs = some x)
    {a : Option Addr} {n cap : Nat} (hc : cs = [.slice a n cap]) : n + 1 ≤ Rows.uptoBulk x.1 := by
  subst hc
  rcases DataW.trod_slice ht h with ⟨hh, rfl⟩ | ⟨a', len, cap', elems, rest, m, rfl, hh, rfl, hb, hl, hm, hlen, hel, _, _⟩
  · simp only [List.cons.injEq, Value.slice.injEq, and_true] at hh
    obtain ⟨_, rfl, _⟩ := hh
    simp [Rows.uptoBulk]
  · simp only [List.cons.injEq, Value.slice.injEq, and_true] at hh
    obtain ⟨_, rfl, _⟩ := hh
    have := bulk_len (elems.map (·.1))
    rw [List.length_map] at this
    simp only [Rows.uptoBulk]
    omega
set_option maxRecDepth 100000 in
theorem bulk_thing {fuel : Nat} {cs : List Value} {x : DataW H × List MemPlace} {c o : Nat} {d : TgDeed} (hc : ∀ j, j < 2 → w.cell? ⟨c, o + j, none⟩ = cs[j]?)
    (h : DataW.trod enc Tryz.prog w 0 (fun _ => true) true fuel 41 cs = some x) (hd : TgDeedAt w c o d) : d.b.length + 3 ≤ Rows.uptoBulk x.1 := by
  obtain ⟨xs, n, rfl, rfl, hlen, hxs, hf⟩ := DataW.trod_struct Tryz.underlying41 h
  rw [cells_tg_act] at hlen
  have f1 : DataW.trod enc Tryz.prog w 0 (fun _ => true) true n 39 (List.take (Tryz.prog.cellsOf 39) (List.drop 1 cs)) = xs[1]? := hf 1 _ rfl
  rw [cells_tg_bytes] at f1
  match xs, hxs with
  | [x0, x1], _ =>
  match cs, hlen with
  | [c0, c1], _ =>
    have e1 := (hc 1 (by decide)).symm.trans (hd.cell 1 (by decide))
    have e2 : c1 = .slice d.b_a d.b.length d.b_cap := by simpa [TgDeed.cells] using e1
    have hb := bulk_slice Tryz.underlying39 (show DataW.trod enc Tryz.prog w 0 (fun _ => true) true n 39 [c1] = some x1 from f1) (a := d.b_a) (n := d.b.length) (cap := d.b_cap) (by rw [e2])
    have h0 := bulk_one x0.1
    show _ ≤ Rows.uptoBulk (.agg [x0.1, x1.1])
    simp only [Rows.uptoBulk, Rows.uptoBulkAll]
    omega
theorem bulk_sum {α : Type} : ∀ (l : List α) (m : List (DataW H)) (f : α → Nat), l.length = m.length → (∀ i (h1 : i < l.length) (h2 : i < m.length), f l[i] ≤ Rows.uptoBulk m[i]) → (l.map f).sum ≤ Rows.uptoBulkAll m
  | [], [], f, _, _ => Nat.le_refl _
  | x :: l, y :: m, f, h, hf => by
    simp only [List.map_cons, List.sum_cons, Rows.uptoBulkAll]
    have h0 := hf 0 (Nat.zero_lt_succ _) (Nat.zero_lt_succ _)
    have h1 := bulk_sum l m f (by simpa using h) (fun i h1 h2 => hf (i + 1) (by simpa using h1) (by simpa using h2))
    simp only [List.getElem_cons_zero] at h0
    omega
set_option maxRecDepth 100000 in
/-- a slice of things that came in, with how much it is -/
theorem open_tg_deedsB {fuel : Nat} {cs : List Value} {x : DataW H × List MemPlace}
    (h : DataW.trod enc Tryz.prog w 0 (fun _ => true) true fuel 22 cs = some x) (hz : ∀ n ∈ DataW.weights Tryz.prog 22 x.1, n ≤ reachBytes) :
    ∃ ad n cap acts, cs = [.slice ad n cap] ∧ acts.length = n ∧ IsTgDeeds w ad acts ∧ (acts.map fun d => d.b.length + 3).sum ≤ Rows.uptoBulk x.1 := by
  rcases DataW.trod_slice Tryz.underlying22 h with ⟨rfl, rfl⟩ | ⟨a, len, cap, elems, rest, n, rfl, rfl, rfl, hb, hl, hm, hlen, hel, _, _⟩
  · exact ⟨none, 0, 0, [], rfl, rfl, fun i x hx => by simp at hx, Nat.zero_le _⟩
  · rw [cells_tg_act] at hel
    have each : ∀ i, i < len → ∃ d : TgDeed, (a = ⟨a.block, a.off, none⟩ ∧ TgDeedAt w a.block (a.off + i * 2) d) ∧ ∀ (hi : i < elems.length), d.b.length + 3 ≤ Rows.uptoBulk elems[i].1 := by
      intro i hi
      have h1 := hel i hi
      rw [List.getElem?_eq_getElem (by omega)] at h1
      obtain ⟨cs, hcs, htr⟩ := Option.bind_eq_some_iff.1 h1
      have hsp0 : a = ⟨a.block, a.off, none⟩ := by
        have h0 := hel 0 (by omega)
        rw [List.getElem?_eq_getElem (by omega)] at h0
        obtain ⟨cs0, hcs0, _⟩ := Option.bind_eq_some_iff.1 h0
        have := (cells_elem hcs0 (by decide)).2.1
        simpa [Addr.add] using this
      have hadd : a.add (i * 2) = ⟨a.block, a.off + i * 2, none⟩ := by rw [hsp0, add_plain]
      rw [hadd] at hcs
      obtain ⟨_, _, hcell⟩ := cells_elem hcs (by decide)
      obtain ⟨d, hd⟩ := open_tg_deed hcell htr (fun m hm' => hz m (by
        have hw : ∀ (l : List (DataW H × List MemPlace)) (y : DataW H × List MemPlace), y ∈ l → m ∈ DataW.weights Tryz.prog 41 y.1 → m ∈ DataW.weightsAll Tryz.prog 41 (l.map (·.1)) := by
          intro l
          induction l with
          | nil => intro y hy; cases hy
          | cons z l ih =>
            intro y hy hm2
            simp only [List.map_cons, DataW.weightsAll, List.mem_append]
            rcases List.mem_cons.1 hy with rfl | hy
            · exact Or.inl hm2
            · exact Or.inr (ih y hy hm2)
        simp only [DataW.weights, Tryz.underlying22, List.mem_cons, List.mem_append]
        exact Or.inr (Or.inl (hw elems _ (List.getElem_mem _) hm'))))
      exact ⟨d, ⟨hsp0, hd⟩, fun hi => bulk_thing hcell htr hd⟩
    obtain ⟨acts, hacts, hq⟩ := list_choose len each
    refine ⟨some a, len, cap, acts, rfl, hacts, fun i d hd => ?_, ?_⟩
    · obtain ⟨⟨e, hd'⟩, _⟩ := hq i d hd
      exact ⟨a.block, a.off, by rw [← e], hd'⟩
    · have hs := bulk_sum acts (elems.map (·.1)) (fun d => d.b.length + 3) (by rw [hacts, List.length_map, hlen]) (fun i h1 h2 => by
        have := (hq i acts[i] (List.getElem?_eq_getElem h1)).2 (by rw [List.length_map] at h2; exact h2)
        simpa using this)
      simp only [Rows.uptoBulk]
      omega
end
theorem bulk_of_sum (l : List TgDeed) : Sh.bulk l ≤ 500 * (l.map fun d => d.b.length + 3).sum := by
  induction l with
  | nil => exact Nat.le_refl _
  | cons x r ih =>
    have e : Sh.bulk (x :: r) = 500 + x.b.length + Sh.bulk r := by simp [Sh.bulk]
    rw [e, List.map_cons, List.sum_cons]
    omega
end Go.Proofs.YtnffigfafalocaaGreatDoor
namespace Go.Proofs.YtnffigfafalocaaGreatDoor
open Go.ChangeShapes Go.WideShapes Go.ChangeAt Go.RowKit
set_option linter.unusedSimpArgs false
set_option linter.unusedVariables false
section
variable {H : Type} {enc : TypeId × Value → H} {w : World}
set_option maxRecDepth 100000 in
theorem open_turned {base : Nat} {v : Value} {d : DataW H} {p : List MemPlace} (hv : Value.okWide Tryz.prog w .any base 25 v) (h : DataW.Trod enc Tryz.prog w 0 (fun _ => true) true 25 v d p) (hz : ∀ n ∈ DataW.weights Tryz.prog 25 d, n ≤ reachBytes) (hu : Rows.uptoBulk d ≤ 1048576) :
    ∃ al nl cl l, ∃ sec at_ x : Nat, v = .agg #[.slice al nl cl, .int .u16 (sec : Nat), .int .u8 (at_ : Nat), .int .u8 (x : Nat)] ∧ IsTgDeeds w al l ∧ l.length = nl ∧ Sh.bulk l ≤ 1000000000 ∧ sec < 65536 ∧ at_ < 256 ∧ x < 256 := by
  obtain ⟨v0, v1, v2, v3, y0, y1, y2, y3, n, rfl, rfl, rfl, hy0, hy1, hy2, hy3⟩ := Go.Joins.open_agg4 Tryz.underlying25 (by kernel_rfl) (by kernel_rfl) hv h
  have hb : Rows.uptoBulk y0.1 ≤ 1048576 := by
    simp only [Rows.uptoBulk, Rows.uptoBulkAll] at hu
    omega
  have hz' : ∀ k, k ∈ DataW.weights Tryz.prog 22 y0.1 ++ (DataW.weights Tryz.prog 23 y1.1 ++ (DataW.weights Tryz.prog 5 y2.1 ++ (DataW.weights Tryz.prog 5 y3.1 ++ DataW.weightsEach Tryz.prog [] []))) → k ≤ reachBytes := fun k hk => hz k (by
    simp only [DataW.weights, Tryz.underlying25]
    exact hk)
  obtain ⟨al, nl, cl, l, e0, N0, A0, K0⟩ := open_tg_deedsB hy0 (fun k hk => hz' k (List.mem_append.2 (Or.inl hk)))
  obtain ⟨x1, e1, _, w1⟩ := DataW.trod_int Tryz.underlying23 hy1
  obtain ⟨x2, e2, _, w2⟩ := DataW.trod_int Tryz.underlying5 hy2
  obtain ⟨x3, e3, _, w3⟩ := DataW.trod_int Tryz.underlying5 hy3
  simp only [List.cons.injEq, and_true] at e0 e1 e2 e3
  subst e0 e1 e2 e3
  have b1 := bounds_u16 w1
  have b2 := bounds_u8 w2
  have b3 := bounds_u8 w3
  exact ⟨al, nl, cl, l, x1.toNat, x2.toNat, x3.toNat, by rw [Int.toNat_of_nonneg b1.1, Int.toNat_of_nonneg b2.1, Int.toNat_of_nonneg b3.1], A0, N0, Nat.le_trans (bulk_of_sum l) (Nat.le_trans (Nat.mul_le_mul_left 500 (Nat.le_trans K0 hb)) (by decide)), by omega, by omega, by omega⟩
end
end Go.Proofs.YtnffigfafalocaaGreatDoor
