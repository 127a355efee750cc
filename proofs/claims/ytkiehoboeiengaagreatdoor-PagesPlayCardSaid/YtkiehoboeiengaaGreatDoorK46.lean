/-
  append of what reads as a list, inside a fence. No program in sight.
-/
import Derived.Test.YtkiehoboeiengaaGreatDoorK17
import Derived.OwnWalkIn
namespace Go.Proofs.YtkiehoboeiengaaGreatDoor
open Go Go.RowKit
theorem wpListIn_append_rd {F : Fence} {n : Nat} {P : Program} {w : World} {ops : Array Oper} {rest : List Oper} {o : Oper} {a : Act} {Q : Exit → Act → World → Prop} (hgd : o.guard = none) (s x : Operand) (t : TypeId) (ho : o.op = .call { callee := .builtin .append, args := #[s, x], argTypes := #[t, t] })
    (base : Nat) (e : TypeId) (i : TypeInfo) (z : Value) (bytes : Nat) (ht : P.underlying t = some (.slice e)) (hi : P.info? e = some i) (hz : i.zero = some z) (hsize : i.size = 1) (hby : i.bytes = bytes) (hzs : z.cells.size = 1)
    (v : Value) (vs : List Value) (hown : Own w base e v vs) (hs : a.eval s = v) (ad : Option Addr) (m c : Nat) (us : List Value) (hx : a.eval x = .slice ad m c) (hl : us.length = m) (hr : Rd w ad us) (h1 : ∀ u ∈ us, u.oneCell' = true)
    (h63 : vs.length + m ≤ maxLen) (hbytes : (vs.length + m) * bytes ≤ 140737488355328) (hbase : base ≤ w.heap.size)
    (h : ∀ v' w', Own w' base e v' (vs ++ us) → Touch (InBlock v) w w' → wpListIn F n P ops Q rest (a.put o.dst v') w') : wpListIn F n P ops Q (o :: rest) a w := by
  refine wpListIn_plain hgd fun K hK' => ?_
  obtain ⟨v', w', hrun, r1, r2⟩ := run_append_rd (P := P) (w := w) base t o.type e i z bytes ht hi hz hsize hby hzs v vs hown ad m c us hl hr h1 h63 hbytes hbase
  unfold Oper.wpIn
  refine ⟨?_, ?_⟩
  · simp [Oper.about, ho, resolve, Target.leads, Sem.run_pure]
  · rw [Oper.semAt_plain F _ _ (by rw [ho]; intro c hc'; cases hc')]
    simp [execOp, ho, resolve, invoke, builtin, hs, hx, hrun, Result.andThen]
    exact hK' _ _ (h v' w' r1 r2)
end Go.Proofs.YtkiehoboeiengaaGreatDoor
