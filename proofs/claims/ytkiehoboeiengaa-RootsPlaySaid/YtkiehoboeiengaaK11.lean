/-
  Package disks by its own text: to.
  Whole arrays and structs loaded out of, and stored into, a stretch of cells. No program in sight.
-/
import Derived.Test.YtkiehoboeiengaaK09
import Derived.Test.YtkiehoboeiengaaK10
import Derived.Outline
import Derived.Test.YtkiehoboeiengaaK04
import Derived.Deep.MidRow
namespace Go.Proofs.Ytkiehoboeiengaa
open Go Go.RowKit

theorem ptr_is : ∃ i z, TypeIs 93 i z 1 8 [.pointer none] := type_is (by kernel_rfl)
/-- pointers to these pieces of a row -/
def ptrs (g k : Nat) (is : List Nat) : List Value := is.map (fun i => .pointer (some ⟨g, i * k, none⟩))
theorem ptrs_snoc (g k : Nat) (is : List Nat) (i : Nat) : ptrs g k (is ++ [i]) = ptrs g k is ++ [.pointer (some ⟨g, i * k, none⟩)] := by simp [ptrs]

set_option maxHeartbeats 2000000 in
theorem to_in (w : World) (d n : Nat) (ws : List Dk.Wr) (m : Nat) (aw : Option Addr) (cw gw : Nat) (hm : ws.length = m) (hc2 : w.cell? ⟨d, 2, none⟩ = some (.slice aw m cw)) (hcw : m ≤ cw) (hmm : m ≤ 1000000)
    (hws : ∀ i y, ws[i]? = some y → aw = some ⟨gw, 0, none⟩ ∧ w.cell? ⟨gw, i * 66, none⟩ = some (.int .i64 (y.n : Nat))) :
    Calls Try.prog 38 #[.pointer (some ⟨d, 0, none⟩), .int .i64 (n : Nat)] w fun e w' => ∃ v, e = .returned v ∧ Own w' w.heap.size 93 v (ptrs gw 66 (Dk.hits n ws m)) ∧ Touch No w w' := by
  have Hm := Lib.hid hm
  have Hws := Lib.hid hws
  clear hm hws
  obtain ⟨I, z, hI⟩ := ptr_is
  have HI := Lib.hid hI
  clear hI
  go_enter Try.func38, Try.ntmps38
  go_wp2
  go_loopg [4, 11] m (fun g s4 s11 wr => ∃ (k : Nat) (v : Value), k + g = m ∧ s4 = v ∧ s11 = .int .i64 ((k : Nat) : Int) ∧ Hid (Own wr w.heap.size 93 v (ptrs gw 66 (Dk.hits n ws k))) ∧ Hid (Touch No w wr))
  case atStart => exact ⟨0, _, by omega, rfl, rfl, Own.nil _ _ _, Touch.refl _ _⟩
  case round =>
    obtain ⟨k, v, hkg, rfl, rfl, O, T⟩ := hrel
    cases gk with
    | zero =>
      obtain rfl : k = m := by omega
      go_wp2
      go_ret
      exact ⟨_, rfl, O.out, T.out⟩
    | succ g =>
      have hlt : (k : Int) < (m : Nat) := by omega
      obtain ⟨y, hy⟩ : ∃ y, ws[k]? = some y := ⟨_, List.getElem?_eq_getElem (by rw [Hm.out]; omega)⟩
      obtain ⟨rfl, hcy⟩ := Hws.out k y hy
      have Hy := Lib.hid hy
      clear hy
      have hc2r := T.out.cell (id : No d → False) hc2
      have hcyr := T.out.cell (id : No gw → False) hcy
      have Hc2 := Lib.hid hc2
      clear hc2 hcy
      by_cases hn : y.n = n
      · have hnb : ((y.n : Int) == (n : Nat)) = true := by simp [hn]
        have Hn := Lib.hid hn
        clear hn
        have hl : (ptrs gw 66 (Dk.hits n ws k)).length ≤ k := by rw [ptrs, List.length_map]; exact Dk.hits_length _ _ _
        have Hl := Lib.hid hl
        clear hl
        go_wp2_with (at_builtin; refine wpList_append1 rfl _ _ _ rfl w.heap.size 93 I z 8 Try.underlying91 HI.out.info HI.out.zero HI.out.size HI.out.bytes (by rw [HI.out.cells]; rfl) _ _ (.pointer (some ⟨gw, k * 66, none⟩)) O.out rfl rfl rfl (by have := Hl.out; unfold maxLen; omega) (by have := Hl.out; omega) T.out.size ?_; intro v' w3 hown3 ht3)
        have O3 := Lib.hid hown3
        have T3 := Lib.hid ht3
        clear hown3 ht3
        go_wp2
        go_roundg g
        case measure => omega
        case rel =>
          refine ⟨k + 1, _, by omega, rfl, by go_num, ?_, ?_⟩
          · show Own _ _ _ _ _
            rw [Dk.hits_yes Hy.out Hn.out, ptrs_snoc]
            exact O3.out
          · exact T.out.then T3.out (fun i hi e => by
              have := (O.out.block e).1
              omega)
      · have hnb : ((y.n : Int) == (n : Nat)) = false := by simp; omega
        have Hn := Lib.hid hn
        clear hn
        go_wp2
        go_roundg g
        case measure => omega
        case rel =>
          refine ⟨k + 1, _, by omega, rfl, by go_num, ?_, T.out⟩
          show Own _ _ _ _ _
          rw [Dk.hits_no Hy.out Hn.out]
          exact O.out
end Go.Proofs.Ytkiehoboeiengaa
namespace Go.Proofs.Ytkiehoboeiengaa
open Go Go.RowKit

section
variable {P : Program}
/-- a whole array or struct that stands at g from off on -/
theorem run_load_range {w : World} {g o n : Nat} {ty : TypeId} {vs : List Value} (hr : w.rangeAt g o vs) (hn : vs.length = n) {d : TypeDesc} (hu : P.underlying ty = some d) (hd : (match d with | .struct _ | .array _ _ => true | _ => false) = true)
    (hi : (P.info? ty).map (·.size) = some n) : (loadVar ty ⟨g, o, none⟩).run P w = .ok (.agg vs.toArray) w := by
  have hl : (loadCells ⟨g, o, none⟩ vs.length).run P w = .ok vs.toArray w :=
    run_loadCells_list (P := P) w ⟨g, o, none⟩ _ (fun j v hv => by rw [add_off]; exact hr j v hv)
  rw [hn] at hl
  cases hq : P.info? ty with
  | none => simp [hq] at hi
  | some i =>
    have hs : i.size = n := by simpa [hq] using hi
    have hagg : (isAgg ty).run P w = .ok true w := by
      unfold isAgg
      rw [Sem.run_bind, run_underlying hu w]
      cases d <;> simp_all
    simp [loadVar, Sem.run_bind, hagg, sizeOf, typeInfo, hq, hs, hl]
theorem wpList_load_range {ops : Array Oper} {rest : List Oper} {o : Oper} {a : Act} {w : World} {Q : Exit → Act → World → Prop} (hgd : o.guard = none) (ty : TypeId) (x : Operand) (hop : o.op = .load ty x) (n g off : Nat) (vs : List Value) (hr : w.rangeAt g off vs) (hn : vs.length = n)
    (hx : a.eval x = .pointer (some ⟨g, off, none⟩)) (d : TypeDesc) (hu : P.underlying ty = some d) (hd : (match d with | .struct _ | .array _ _ => true | _ => false) = true)
    (hi : (P.info? ty).map (·.size) = some n) (h : wpList P ops Q rest (a.put o.dst (.agg vs.toArray)) w) : wpList P ops Q (o :: rest) a w :=
  wpList_plain hgd fun _ hK => by
    unfold Oper.wp execOp
    simp only [hop, hx, Instr.loadAt, Instr.sureAddr, Sem.run_bind, Sem.run_pure, Result.andThen_ok, run_load_range hr hn hu hd hi]
    exact hK _ _ h
end
theorem Row.range {w : World} {g : Nat} {T : TypeId} {l : List Value} (h : Row w g T l) {o : Nat} {vs : List Value} (hv : ∀ j v, vs[j]? = some v → l[o + j]? = some v) : w.rangeAt g o vs := fun j v hj => by
  rw [h.cell]; exact hv j v hj
end Go.Proofs.Ytkiehoboeiengaa
