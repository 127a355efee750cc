/-
  The plain mathematics of a disk of sectors, second part: a stretch of a piece.
  The plain mathematics of a disk of sectors, third part: the writes to a sector, turned one by one.
  Package disks by its own text: to.
  Whole arrays and structs loaded out of, and stored into, a stretch of cells. No program in sight.
  Package disks by its own text: Fail.
  Package disks by its own text: Bad.
  Package disks by its own text: Rot.
-/
import Derived.Test.YtnffigfafalocaaGreatDoorK03
import Derived.Laws.Bits64b
import Derived.Laws.BitsAllLaws
import Derived.Test.YtnffigfafalocaaGreatDoorK04
import Derived.Outline
import Derived.Test.YtnffigfafalocaaGreatDoorK02
import Derived.Deep.MidRow
import Derived.StillTailTactics
import Derived.Deep.RegionLaw
namespace Go.Proofs.YtnffigfafalocaaGreatDoor
open Go Go.RowKit

/-! ### bits -/
theorem shift_one (x j : Nat) : x / 2 ^ j % 2 = if x.testBit j then 1 else 0 := by
  rw [Nat.testBit_eq_decide_div_mod_eq]
  have := Nat.mod_two_eq_zero_or_one (x / 2 ^ j)
  rcases this with h | h <;> simp [h]
end Go.Proofs.YtnffigfafalocaaGreatDoor
namespace Go.Proofs.YtnffigfafalocaaGreatDoor
open Go Go.RowKit
namespace Dk
/-- the write at i is to the sector n -/
def isTo (n : Nat) (l : List Wr) (i : Nat) : Bool := match l[i]? with | some y => y.n == n | none => false
/-- of the first k writes those to the sector n -/
def hits (n : Nat) (l : List Wr) (k : Nat) : List Nat := (List.range k).filter (isTo n l)
theorem hits_yes {n : Nat} {l : List Wr} {k : Nat} {y : Wr} (h : l[k]? = some y) (hn : y.n = n) : hits n l (k + 1) = hits n l k ++ [k] := by
  simp [hits, List.range_succ, List.filter_append, isTo, h, hn]
theorem hits_no {n : Nat} {l : List Wr} {k : Nat} {y : Wr} (h : l[k]? = some y) (hn : y.n ≠ n) : hits n l (k + 1) = hits n l k := by
  simp [hits, List.range_succ, List.filter_append, isTo, h, hn]
theorem hits_length (n : Nat) (l : List Wr) (k : Nat) : (hits n l k).length ≤ k := by
  have := List.length_filter_le (isTo n l) (List.range k)
  simpa [hits] using this
theorem hits_get {n : Nat} {l : List Wr} {k j i : Nat} (h : (hits n l k)[j]? = some i) : i < k ∧ ∃ y, l[i]? = some y ∧ y.n = n := by
  have hm := List.mem_of_getElem? h
  rw [hits, List.mem_filter] at hm
  refine ⟨by simpa using hm.1, ?_⟩
  have h2 := hm.2
  unfold isTo at h2
  cases hy : l[i]? with
  | none => simp [hy] at h2
  | some y => exact ⟨y, rfl, by simpa [hy] using h2⟩
theorem hits_nodup (n : Nat) (l : List Wr) (k : Nat) : (hits n l k).Nodup := List.Nodup.sublist List.filter_sublist List.nodup_range

/-- each of these places turned -/
def turn (f : Wr → Wr) (l : List Wr) (is : List Nat) : List Wr := is.foldl (fun l i => l.modify i f) l
theorem turn_snoc (f : Wr → Wr) (l : List Wr) (is : List Nat) (i : Nat) : turn f l (is ++ [i]) = (turn f l is).modify i f := by simp [turn]
theorem turn_length (f : Wr → Wr) : ∀ (is : List Nat) (l : List Wr), (turn f l is).length = l.length
  | [], l => rfl
  | i :: r, l => by
    show (turn f (l.modify i f) r).length = _
    rw [turn_length f r, List.length_modify]
theorem turn_get (f : Wr → Wr) : ∀ (is : List Nat) (l : List Wr) (j : Nat), is.Nodup → (turn f l is)[j]? = if j ∈ is then l[j]?.map f else l[j]?
  | [], l, j, _ => by simp [turn]
  | i :: r, l, j, h => by
    have hi : i ∉ r := (List.nodup_cons.1 h).1
    show (turn f (l.modify i f) r)[j]? = _
    rw [turn_get f r _ j (List.nodup_cons.1 h).2, List.getElem?_modify]
    by_cases hj : j ∈ r
    · have : i ≠ j := fun e => hi (e ▸ hj)
      simp [hj, this]
    · by_cases e : i = j
      · subst e; simp [hj]
      · have e' : ¬ j = i := fun h => e h.symm
        simp [hj, e, e']
theorem turn_all (f : Wr → Wr) (n : Nat) (l : List Wr) : turn f l (hits n l l.length) = l.map (fun y => if y.n = n then f y else y) := by
  refine List.ext_getElem? (fun j => ?_)
  rw [turn_get f _ l j (hits_nodup n l _), List.getElem?_map]
  cases hy : l[j]? with
  | none => simp
  | some y =>
    have hj : j < l.length := by
      rcases Nat.lt_or_ge j l.length with h | h
      · exact h
      · rw [List.getElem?_eq_none h] at hy; cases hy
    by_cases hn : y.n = n
    · have : j ∈ hits n l l.length := List.mem_filter.2 ⟨List.mem_range.2 hj, by unfold isTo; rw [hy]; simpa using hn⟩
      simp [this, hn]
    · have : j ∉ hits n l l.length := fun hm => by
        have h2 := (List.mem_filter.1 hm).2
        unfold isTo at h2; rw [hy] at h2; exact hn (by simpa using h2)
      simp [this, hn]
theorem turn_at (f : Wr → Wr) (l : List Wr) (is : List Nat) (k i : Nat) (h : is.Nodup) (hk : is[k]? = some i) : (turn f l (is.take k))[i]? = l[i]? := by
  rw [turn_get f _ l i (List.Nodup.sublist (List.take_sublist _ _) h), if_neg]
  intro hm
  obtain ⟨j, hj, e⟩ := List.mem_iff_getElem.1 hm
  have hj' := hj
  rw [List.length_take] at hj'
  rw [List.getElem_take] at e
  have hk' : k < is.length := by
    rcases Nat.lt_or_ge k is.length with h | h
    · exact h
    · rw [List.getElem?_eq_none h] at hk; cases hk
  have e2 : is[k] = i := by rw [List.getElem?_eq_getElem hk'] at hk; exact Option.some.inj hk
  have := (List.getElem_inj h).1 (e.trans e2.symm)
  omega
end Dk
end Go.Proofs.YtnffigfafalocaaGreatDoor
namespace Go.Proofs.YtnffigfafalocaaGreatDoor
open Go Go.RowKit

theorem ptr_is : ∃ i z, TypeIs 129 i z 1 8 [.pointer none] := type_is (by kernel_rfl)
/-- pointers to these pieces of a row -/
def ptrs (g k : Nat) (is : List Nat) : List Value := is.map (fun i => .pointer (some ⟨g, i * k, none⟩))
theorem ptrs_snoc (g k : Nat) (is : List Nat) (i : Nat) : ptrs g k (is ++ [i]) = ptrs g k is ++ [.pointer (some ⟨g, i * k, none⟩)] := by simp [ptrs]

set_option maxHeartbeats 2000000 in
theorem to_in (w : World) (d n : Nat) (ws : List Dk.Wr) (m : Nat) (aw : Option Addr) (cw gw : Nat) (hm : ws.length = m) (hc2 : w.cell? ⟨d, 2, none⟩ = some (.slice aw m cw)) (hcw : m ≤ cw) (hmm : m ≤ 1000000)
    (hws : ∀ i y, ws[i]? = some y → aw = some ⟨gw, 0, none⟩ ∧ w.cell? ⟨gw, i * 66, none⟩ = some (.int .i64 (y.n : Nat))) :
    Calls Tryz.prog 57 #[.pointer (some ⟨d, 0, none⟩), .int .i64 (n : Nat)] w fun e w' => ∃ v, e = .returned v ∧ Own w' w.heap.size 129 v (ptrs gw 66 (Dk.hits n ws m)) ∧ Touch No w w' := by
  have Hm := Lib.hid hm
  have Hws := Lib.hid hws
  clear hm hws
  obtain ⟨I, z, hI⟩ := ptr_is
  have HI := Lib.hid hI
  clear hI
  go_enter Tryz.func57, Tryz.ntmps57
  go_wp2
  go_loopg [4, 11] m (fun g s4 s11 wr => ∃ (k : Nat) (v : Value), k + g = m ∧ s4 = v ∧ s11 = .int .i64 ((k : Nat) : Int) ∧ Hid (Own wr w.heap.size 129 v (ptrs gw 66 (Dk.hits n ws k))) ∧ Hid (Touch No w wr))
  case atStart => exact ⟨0, _, by omega, rfl, rfl, Own.nil _ _ _, Touch.refl _ _⟩
  case round =>
    obtain ⟨k, v, hkg, rfl, rfl, O, T⟩ := hrel
    cases gk with
    | zero =>
      obtain rfl : k = m := by omega
      go_wp2
      go_ret
      exact ⟨_, rfl, O.out, T.out⟩
    | succ g =>
      have hlt : (k : Int) < (m : Nat) := by omega
      obtain ⟨y, hy⟩ : ∃ y, ws[k]? = some y := ⟨_, List.getElem?_eq_getElem (by rw [Hm.out]; omega)⟩
      obtain ⟨rfl, hcy⟩ := Hws.out k y hy
      have Hy := Lib.hid hy
      clear hy
      have hc2r := T.out.cell (id : No d → False) hc2
      have hcyr := T.out.cell (id : No gw → False) hcy
      have Hc2 := Lib.hid hc2
      clear hc2 hcy
      by_cases hn : y.n = n
      · have hnb : ((y.n : Int) == (n : Nat)) = true := by simp [hn]
        have Hn := Lib.hid hn
        clear hn
        have hl : (ptrs gw 66 (Dk.hits n ws k)).length ≤ k := by rw [ptrs, List.length_map]; exact Dk.hits_length _ _ _
        have Hl := Lib.hid hl
        clear hl
        go_wp2_with (at_builtin; refine wpList_append1 rfl _ _ _ rfl w.heap.size 129 I z 8 Tryz.underlying127 HI.out.info HI.out.zero HI.out.size HI.out.bytes (by rw [HI.out.cells]; rfl) _ _ (.pointer (some ⟨gw, k * 66, none⟩)) O.out rfl rfl rfl (by have := Hl.out; unfold maxLen; omega) (by have := Hl.out; omega) T.out.size ?_; intro v' w3 hown3 ht3)
        have O3 := Lib.hid hown3
        have T3 := Lib.hid ht3
        clear hown3 ht3
        go_wp2
        go_roundg g
        case measure => omega
        case rel =>
          refine ⟨k + 1, _, by omega, rfl, by go_num, ?_, ?_⟩
          · show Own _ _ _ _ _
            rw [Dk.hits_yes Hy.out Hn.out, ptrs_snoc]
            exact O3.out
          · exact T.out.then T3.out (fun i hi e => by
              have := (O.out.block e).1
              omega)
      · have hnb : ((y.n : Int) == (n : Nat)) = false := by simp; omega
        have Hn := Lib.hid hn
        clear hn
        go_wp2
        go_roundg g
        case measure => omega
        case rel =>
          refine ⟨k + 1, _, by omega, rfl, by go_num, ?_, T.out⟩
          show Own _ _ _ _ _
          rw [Dk.hits_no Hy.out Hn.out]
          exact O.out
end Go.Proofs.YtnffigfafalocaaGreatDoor
namespace Go.Proofs.YtnffigfafalocaaGreatDoor
open Go Go.RowKit

section
variable {P : Program}
/-- a whole array or struct that stands at g from off on -/
theorem run_load_range {w : World} {g o n : Nat} {ty : TypeId} {vs : List Value} (hr : w.rangeAt g o vs) (hn : vs.length = n) {d : TypeDesc} (hu : P.underlying ty = some d) (hd : (match d with | .struct _ | .array _ _ => true | _ => false) = true)
    (hi : (P.info? ty).map (·.size) = some n) : (loadVar ty ⟨g, o, none⟩).run P w = .ok (.agg vs.toArray) w := by
  have hl : (loadCells ⟨g, o, none⟩ vs.length).run P w = .ok vs.toArray w :=
    run_loadCells_list (P := P) w ⟨g, o, none⟩ _ (fun j v hv => by rw [add_off]; exact hr j v hv)
  rw [hn] at hl
  cases hq : P.info? ty with
  | none => simp [hq] at hi
  | some i =>
    have hs : i.size = n := by simpa [hq] using hi
    have hagg : (isAgg ty).run P w = .ok true w := by
      unfold isAgg
      rw [Sem.run_bind, run_underlying hu w]
      cases d <;> simp_all
    simp [loadVar, Sem.run_bind, hagg, sizeOf, typeInfo, hq, hs, hl]
theorem wpList_load_range {ops : Array Oper} {rest : List Oper} {o : Oper} {a : Act} {w : World} {Q : Exit → Act → World → Prop} (hgd : o.guard = none) (ty : TypeId) (x : Operand) (hop : o.op = .load ty x) (n g off : Nat) (vs : List Value) (hr : w.rangeAt g off vs) (hn : vs.length = n)
    (hx : a.eval x = .pointer (some ⟨g, off, none⟩)) (d : TypeDesc) (hu : P.underlying ty = some d) (hd : (match d with | .struct _ | .array _ _ => true | _ => false) = true)
    (hi : (P.info? ty).map (·.size) = some n) (h : wpList P ops Q rest (a.put o.dst (.agg vs.toArray)) w) : wpList P ops Q (o :: rest) a w :=
  wpList_plain hgd fun _ hK => by
    unfold Oper.wp execOp
    simp only [hop, hx, Instr.loadAt, Instr.sureAddr, Sem.run_bind, Sem.run_pure, Result.andThen_ok, run_load_range hr hn hu hd hi]
    exact hK _ _ h
end
theorem Row.range {w : World} {g : Nat} {T : TypeId} {l : List Value} (h : Row w g T l) {o : Nat} {vs : List Value} (hv : ∀ j v, vs[j]? = some v → l[o + j]? = some v) : w.rangeAt g o vs := fun j v hj => by
  rw [h.cell]; exact hv j v hj
end Go.Proofs.YtnffigfafalocaaGreatDoor
namespace Go.Proofs.YtnffigfafalocaaGreatDoor
open Go Go.RowKit
set_option linter.unusedSimpArgs false

end Go.Proofs.YtnffigfafalocaaGreatDoor
namespace Go.Proofs.YtnffigfafalocaaGreatDoor
open Go Go.RowKit
set_option linter.unusedSimpArgs false

/-- one cell of a write that waits -/
theorem rows_get {w : World} {T : TypeId} {gw m cw : Nat} {l : List Dk.Wr} (h : w.ownsRow 0 T 66 (.slice (some ⟨gw, 0, none⟩) m cw) m (l.flatMap wrCells)) (hl : l.length = m) {i j : Nat} {y : Dk.Wr} (hy : l[i]? = some y) (hj : j < 66) :
    w.cell? ⟨gw, i * 66 + j, none⟩ = (wrCells y)[j]? ∧ w.frozen? ⟨gw, i * 66 + j, none⟩ = false := by
  have hi : i < m := by
    rcases Nat.lt_or_ge i l.length with h | h
    · omega
    · rw [List.getElem?_eq_none h] at hy; cases hy
  obtain ⟨g, c, r, hv, _, hR, _⟩ := ownRow h (by intro e; cases e)
  cases hv
  refine ⟨?_, hR.soft _⟩
  rw [hR.cell, List.getElem?_append_left (by
    rw [flat_length wrCells_length, hl]
    have := Nat.mul_le_mul_right 66 hi
    omega), flat_get wrCells_length l i j y hy hj]
theorem rows_set {w : World} {T : TypeId} {gw m cw : Nat} {l : List Dk.Wr} (h : w.ownsRow 0 T 66 (.slice (some ⟨gw, 0, none⟩) m cw) m (l.flatMap wrCells)) (hl : l.length = m) {i j : Nat} {y y' : Dk.Wr} {v : Value} (hy : l[i]? = some y) (hj : j < 66) (he : wrCells y' = (wrCells y).set j v) :
    (w.setCell ⟨gw, i * 66 + j, none⟩ v).ownsRow 0 T 66 (.slice (some ⟨gw, 0, none⟩) m cw) m ((l.set i y').flatMap wrCells) := by
  have hi : i < m := by
    rcases Nat.lt_or_ge i l.length with h | h
    · omega
    · rw [List.getElem?_eq_none h] at hy; cases hy
  obtain ⟨h0, h⟩ := h
  rcases h with ⟨h, _⟩ | ⟨g, cap, cur, hv, hg, hh, hn, hc, hs, ht⟩
  · cases h
  cases hv
  refine ⟨by rw [flat_length wrCells_length, List.length_set, hl], Or.inr ⟨gw, cw, cur.setIfInBounds (i * 66 + j) v, rfl, hg, ?_, hn, hc, by simpa using hs, ?_⟩⟩
  · have hR : Row w gw T cur.toList := by rw [Row, Array.toArray_toList]; exact hh
    have := hR.setCell (i * 66 + j) v
    rw [Row] at this
    rw [this]
    congr 2
    apply Array.ext'; simp
  · rw [Array.toList_setIfInBounds, List.take_set]
    rw [ht]
    have := flat_cell wrCells_length l i j y y' v [] hy hj he
    simpa using this

/-- one cell of a sector in its row -/
theorem sec_put {w : World} {g : Nat} {T : TypeId} {l : List Dk.Sec} {r : List Value} (h : Row w g T (l.flatMap secCells ++ r)) {n j : Nat} (hn : n < l.length) (hj : j < 65) (f : Dk.Sec → Dk.Sec) {v : Value} (he : secCells (f (Dk.at_ l n)) = (secCells (Dk.at_ l n)).set j v) :
    Row (w.setCell ⟨g, n * 65 + j, none⟩ v) g T ((Dk.upd l n f).flatMap secCells ++ r) := by
  rw [Dk.upd, ← flat_cell secCells_length l n j _ _ v r (Dk.at_get hn) hj he]
  exact h.setCell _ _
theorem modify_set {α : Type} {l : List α} {i : Nat} {y : α} (f : α → α) (h : l[i]? = some y) : l.modify i f = l.set i (f y) := by
  refine List.ext_getElem? (fun j => ?_)
  rw [List.getElem?_modify, List.getElem?_set]
  by_cases e : i = j
  · subst e
    have hi : i < l.length := by
      rcases Nat.lt_or_ge i l.length with h' | h'
      · exact h'
      · rw [List.getElem?_eq_none h'] at h; cases h
    rw [h]; simp [hi]
  · simp [e]

theorem waits_base {w : World} {T : TypeId} {aw : Option Addr} {m cw : Nat} {l : List Dk.Wr} (h : w.ownsRow 0 T 66 (.slice aw m cw) m (l.flatMap wrCells)) (hl : l.length = m) :
    ∃ gw, ∀ (i : Nat) (y : Dk.Wr), l[i]? = some y → aw = some ⟨gw, 0, none⟩ := by
  cases aw with
  | none => 
    refine ⟨0, fun i y hy => ?_⟩
    obtain ⟨g, c, r, hv, _⟩ := ownRow h (by
      intro e; cases e
      have : l = [] := List.eq_nil_of_length_eq_zero hl
      rw [this] at hy; cases hy)
    cases hv
  | some a =>
    obtain ⟨g, c, r, hv, _⟩ := ownRow h (by intro e; cases e)
    cases hv
    exact ⟨g, fun _ _ _ => rfl⟩

end Go.Proofs.YtnffigfafalocaaGreatDoor
namespace Go.Proofs.YtnffigfafalocaaGreatDoor
open Go Go.RowKit
set_option linter.unusedSimpArgs false

theorem map_set_cells {b : List Nat} {p v : Nat} (hl : b.length = 64) : (List.range 64).map (fun j => Value.int .u8 (((b.set p v).getD j 0 : Nat) : Int)) = ((List.range 64).map (fun j => Value.int .u8 ((b.getD j 0 : Nat) : Int))).set p (.int .u8 (v : Nat)) := by
  rw [bytes_cells (by rw [List.length_set]; exact hl), bytes_cells hl, nums, nums, List.map_set]
theorem turnS_cells (p x : Nat) (s : Dk.Sec) (hp : p < 64) (hl : s.b.length = 64) : secCells (Dk.turnS p x s) = (secCells s).set p (.int .u8 ((s.b.getD p 0 ^^^ x : Nat) : Int)) := by
  rw [secCells, secCells, List.set_append_left _ _ (by simp; omega), Dk.turnS, Dk.turnB, map_set_cells hl]
theorem turnW_cells (p x : Nat) (y : Dk.Wr) (hp : p < 64) (hl : y.b.length = 64) : wrCells ⟨y.n, Dk.turnB y.b p x, y.elder⟩ = (wrCells y).set (1 + p) (.int .u8 ((y.b.getD p 0 ^^^ x : Nat) : Int)) := by
  rw [wrCells, wrCells, Nat.add_comm 1 p, List.set_cons_succ, List.set_append_left _ _ (by simp; omega), Dk.turnB, map_set_cells hl]
def rotF (p x : Nat) (y : Dk.Wr) : Dk.Wr := ⟨y.n, Dk.turnB y.b p x, y.elder⟩
theorem byte_lt {b : List Nat} (h : Dk.Bytes b) (p : Nat) : b.getD p 0 < 256 := by
  rw [List.getD_eq_getElem?_getD]
  cases hq : b[p]? with
  | none => simp
  | some z => exact h.lt z (List.mem_of_getElem? hq)

set_option maxRecDepth 100000 in
set_option maxHeartbeats 2000000 in
theorem rot_in (w : World) (d : Nat) (D : Dk.Disk) (O : Nat → Prop) (n p x : Nat) (h : DiskAt w d D O) (hn : n < D.seen.length) (hp : p < 64) (hx : x < 256) (hw : D.waits.length ≤ 1000000) :
    Calls Tryz.prog 10 #[.pointer (some ⟨d, 0, none⟩), .int .i64 (n : Nat), .int .i64 (p : Nat), .int .u8 (x : Nat)] w fun e w' => e = .returned (.int .i64 0) ∧ Touch O w w' ∧ DiskAt w' d (Dk.rot D n p x) O := by
  have H := Lib.hid h
  have ok := h.ok
  have e1 : askSays D.seen.length n = 0 := by unfold askSays; rw [if_pos (by omega)]
  obtain ⟨gs, gn, cs, cn, rs, rn, vw, Di, o1, o2, o3, o4⟩ := h
  obtain ⟨aw, cw, rfl, hcw1, hcw2⟩ := rowSlice Di.waits
  have Hok := Lib.hid ok
  have HDi := Lib.hid Di
  have hn1 : (n : Int) < (D.seen.length : Nat) := by omega
  have hns : n < D.sure.length := by rw [ok.len]; exact hn
  have hn2 : (n : Int) < (D.sure.length : Nat) := by omega
  have hcb : w.cell? ⟨gn, n * 65 + p, none⟩ = some (.int .u8 ((Dk.at_ D.seen n).b.getD p 0 : Nat)) := by
    have := Row.cell Di.seen (n * 65 + p)
    rw [this, List.getElem?_append_left (by
      rw [flat_length secCells_length]
      have := Nat.mul_le_mul_right 65 hn
      omega), flat_get secCells_length _ n p _ (Dk.at_get hn) (by omega)]
    exact sec_cell _ hp
  have hcs : w.cell? ⟨gs, n * 65 + p, none⟩ = some (.int .u8 ((Dk.at_ D.sure n).b.getD p 0 : Nat)) := by
    have := Row.cell Di.sure (n * 65 + p)
    rw [this, List.getElem?_append_left (by
      rw [flat_length secCells_length]
      have := Nat.mul_le_mul_right 65 hns
      omega), flat_get secCells_length _ n p _ (Dk.at_get hns) (by omega)]
    exact sec_cell _ hp
  have hfb := Di.seen.soft (n * 65 + p)
  have hfs := Di.sure.soft (n * 65 + p)
  have hc0 := Di.c0
  have hc1 := Di.c1
  have hlcn := Di.lcn
  have hlcs := Di.lcs
  have okS := (ok.sure _ (Dk.at_mem hns)).b
  have okN := (ok.seen _ (Dk.at_mem hn)).b
  have hp1 : (p : Int) < 64 := by omega
  have hp2 : ¬ (64 : Int) ≤ (p : Nat) := by omega
  obtain ⟨xn, hxn⟩ : ∃ xn, (Dk.at_ D.seen n).b.getD p 0 ^^^ x = xn := ⟨_, rfl⟩
  obtain ⟨xs, hxs⟩ : ∃ xs, (Dk.at_ D.sure n).b.getD p 0 ^^^ x = xs := ⟨_, rfl⟩
  obtain ⟨yn, hyn⟩ : ∃ yn, (Dk.at_ D.seen n).b.getD p 0 = yn := ⟨_, rfl⟩
  obtain ⟨ys, hys⟩ : ∃ ys, (Dk.at_ D.sure n).b.getD p 0 = ys := ⟨_, rfl⟩
  have bn : bits BinOp.xor .u8 (yn : Int) (x : Int) = (xn : Nat) := by rw [← hxn, hyn]; exact u8_xor_nat _ _ (by rw [← hyn]; exact byte_lt okN p) hx
  have bs : bits BinOp.xor .u8 (ys : Int) (x : Int) = (xs : Nat) := by rw [← hxs, hys]; exact u8_xor_nat _ _ (by rw [← hys]; exact byte_lt okS p) hx
  rw [hyn] at hcb
  rw [hys] at hcs
  have cellS := turnS_cells p x (Dk.at_ D.sure n) hp okS.len
  have cellN := turnS_cells p x (Dk.at_ D.seen n) hp okN.len
  rw [hxn] at cellN
  rw [hxs] at cellS
  have HcS := Lib.hid cellS
  have HcN := Lib.hid cellN
  clear cellS cellN hxn hxs hyn hys okS okN
  have Ho4 := Lib.hid o4
  have e1n : d ≠ gs := Di.ne.1
  have e2n : d ≠ gn := Di.ne.2.1
  have e3n : gs ≠ gn := Di.ne.2.2
  clear Di ok o4
  go_enter Tryz.func10, Tryz.ntmps10
  go_wp2_with fail
  refine (ask_any w d D O _ H.out).mono ?_
  rintro e w' ⟨rfl, rfl⟩
  rw [e1]
  go_wp2_with fail
  go_still_tail 15, (by kernel_rfl)
  go_wp2
  obtain ⟨W1, hW1⟩ : ∃ W1, W1 = (w.setCell ⟨gn, n * 65 + p, none⟩ (.int .u8 (xn : Nat))).drew := ⟨_, rfl⟩
  rw [← hW1]
  have t1 : Touch (One gn) w W1 := by
    rw [hW1]; exact ((Touch.refl (One gn) w).setCell (p := ⟨gn, n * 65 + p, none⟩) (fun _ => rfl) _).drew
  have hseen1 : Row W1 gn 122 ((Dk.upd D.seen n (Dk.turnS p x)).flatMap secCells ++ rn) := by
    rw [hW1]; exact sec_put HDi.out.seen hn (by omega) (Dk.turnS p x) HcN.out
  have hsure1 : Row W1 gs 122 (D.sure.flatMap secCells ++ rs) := HDi.out.sure.touch t1 e3n
  have hc0' := t1.cell e2n hc0
  have hcs' := t1.cell e3n hcs
  have hfs' := hsure1.soft (n * 65 + p)
  have T1 := Lib.hid t1
  have Hseen1 := Lib.hid hseen1
  have Hsure1 := Lib.hid hsure1
  clear t1 hseen1 hsure1 hW1 hc0 hcs hfs hcb hfb hc1
  go_still_tail 15, (by kernel_rfl)
  go_wp2_with fail
  obtain ⟨W, hW⟩ : ∃ W, W = (W1.setCell ⟨gs, n * 65 + p, none⟩ (.int .u8 (xs : Nat))).drew := ⟨_, rfl⟩
  have t2 : Touch (One gs) W1 W := by
    rw [hW]; exact ((Touch.refl (One gs) W1).setCell (p := ⟨gs, n * 65 + p, none⟩) (fun _ => rfl) _).drew
  have tW : Touch O w W := (T1.out.mono (G := O) (fun _ _ e => by rw [show _ = gn from e]; exact o3)).then t2 (fun _ _ e => by rw [show _ = gs from e]; exact o2)
  have tW' : Touch (fun k => k = gn ∨ k = gs) w W := (T1.out.mono (G := fun k => k = gn ∨ k = gs) (fun _ _ e => Or.inl e)).then t2 (fun _ _ e => Or.inr e)
  have hseen : Row W gn 122 ((Dk.upd D.seen n (Dk.turnS p x)).flatMap secCells ++ rn) := Hseen1.out.touch t2 (fun e => e3n e.symm)
  have hsure : Row W gs 122 ((Dk.upd D.sure n (Dk.turnS p x)).flatMap secCells ++ rs) := by
    rw [hW]; exact sec_put Hsure1.out hns (by omega) (Dk.turnS p x) HcS.out
  have hWd := tW'.cell (fun e => by rcases e with e | e; exact e2n e; exact e1n e) HDi.out.c2
  have hWw := rowTouch HDi.out.waits tW' (fun k hk e => by
    have := HDi.out.wne k hk
    rcases e with e | e
    · exact this.2.2 e
    · exact this.2.1 e)
  rw [← hW]
  obtain ⟨gw, hgw⟩ := waits_base hWw rfl
  have Hgw := Lib.hid hgw
  have Hseen := Lib.hid hseen
  have Hsure := Lib.hid hsure
  have TW := Lib.hid tW
  have TW' := Lib.hid tW'
  have HWw := Lib.hid hWw
  have hx' : (x : Int) < 256 := by omega
  clear hgw hseen hsure tW tW' hWw hW t2 hc0' hcs' hfs' bn bs
  refine (to_in W d n D.waits D.waits.length aw cw gw rfl hWd hcw1 hw (fun i y hy => ⟨Hgw.out i y hy, by
    obtain rfl := Hgw.out i y hy
    have := (rows_get HWw.out rfl hy (by decide : 0 < 66)).1
    rw [Nat.add_zero] at this
    rw [this]; exact wr_n y⟩)).mono ?_
  rintro e w3 ⟨v, rfl, j1, j2⟩
  obtain ⟨q, hq⟩ : ∃ q, (Dk.hits n D.waits D.waits.length).length = q := ⟨_, rfl⟩
  obtain ⟨av, cv, rfl, hcv, _, _, hqm⟩ := j1.form' (n := q) (by rw [ptrs, List.length_map]; exact hq)
  have hq2 : q ≤ D.waits.length := by rw [← hq]; exact Dk.hits_length _ _ _
  have J1 := Lib.hid j1
  have J2 := Lib.hid j2
  have Hq := Lib.hid hq
  have Hwd := Lib.hid hWd
  clear j1 j2 hq hqm hWd
  go_wp2
  go_loopg [62] q (fun g s32 wr => ∃ k : Nat, k + g = q ∧ s32 = .int .i64 ((k : Nat) : Int) ∧ Hid (Touch (InBlock (.slice aw D.waits.length cw)) w3 wr) ∧ Hid (wr.ownsRow 0 133 66 (.slice aw D.waits.length cw) D.waits.length ((Dk.turn (rotF p x) D.waits ((Dk.hits n D.waits D.waits.length).take k)).flatMap wrCells)))
  case atStart => exact ⟨0, by omega, rfl, Touch.refl _ _, by
    rw [List.take_zero]
    exact rowTouch HWw.out J2.out (fun _ _ f => f)⟩
  case round =>
    obtain ⟨k, hkg, rfl, T, R⟩ := hrel
    cases gk with
    | zero =>
      obtain rfl : k = q := by omega
      go_wp2
      go_ret
      have hR := R.out
      rw [List.take_of_length_le (by rw [Hq.out]; exact Nat.le_refl _), Dk.turn_all] at hR
      have nd : ∀ x, (x = d ∨ x = gs ∨ x = gn) → ¬ InBlock (.slice aw D.waits.length cw) x := fun x hx hk => by
        have := HDi.out.wne x hk
        rcases hx with e | e | e
        · exact this.1 e
        · exact this.2.1 e
        · exact this.2.2 e
      have tf : Touch (fun k => k = gn ∨ k = gs ∨ InBlock (.slice aw D.waits.length cw) k) w wr := (((TW'.out.mono (fun _ _ e => by rcases e with e | e; exact Or.inl e; exact Or.inr (Or.inl e))).then J2.out (fun _ _ f => f.elim)).then T.out (fun _ _ e => Or.inr (Or.inr e)))
      have c : ∀ o v, w.cell? ⟨d, o, none⟩ = some v → wr.cell? ⟨d, o, none⟩ = some v := fun o v hc => tf.cell (fun e => by
        rcases e with e | e | e
        · exact e2n e
        · exact e1n e
        · exact nd d (Or.inl rfl) e) hc
      refine ⟨rfl, (TW.out.then J2.out (fun _ _ f => f.elim)).then T.out (fun k _ e => Ho4.out k e), gs, gn, cs, cn, rs, rn, .slice aw D.waits.length cw, ⟨Dk.rot_ok Hok.out hn hx, ?_, ?_, c 2 _ HDi.out.c2, fun o => ?_, ?_, ?_, ?_, ?_, HDi.out.mcs, HDi.out.mcn, ?_, HDi.out.ne, HDi.out.wne⟩, o1, o2, o3, Ho4.out⟩
      · show _ = some (Value.slice _ (Dk.upd D.sure n (Dk.turnS p x)).length _)
        rw [Dk.upd_length]; exact c 0 _ HDi.out.c0
      · show _ = some (Value.slice _ (Dk.upd D.seen n (Dk.turnS p x)).length _)
        rw [Dk.upd_length]; exact c 1 _ HDi.out.c1
      · rw [tf.frozen HDi.out.lt (fun e => by
          rcases e with e | e | e
          · exact e2n e
          · exact e1n e
          · exact nd d (Or.inl rfl) e) o]
        exact HDi.out.soft o
      · exact (Hsure.out.touch J2.out id).touch T.out (nd _ (Or.inr (Or.inl rfl)))
      · exact (Hseen.out.touch J2.out id).touch T.out (nd _ (Or.inr (Or.inr rfl)))
      · show (Dk.upd D.sure n (Dk.turnS p x)).length ≤ cs
        rw [Dk.upd_length]; exact hlcs
      · show (Dk.upd D.seen n (Dk.turnS p x)).length ≤ cn
        rw [Dk.upd_length]; exact hlcn
      · show World.ownsRow _ 0 _ 66 _ (D.waits.map (Dk.turnW n p x)).length ((D.waits.map (Dk.turnW n p x)).flatMap wrCells)
        rw [List.length_map]
        exact hR
    | succ g =>
      have hlt : (k : Int) < (q : Nat) := by omega
      obtain ⟨i, hi⟩ : ∃ i, (Dk.hits n D.waits D.waits.length)[k]? = some i := ⟨_, List.getElem?_eq_getElem (by rw [Hq.out]; omega)⟩
      obtain ⟨him, y, hy, hyn⟩ := Dk.hits_get hi
      obtain rfl := Hgw.out i y hy
      have hown := (J1.out.touch T.out (fun b hb _ e => by
        have h1 := (rowBlock HWw.out e).2
        omega)).form
      obtain ⟨av', cv', hv', _, hrd, _⟩ := hown
      have hpi : (ptrs gw 66 (Dk.hits n D.waits D.waits.length))[k]? = some (.pointer (some ⟨gw, i * 66, none⟩)) := by rw [ptrs, List.getElem?_map, hi]; rfl
      obtain ⟨bv, ov, hav, hcl⟩ := hrd k _ hpi
      obtain rfl : av = some ⟨bv, ov, none⟩ := by cases hv'; exact hav
      clear hv' hrd hpi hav
      have hyt : (Dk.turn (rotF p x) D.waits ((Dk.hits n D.waits D.waits.length).take k))[i]? = some y := (Dk.turn_at (rotF p x) D.waits _ k i (Dk.hits_nodup _ _ _) hi).trans hy
      have hg := rows_get R.out (Dk.turn_length _ _ _) hyt (show 1 + p < 66 by omega)
      have hyb := (Hok.out.waits y (List.mem_of_getElem? hy)).b
      obtain ⟨z, hz⟩ : ∃ z, y.b.getD p 0 = z := ⟨_, rfl⟩
      obtain ⟨zx, hzx⟩ : ∃ zx, y.b.getD p 0 ^^^ x = zx := ⟨_, rfl⟩
      have hce : wr.cell? ⟨gw, i * 66 + (1 + p), none⟩ = some (.int .u8 (z : Nat)) := by rw [← hz]; exact hg.1.trans (wr_cell y hp)
      have hce2 : wr.cell? ⟨gw, i * 66 + 1 + p, none⟩ = some (.int .u8 (z : Nat)) := by rw [Nat.add_assoc]; exact hce
      have hfe := hg.2
      have hfe2 : wr.frozen? ⟨gw, i * 66 + 1 + p, none⟩ = false := by rw [Nat.add_assoc]; exact hg.2
      have hset := rows_set R.out (Dk.turn_length _ _ _) hyt (show 1 + p < 66 by omega) (turnW_cells p x y hp hyb.len)
      have bz : bits BinOp.xor .u8 (z : Int) (x : Int) = (zx : Nat) := by rw [← hzx, ← hz]; exact u8_xor_nat _ _ (byte_lt hyb p) hx
      rw [hzx] at hset
      have hnext : (Dk.turn (rotF p x) D.waits ((Dk.hits n D.waits D.waits.length).take k)).set i ⟨y.n, Dk.turnB y.b p x, y.elder⟩ = Dk.turn (rotF p x) D.waits ((Dk.hits n D.waits D.waits.length).take (k + 1)) := by
        have e1 : (Dk.hits n D.waits D.waits.length).take (k + 1) = (Dk.hits n D.waits D.waits.length).take k ++ [i] := by
          rw [List.take_add_one, hi]; rfl
        rw [e1, Dk.turn_snoc, modify_set (rotF p x) hyt]
        rfl
      rw [hnext] at hset
      have Hset := Lib.hid hset
      clear hset hnext hg hyt hi hy hyn him hyb hz hzx
      have TT := T.out.setCell (p := ⟨gw, i * 66 + (1 + p), none⟩) (fun _ => rfl) (.int .u8 (zx : Nat))
      have HTT := Lib.hid TT
      clear TT
      go_wp2
      go_still_tail 11, (by kernel_rfl)
      go_wp2
      go_roundg g
      case measure => omega
      case rel =>
        refine ⟨k + 1, by omega, by go_num, ?_, ?_⟩
        · show Touch _ _ _
          rw [Nat.add_assoc]
          exact HTT.out.drew
        · rw [Nat.add_assoc]
          exact Hset.out
end Go.Proofs.YtnffigfafalocaaGreatDoor
