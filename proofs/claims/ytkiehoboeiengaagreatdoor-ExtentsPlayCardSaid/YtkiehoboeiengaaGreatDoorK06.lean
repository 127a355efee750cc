/-
  The plain mathematics of a disk of sectors, second part: a stretch of a piece.
  The plain mathematics of a disk of sectors, third part: the writes to a sector, turned one by one.
  Package disks by its own text: to.
  Whole arrays and structs loaded out of, and stored into, a stretch of cells. No program in sight.
-/
import Derived.Test.YtkiehoboeiengaaGreatDoorK03
import Derived.Laws.Bits64b
import Derived.Laws.BitsAllLaws
import Derived.Test.YtkiehoboeiengaaGreatDoorK05
import Derived.Outline
import Derived.Test.YtkiehoboeiengaaGreatDoorK02
import Derived.Deep.MidRow
namespace Go.Proofs.YtkiehoboeiengaaGreatDoor
open Go Go.RowKit

theorem splice_get (l : List Value) (o : Nat) (vs : List Value) (h : o + vs.length ≤ l.length) (i : Nat) : (splice l o vs)[i]? = if i < o then l[i]? else if i < o + vs.length then vs[i - o]? else l[i]? := by
  have ht : (l.take o).length = o := by rw [List.length_take]; omega
  simp only [splice, List.append_assoc]
  by_cases h1 : i < o
  · rw [if_pos h1, List.getElem?_append_left (by rw [ht]; exact h1), List.getElem?_take_of_lt h1]
  · rw [if_neg h1, List.getElem?_append_right (by rw [ht]; omega), ht]
    by_cases h2 : i < o + vs.length
    · rw [if_pos h2, List.getElem?_append_left (by omega)]
    · rw [if_neg h2, List.getElem?_append_right (by omega), List.getElem?_drop]
      congr 1; omega
/-- a stretch of a piece of a row of equal pieces -/
theorem flat_part {α : Type} {f : α → List Value} {k : Nat} (hf : ∀ x, (f x).length = k) (l : List α) (n j : Nat) (x y : α) (cs r : List Value) (hx : l[n]? = some x) (hj : j + cs.length ≤ k) (hy : f y = splice (f x) j cs) : splice (l.flatMap f ++ r) (n * k + j) cs = (l.set n y).flatMap f ++ r := by
  have hn : n < l.length := by
    rcases Nat.lt_or_ge n l.length with h | h
    · exact h
    · rw [List.getElem?_eq_none h] at hx; cases hx
  have hlen : (l.flatMap f).length = l.length * k := flat_length hf l
  have hnk : n * k + k ≤ l.length * k := by have := Nat.mul_le_mul_right k hn; rw [Nat.succ_mul] at this; exact this
  have hlx := hf x
  have hly := hf y
  rw [← flat_set hf l n y r hn]
  refine List.ext_getElem? (fun i => ?_)
  rw [splice_get _ _ _ (by rw [List.length_append]; omega), splice_get _ _ _ (by rw [List.length_append]; omega), hly]
  by_cases h1 : i < n * k
  · rw [if_pos (by omega), if_pos h1]
  · by_cases h2 : i < n * k + k
    · rw [if_neg h1, if_pos h2, hy, splice_get _ _ _ (by omega)]
      have hg : (f x)[i - n * k]? = (l.flatMap f ++ r)[i]? := by
        rw [List.getElem?_append_left (by omega), ← flat_get hf l n (i - n * k) x hx (by omega)]
        congr 1; omega
      rw [hg]
      by_cases h3 : i < n * k + j
      · rw [if_pos h3, if_pos (by omega)]
      · by_cases h4 : i < n * k + j + cs.length
        · rw [if_neg h3, if_pos h4, if_neg (by omega), if_pos (by omega)]
          congr 1; omega
        · rw [if_neg h3, if_neg h4, if_neg (by omega), if_neg (by omega)]
    · rw [if_neg (by omega), if_neg (by omega), if_neg h1, if_neg h2]
/-- what a torn write leaves of a sector -/
theorem torn_cells (y : Dk.Wr) (s : Dk.Sec) (hy : y.b.length = 64) (hs : s.b.length = 64) : secCells (Dk.tornS y s) = splice (secCells s) 0 (nums .u8 (y.b.take 32)) := by
  have e : (Dk.tornS y s).b.length = 64 := by simp [Dk.tornS, hy, hs]
  rw [secCells, secCells, bytes_cells e, bytes_cells hs, splice, List.take_zero, List.nil_append, nums_length, List.length_take, hy]
  simp only [Dk.tornS, nums_append, Nat.zero_add]
  rw [List.drop_append_of_le_length (by rw [nums_length, hs]; decide), List.append_assoc]
  congr 1
  simp [nums]
/-- what a kept write leaves of a sector -/
theorem kept_cells (y : Dk.Wr) (s : Dk.Sec) (hy : y.b.length = 64) (hs : s.b.length = 64) : secCells ⟨y.b, s.bad⟩ = splice (secCells s) 0 (nums .u8 y.b) := by
  rw [secCells, secCells, bytes_cells hy, bytes_cells hs, splice, List.take_zero, List.nil_append, nums_length, hy, Nat.zero_add]
  rw [List.drop_append_of_le_length (by rw [nums_length, hs]; decide), List.drop_of_length_le (by rw [nums_length, hs]; decide), List.nil_append]
/-! ### bits -/
theorem shift_one (x j : Nat) : x / 2 ^ j % 2 = if x.testBit j then 1 else 0 := by
  rw [Nat.testBit_eq_decide_div_mod_eq]
  have := Nat.mod_two_eq_zero_or_one (x / 2 ^ j)
  rcases this with h | h <;> simp [h]
theorem bit_test (x j : Nat) (hx : x < 18446744073709551616) : (bits BinOp.and .u64 ((x : Int) / 2 ^ j) 1 == 1) = x.testBit j := by
  have e : ((x : Int) / 2 ^ j) = ((x / 2 ^ j : Nat) : Int) := by norm_cast
  have hl : x / 2 ^ j < 18446744073709551616 := Nat.lt_of_le_of_lt (Nat.div_le_self _ _) hx
  have h := bits_and_u64_nat (x / 2 ^ j) 1 hl (by decide)
  rw [e]
  rw [show ((1 : Nat) : Int) = 1 from rfl] at h
  rw [h, nat_mask1, shift_one]
  cases x.testBit j <;> rfl
theorem and_small {a b : Nat} (ha : a ≤ 1) (hb : b ≤ 1) : bits BinOp.and .i64 (a : Int) (b : Int) = ((a &&& b : Nat) : Int) := by
  rcases Nat.le_one_iff_eq_zero_or_eq_one.1 ha with rfl | rfl <;> rcases Nat.le_one_iff_eq_zero_or_eq_one.1 hb with rfl | rfl <;> decide
end Go.Proofs.YtkiehoboeiengaaGreatDoor
namespace Go.Proofs.YtkiehoboeiengaaGreatDoor
open Go Go.RowKit
namespace Dk
/-- the write at i is to the sector n -/
def isTo (n : Nat) (l : List Wr) (i : Nat) : Bool := match l[i]? with | some y => y.n == n | none => false
/-- of the first k writes those to the sector n -/
def hits (n : Nat) (l : List Wr) (k : Nat) : List Nat := (List.range k).filter (isTo n l)
theorem hits_yes {n : Nat} {l : List Wr} {k : Nat} {y : Wr} (h : l[k]? = some y) (hn : y.n = n) : hits n l (k + 1) = hits n l k ++ [k] := by
  simp [hits, List.range_succ, List.filter_append, isTo, h, hn]
theorem hits_no {n : Nat} {l : List Wr} {k : Nat} {y : Wr} (h : l[k]? = some y) (hn : y.n ≠ n) : hits n l (k + 1) = hits n l k := by
  simp [hits, List.range_succ, List.filter_append, isTo, h, hn]
theorem hits_length (n : Nat) (l : List Wr) (k : Nat) : (hits n l k).length ≤ k := by
  have := List.length_filter_le (isTo n l) (List.range k)
  simpa [hits] using this
theorem hits_get {n : Nat} {l : List Wr} {k j i : Nat} (h : (hits n l k)[j]? = some i) : i < k ∧ ∃ y, l[i]? = some y ∧ y.n = n := by
  have hm := List.mem_of_getElem? h
  rw [hits, List.mem_filter] at hm
  refine ⟨by simpa using hm.1, ?_⟩
  have h2 := hm.2
  unfold isTo at h2
  cases hy : l[i]? with
  | none => simp [hy] at h2
  | some y => exact ⟨y, rfl, by simpa [hy] using h2⟩
theorem hits_nodup (n : Nat) (l : List Wr) (k : Nat) : (hits n l k).Nodup := List.Nodup.sublist List.filter_sublist List.nodup_range

/-- each of these places turned -/
def turn (f : Wr → Wr) (l : List Wr) (is : List Nat) : List Wr := is.foldl (fun l i => l.modify i f) l
theorem turn_snoc (f : Wr → Wr) (l : List Wr) (is : List Nat) (i : Nat) : turn f l (is ++ [i]) = (turn f l is).modify i f := by simp [turn]
theorem turn_length (f : Wr → Wr) : ∀ (is : List Nat) (l : List Wr), (turn f l is).length = l.length
  | [], l => rfl
  | i :: r, l => by
    show (turn f (l.modify i f) r).length = _
    rw [turn_length f r, List.length_modify]
theorem turn_get (f : Wr → Wr) : ∀ (is : List Nat) (l : List Wr) (j : Nat), is.Nodup → (turn f l is)[j]? = if j ∈ is then l[j]?.map f else l[j]?
  | [], l, j, _ => by simp [turn]
  | i :: r, l, j, h => by
    have hi : i ∉ r := (List.nodup_cons.1 h).1
    show (turn f (l.modify i f) r)[j]? = _
    rw [turn_get f r _ j (List.nodup_cons.1 h).2, List.getElem?_modify]
    by_cases hj : j ∈ r
    · have : i ≠ j := fun e => hi (e ▸ hj)
      simp [hj, this]
    · by_cases e : i = j
      · subst e; simp [hj]
      · have e' : ¬ j = i := fun h => e h.symm
        simp [hj, e, e']
theorem turn_all (f : Wr → Wr) (n : Nat) (l : List Wr) : turn f l (hits n l l.length) = l.map (fun y => if y.n = n then f y else y) := by
  refine List.ext_getElem? (fun j => ?_)
  rw [turn_get f _ l j (hits_nodup n l _), List.getElem?_map]
  cases hy : l[j]? with
  | none => simp
  | some y =>
    have hj : j < l.length := by
      rcases Nat.lt_or_ge j l.length with h | h
      · exact h
      · rw [List.getElem?_eq_none h] at hy; cases hy
    by_cases hn : y.n = n
    · have : j ∈ hits n l l.length := List.mem_filter.2 ⟨List.mem_range.2 hj, by unfold isTo; rw [hy]; simpa using hn⟩
      simp [this, hn]
    · have : j ∉ hits n l l.length := fun hm => by
        have h2 := (List.mem_filter.1 hm).2
        unfold isTo at h2; rw [hy] at h2; exact hn (by simpa using h2)
      simp [this, hn]
theorem turn_at (f : Wr → Wr) (l : List Wr) (is : List Nat) (k i : Nat) (h : is.Nodup) (hk : is[k]? = some i) : (turn f l (is.take k))[i]? = l[i]? := by
  rw [turn_get f _ l i (List.Nodup.sublist (List.take_sublist _ _) h), if_neg]
  intro hm
  obtain ⟨j, hj, e⟩ := List.mem_iff_getElem.1 hm
  have hj' := hj
  rw [List.length_take] at hj'
  rw [List.getElem_take] at e
  have hk' : k < is.length := by
    rcases Nat.lt_or_ge k is.length with h | h
    · exact h
    · rw [List.getElem?_eq_none h] at hk; cases hk
  have e2 : is[k] = i := by rw [List.getElem?_eq_getElem hk'] at hk; exact Option.some.inj hk
  have := (List.getElem_inj h).1 (e.trans e2.symm)
  omega
end Dk
end Go.Proofs.YtkiehoboeiengaaGreatDoor
namespace Go.Proofs.YtkiehoboeiengaaGreatDoor
open Go Go.RowKit

theorem ptr_is : ∃ i z, TypeIs 150 i z 1 8 [.pointer none] := type_is (by kernel_rfl)
/-- pointers to these pieces of a row -/
def ptrs (g k : Nat) (is : List Nat) : List Value := is.map (fun i => .pointer (some ⟨g, i * k, none⟩))
theorem ptrs_snoc (g k : Nat) (is : List Nat) (i : Nat) : ptrs g k (is ++ [i]) = ptrs g k is ++ [.pointer (some ⟨g, i * k, none⟩)] := by simp [ptrs]

set_option maxHeartbeats 2000000 in
theorem to_in (w : World) (d n : Nat) (ws : List Dk.Wr) (m : Nat) (aw : Option Addr) (cw gw : Nat) (hm : ws.length = m) (hc2 : w.cell? ⟨d, 2, none⟩ = some (.slice aw m cw)) (hcw : m ≤ cw) (hmm : m ≤ 1000000)
    (hws : ∀ i y, ws[i]? = some y → aw = some ⟨gw, 0, none⟩ ∧ w.cell? ⟨gw, i * 66, none⟩ = some (.int .i64 (y.n : Nat))) :
    Calls Tryz.prog 122 #[.pointer (some ⟨d, 0, none⟩), .int .i64 (n : Nat)] w fun e w' => ∃ v, e = .returned v ∧ Own w' w.heap.size 150 v (ptrs gw 66 (Dk.hits n ws m)) ∧ Touch No w w' := by
  have Hm := Lib.hid hm
  have Hws := Lib.hid hws
  clear hm hws
  obtain ⟨I, z, hI⟩ := ptr_is
  have HI := Lib.hid hI
  clear hI
  go_enter Tryz.func122, Tryz.ntmps122
  go_wp2
  go_loopg [4, 11] m (fun g s4 s11 wr => ∃ (k : Nat) (v : Value), k + g = m ∧ s4 = v ∧ s11 = .int .i64 ((k : Nat) : Int) ∧ Hid (Own wr w.heap.size 150 v (ptrs gw 66 (Dk.hits n ws k))) ∧ Hid (Touch No w wr))
  case atStart => exact ⟨0, _, by omega, rfl, rfl, Own.nil _ _ _, Touch.refl _ _⟩
  case round =>
    obtain ⟨k, v, hkg, rfl, rfl, O, T⟩ := hrel
    cases gk with
    | zero =>
      obtain rfl : k = m := by omega
      go_wp2
      go_ret
      exact ⟨_, rfl, O.out, T.out⟩
    | succ g =>
      have hlt : (k : Int) < (m : Nat) := by omega
      obtain ⟨y, hy⟩ : ∃ y, ws[k]? = some y := ⟨_, List.getElem?_eq_getElem (by rw [Hm.out]; omega)⟩
      obtain ⟨rfl, hcy⟩ := Hws.out k y hy
      have Hy := Lib.hid hy
      clear hy
      have hc2r := T.out.cell (id : No d → False) hc2
      have hcyr := T.out.cell (id : No gw → False) hcy
      have Hc2 := Lib.hid hc2
      clear hc2 hcy
      by_cases hn : y.n = n
      · have hnb : ((y.n : Int) == (n : Nat)) = true := by simp [hn]
        have Hn := Lib.hid hn
        clear hn
        have hl : (ptrs gw 66 (Dk.hits n ws k)).length ≤ k := by rw [ptrs, List.length_map]; exact Dk.hits_length _ _ _
        have Hl := Lib.hid hl
        clear hl
        go_wp2_with (at_builtin; refine wpList_append1 rfl _ _ _ rfl w.heap.size 150 I z 8 Tryz.underlying148 HI.out.info HI.out.zero HI.out.size HI.out.bytes (by rw [HI.out.cells]; rfl) _ _ (.pointer (some ⟨gw, k * 66, none⟩)) O.out rfl rfl rfl (by have := Hl.out; unfold maxLen; omega) (by have := Hl.out; omega) T.out.size ?_; intro v' w3 hown3 ht3)
        have O3 := Lib.hid hown3
        have T3 := Lib.hid ht3
        clear hown3 ht3
        go_wp2
        go_roundg g
        case measure => omega
        case rel =>
          refine ⟨k + 1, _, by omega, rfl, by go_num, ?_, ?_⟩
          · show Own _ _ _ _ _
            rw [Dk.hits_yes Hy.out Hn.out, ptrs_snoc]
            exact O3.out
          · exact T.out.then T3.out (fun i hi e => by
              have := (O.out.block e).1
              omega)
      · have hnb : ((y.n : Int) == (n : Nat)) = false := by simp; omega
        have Hn := Lib.hid hn
        clear hn
        go_wp2
        go_roundg g
        case measure => omega
        case rel =>
          refine ⟨k + 1, _, by omega, rfl, by go_num, ?_, T.out⟩
          show Own _ _ _ _ _
          rw [Dk.hits_no Hy.out Hn.out]
          exact O.out
end Go.Proofs.YtkiehoboeiengaaGreatDoor
namespace Go.Proofs.YtkiehoboeiengaaGreatDoor
open Go Go.RowKit

section
variable {P : Program}
/-- a whole array or struct that stands at g from off on -/
theorem run_load_range {w : World} {g o n : Nat} {ty : TypeId} {vs : List Value} (hr : w.rangeAt g o vs) (hn : vs.length = n) {d : TypeDesc} (hu : P.underlying ty = some d) (hd : (match d with | .struct _ | .array _ _ => true | _ => false) = true)
    (hi : (P.info? ty).map (·.size) = some n) : (loadVar ty ⟨g, o, none⟩).run P w = .ok (.agg vs.toArray) w := by
  have hl : (loadCells ⟨g, o, none⟩ vs.length).run P w = .ok vs.toArray w :=
    run_loadCells_list (P := P) w ⟨g, o, none⟩ _ (fun j v hv => by rw [add_off]; exact hr j v hv)
  rw [hn] at hl
  cases hq : P.info? ty with
  | none => simp [hq] at hi
  | some i =>
    have hs : i.size = n := by simpa [hq] using hi
    have hagg : (isAgg ty).run P w = .ok true w := by
      unfold isAgg
      rw [Sem.run_bind, run_underlying hu w]
      cases d <;> simp_all
    simp [loadVar, Sem.run_bind, hagg, sizeOf, typeInfo, hq, hs, hl]
theorem wpList_load_range {ops : Array Oper} {rest : List Oper} {o : Oper} {a : Act} {w : World} {Q : Exit → Act → World → Prop} (hgd : o.guard = none) (ty : TypeId) (x : Operand) (hop : o.op = .load ty x) (n g off : Nat) (vs : List Value) (hr : w.rangeAt g off vs) (hn : vs.length = n)
    (hx : a.eval x = .pointer (some ⟨g, off, none⟩)) (d : TypeDesc) (hu : P.underlying ty = some d) (hd : (match d with | .struct _ | .array _ _ => true | _ => false) = true)
    (hi : (P.info? ty).map (·.size) = some n) (h : wpList P ops Q rest (a.put o.dst (.agg vs.toArray)) w) : wpList P ops Q (o :: rest) a w :=
  wpList_plain hgd fun _ hK => by
    unfold Oper.wp execOp
    simp only [hop, hx, Instr.loadAt, Instr.sureAddr, Sem.run_bind, Sem.run_pure, Result.andThen_ok, run_load_range hr hn hu hd hi]
    exact hK _ _ h
end
theorem Row.range {w : World} {g : Nat} {T : TypeId} {l : List Value} (h : Row w g T l) {o : Nat} {vs : List Value} (hv : ∀ j v, vs[j]? = some v → l[o + j]? = some v) : w.rangeAt g o vs := fun j v hj => by
  rw [h.cell]; exact hv j v hj
end Go.Proofs.YtkiehoboeiengaaGreatDoor
