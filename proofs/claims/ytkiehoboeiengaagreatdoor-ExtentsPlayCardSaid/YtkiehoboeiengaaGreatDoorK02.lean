/-
  What comes in, opened: slices of numbers and structs as they are read. No program in sight.
  Bytes and numbers as they come in. No program in sight.
  The end of every law of this seat: a call that answers true and turns nothing that was there meets the row. No condition. What the plain rows of this seat share. What comes in, opened: bytes, numbers, two bytes in an array. What comes in, opened: two numbers in an array, a page. What the rows of this seat share: the tables of packages math/bits, strconv and unicode/utf8 laid in their variables, a world for the witness.
  Rows of many cells: whole arrays and structs loaded out of, and stored into, the middle of a block. No program in sight.
-/
import Derived.Test.YtkiehoboeiengaaGreatDoorK01
import Derived.ProofKit
import Derived.OpenShut
import Derived.Test.YtkiehoboeiengaaGreatDoorRows
import Derived.WalkKit
import Derived.Deep.DeepHandedRow
import Derived.Lib.LaidTab
import Derived.Test.YtkiehoboeiengaaGreatDoorProg
import Derived.Laws.IdiomArrays
import Derived.Lib.SmallJoins
import Derived.Test.YtkiehoboeiengaaGreatDoorCards
import Derived.Test.YtkiehoboeiengaaGreatDoorTie
import Derived.Lib.TrailingZeros
import Derived.Laws.Rows
import Derived.Laws.Tables
import Derived.Laws.CopyRow
namespace Go.Proofs.YtkiehoboeiengaaGreatDoor
open Go.ChangeShapes Go.WideShapes Go.ChangeAt Go.RowKit

/-- numbers, any sign, as cells -/
def ints (k : IntKind) (zs : List Int) : List Value := zs.map fun z => .int k z
theorem ints_length (k : IntKind) (zs : List Int) : (ints k zs).length = zs.length := by simp [ints]
theorem ints_nums {k : IntKind} {zs : List Int} (h : ∀ z ∈ zs, 0 ≤ z) : ints k zs = nums k (zs.map Int.toNat) := by
  simp only [ints, nums, List.map_map]
  refine List.map_congr_left (fun z hz => ?_)
  have := h z hz
  simp only [Function.comp]
  congr 1
  omega

theorem list_choose {α : Type} {Q : Nat → α → Prop} : ∀ (n : Nat), (∀ i, i < n → ∃ x, Q i x) → ∃ l : List α, l.length = n ∧ ∀ i x, l[i]? = some x → Q i x
  | 0, _ => ⟨[], rfl, fun i x h => by simp at h⟩
  | n + 1, h => by
    obtain ⟨l, hl, hq⟩ := list_choose n (fun i hi => h i (by omega))
    obtain ⟨x, hx⟩ := h n (by omega)
    refine ⟨l ++ [x], by simp [hl], fun i y hy => ?_⟩
    by_cases hi : i < l.length
    · rw [List.getElem?_append_left hi] at hy; exact hq i y hy
    · rw [List.getElem?_append_right (by omega)] at hy
      have : i - l.length = 0 := by
        by_cases h0 : i - l.length = 0
        · exact h0
        · rw [List.getElem?_eq_none (by simp; omega)] at hy; cases hy
      rw [this] at hy
      have e : i = n := by omega
      subst e
      have : x = y := by simpa using hy
      subst this; exact hx

section
variable {H : Type} {enc : TypeId × Value → H} {P : Program} {w : World} {base : Nat} {spare : Nat → Bool} {held : Bool}

theorem spot_of_cell {a : Addr} {v : Value} (h : w.cell? a = some v) : a = ⟨a.block, a.off, none⟩ := by
  unfold World.cell? at h
  split at h
  · cases hs : a.spot with
    | none => cases a; simp_all
    | some s => simp [hs] at h
  · cases h
theorem spot_add {a : Addr} {i : Nat} {v : Value} (h : w.cell? (a.add i) = some v) (h0 : ∃ u, w.cell? a = some u) : a = ⟨a.block, a.off, none⟩ ∧ w.cell? ⟨a.block, a.off + i, none⟩ = some v := by
  obtain ⟨u, hu⟩ := h0
  have e := spot_of_cell hu
  refine ⟨e, ?_⟩
  rw [e] at h
  simp only [Addr.add] at h
  split at h
  · rename_i hi; subst hi; exact h
  · exact h

/-- a slice of numbers that came in -/
theorem open_list {t e : TypeId} {k : IntKind} {fuel : Nat} {cs : List Value} {x : DataW H × List MemPlace} (ht : P.underlying t = some (.slice e)) (he : P.underlying e = some (.int k)) (hc : P.cellsOf e = 1)
    (h : DataW.trod enc P w base (fun _ => true) held fuel t cs = some x) :
    ∃ a cap zs, cs = [.slice a zs.length cap] ∧ zs.length ≤ cap ∧ cap ≤ maxLen ∧ Rd w a (ints k zs) ∧ (∀ z ∈ zs, (Lit.int k z).wf = true) ∧ (cap = 0 ∨ cap * P.bytesOf e ∈ DataW.weights P t x.1) ∧ (∀ ad, a = some ad → base ≤ ad.block) := by
  rcases open_ints ht he hc h with ⟨rfl, rfl⟩ | ⟨a, len, cap, zs, rfl, hb, hl, hm, hz, rfl, hcell, hwf⟩
  · exact ⟨none, 0, [], rfl, Nat.le_refl _, Nat.zero_le _, fun i v hi => by simp [ints] at hi, by simp, Or.inl rfl, fun ad e => by cases e⟩
  · simp only [if_true] at hz
    have hlen : (zs.take len).length = len := by rw [List.length_take]; omega
    refine ⟨some a, cap, zs.take len, by rw [hlen], by rw [hlen]; exact hl, hm, fun i v hi => ?_, fun z hz' => hwf z (List.mem_of_mem_take hz'), Or.inr ?_, fun ad e => by cases e; exact hb⟩
    · have hi' : i < len := by
        rcases Nat.lt_or_ge i len with h | h
        · exact h
        · rw [List.getElem?_eq_none (by rw [ints_length, hlen]; exact h)] at hi; cases hi
      have h0 := hcell 0 (by omega)
      have h1 := hcell i (by omega)
      obtain ⟨e1, e2⟩ := spot_add h1 ⟨_, by simpa [Addr.add] using h0⟩
      refine ⟨a.block, a.off, by rw [← e1], ?_⟩
      rw [e2, ← hi]
      simp only [ints, List.getElem?_map, List.getElem?_take_of_lt hi', List.getD_eq_getElem?_getD, List.getElem?_eq_getElem (show i < zs.length by omega)]
      rfl
    · simp only [DataW.weights, ht, List.mem_cons]
      left
      have : (lits (H := H) k (zs.take len)).length + (lits (H := H) k (zs.drop len)).length = cap := by
        simp [lits]; omega
      rw [this]

/-- the cells of an element -/
theorem cells_elem {a : Addr} {n : Nat} {cs : List Value} (h : w.cells? base a n = some cs) (hn : 0 < n) : cs.length = n ∧ a = ⟨a.block, a.off, none⟩ ∧ ∀ j, j < n → w.cell? ⟨a.block, a.off + j, none⟩ = cs[j]? := by
  obtain ⟨_, hl, hc⟩ := World.cells?_some h
  have h0 := hc 0 hn
  rw [List.getElem?_eq_getElem (by omega)] at h0
  have hsp := spot_of_cell (by simpa [Addr.add] using h0)
  refine ⟨hl, hsp, fun j hj => ?_⟩
  have h1 := hc j hj
  rw [← h1, hsp]
  simp only [Addr.add]
  split
  · rename_i hj0; subst hj0; rfl
  · rfl
end
end Go.Proofs.YtkiehoboeiengaaGreatDoor
namespace Go.Proofs.YtkiehoboeiengaaGreatDoor
open Go Go.RowKit
/-- bytes as they come in -/
structure Bytes (w : World) (a : Option Addr) (n c : Nat) (b : List Nat) : Prop where
  len : b.length = n
  cap : n ≤ c
  max : (c : Int) ≤ 140737488351232
  rd : Rd w a (nums .u8 b)
  lt : ∀ x ∈ b, x < 256
structure Ints (w : World) (a : Option Addr) (n c : Nat) (zs : List Int) : Prop where
  len : zs.length = n
  cap : n ≤ c
  max : (c : Int) ≤ 140737488355328
  rd : Rd w a (ints .i32 zs)
  lt : ∀ x ∈ zs, -2147483648 ≤ x ∧ x ≤ 2147483647

theorem Bytes.nlow {w : World} {a : Option Addr} {n c : Nat} {b : List Nat} (h : Bytes w a n c b) : (n : Int) ≤ 140737488351232 := by have := h.cap; have := h.max; omega
theorem Bytes.nmax {w : World} {a : Option Addr} {n c : Nat} {b : List Nat} (h : Bytes w a n c b) : (n : Int) ≤ 140737488355328 := by have := h.cap; have := h.max; omega
theorem Ints.nmax {w : World} {a : Option Addr} {n c : Nat} {b : List Int} (h : Ints w a n c b) : (n : Int) ≤ 140737488355328 := by have := h.cap; have := h.max; omega
end Go.Proofs.YtkiehoboeiengaaGreatDoor
namespace Go.Proofs.YtkiehoboeiengaaGreatDoor
open Go.ChangeShapes Go.WideShapes Go.ChangeAt Go.RowKit

section
variable {H : Type} {enc : TypeId × Value → H} {P : Program}

theorem trodAll_below (hl : laidOutB P = true) {W W' : World} (hb : Below W.heap.size W W') : ∀ (ts : List TypeId) (vs : List Value) (ds : List (DataW H)) (ps : List MemPlace),
    (∀ t ∈ ts, P.readableRec t = true ∧ t < P.types.size) → DataW.TrodAll enc P W 0 (fun _ => true) true ts vs ds ps → (∀ x ∈ ps, x.block < W.heap.size) →
    DataW.TrodAll enc P W' 0 (fun b => decide (b < W.heap.size)) true ts vs ds ps
  | [], vs, ds, ps, _, h, _ => by
    obtain ⟨rfl, rfl, rfl⟩ := trodAll_nil h
    exact trodAll_mk0
  | t :: ts, vs, ds, ps, ht, h, hlt => by
    obtain ⟨v0, vs0, d0, ds0, p0, q0, rfl, rfl, rfl, h0, r0⟩ := trodAll_cons h
    exact trodAll_cons_mk (Below.trod hl (ht t (by simp)).1 (ht t (by simp)).2 h0 hb fun x hx => hlt x (by simp [hx]))
      (trodAll_below hl hb ts vs0 ds0 q0 (fun t h => ht t (by simp [h])) r0 fun x hx => hlt x (by simp [hx]))

/-- THE END OF A LAW: it says true, and of what was there nothing has turned. -/
theorem law_post {f : Func} {s : ChangeSpec} {tb : TypeId} (hl : laidOutB P = true) (hr : f.params.toList.all (fun t => P.readableRec t && decide (t < P.types.size)) = true) (hv : s.vars = [])
    (hres : f.resultTypes = #[tb]) (htb : P.underlying tb = some .bool) {W W' : World} {args : Array Value} {ds gs : List (DataW H)} {before : List MemPlace}
    (hW : DataW.Whole enc P f.params.toList s.vars false W args.toList ds gs before) (hfn : s.fn H ds = { results := [.lit (.bool true)], args := ds }) (hb : Below W.heap.size W W') :
    s.post enc P f false true false false W args (.bool true) W' := by
  have hlt := hW.lt
  have hW0 := hW
  obtain ⟨p, q, hA, hV, rfl, _, _⟩ := hW0
  rw [hv] at hV
  obtain ⟨rfl, rfl⟩ := trodVars_none hV
  have hA' : DataW.TrodAll enc P W' 0 (fun b => decide (b < W.heap.size)) true f.params.toList args.toList ds p :=
    trodAll_below hl hb _ _ _ _ (fun t ht => by simpa using List.all_eq_true.1 hr t ht) hA (fun x hx => by simpa using hlt x (by simpa using hx))
  refine ⟨ds, [], p ++ [], [], p, [], hW, ?_, ?_, ?_, hb.frame _, fun h => by cases h⟩
  · rw [List.append_nil, hfn, hres]
    exact trodAll_cons_mk (shut_bool htb _) trodAll_mk0
  · rw [List.append_nil, hfn]; exact hA'
  · rw [List.append_nil, hfn, hv]
    exact rfl
end
end Go.Proofs.YtkiehoboeiengaaGreatDoor
namespace Go.Proofs.YtkiehoboeiengaaGreatDoor
open Go.ChangeShapes Go.WideShapes Go.ChangeAt Go.RowKit
theorem own : ownKnob Tryz.prog.godebug = none := by kernel_rfl
theorem laidOut : laidOutB Tryz.prog = true := by kernel_rfl
theorem wf_u8 {n : Int} (h : (Lit.int .u8 n).wf = true) : ∃ m : Nat, n = (m : Nat) ∧ m < 256 := by
  have := bounds_u8 h
  exact ⟨n.toNat, by omega, by omega⟩
theorem wf_u64 {n : Int} (h : (Lit.int .u64 n).wf = true) : ∃ m : Nat, n = (m : Nat) ∧ m < 18446744073709551616 := by
  have := bounds_u64 h
  exact ⟨n.toNat, by omega, by omega⟩
end Go.Proofs.YtkiehoboeiengaaGreatDoor
namespace Go.Proofs.YtkiehoboeiengaaGreatDoor
open Go.ChangeShapes Go.WideShapes Go.ChangeAt Go.RowKit

section
variable {H : Type} {enc : TypeId × Value → H} {w : World}
theorem cells_u8 : Tryz.prog.cellsOf 5 = 1 := by kernel_rfl
theorem cells_i32 : Tryz.prog.cellsOf 21 = 1 := by kernel_rfl
theorem cells_bytes : Tryz.prog.cellsOf 49 = 1 := by kernel_rfl
theorem bytes_u8 : Tryz.prog.bytesOf 5 = 1 := by kernel_rfl
theorem bytes_i32 : Tryz.prog.bytesOf 21 = 4 := by kernel_rfl
theorem wf_u32 {n : Int} (h : (Lit.int .u32 n).wf = true) : ∃ m : Nat, n = (m : Nat) ∧ m < 4294967296 := by
  have := bounds_u32 h
  exact ⟨n.toNat, by omega, by omega⟩

theorem open_bytes {fuel : Nat} {cs : List Value} {x : DataW H × List MemPlace} (h : DataW.trod enc Tryz.prog w 0 (fun _ => true) true fuel 49 cs = some x) (hz : ∀ n ∈ DataW.weights Tryz.prog 49 x.1, n ≤ reachBytes) :
    ∃ a n cap b, cs = [.slice a n cap] ∧ Bytes w a n cap b := by
  obtain ⟨a, cap, zs, rfl, hl, hm, hr, hwf, hwt, _⟩ := open_list Tryz.underlying49 Tryz.underlying5 cells_u8 h
  have hpos : ∀ z ∈ zs, 0 ≤ z := fun z hz' => (bounds_u8 (hwf z hz')).1
  refine ⟨a, zs.length, cap, zs.map Int.toNat, rfl, by rw [List.length_map], hl, ?_, by rw [← ints_nums hpos]; exact hr, fun x hx => by obtain ⟨z, hz', rfl⟩ := List.mem_map.1 hx; have := bounds_u8 (hwf z hz'); omega⟩
  rcases hwt with h0 | h0
  · omega
  · have := hz _ h0
    rw [bytes_u8] at this
    unfold reachBytes at this
    omega
theorem open_numbers {fuel : Nat} {cs : List Value} {x : DataW H × List MemPlace} (h : DataW.trod enc Tryz.prog w 0 (fun _ => true) true fuel 90 cs = some x) (hz : ∀ n ∈ DataW.weights Tryz.prog 90 x.1, n ≤ reachBytes) :
    ∃ a n cap b, cs = [.slice a n cap] ∧ Ints w a n cap b := by
  obtain ⟨a, cap, zs, rfl, hl, hm, hr, hwf, hwt, _⟩ := open_list Tryz.underlying90 Tryz.underlying21 cells_i32 h
  refine ⟨a, zs.length, cap, zs, rfl, rfl, hl, ?_, hr, fun x hx => bounds_i32 (hwf x hx)⟩
  rcases hwt with h0 | h0
  · omega
  · have := hz _ h0
    rw [bytes_i32] at this
    unfold reachBytes at this
    omega
theorem list2 {α : Type} (l : List α) (h : l.length = 2) : ∃ a b, l = [a, b] := by
  match l, h with
  | [a, b], _ => exact ⟨a, b, rfl⟩
end
end Go.Proofs.YtkiehoboeiengaaGreatDoor
namespace Go.Proofs.YtkiehoboeiengaaGreatDoor
open Go.ChangeShapes Go.WideShapes Go.ChangeAt Go.RowKit

section
variable {H : Type} {enc : TypeId × Value → H} {w : World}
theorem cells_u32 : Tryz.prog.cellsOf 48 = 1 := by kernel_rfl
end
end Go.Proofs.YtkiehoboeiengaaGreatDoor
namespace Go.Proofs.YtkiehoboeiengaaGreatDoor
open Go.ChangeShapes Go.WideShapes Go.ChangeAt Go.RowKit

def tab64 : Array Value := (Lib.deBruijn64tab.map fun (n : Nat) => Value.int .u8 n).toArray
def tab32 : Array Value := (Lib.deBruijn32tab.map fun (n : Nat) => Value.int .u8 n).toArray
def tabPow : Array Value := ([1, 10, 100, 1000, 10000, 100000, 1000000, 10000000, 100000000, 1000000000, 10000000000, 100000000000, 1000000000000, 10000000000000, 100000000000000, 1000000000000000, 10000000000000000, 100000000000000000, 1000000000000000000, 10000000000000000000].map fun (n : Nat) => Value.int .u64 n).toArray
def tabFirst : Array Value := (Go.Pinned.utf8FirstZ.map fun (n : Nat) => Value.int .u8 n).toArray
def tabRanges : Array Value := ([128, 191, 160, 191, 128, 159, 144, 191, 128, 143].map (fun (n : Nat) => Value.int .u8 n) ++ List.replicate 22 (Value.int .u8 0)).toArray
def layTab (c : Array Value) : Obj → Obj
  | .cells _ t frozen => .cells c t frozen
  | o => o
noncomputable def laidWorld (os : Os) : World :=
  { World.holding Tryz.prog os ⟨#[], #[], []⟩ with heap := (((((World.holding Tryz.prog os ⟨#[], #[], []⟩).heap.modify 0 (layTab tabFirst)).modify 1 (layTab tabRanges)).modify 4 (layTab tab64)).modify 3 (layTab tab32)).modify 2 (layTab tabPow) }
end Go.Proofs.YtkiehoboeiengaaGreatDoor
namespace Go.Proofs.YtkiehoboeiengaaGreatDoor
open Go Go.RowKit

/-- block g is a row of these cells -/
def Row (w : World) (g : Nat) (T : TypeId) (l : List Value) : Prop := w.heap[g]? = some (.cells l.toArray T (0, 0))
def splice (l : List Value) (o : Nat) (vs : List Value) : List Value := l.take o ++ vs ++ l.drop (o + vs.length)
theorem splice_length {l : List Value} {o : Nat} {vs : List Value} (h : o + vs.length ≤ l.length) : (splice l o vs).length = l.length := by
  simp [splice]; omega
theorem Row.lt {w : World} {g : Nat} {T : TypeId} {l : List Value} (h : Row w g T l) : g < w.heap.size := by
  by_cases hb : g < w.heap.size
  · exact hb
  · rw [Row, Array.getElem?_eq_none (Nat.le_of_not_lt hb)] at h; cases h
theorem Row.touch {F : Nat → Prop} {w w' : World} {g : Nat} {T : TypeId} {l : List Value} (h : Row w g T l) (t : Touch F w w') (hF : ¬ F g) : Row w' g T l := by
  rw [Row, t.block g h.lt hF]; exact h
theorem Row.cell {w : World} {g : Nat} {T : TypeId} {l : List Value} (h : Row w g T l) (o : Nat) : w.cell? ⟨g, o, none⟩ = l[o]? := by
  simp only [World.cell?]; rw [h]; simp
theorem Row.soft {w : World} {g : Nat} {T : TypeId} {l : List Value} (h : Row w g T l) (o : Nat) : w.frozen? ⟨g, o, none⟩ = false := by
  simp only [World.frozen?]; rw [h]; simp
theorem Row.new (w : World) (T : TypeId) (c : Array Value) : Row (w.alloc (.cells c T)) w.heap.size T c.toList := by
  rw [Row, Array.toArray_toList]; exact heap_alloc_new w _
theorem Row.setRow {w : World} {g : Nat} {T : TypeId} {l : List Value} (h : Row w g T l) (l' : List Value) : Row (w.setRow g l'.toArray) g T l' := setRow_heap w g _ _ _ _ h
theorem Row.setCell {w : World} {g : Nat} {T : TypeId} {l : List Value} (h : Row w g T l) (o : Nat) (v : Value) : Row (w.setCell ⟨g, o, none⟩ v) g T (l.set o v) := by
  rw [setCell_eq_setRow w g o _ T (0, 0) v h]
  have := setRow_heap w g l.toArray (l.toArray.setIfInBounds o v) T (0, 0) h
  rw [Row, this]; simp
theorem Touch.setRow {F : Nat → Prop} {a w : World} (h : Touch F a w) {g : Nat} (hg : g < a.heap.size → F g) (c : Array Value) : Touch F a (w.setRow g c) :=
  ⟨h.os, h.tape, h.output, by simpa [World.setRow] using h.size, fun k hk hF => by
    have hne : g ≠ k := fun e => hF (e ▸ hg (e ▸ hk))
    rw [← h.block k hk hF]
    simp only [World.setRow, Array.getElem?_modify]
    rw [if_neg hne]⟩
theorem setRow_size (w : World) (g : Nat) (c : Array Value) : (w.setRow g c).heap.size = w.heap.size := by simp [World.setRow]

section
variable {P : Program}

theorem add_off (g o j : Nat) : (⟨g, o, none⟩ : Addr).add j = ⟨g, o + j, none⟩ := by unfold Addr.add; split <;> simp_all

theorem run_load_mid {w : World} {g o n : Nat} {T ty : TypeId} {l : List Value} (hg : Row w g T l) {d : TypeDesc} (hu : P.underlying ty = some d) (hd : (match d with | .struct _ | .array _ _ => true | _ => false) = true)
    (hi : (P.info? ty).map (·.size) = some n) (ho : o + n ≤ l.length) : (loadVar ty ⟨g, o, none⟩).run P w = .ok (.agg ((l.drop o).take n).toArray) w := by
  have hlen : ((l.drop o).take n).length = n := by simp; omega
  have hl : (loadCells ⟨g, o, none⟩ ((l.drop o).take n).length).run P w = .ok ((l.drop o).take n).toArray w :=
    run_loadCells_list (P := P) w ⟨g, o, none⟩ _ (fun j v hv => by
      rw [add_off, hg.cell]
      rw [List.getElem?_take] at hv
      split at hv
      · rwa [List.getElem?_drop] at hv
      · cases hv)
  rw [hlen] at hl
  cases hq : P.info? ty with
  | none => simp [hq] at hi
  | some i =>
    have hs : i.size = n := by simpa [hq] using hi
    have hagg : (isAgg ty).run P w = .ok true w := by
      unfold isAgg
      rw [Sem.run_bind, run_underlying hu w]
      cases d <;> simp_all
    simp [loadVar, Sem.run_bind, hagg, sizeOf, typeInfo, hq, hs, hl]

theorem run_store_mid {w : World} {g o : Nat} {T ty : TypeId} {l : List Value} (hg : Row w g T l) (vs : List Value) (hi : (P.info? ty).map (·.size) = some vs.length) (ho : o + vs.length ≤ l.length) (h1 : ∀ v ∈ vs, v.oneCell' = true) :
    (storeVar ty ⟨g, o, none⟩ (.agg vs.toArray)).run P w = .ok () (w.setRow g (splice l o vs).toArray) := by
  have hst := run_storeCells_at P g o T vs 0 l.toArray w hg (by simpa using ho) h1
  cases hq : P.info? ty with
  | none => simp [hq] at hi
  | some i =>
    have hs : i.size = vs.length := by simpa [hq] using hi
    simp only [Nat.add_zero] at hst
    simp [storeVar, Sem.run_bind, sizeOf, typeInfo, hq, hs, Value.cells, hst, splice]

/-- a whole array or struct out of the middle of a row -/
theorem wp_load_mid {o : Oper} {a : Act} {w : World} {K : Act → World → Prop} {Q : Exit → Act → World → Prop} (ty : TypeId) (x : Operand) (hop : o.op = .load ty x) (n g off : Nat) (T : TypeId) (l : List Value) (hg : Row w g T l)
    (hx : a.eval x = .pointer (some ⟨g, off, none⟩)) (d : TypeDesc) (hu : P.underlying ty = some d) (hd : (match d with | .struct _ | .array _ _ => true | _ => false) = true)
    (hi : (P.info? ty).map (·.size) = some n) (ho : off + n ≤ l.length) (h : K (a.put o.dst (.agg ((l.drop off).take n).toArray)) w) : o.wp P a w K Q := by
  unfold Oper.wp execOp
  simp only [hop, hx, Instr.loadAt, Instr.sureAddr, Sem.run_bind, Sem.run_pure, Result.andThen_ok, run_load_mid hg hu hd hi ho]
  exact h
theorem wpList_load_mid {ops : Array Oper} {rest : List Oper} {o : Oper} {a : Act} {w : World} {Q : Exit → Act → World → Prop} (hgd : o.guard = none) (ty : TypeId) (x : Operand) (hop : o.op = .load ty x) (n g off : Nat) (T : TypeId) (l : List Value) (hg : Row w g T l)
    (hx : a.eval x = .pointer (some ⟨g, off, none⟩)) (d : TypeDesc) (hu : P.underlying ty = some d) (hd : (match d with | .struct _ | .array _ _ => true | _ => false) = true)
    (hi : (P.info? ty).map (·.size) = some n) (ho : off + n ≤ l.length) (h : wpList P ops Q rest (a.put o.dst (.agg ((l.drop off).take n).toArray)) w) : wpList P ops Q (o :: rest) a w :=
  wpList_plain hgd fun _ hK => wp_load_mid ty x hop n g off T l hg hx d hu hd hi ho (hK _ _ h)
theorem step_load_mid {ops : Array Oper} {o : Oper} {a : Act} {w : World} {K : Act → World → Prop} {Q : Exit → Act → World → Prop} {E : Prop} (hgd : o.guard = none) (ty : TypeId) (x : Operand) (hop : o.op = .load ty x) (n g off : Nat) (T : TypeId) (l : List Value) (hg : Row w g T l)
    (hx : a.eval x = .pointer (some ⟨g, off, none⟩)) (d : TypeDesc) (hu : P.underlying ty = some d) (hd : (match d with | .struct _ | .array _ _ => true | _ => false) = true)
    (hi : (P.info? ty).map (·.size) = some n) (ho : off + n ≤ l.length) (h : K (a.put o.dst (.agg ((l.drop off).take n).toArray)) w) :
    if Region.wanted o (yielded ops a.tmps) = true then Oper.wp P o a w K Q else E := by
  have hw : Region.wanted o (yielded ops a.tmps) = true := by simp [Region.wanted, hgd]
  rw [if_pos hw]
  exact wp_load_mid ty x hop n g off T l hg hx d hu hd hi ho h

/-- a whole array or struct into the middle of a row -/
theorem wp_store_mid {o : Oper} {a : Act} {w : World} {K : Act → World → Prop} {Q : Exit → Act → World → Prop} (ty : TypeId) (x y : Operand) (hop : o.op = .store ty x y) (g off : Nat) (T : TypeId) (l : List Value) (hg : Row w g T l)
    (hx : a.eval x = .pointer (some ⟨g, off, none⟩)) (vs : List Value) (hy : a.eval y = .agg vs.toArray)
    (hi : (P.info? ty).map (·.size) = some vs.length) (ho : off + vs.length ≤ l.length) (h1 : ∀ v ∈ vs, v.oneCell' = true) (h : K (a.put o.dst undef) (w.setRow g (splice l off vs).toArray)) : o.wp P a w K Q := by
  unfold Oper.wp execOp
  simp only [hop, hx, hy, Instr.storeAt, Instr.sureAddr, Sem.run_bind, Sem.run_pure, Result.andThen_ok, run_store_mid hg vs hi ho h1]
  exact h
theorem wpList_store_mid {ops : Array Oper} {rest : List Oper} {o : Oper} {a : Act} {w : World} {Q : Exit → Act → World → Prop} (hgd : o.guard = none) (ty : TypeId) (x y : Operand) (hop : o.op = .store ty x y) (g off : Nat) (T : TypeId) (l : List Value) (hg : Row w g T l)
    (hx : a.eval x = .pointer (some ⟨g, off, none⟩)) (vs : List Value) (hy : a.eval y = .agg vs.toArray)
    (hi : (P.info? ty).map (·.size) = some vs.length) (ho : off + vs.length ≤ l.length) (h1 : ∀ v ∈ vs, v.oneCell' = true) (h : wpList P ops Q rest (a.put o.dst undef) (w.setRow g (splice l off vs).toArray)) : wpList P ops Q (o :: rest) a w :=
  wpList_plain hgd fun _ hK => wp_store_mid ty x y hop g off T l hg hx vs hy hi ho h1 (hK _ _ h)
theorem step_store_mid {ops : Array Oper} {o : Oper} {a : Act} {w : World} {K : Act → World → Prop} {Q : Exit → Act → World → Prop} {E : Prop} (hgd : o.guard = none) (ty : TypeId) (x y : Operand) (hop : o.op = .store ty x y) (g off : Nat) (T : TypeId) (l : List Value) (hg : Row w g T l)
    (hx : a.eval x = .pointer (some ⟨g, off, none⟩)) (vs : List Value) (hy : a.eval y = .agg vs.toArray)
    (hi : (P.info? ty).map (·.size) = some vs.length) (ho : off + vs.length ≤ l.length) (h1 : ∀ v ∈ vs, v.oneCell' = true) (h : K (a.put o.dst undef) (w.setRow g (splice l off vs).toArray)) :
    if Region.wanted o (yielded ops a.tmps) = true then Oper.wp P o a w K Q else E := by
  have hw : Region.wanted o (yielded ops a.tmps) = true := by simp [Region.wanted, hgd]
  rw [if_pos hw]
  exact wp_store_mid ty x y hop g off T l hg hx vs hy hi ho h1 h
end
end Go.Proofs.YtkiehoboeiengaaGreatDoor
