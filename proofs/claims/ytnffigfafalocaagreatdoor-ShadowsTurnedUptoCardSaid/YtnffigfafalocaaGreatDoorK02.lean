/-
  What comes in, opened: slices of numbers and structs as they are read. No program in sight.
  Bytes and numbers as they come in. No program in sight.
  The end of every law of this seat: a call that answers true and turns nothing that was there meets the row. No condition. What the plain rows of this seat share. What comes in, opened: bytes, numbers, two bytes in an array. What comes in, opened: two numbers in an array, a page. What the rows of this seat share: the tables of packages math/bits, strconv and unicode/utf8 laid in their variables, a world for the witness.
  math/bits.TrailingZeros64 by its own text: the place of the least bit, where the table of de Bruijn is laid. For every number of 64 bits.
  What the rows of this seat share: as before, and the handle of the type 'error' in package errors' variable.
  Lists by rising numbers: looked at, put, gone. No program in sight.
  Rows of many cells: whole arrays and structs loaded out of, and stored into, the middle of a block. No program in sight.
-/
import Derived.Test.YtnffigfafalocaaGreatDoorK01
import Derived.ProofKit
import Derived.OpenShut
import Derived.Test.YtnffigfafalocaaGreatDoorRows
import Derived.WalkKit
import Derived.Deep.DeepHandedRow
import Derived.Lib.LaidTab
import Derived.Test.YtnffigfafalocaaGreatDoorProg
import Derived.Laws.IdiomArrays
import Derived.Lib.SmallJoins
import Derived.Test.YtnffigfafalocaaGreatDoorCards
import Derived.Test.YtnffigfafalocaaGreatDoorTie
import Derived.Lib.TrailingZeros
import Derived.Laws.Bits64b
import Derived.LaidHandle
import Derived.Laws.Rows
import Derived.Laws.Tables
import Derived.Laws.CopyRow
namespace Go.Proofs.YtnffigfafalocaaGreatDoor
open Go.ChangeShapes Go.WideShapes Go.ChangeAt Go.RowKit

/-- numbers, any sign, as cells -/
def ints (k : IntKind) (zs : List Int) : List Value := zs.map fun z => .int k z
theorem ints_length (k : IntKind) (zs : List Int) : (ints k zs).length = zs.length := by simp [ints]
theorem ints_nums {k : IntKind} {zs : List Int} (h : ∀ z ∈ zs, 0 ≤ z) : ints k zs = nums k (zs.map Int.toNat) := by
  simp only [ints, nums, List.map_map]
  refine List.map_congr_left (fun z hz => ?_)
  have := h z hz
  simp only [Function.comp]
  congr 1
  omega

theorem list_choose {α : Type} {Q : Nat → α → Prop} : ∀ (n : Nat), (∀ i, i < n → ∃ x, Q i x) → ∃ l : List α, l.length = n ∧ ∀ i x, l[i]? = some x → Q i x
  | 0, _ => ⟨[], rfl, fun i x h => by simp at h⟩
  | n + 1, h => by
    obtain ⟨l, hl, hq⟩ := list_choose n (fun i hi => h i (by omega))
    obtain ⟨x, hx⟩ := h n (by omega)
    refine ⟨l ++ [x], by simp [hl], fun i y hy => ?_⟩
    by_cases hi : i < l.length
    · rw [List.getElem?_append_left hi] at hy; exact hq i y hy
    · rw [List.getElem?_append_right (by omega)] at hy
      have : i - l.length = 0 := by
        by_cases h0 : i - l.length = 0
        · exact h0
        · rw [List.getElem?_eq_none (by simp; omega)] at hy; cases hy
      rw [this] at hy
      have e : i = n := by omega
      subst e
      have : x = y := by simpa using hy
      subst this; exact hx

section
variable {H : Type} {enc : TypeId × Value → H} {P : Program} {w : World} {base : Nat} {spare : Nat → Bool} {held : Bool}

theorem spot_of_cell {a : Addr} {v : Value} (h : w.cell? a = some v) : a = ⟨a.block, a.off, none⟩ := by
  unfold World.cell? at h
  split at h
  · cases hs : a.spot with
    | none => cases a; simp_all
    | some s => simp [hs] at h
  · cases h
theorem spot_add {a : Addr} {i : Nat} {v : Value} (h : w.cell? (a.add i) = some v) (h0 : ∃ u, w.cell? a = some u) : a = ⟨a.block, a.off, none⟩ ∧ w.cell? ⟨a.block, a.off + i, none⟩ = some v := by
  obtain ⟨u, hu⟩ := h0
  have e := spot_of_cell hu
  refine ⟨e, ?_⟩
  rw [e] at h
  simp only [Addr.add] at h
  split at h
  · rename_i hi; subst hi; exact h
  · exact h

/-- a slice of numbers that came in -/
theorem open_list {t e : TypeId} {k : IntKind} {fuel : Nat} {cs : List Value} {x : DataW H × List MemPlace} (ht : P.underlying t = some (.slice e)) (he : P.underlying e = some (.int k)) (hc : P.cellsOf e = 1)
    (h : DataW.trod enc P w base (fun _ => true) held fuel t cs = some x) :
    ∃ a cap zs, cs = [.slice a zs.length cap] ∧ zs.length ≤ cap ∧ cap ≤ maxLen ∧ Rd w a (ints k zs) ∧ (∀ z ∈ zs, (Lit.int k z).wf = true) ∧ (cap = 0 ∨ cap * P.bytesOf e ∈ DataW.weights P t x.1) ∧ (∀ ad, a = some ad → base ≤ ad.block) := by
  rcases open_ints ht he hc h with ⟨rfl, rfl⟩ | ⟨a, len, cap, zs, rfl, hb, hl, hm, hz, rfl, hcell, hwf⟩
  · exact ⟨none, 0, [], rfl, Nat.le_refl _, Nat.zero_le _, fun i v hi => by simp [ints] at hi, by simp, Or.inl rfl, fun ad e => by cases e⟩
  · simp only [if_true] at hz
    have hlen : (zs.take len).length = len := by rw [List.length_take]; omega
    refine ⟨some a, cap, zs.take len, by rw [hlen], by rw [hlen]; exact hl, hm, fun i v hi => ?_, fun z hz' => hwf z (List.mem_of_mem_take hz'), Or.inr ?_, fun ad e => by cases e; exact hb⟩
    · have hi' : i < len := by
        rcases Nat.lt_or_ge i len with h | h
        · exact h
        · rw [List.getElem?_eq_none (by rw [ints_length, hlen]; exact h)] at hi; cases hi
      have h0 := hcell 0 (by omega)
      have h1 := hcell i (by omega)
      obtain ⟨e1, e2⟩ := spot_add h1 ⟨_, by simpa [Addr.add] using h0⟩
      refine ⟨a.block, a.off, by rw [← e1], ?_⟩
      rw [e2, ← hi]
      simp only [ints, List.getElem?_map, List.getElem?_take_of_lt hi', List.getD_eq_getElem?_getD, List.getElem?_eq_getElem (show i < zs.length by omega)]
      rfl
    · simp only [DataW.weights, ht, List.mem_cons]
      left
      have : (lits (H := H) k (zs.take len)).length + (lits (H := H) k (zs.drop len)).length = cap := by
        simp [lits]; omega
      rw [this]

/-- the cells of an element -/
theorem cells_elem {a : Addr} {n : Nat} {cs : List Value} (h : w.cells? base a n = some cs) (hn : 0 < n) : cs.length = n ∧ a = ⟨a.block, a.off, none⟩ ∧ ∀ j, j < n → w.cell? ⟨a.block, a.off + j, none⟩ = cs[j]? := by
  obtain ⟨_, hl, hc⟩ := World.cells?_some h
  have h0 := hc 0 hn
  rw [List.getElem?_eq_getElem (by omega)] at h0
  have hsp := spot_of_cell (by simpa [Addr.add] using h0)
  refine ⟨hl, hsp, fun j hj => ?_⟩
  have h1 := hc j hj
  rw [← h1, hsp]
  simp only [Addr.add]
  split
  · rename_i hj0; subst hj0; rfl
  · rfl
end
end Go.Proofs.YtnffigfafalocaaGreatDoor
namespace Go.Proofs.YtnffigfafalocaaGreatDoor
open Go Go.RowKit
/-- bytes as they come in -/
structure Bytes (w : World) (a : Option Addr) (n c : Nat) (b : List Nat) : Prop where
  len : b.length = n
  cap : n ≤ c
  max : (c : Int) ≤ 140737488351232
  rd : Rd w a (nums .u8 b)
  lt : ∀ x ∈ b, x < 256
end Go.Proofs.YtnffigfafalocaaGreatDoor
namespace Go.Proofs.YtnffigfafalocaaGreatDoor
open Go.ChangeShapes Go.WideShapes Go.ChangeAt Go.RowKit

section
variable {H : Type} {enc : TypeId × Value → H} {P : Program}

theorem trodAll_below (hl : laidOutB P = true) {W W' : World} (hb : Below W.heap.size W W') : ∀ (ts : List TypeId) (vs : List Value) (ds : List (DataW H)) (ps : List MemPlace),
    (∀ t ∈ ts, P.readableRec t = true ∧ t < P.types.size) → DataW.TrodAll enc P W 0 (fun _ => true) true ts vs ds ps → (∀ x ∈ ps, x.block < W.heap.size) →
    DataW.TrodAll enc P W' 0 (fun b => decide (b < W.heap.size)) true ts vs ds ps
  | [], vs, ds, ps, _, h, _ => by
    obtain ⟨rfl, rfl, rfl⟩ := trodAll_nil h
    exact trodAll_mk0
  | t :: ts, vs, ds, ps, ht, h, hlt => by
    obtain ⟨v0, vs0, d0, ds0, p0, q0, rfl, rfl, rfl, h0, r0⟩ := trodAll_cons h
    exact trodAll_cons_mk (Below.trod hl (ht t (by simp)).1 (ht t (by simp)).2 h0 hb fun x hx => hlt x (by simp [hx]))
      (trodAll_below hl hb ts vs0 ds0 q0 (fun t h => ht t (by simp [h])) r0 fun x hx => hlt x (by simp [hx]))

/-- THE END OF A LAW: it says true, and of what was there nothing has turned. -/
theorem law_post {f : Func} {s : ChangeSpec} {tb : TypeId} (hl : laidOutB P = true) (hr : f.params.toList.all (fun t => P.readableRec t && decide (t < P.types.size)) = true) (hv : s.vars = [])
    (hres : f.resultTypes = #[tb]) (htb : P.underlying tb = some .bool) {W W' : World} {args : Array Value} {ds gs : List (DataW H)} {before : List MemPlace}
    (hW : DataW.Whole enc P f.params.toList s.vars false W args.toList ds gs before) (hfn : s.fn H ds = { results := [.lit (.bool true)], args := ds }) (hb : Below W.heap.size W W') :
    s.post enc P f false true false false W args (.bool true) W' := by
  have hlt := hW.lt
  have hW0 := hW
  obtain ⟨p, q, hA, hV, rfl, _, _⟩ := hW0
  rw [hv] at hV
  obtain ⟨rfl, rfl⟩ := trodVars_none hV
  have hA' : DataW.TrodAll enc P W' 0 (fun b => decide (b < W.heap.size)) true f.params.toList args.toList ds p :=
    trodAll_below hl hb _ _ _ _ (fun t ht => by simpa using List.all_eq_true.1 hr t ht) hA (fun x hx => by simpa using hlt x (by simpa using hx))
  refine ⟨ds, [], p ++ [], [], p, [], hW, ?_, ?_, ?_, hb.frame _, fun h => by cases h⟩
  · rw [List.append_nil, hfn, hres]
    exact trodAll_cons_mk (shut_bool htb _) trodAll_mk0
  · rw [List.append_nil, hfn]; exact hA'
  · rw [List.append_nil, hfn, hv]
    exact rfl
end
end Go.Proofs.YtnffigfafalocaaGreatDoor
namespace Go.Proofs.YtnffigfafalocaaGreatDoor
open Go.ChangeShapes Go.WideShapes Go.ChangeAt Go.RowKit
theorem own : ownKnob Tryz.prog.godebug = none := by kernel_rfl
theorem laidOut : laidOutB Tryz.prog = true := by kernel_rfl
end Go.Proofs.YtnffigfafalocaaGreatDoor
namespace Go.Proofs.YtnffigfafalocaaGreatDoor
open Go.ChangeShapes Go.WideShapes Go.ChangeAt Go.RowKit

section
variable {H : Type} {enc : TypeId × Value → H} {w : World}
theorem cells_u8 : Tryz.prog.cellsOf 5 = 1 := by kernel_rfl
theorem wf_u32 {n : Int} (h : (Lit.int .u32 n).wf = true) : ∃ m : Nat, n = (m : Nat) ∧ m < 4294967296 := by
  have := bounds_u32 h
  exact ⟨n.toNat, by omega, by omega⟩

end
end Go.Proofs.YtnffigfafalocaaGreatDoor
namespace Go.Proofs.YtnffigfafalocaaGreatDoor
open Go.ChangeShapes Go.WideShapes Go.ChangeAt Go.RowKit

section
variable {H : Type} {enc : TypeId × Value → H} {w : World}
end
end Go.Proofs.YtnffigfafalocaaGreatDoor
namespace Go.Proofs.YtnffigfafalocaaGreatDoor
open Go.ChangeShapes Go.WideShapes Go.ChangeAt Go.RowKit

def tab64 : Array Value := (Lib.deBruijn64tab.map fun (n : Nat) => Value.int .u8 n).toArray
def tab32 : Array Value := (Lib.deBruijn32tab.map fun (n : Nat) => Value.int .u8 n).toArray
def tabPow : Array Value := ([1, 10, 100, 1000, 10000, 100000, 1000000, 10000000, 100000000, 1000000000, 10000000000, 100000000000, 1000000000000, 10000000000000, 100000000000000, 1000000000000000, 10000000000000000, 100000000000000000, 1000000000000000000, 10000000000000000000].map fun (n : Nat) => Value.int .u64 n).toArray
def tabFirst : Array Value := (Go.Pinned.utf8FirstZ.map fun (n : Nat) => Value.int .u8 n).toArray
def tabRanges : Array Value := ([128, 191, 160, 191, 128, 159, 144, 191, 128, 143].map (fun (n : Nat) => Value.int .u8 n) ++ List.replicate 22 (Value.int .u8 0)).toArray
def layTab (c : Array Value) : Obj → Obj
  | .cells _ t frozen => .cells c t frozen
  | o => o
noncomputable def laidWorld (os : Os) : World :=
  { World.holding Tryz.prog os ⟨#[], #[], []⟩ with heap := (((((World.holding Tryz.prog os ⟨#[], #[], []⟩).heap.modify 2 (layTab tabFirst)).modify 3 (layTab tabRanges)).modify 1 (layTab tab64)).modify 5 (layTab tab32)).modify 4 (layTab tabPow) }
end Go.Proofs.YtnffigfafalocaaGreatDoor
namespace Go.Proofs.YtnffigfafalocaaGreatDoor
open Go.RowKit

/-- the table in its variable -/
def TabAt (w : World) : Prop := ∀ j, j < 64 → w.cell? ⟨1, j, none⟩ = some (.int .u8 (Lib.deBruijn64tab.getD j 0 : Nat))

set_option maxHeartbeats 1000000 in
theorem tz_core (x k idx : Nat) (w : World) (hx0 : ((x : Int) == 0) = false)
    (key : IntKind.u64.wrap (bits BinOp.and IntKind.u64 (x : Int) (IntKind.u64.wrap (-(x : Int))) * 285870213051353865) / 288230376151711744 = (idx : Int))
    (hi : idx < 64) (hk : k < 64) (hcell : w.cell? ⟨1, idx, none⟩ = some (.int .u8 k)) :
    Calls Tryz.prog 138 #[.int .u64 x] w fun e w' => e = .returned (.int .i64 k) ∧ w = w' := by
  go_enter Tryz.func138, Tryz.ntmps138
  go_wp2_with (simp only [key])
  go_ret
  exact ⟨rfl, rfl⟩

theorem tz_key (x a : Nat) (hx : x < 18446744073709551616) (hx0 : x ≠ 0) (hlow : x &&& (18446744073709551616 - x) = a) :
    IntKind.u64.wrap (bits BinOp.and IntKind.u64 (x : Int) (IntKind.u64.wrap (-(x : Int))) * 285870213051353865) / 288230376151711744 = ((a * 285870213051353865 % 18446744073709551616 / 288230376151711744 : Nat) : Int) := by
  have e1 : IntKind.u64.wrap (-(x : Int)) = ((18446744073709551616 - x : Nat) : Int) := by rw [IntKind.wrap_u64]; omega
  rw [e1, bits_and_u64_nat x _ hx (by omega), hlow, IntKind.wrap_u64]
  omega

/-- x is not 0: the least bit's place -/
theorem tz_any (x : Nat) (hx : x < 18446744073709551616) (hx0 : x ≠ 0) (w : World) (hT : TabAt w) :
    ∃ t m : Nat, t < 64 ∧ x = 2 ^ t * (2 * m + 1) ∧ Calls Tryz.prog 138 #[.int .u64 x] w fun e w' => e = .returned (.int .i64 t) ∧ w = w' := by
  obtain ⟨hlow, hk⟩ := Lib.lowest_bit 64 x hx0 hx
  obtain ⟨hi, htab⟩ := Lib.deBruijn64_at _ hk
  have hcell := hT _ hi
  rw [htab] at hcell
  obtain ⟨m, hm, _⟩ := Lib.ctzFrom_spec 64 x (by omega) hx
  refine ⟨Lib.ctz 64 x, m, hk, ?_, tz_core x _ _ w (by simp; omega) (tz_key x _ hx hx0 hlow) hi hk hcell⟩
  simpa [Lib.ctz, hx0] using hm
end Go.Proofs.YtnffigfafalocaaGreatDoor
namespace Go.Proofs.YtnffigfafalocaaGreatDoor
open Go.ChangeShapes Go.WideShapes Go.ChangeAt Go.RowKit
noncomputable def layHandle : Obj → Obj
  | .cells _ t frozen => .cells #[.iface 342 (.agg #[typeHandle Tryz.prog 137])] t frozen
  | o => o
noncomputable def laidWorldE (os : Os) : World := { laidWorld os with heap := (laidWorld os).heap.modify 0 layHandle }
theorem gTab : Tryz.prog.globalNamed "math/bits.deBruijn64tab" = some 1 := by kernel_rfl
theorem gTabType : (Tryz.prog.globals[1]?).map (·.type) = some 119 := by kernel_rfl
theorem cells_tab : Tryz.prog.cellsOf 119 = 64 := by kernel_rfl
theorem tab_of {W : World} {rest : List (String × DataW Unit)} (h : laidMet Tryz.prog (("math/bits.deBruijn64tab", Rows.laid_math_bits_deBruijn64tab) :: rest) W) : TabAt W := by
  have ht : Lib.TabIs Tryz.prog W "math/bits.deBruijn64tab" .u8 (Lib.deBruijn64tab.map fun (n : Nat) => (n : Int)) :=
    Lib.tabIs_of_head (rest := rest) gTab gTabType Tryz.underlying119 Tryz.underlying5 cells_u8 cells_tab h
  intro j hj
  have hlen : (Lib.deBruijn64tab.map fun (n : Nat) => (n : Int)).length = 64 := by decide
  have hl2 : Lib.deBruijn64tab.length = 64 := by decide
  have := ht.cell gTab j (by rw [hlen]; exact hj)
  rw [this]
  rw [List.getD_eq_getElem?_getD, List.getD_eq_getElem?_getD, List.getElem?_map, List.getElem?_eq_getElem (by rw [hl2]; exact hj)]
  rfl
end Go.Proofs.YtnffigfafalocaaGreatDoor
namespace Go.Proofs.YtnffigfafalocaaGreatDoor
open Go Go.RowKit
set_option linter.unusedVariables false
namespace Mp
section
variable {α : Type}
def look : List (Nat × α) → Nat → Option α
  | [], _ => none
  | (k, x) :: r, id => if k = id then some x else look r id
def put : List (Nat × α) → Nat → α → List (Nat × α)
  | [], id, x => [(id, x)]
  | (k, y) :: r, id, x => if id < k then (id, x) :: (k, y) :: r else if id = k then (id, x) :: r else (k, y) :: put r id x
/-- rising -/
def Up (l : List (Nat × α)) : Prop := l.Pairwise (fun p q => p.1 < q.1)
theorem look_put_same (l : List (Nat × α)) (id : Nat) (x : α) : look (put l id x) id = some x := by
  induction l with
  | nil => simp [put, look]
  | cons p r ih =>
    obtain ⟨k, y⟩ := p
    unfold put
    split
    · simp [look]
    · split
      · simp [look]
      · rename_i h1 h2
        rw [look, if_neg (fun e => h2 e.symm)]; exact ih
theorem look_put_other (l : List (Nat × α)) {id id' : Nat} (h : id' ≠ id) (x : α) : look (put l id x) id' = look l id' := by
  induction l with
  | nil => simp [put, look, Ne.symm h]
  | cons p r ih =>
    obtain ⟨k, y⟩ := p
    unfold put
    split
    · rw [look, if_neg (Ne.symm h)]
    · split
      · rename_i h2
        subst h2
        rw [look, look, if_neg (Ne.symm h), if_neg (Ne.symm h)]
      · rw [look, look, ih]
theorem put_mem (l : List (Nat × α)) (id : Nat) (x : α) : ∀ p ∈ put l id x, p.1 = id ∨ p ∈ l := by
  induction l with
  | nil => intro p hp; rw [put, List.mem_singleton] at hp; exact Or.inl (by rw [hp])
  | cons q r ih =>
    obtain ⟨k, y⟩ := q
    intro p hp
    unfold put at hp
    split at hp
    · rcases List.mem_cons.1 hp with rfl | hp
      · exact Or.inl rfl
      · exact Or.inr hp
    · split at hp
      · rcases List.mem_cons.1 hp with rfl | hp
        · exact Or.inl rfl
        · exact Or.inr (List.mem_cons_of_mem _ hp)
      · rcases List.mem_cons.1 hp with rfl | hp
        · exact Or.inr List.mem_cons_self
        · exact (ih p hp).imp (fun h => h) (List.mem_cons_of_mem _)
theorem up_put {l : List (Nat × α)} (h : Up l) (id : Nat) (x : α) : Up (put l id x) := by
  induction l with
  | nil => exact List.pairwise_singleton _ _
  | cons q r ih =>
    obtain ⟨k, y⟩ := q
    obtain ⟨h1, h2⟩ := List.pairwise_cons.1 h
    unfold put
    split
    · rename_i hk
      refine List.pairwise_cons.2 ⟨fun p hp => ?_, h⟩
      rcases List.mem_cons.1 hp with rfl | hp
      · exact hk
      · exact Nat.lt_trans hk (h1 p hp)
    · split
      · rename_i h3 h4
        subst h4
        exact List.pairwise_cons.2 ⟨fun p hp => h1 p hp, h2⟩
      · rename_i h3 h4
        refine List.pairwise_cons.2 ⟨fun p hp => ?_, ih h2⟩
        rcases put_mem r id x p hp with e | hp
        · rw [e]; show k < id; omega
        · exact h1 p hp
theorem look_none {l : List (Nat × α)} {id : Nat} (h : ∀ p ∈ l, p.1 ≠ id) : look l id = none := by
  induction l with
  | nil => rfl
  | cons q r ih =>
    obtain ⟨k, y⟩ := q
    rw [look, if_neg (h (k, y) List.mem_cons_self)]
    exact ih (fun p hp => h p (List.mem_cons_of_mem _ hp))

theorem look_up_none {l : List (Nat × α)} (_h : Up l) {id : Nat} (hl : ∀ p ∈ l, id < p.1) : look l id = none := look_none (fun p hp e => by have := hl p hp; omega)
theorem look_mem {l : List (Nat × α)} (hu : Up l) {p : Nat × α} (hp : p ∈ l) : look l p.1 = some p.2 := by
  induction l with
  | nil => cases hp
  | cons q r ih =>
    obtain ⟨k, y⟩ := q
    obtain ⟨h1, h2⟩ := List.pairwise_cons.1 hu
    rcases List.mem_cons.1 hp with rfl | hp
    · rw [look, if_pos rfl]
    · have := h1 p hp
      rw [look, if_neg (by simp only at this; omega)]
      exact ih h2 hp
theorem mem_of_look {l : List (Nat × α)} {id : Nat} {x : α} (h : look l id = some x) : (id, x) ∈ l := by
  induction l with
  | nil => cases h
  | cons q r ih =>
    obtain ⟨k, y⟩ := q
    rw [look] at h
    by_cases e : k = id
    · subst e; rw [if_pos rfl] at h; cases h; exact List.mem_cons_self
    · rw [if_neg e] at h; exact List.mem_cons_of_mem _ (ih h)
theorem mem_iff {l : List (Nat × α)} (hu : Up l) {id : Nat} {x : α} : (id, x) ∈ l ↔ look l id = some x := ⟨fun h => look_mem hu h, mem_of_look⟩
theorem look_none_iff {l : List (Nat × α)} {id : Nat} : look l id = none ↔ ∀ p ∈ l, p.1 ≠ id := by
  refine ⟨fun h p hp e => ?_, look_none⟩
  subst e
  induction l with
  | nil => cases hp
  | cons q r ih =>
    obtain ⟨k, y⟩ := q
    rw [look] at h
    by_cases e : k = p.1
    · rw [if_pos e] at h; cases h
    · rw [if_neg e] at h
      rcases List.mem_cons.1 hp with rfl | hp
      · exact e rfl
      · exact ih hp h
/-- what is there, when one was put -/
theorem mem_put {l : List (Nat × α)} (hu : Up l) {id : Nat} {x : α} {p : Nat × α} : p ∈ put l id x ↔ p = (id, x) ∨ p.1 ≠ id ∧ p ∈ l := by
  obtain ⟨k, y⟩ := p
  rw [mem_iff (up_put hu id x)]
  by_cases e : k = id
  · subst e
    rw [look_put_same]
    constructor
    · intro h; injection h with h; subst h; exact Or.inl rfl
    · rintro (h | ⟨h, _⟩)
      · injection h with _ h; rw [h]
      · exact absurd rfl h
  · rw [look_put_other l e, ← mem_iff hu]
    constructor
    · exact fun h => Or.inr ⟨e, h⟩
    · rintro (h | ⟨_, h⟩)
      · injection h with h; exact absurd h e
      · exact h
theorem put_length_none {l : List (Nat × α)} {id : Nat} (h : look l id = none) (x : α) : (put l id x).length = l.length + 1 := by
  induction l with
  | nil => rfl
  | cons q r ih =>
    obtain ⟨k, y⟩ := q
    have hk : k ≠ id := fun e => by rw [look, if_pos e] at h; cases h
    rw [look, if_neg hk] at h
    unfold put
    split
    · rfl
    · rw [if_neg (fun e => hk e.symm)]
      simp only [List.length_cons, ih h]
theorem put_length_some {l : List (Nat × α)} (hu : Up l) {id : Nat} {y : α} (h : look l id = some y) (x : α) : (put l id x).length = l.length := by
  induction l with
  | nil => cases h
  | cons q r ih =>
    obtain ⟨k, z⟩ := q
    obtain ⟨h1, h2⟩ := List.pairwise_cons.1 hu
    unfold put
    by_cases hk : k = id
    · subst hk
      rw [if_neg (Nat.lt_irrefl _), if_pos rfl]; rfl
    · rw [look, if_neg hk] at h
      by_cases hlt : id < k
      · have : look r id = none := look_none (fun p hp e => by have := h1 p hp; simp only at this; omega)
        rw [this] at h; cases h
      · rw [if_neg hlt, if_neg (fun e => hk e.symm)]
        simp only [List.length_cons, ih h2 h]
theorem put_length_le (l : List (Nat × α)) (id : Nat) (x : α) : (put l id x).length ≤ l.length + 1 := by
  induction l with
  | nil => exact Nat.le_refl _
  | cons q r ih =>
    obtain ⟨k, y⟩ := q
    unfold put
    split
    · exact Nat.le_refl _
    · split
      · simp
      · simp only [List.length_cons]; omega
/-- two rising lists that say the same are the same -/
theorem ext {l m : List (Nat × α)} (hl : Up l) (hm : Up m) (h : ∀ id, look l id = look m id) : l = m := by
  induction l generalizing m with
  | nil =>
    cases m with
    | nil => rfl
    | cons q r =>
      have := h q.1
      rw [look_mem hm List.mem_cons_self] at this
      cases this
  | cons p l ih =>
    cases m with
    | nil =>
      have := h p.1
      rw [look_mem hl List.mem_cons_self] at this
      cases this
    | cons q r =>
      obtain ⟨h1, h2⟩ := List.pairwise_cons.1 hl
      obtain ⟨h3, h4⟩ := List.pairwise_cons.1 hm
      have e1 := h p.1
      rw [look_mem hl List.mem_cons_self] at e1
      have e2 := h q.1
      rw [look_mem hm List.mem_cons_self] at e2
      have m1 : p ∈ q :: r := mem_of_look e1.symm
      have m2 : q ∈ p :: l := mem_of_look e2
      have epq : p = q := by
        rcases List.mem_cons.1 m1 with e | e
        · exact e
        · rcases List.mem_cons.1 m2 with e' | e'
          · exact e'.symm
          · have := h3 p e
            have := h1 q e'
            omega
      subst epq
      rw [ih h2 h4 (fun id => ?_)]
      by_cases e : p.1 = id
      · subst e
        rw [look_up_none h2 h1, look_up_none h4 h3]
      · have := h id
        obtain ⟨k, y⟩ := p
        rw [look, look, if_neg e, if_neg e] at this
        exact this
/-- put behind all -/
theorem put_last {l : List (Nat × α)} {id : Nat} (h : ∀ p ∈ l, p.1 < id) (x : α) : put l id x = l ++ [(id, x)] := by
  induction l with
  | nil => rfl
  | cons q r ih =>
    obtain ⟨k, y⟩ := q
    have := h (k, y) List.mem_cons_self
    unfold put
    rw [if_neg (by simp only at this; omega), if_neg (by simp only at this; omega), ih (fun p hp => h p (List.mem_cons_of_mem _ hp))]
    rfl
theorem map_up {β : Type} {l : List (Nat × α)} (h : Up l) (f : Nat × α → β) : Up (l.map fun p => (p.1, f p)) := List.pairwise_map.2 h
end
end Mp
end Go.Proofs.YtnffigfafalocaaGreatDoor
namespace Go.Proofs.YtnffigfafalocaaGreatDoor
open Go Go.RowKit

/-- block g is a row of these cells -/
def Row (w : World) (g : Nat) (T : TypeId) (l : List Value) : Prop := w.heap[g]? = some (.cells l.toArray T (0, 0))
def splice (l : List Value) (o : Nat) (vs : List Value) : List Value := l.take o ++ vs ++ l.drop (o + vs.length)
theorem Row.lt {w : World} {g : Nat} {T : TypeId} {l : List Value} (h : Row w g T l) : g < w.heap.size := by
  by_cases hb : g < w.heap.size
  · exact hb
  · rw [Row, Array.getElem?_eq_none (Nat.le_of_not_lt hb)] at h; cases h
theorem Row.touch {F : Nat → Prop} {w w' : World} {g : Nat} {T : TypeId} {l : List Value} (h : Row w g T l) (t : Touch F w w') (hF : ¬ F g) : Row w' g T l := by
  rw [Row, t.block g h.lt hF]; exact h
theorem Row.cell {w : World} {g : Nat} {T : TypeId} {l : List Value} (h : Row w g T l) (o : Nat) : w.cell? ⟨g, o, none⟩ = l[o]? := by
  simp only [World.cell?]; rw [h]; simp
theorem Row.soft {w : World} {g : Nat} {T : TypeId} {l : List Value} (h : Row w g T l) (o : Nat) : w.frozen? ⟨g, o, none⟩ = false := by
  simp only [World.frozen?]; rw [h]; simp
theorem Row.new (w : World) (T : TypeId) (c : Array Value) : Row (w.alloc (.cells c T)) w.heap.size T c.toList := by
  rw [Row, Array.toArray_toList]; exact heap_alloc_new w _
theorem Row.setRow {w : World} {g : Nat} {T : TypeId} {l : List Value} (h : Row w g T l) (l' : List Value) : Row (w.setRow g l'.toArray) g T l' := setRow_heap w g _ _ _ _ h
theorem Row.setCell {w : World} {g : Nat} {T : TypeId} {l : List Value} (h : Row w g T l) (o : Nat) (v : Value) : Row (w.setCell ⟨g, o, none⟩ v) g T (l.set o v) := by
  rw [setCell_eq_setRow w g o _ T (0, 0) v h]
  have := setRow_heap w g l.toArray (l.toArray.setIfInBounds o v) T (0, 0) h
  rw [Row, this]; simp
theorem Touch.setRow {F : Nat → Prop} {a w : World} (h : Touch F a w) {g : Nat} (hg : g < a.heap.size → F g) (c : Array Value) : Touch F a (w.setRow g c) :=
  ⟨h.os, h.tape, h.output, by simpa [World.setRow] using h.size, fun k hk hF => by
    have hne : g ≠ k := fun e => hF (e ▸ hg (e ▸ hk))
    rw [← h.block k hk hF]
    simp only [World.setRow, Array.getElem?_modify]
    rw [if_neg hne]⟩
section
variable {P : Program}

theorem add_off (g o j : Nat) : (⟨g, o, none⟩ : Addr).add j = ⟨g, o + j, none⟩ := by unfold Addr.add; split <;> simp_all

theorem run_store_mid {w : World} {g o : Nat} {T ty : TypeId} {l : List Value} (hg : Row w g T l) (vs : List Value) (hi : (P.info? ty).map (·.size) = some vs.length) (ho : o + vs.length ≤ l.length) (h1 : ∀ v ∈ vs, v.oneCell' = true) :
    (storeVar ty ⟨g, o, none⟩ (.agg vs.toArray)).run P w = .ok () (w.setRow g (splice l o vs).toArray) := by
  have hst := run_storeCells_at P g o T vs 0 l.toArray w hg (by simpa using ho) h1
  cases hq : P.info? ty with
  | none => simp [hq] at hi
  | some i =>
    have hs : i.size = vs.length := by simpa [hq] using hi
    simp only [Nat.add_zero] at hst
    simp [storeVar, Sem.run_bind, sizeOf, typeInfo, hq, hs, Value.cells, hst, splice]

/-- a whole array or struct into the middle of a row -/
theorem wp_store_mid {o : Oper} {a : Act} {w : World} {K : Act → World → Prop} {Q : Exit → Act → World → Prop} (ty : TypeId) (x y : Operand) (hop : o.op = .store ty x y) (g off : Nat) (T : TypeId) (l : List Value) (hg : Row w g T l)
    (hx : a.eval x = .pointer (some ⟨g, off, none⟩)) (vs : List Value) (hy : a.eval y = .agg vs.toArray)
    (hi : (P.info? ty).map (·.size) = some vs.length) (ho : off + vs.length ≤ l.length) (h1 : ∀ v ∈ vs, v.oneCell' = true) (h : K (a.put o.dst undef) (w.setRow g (splice l off vs).toArray)) : o.wp P a w K Q := by
  unfold Oper.wp execOp
  simp only [hop, hx, hy, Instr.storeAt, Instr.sureAddr, Sem.run_bind, Sem.run_pure, Result.andThen_ok, run_store_mid hg vs hi ho h1]
  exact h
theorem wpList_store_mid {ops : Array Oper} {rest : List Oper} {o : Oper} {a : Act} {w : World} {Q : Exit → Act → World → Prop} (hgd : o.guard = none) (ty : TypeId) (x y : Operand) (hop : o.op = .store ty x y) (g off : Nat) (T : TypeId) (l : List Value) (hg : Row w g T l)
    (hx : a.eval x = .pointer (some ⟨g, off, none⟩)) (vs : List Value) (hy : a.eval y = .agg vs.toArray)
    (hi : (P.info? ty).map (·.size) = some vs.length) (ho : off + vs.length ≤ l.length) (h1 : ∀ v ∈ vs, v.oneCell' = true) (h : wpList P ops Q rest (a.put o.dst undef) (w.setRow g (splice l off vs).toArray)) : wpList P ops Q (o :: rest) a w :=
  wpList_plain hgd fun _ hK => wp_store_mid ty x y hop g off T l hg hx vs hy hi ho h1 (hK _ _ h)
end
end Go.Proofs.YtnffigfafalocaaGreatDoor
