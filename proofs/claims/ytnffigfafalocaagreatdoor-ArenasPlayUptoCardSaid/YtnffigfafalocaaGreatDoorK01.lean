/-
  Base for the walks of this seat: what a call may turn ('Touch'), slices that read as lists ('Rd'), small facts on worlds. No program in sight.
  What comes in, opened: slices of numbers and structs as they are read. No program in sight.
  Bytes and numbers as they come in. No program in sight.
  The end of every law of this seat: a call that answers true and turns nothing that was there meets the row. No condition. What the plain rows of this seat share. What comes in, opened: bytes, numbers, two bytes in an array. What comes in, opened: two numbers in an array, a page. What the rows of this seat share: the tables of packages math/bits, strconv and unicode/utf8 laid in their variables, a world for the witness.
  Acts as they lie in memory (drydock/drydocklaw24.Act).
-/
import Derived.WalkKit
import Derived.WalkSpells
import Derived.WalkLawsBesides
import Derived.WalkMore
import Derived.Deep.QuietTactic
import Derived.BigQuiet
import Derived.Lib.Hide
import Derived.ProofKit
import Derived.OpenShut
import Derived.Test.YtnffigfafalocaaGreatDoorRows
import Derived.Deep.DeepHandedRow
import Derived.Lib.LaidTab
import Derived.Test.YtnffigfafalocaaGreatDoorProg
import Derived.Laws.IdiomArrays
import Derived.Lib.SmallJoins
import Derived.Test.YtnffigfafalocaaGreatDoorCards
import Derived.Test.YtnffigfafalocaaGreatDoorTie
import Derived.Lib.TrailingZeros
namespace Go.Proofs.YtnffigfafalocaaGreatDoor
open Go Go.RowKit

/-- Of what was there only the blocks of F may have turned. -/
structure Touch (F : Nat → Prop) (w w' : World) : Prop where
  os : w'.os = w.os
  tape : w'.tape = w.tape
  output : w'.output = w.output
  size : w.heap.size ≤ w'.heap.size
  block : ∀ k, k < w.heap.size → ¬ F k → w'.heap[k]? = w.heap[k]?

/-- nothing turns -/
def No (_ : Nat) : Prop := False
/-- one block turns -/
def One (b : Nat) (k : Nat) : Prop := k = b

theorem Touch.refl (F : Nat → Prop) (w : World) : Touch F w w := ⟨rfl, rfl, rfl, Nat.le_refl _, fun _ _ _ => rfl⟩
theorem Touch.drew {F : Nat → Prop} {a w : World} (h : Touch F a w) : Touch F a w.drew := ⟨h.os, h.tape, h.output, h.size, h.block⟩
theorem Touch.drewN {F : Nat → Prop} {a w : World} (h : Touch F a w) (n : Nat) : Touch F a (w.drewN n) := ⟨h.os, h.tape, h.output, h.size, h.block⟩
theorem Touch.trans {F : Nat → Prop} {a b c : World} (h : Touch F a b) (k : Touch F b c) : Touch F a c :=
  ⟨k.os.trans h.os, k.tape.trans h.tape, k.output.trans h.output, Nat.le_trans h.size k.size, fun i hi hF => (k.block i (Nat.lt_of_lt_of_le hi h.size) hF).trans (h.block i hi hF)⟩
theorem Touch.mono {F G : Nat → Prop} {a b : World} (h : Touch F a b) (hg : ∀ k, k < a.heap.size → F k → G k) : Touch G a b :=
  ⟨h.os, h.tape, h.output, h.size, fun i hi hG => h.block i hi (fun hF => hG (hg i hi hF))⟩
theorem Touch.no {F : Nat → Prop} {a b : World} (h : Touch No a b) : Touch F a b := h.mono (fun _ _ f => f.elim)
/-- a second step that turns what the first one made, or what may turn -/
theorem Touch.then {F G : Nat → Prop} {a b c : World} (h : Touch F a b) (k : Touch G b c) (hg : ∀ i, i < a.heap.size → G i → F i) : Touch F a c :=
  ⟨k.os.trans h.os, k.tape.trans h.tape, k.output.trans h.output, Nat.le_trans h.size k.size,
    fun i hi hF => (k.block i (Nat.lt_of_lt_of_le hi h.size) (fun hG => hF (hg i hi hG))).trans (h.block i hi hF)⟩
theorem Touch.alloc {F : Nat → Prop} {a w : World} (h : Touch F a w) (o : Obj) : Touch F a (w.alloc o) :=
  ⟨h.os, h.tape, h.output, by have := h.size; simp; omega, fun k hk hF => (Below.heap_alloc _ _ _ (Nat.lt_of_lt_of_le hk h.size)).trans (h.block k hk hF)⟩
theorem Touch.setCell {F : Nat → Prop} {a w : World} (h : Touch F a w) {p : Addr} (hp : p.block < a.heap.size → F p.block) (u : Value) : Touch F a (w.setCell p u) :=
  ⟨h.os, h.tape, h.output, by simpa [World.setCell] using h.size,
    fun k hk hF => (Below.heap_setCell _ _ _ _ (fun e => hF (by subst e; exact hp hk))).trans (h.block k hk hF)⟩
theorem Touch.grown {F : Nat → Prop} {a w w' : World} {row : Option Nat} (h : Touch F a w) (hg : w.grownBy w' row) (hr : ∀ k, row = some k → k < a.heap.size → F k) : Touch F a w' :=
  ⟨hg.os.trans h.os, hg.tape.trans h.tape, hg.output.trans h.output, Nat.le_trans h.size hg.size,
    fun k hk hF => (hg.block k (Nat.lt_of_lt_of_le hk h.size) (fun e => hF (hr k e.symm hk))).trans (h.block k hk hF)⟩
theorem Touch.below {F : Nat → Prop} {w w' : World} (h : Touch F w w') {B : Nat} (hB : B ≤ w.heap.size) (hF : ∀ k, k < B → ¬ F k) : Below B w w' :=
  ⟨h.os, h.tape, h.output, h.size, fun k hk => h.block k (Nat.lt_of_lt_of_le hk hB) (hF k hk)⟩
theorem Touch.of_below {B : Nat} {w w' : World} (h : Below B w w') : Touch (fun k => B ≤ k) w w' :=
  ⟨h.os, h.tape, h.output, h.size, fun k _ hk => h.block k (Nat.lt_of_not_le hk)⟩

theorem lt_of_cell {w : World} {b o : Nat} {v : Value} (h : w.cell? ⟨b, o, none⟩ = some v) : b < w.heap.size := by
  by_cases hb : b < w.heap.size
  · exact hb
  · simp [World.cell?, Array.getElem?_eq_none (Nat.le_of_not_lt hb)] at h
theorem Touch.cell {F : Nat → Prop} {w w' : World} (h : Touch F w w') {b o : Nat} {v : Value} (hF : ¬ F b) (hc : w.cell? ⟨b, o, none⟩ = some v) : w'.cell? ⟨b, o, none⟩ = some v := by
  rw [← hc]; exact World.cell?_of_block (a := ⟨b, o, none⟩) (h.block b (lt_of_cell hc) hF)
theorem Touch.frozen {F : Nat → Prop} {w w' : World} (h : Touch F w w') {b : Nat} (hb : b < w.heap.size) (hF : ¬ F b) (o : Nat) : w'.frozen? ⟨b, o, none⟩ = w.frozen? ⟨b, o, none⟩ :=
  World.frozen?_of_block (a := ⟨b, o, none⟩) (h.block b hb hF)

theorem cell_old (w : World) (o : Obj) {b f : Nat} (h : b < w.heap.size) : (w.alloc o).cell? ⟨b, f, none⟩ = w.cell? ⟨b, f, none⟩ :=
  World.cell?_of_block (a := ⟨b, f, none⟩) (Below.heap_alloc _ _ _ h)
theorem cell_new (w : World) (c : Array Value) (T : TypeId) (fr : Nat × Nat) (f : Nat) : (w.alloc (.cells c T fr)).cell? ⟨w.heap.size, f, none⟩ = c[f]? := by
  show (match (w.heap.push (.cells c T fr))[w.heap.size]? with | some (.cells c _ _) => if (none : Option Nat).isSome then none else c[f]? | _ => none) = _
  simp
theorem size_alloc (w : World) (o : Obj) : (w.alloc o).heap.size = w.heap.size + 1 := by simp
theorem frozen_old (w : World) (o : Obj) {b f : Nat} (h : b < w.heap.size) : (w.alloc o).frozen? ⟨b, f, none⟩ = w.frozen? ⟨b, f, none⟩ :=
  World.frozen?_of_block (a := ⟨b, f, none⟩) (Below.heap_alloc _ _ _ h)
theorem cell_set_ne {w : World} {b o b' o' : Nat} {v : Value} (h : b ≠ b' ∨ o ≠ o') : (w.setCell ⟨b, o, none⟩ v).cell? ⟨b', o', none⟩ = w.cell? ⟨b', o', none⟩ :=
  World.cell?_setCell_other w _ _ v (fun e => by simp only [Addr.mk.injEq, and_true] at e; rcases h with h | h; exact h e.1; exact h e.2)

/-- the slice at a reads as the values vs, one cell each -/
def Rd (w : World) (a : Option Addr) (vs : List Value) : Prop :=
  ∀ (i : Nat) (v : Value), vs[i]? = some v → ∃ b o, a = some ⟨b, o, none⟩ ∧ w.cell? ⟨b, o + i, none⟩ = some v
theorem Rd.touch {F : Nat → Prop} {w w' : World} {a : Option Addr} {vs : List Value} (h : Rd w a vs) (t : Touch F w w') (hF : ∀ b o, a = some ⟨b, o, none⟩ → b < w.heap.size → ¬ F b) : Rd w' a vs := by
  intro i v hi
  obtain ⟨b, o, e, hc⟩ := h i v hi
  exact ⟨b, o, e, t.cell (hF b o e (lt_of_cell hc)) hc⟩
theorem Rd.no {w w' : World} {a : Option Addr} {vs : List Value} (h : Rd w a vs) (t : Touch No w w') : Rd w' a vs := h.touch t (fun _ _ _ _ f => f)
theorem Rd.nil (w : World) (a : Option Addr) : Rd w a [] := fun i v hi => by simp at hi

/-- numbers as cells -/
def nums (k : IntKind) (xs : List Nat) : List Value := xs.map fun (x : Nat) => .int k (x : Int)
/-- a slice of its own: new memory from base on -/
def Own (w : World) (base : Nat) (T : TypeId) (v : Value) (vs : List Value) : Prop := w.ownsRow base T 1 v vs.length vs

theorem Own.form {w : World} {base : Nat} {T : TypeId} {v : Value} {vs : List Value} (h : Own w base T v vs) :
    ∃ a cap, v = .slice a vs.length cap ∧ vs.length ≤ cap ∧ Rd w a vs ∧ (∀ ad, a = some ad → base ≤ ad.block ∧ ad.off = 0 ∧ ad.spot = none ∧ ad.block < w.heap.size) ∧ vs.length ≤ maxLen := by
  obtain ⟨hl, h⟩ := h
  rcases h with ⟨rfl, h0⟩ | ⟨g, cap, cur, rfl, hg, hh, hn, hc, hs, ht⟩
  · refine ⟨none, 0, by rw [h0], by omega, fun i v hi => ?_, fun ad e => (by cases e), by rw [h0]; exact Nat.zero_le _⟩
    rw [List.getElem?_eq_none (by omega)] at hi; cases hi
  · have hb : g < w.heap.size := by
      by_cases hb : g < w.heap.size
      · exact hb
      · simp [Array.getElem?_eq_none (Nat.le_of_not_lt hb)] at hh
    refine ⟨_, cap, rfl, hn, fun i v hi => ⟨g, 0, rfl, ?_⟩, fun ad e => ?_, by omega⟩
    · rw [← ht, List.getElem?_take] at hi
      split at hi
      · simp only [World.cell?, hh, Nat.zero_add]; simpa using hi
      · cases hi
    · cases e; exact ⟨hg, rfl, rfl, hb⟩
theorem Own.touch {F : Nat → Prop} {w w' : World} {base : Nat} {T : TypeId} {v : Value} {vs : List Value} (h : Own w base T v vs) (t : Touch F w w') (hF : ∀ b, base ≤ b → b < w.heap.size → ¬ F b) : Own w' base T v vs := by
  obtain ⟨hl, h⟩ := h
  refine ⟨hl, ?_⟩
  rcases h with h | ⟨g, cap, cur, hv, hg, hh, r⟩
  · exact Or.inl h
  · have hb : g < w.heap.size := by
      by_cases hb : g < w.heap.size
      · exact hb
      · simp [Array.getElem?_eq_none (Nat.le_of_not_lt hb)] at hh
    exact Or.inr ⟨g, cap, cur, hv, hg, by rw [t.block g hb (hF g hg hb)]; exact hh, r⟩
theorem Own.nil (w : World) (base : Nat) (T : TypeId) : Own w base T (.slice none 0 0) [] := ⟨rfl, Or.inl ⟨rfl, rfl⟩⟩

/-- the block that a slice value lies in -/
def InBlock (v : Value) (k : Nat) : Prop := v.ownBlock = some k
theorem Own.block {w : World} {base : Nat} {T : TypeId} {v : Value} {vs : List Value} (h : Own w base T v vs) {k : Nat} (hk : InBlock v k) : base ≤ k ∧ k < w.heap.size := by
  obtain ⟨a, cap, rfl, _, _, hb, _⟩ := h.form
  cases a with
  | none => cases hk
  | some ad =>
    have e : ad.block = k := by simpa [InBlock, Value.ownBlock] using hk
    obtain ⟨h1, _, _, h4⟩ := hb ad rfl
    omega

/-- 'out = append(out, x)', one cell each: out is the call's own -/
theorem wpList_append1 {P : Program} {w : World} {ops : Array Oper} {rest : List Oper} {o : Oper} {a : Act} {Q : Exit → Act → World → Prop} (hgd : o.guard = none) (s x : Operand) (t : TypeId)
    (ho : o.op = .call { callee := .builtin .append, args := #[s, x], argTypes := #[t, t] })
    (base : Nat) (e : TypeId) (i : TypeInfo) (z : Value) (bytes : Nat) (ht : P.underlying t = some (.slice e)) (hi : P.info? e = some i) (hz : i.zero = some z) (hsize : i.size = 1) (hby : i.bytes = bytes) (hzs : z.cells.size = 1)
    (v : Value) (vs : List Value) (u : Value) (hown : Own w base e v vs) (hs : a.eval s = v) (hx : a.eval x = .slice (some ⟨w.heap.size, 0, none⟩) 1 1) (hu : u.oneCell' = true)
    (h63 : vs.length + 1 ≤ maxLen) (hbytes : (vs.length + 1) * bytes ≤ 140737488355328) (hbase : base ≤ w.heap.size)
    (h : ∀ v' w', Own w' base e v' (vs ++ [u]) → Touch (InBlock v) w w' → wpList P ops Q rest (a.put o.dst v') w') : wpList P ops Q (o :: rest) a (w.alloc (.cells #[u] e)) := by
  have hown1 : (w.alloc (.cells #[u] e)).ownsRow base e 1 v vs.length vs :=
    hown.touch (F := No) ((Touch.refl No w).alloc _) (fun _ _ _ f => f)
  refine wpList_append_own _ hgd s x t ho base e i z 1 bytes ht hi hz hsize hby hzs (by decide) v vs.length vs hs hown1 ⟨w.heap.size, 0, none⟩ 1 1 [u] hx rfl ?_ ?_ h63 hbytes (by simp; omega) ?_
  · intro j y hj
    match j, hj with
    | 0, hj =>
      have : u = y := by simpa using hj
      subst this
      show (w.alloc _).cell? (Addr.add ⟨w.heap.size, 0, none⟩ 0) = _
      simp only [Addr.add, if_true]
      rw [cell_new]; rfl
  · intro y hy
    have : y = u := by simpa using hy
    subst this; exact hu
  · intro v' w' h1 h2 _
    refine h v' w' ?_ ?_
    · have : (vs ++ [u]).length = vs.length + 1 := by simp
      rw [Own, this]; exact h1
    · exact ((Touch.refl (InBlock v) w).alloc _).grown h2 (fun k hk _ => hk)

/-- a slice with its length known -/
theorem Own.form' {w : World} {base : Nat} {T : TypeId} {v : Value} {vs : List Value} (h : Own w base T v vs) {n : Nat} (hn : vs.length = n) :
    ∃ a cap, v = .slice a n cap ∧ n ≤ cap ∧ Rd w a vs ∧ (∀ ad, a = some ad → base ≤ ad.block ∧ ad.off = 0 ∧ ad.spot = none ∧ ad.block < w.heap.size) ∧ n ≤ maxLen := by
  subst hn; exact h.form

/-! ### x[l:], x[:h], x[l:h] of a slice of one-cell elements -/
theorem add_zero (a : Option Addr) : a.map (fun x => x.add 0) = a := by cases a <;> simp [Addr.add]
theorem run_head {P : Program} {t e : TypeId} {i : TypeInfo} (ht : P.underlying t = some (.slice e)) (hi : P.info? e = some i) (_hs : i.size = 1) (a : Option Addr) (len cap h : Nat) (k' : IntKind) (h2 : h ≤ cap) (w : World) :
    (Instr.slice t (.slice a len cap) none (some (.int k' (h : Nat))) none).run P w = .ok (.slice a h cap) w := by
  simp [Instr.slice, Instr.sliceBounds, Instr.sliceBound, asIntOf, run_underlying ht, sizeOf, typeInfo, hi, h2, add_zero]
theorem Rd.take {w : World} {a : Option Addr} {vs : List Value} (h : Rd w a vs) (k : Nat) : Rd w a (vs.take k) := by
  intro i v hi
  rw [List.getElem?_take] at hi
  split at hi
  · exact h i v hi
  · cases hi

theorem ret_bool {a b : Bool} (h : a = b) : Ending.returned (.bool a) = .returned (.bool b) := by rw [h]
end Go.Proofs.YtnffigfafalocaaGreatDoor
namespace Go.Proofs.YtnffigfafalocaaGreatDoor
open Go.ChangeShapes Go.WideShapes Go.ChangeAt Go.RowKit

/-- numbers, any sign, as cells -/
def ints (k : IntKind) (zs : List Int) : List Value := zs.map fun z => .int k z
theorem ints_length (k : IntKind) (zs : List Int) : (ints k zs).length = zs.length := by simp [ints]
theorem list_choose {α : Type} {Q : Nat → α → Prop} : ∀ (n : Nat), (∀ i, i < n → ∃ x, Q i x) → ∃ l : List α, l.length = n ∧ ∀ i x, l[i]? = some x → Q i x
  | 0, _ => ⟨[], rfl, fun i x h => by simp at h⟩
  | n + 1, h => by
    obtain ⟨l, hl, hq⟩ := list_choose n (fun i hi => h i (by omega))
    obtain ⟨x, hx⟩ := h n (by omega)
    refine ⟨l ++ [x], by simp [hl], fun i y hy => ?_⟩
    by_cases hi : i < l.length
    · rw [List.getElem?_append_left hi] at hy; exact hq i y hy
    · rw [List.getElem?_append_right (by omega)] at hy
      have : i - l.length = 0 := by
        by_cases h0 : i - l.length = 0
        · exact h0
        · rw [List.getElem?_eq_none (by simp; omega)] at hy; cases hy
      rw [this] at hy
      have e : i = n := by omega
      subst e
      have : x = y := by simpa using hy
      subst this; exact hx

section
variable {H : Type} {enc : TypeId × Value → H} {P : Program} {w : World} {base : Nat} {spare : Nat → Bool} {held : Bool}

theorem spot_of_cell {a : Addr} {v : Value} (h : w.cell? a = some v) : a = ⟨a.block, a.off, none⟩ := by
  unfold World.cell? at h
  split at h
  · cases hs : a.spot with
    | none => cases a; simp_all
    | some s => simp [hs] at h
  · cases h
theorem spot_add {a : Addr} {i : Nat} {v : Value} (h : w.cell? (a.add i) = some v) (h0 : ∃ u, w.cell? a = some u) : a = ⟨a.block, a.off, none⟩ ∧ w.cell? ⟨a.block, a.off + i, none⟩ = some v := by
  obtain ⟨u, hu⟩ := h0
  have e := spot_of_cell hu
  refine ⟨e, ?_⟩
  rw [e] at h
  simp only [Addr.add] at h
  split at h
  · rename_i hi; subst hi; exact h
  · exact h

/-- a slice of numbers that came in -/
theorem open_list {t e : TypeId} {k : IntKind} {fuel : Nat} {cs : List Value} {x : DataW H × List MemPlace} (ht : P.underlying t = some (.slice e)) (he : P.underlying e = some (.int k)) (hc : P.cellsOf e = 1)
    (h : DataW.trod enc P w base (fun _ => true) held fuel t cs = some x) :
    ∃ a cap zs, cs = [.slice a zs.length cap] ∧ zs.length ≤ cap ∧ cap ≤ maxLen ∧ Rd w a (ints k zs) ∧ (∀ z ∈ zs, (Lit.int k z).wf = true) ∧ (cap = 0 ∨ cap * P.bytesOf e ∈ DataW.weights P t x.1) ∧ (∀ ad, a = some ad → base ≤ ad.block) := by
  rcases open_ints ht he hc h with ⟨rfl, rfl⟩ | ⟨a, len, cap, zs, rfl, hb, hl, hm, hz, rfl, hcell, hwf⟩
  · exact ⟨none, 0, [], rfl, Nat.le_refl _, Nat.zero_le _, fun i v hi => by simp [ints] at hi, by simp, Or.inl rfl, fun ad e => by cases e⟩
  · simp only [if_true] at hz
    have hlen : (zs.take len).length = len := by rw [List.length_take]; omega
    refine ⟨some a, cap, zs.take len, by rw [hlen], by rw [hlen]; exact hl, hm, fun i v hi => ?_, fun z hz' => hwf z (List.mem_of_mem_take hz'), Or.inr ?_, fun ad e => by cases e; exact hb⟩
    · have hi' : i < len := by
        rcases Nat.lt_or_ge i len with h | h
        · exact h
        · rw [List.getElem?_eq_none (by rw [ints_length, hlen]; exact h)] at hi; cases hi
      have h0 := hcell 0 (by omega)
      have h1 := hcell i (by omega)
      obtain ⟨e1, e2⟩ := spot_add h1 ⟨_, by simpa [Addr.add] using h0⟩
      refine ⟨a.block, a.off, by rw [← e1], ?_⟩
      rw [e2, ← hi]
      simp only [ints, List.getElem?_map, List.getElem?_take_of_lt hi', List.getD_eq_getElem?_getD, List.getElem?_eq_getElem (show i < zs.length by omega)]
      rfl
    · simp only [DataW.weights, ht, List.mem_cons]
      left
      have : (lits (H := H) k (zs.take len)).length + (lits (H := H) k (zs.drop len)).length = cap := by
        simp [lits]; omega
      rw [this]

/-- the cells of an element -/
theorem cells_elem {a : Addr} {n : Nat} {cs : List Value} (h : w.cells? base a n = some cs) (hn : 0 < n) : cs.length = n ∧ a = ⟨a.block, a.off, none⟩ ∧ ∀ j, j < n → w.cell? ⟨a.block, a.off + j, none⟩ = cs[j]? := by
  obtain ⟨_, hl, hc⟩ := World.cells?_some h
  have h0 := hc 0 hn
  rw [List.getElem?_eq_getElem (by omega)] at h0
  have hsp := spot_of_cell (by simpa [Addr.add] using h0)
  refine ⟨hl, hsp, fun j hj => ?_⟩
  have h1 := hc j hj
  rw [← h1, hsp]
  simp only [Addr.add]
  split
  · rename_i hj0; subst hj0; rfl
  · rfl
end
end Go.Proofs.YtnffigfafalocaaGreatDoor
namespace Go.Proofs.YtnffigfafalocaaGreatDoor
open Go Go.RowKit
/-- bytes as they come in -/
structure Bytes (w : World) (a : Option Addr) (n c : Nat) (b : List Nat) : Prop where
  len : b.length = n
  cap : n ≤ c
  max : (c : Int) ≤ 140737488351232
  rd : Rd w a (nums .u8 b)
  lt : ∀ x ∈ b, x < 256
end Go.Proofs.YtnffigfafalocaaGreatDoor
namespace Go.Proofs.YtnffigfafalocaaGreatDoor
open Go.ChangeShapes Go.WideShapes Go.ChangeAt Go.RowKit

section
variable {H : Type} {enc : TypeId × Value → H} {P : Program}

theorem trodAll_below (hl : laidOutB P = true) {W W' : World} (hb : Below W.heap.size W W') : ∀ (ts : List TypeId) (vs : List Value) (ds : List (DataW H)) (ps : List MemPlace),
    (∀ t ∈ ts, P.readableRec t = true ∧ t < P.types.size) → DataW.TrodAll enc P W 0 (fun _ => true) true ts vs ds ps → (∀ x ∈ ps, x.block < W.heap.size) →
    DataW.TrodAll enc P W' 0 (fun b => decide (b < W.heap.size)) true ts vs ds ps
  | [], vs, ds, ps, _, h, _ => by
    obtain ⟨rfl, rfl, rfl⟩ := trodAll_nil h
    exact trodAll_mk0
  | t :: ts, vs, ds, ps, ht, h, hlt => by
    obtain ⟨v0, vs0, d0, ds0, p0, q0, rfl, rfl, rfl, h0, r0⟩ := trodAll_cons h
    exact trodAll_cons_mk (Below.trod hl (ht t (by simp)).1 (ht t (by simp)).2 h0 hb fun x hx => hlt x (by simp [hx]))
      (trodAll_below hl hb ts vs0 ds0 q0 (fun t h => ht t (by simp [h])) r0 fun x hx => hlt x (by simp [hx]))

/-- THE END OF A LAW: it says true, and of what was there nothing has turned. -/
theorem law_post {f : Func} {s : ChangeSpec} {tb : TypeId} (hl : laidOutB P = true) (hr : f.params.toList.all (fun t => P.readableRec t && decide (t < P.types.size)) = true) (hv : s.vars = [])
    (hres : f.resultTypes = #[tb]) (htb : P.underlying tb = some .bool) {W W' : World} {args : Array Value} {ds gs : List (DataW H)} {before : List MemPlace}
    (hW : DataW.Whole enc P f.params.toList s.vars false W args.toList ds gs before) (hfn : s.fn H ds = { results := [.lit (.bool true)], args := ds }) (hb : Below W.heap.size W W') :
    s.post enc P f false true false false W args (.bool true) W' := by
  have hlt := hW.lt
  have hW0 := hW
  obtain ⟨p, q, hA, hV, rfl, _, _⟩ := hW0
  rw [hv] at hV
  obtain ⟨rfl, rfl⟩ := trodVars_none hV
  have hA' : DataW.TrodAll enc P W' 0 (fun b => decide (b < W.heap.size)) true f.params.toList args.toList ds p :=
    trodAll_below hl hb _ _ _ _ (fun t ht => by simpa using List.all_eq_true.1 hr t ht) hA (fun x hx => by simpa using hlt x (by simpa using hx))
  refine ⟨ds, [], p ++ [], [], p, [], hW, ?_, ?_, ?_, hb.frame _, fun h => by cases h⟩
  · rw [List.append_nil, hfn, hres]
    exact trodAll_cons_mk (shut_bool htb _) trodAll_mk0
  · rw [List.append_nil, hfn]; exact hA'
  · rw [List.append_nil, hfn, hv]
    exact rfl
end
end Go.Proofs.YtnffigfafalocaaGreatDoor
namespace Go.Proofs.YtnffigfafalocaaGreatDoor
open Go.ChangeShapes Go.WideShapes Go.ChangeAt Go.RowKit
theorem own : ownKnob Tryz.prog.godebug = none := by kernel_rfl
theorem laidOut : laidOutB Tryz.prog = true := by kernel_rfl
end Go.Proofs.YtnffigfafalocaaGreatDoor
namespace Go.Proofs.YtnffigfafalocaaGreatDoor
open Go.ChangeShapes Go.WideShapes Go.ChangeAt Go.RowKit

section
variable {H : Type} {enc : TypeId × Value → H} {w : World}
theorem wf_u32 {n : Int} (h : (Lit.int .u32 n).wf = true) : ∃ m : Nat, n = (m : Nat) ∧ m < 4294967296 := by
  have := bounds_u32 h
  exact ⟨n.toNat, by omega, by omega⟩

end
end Go.Proofs.YtnffigfafalocaaGreatDoor
namespace Go.Proofs.YtnffigfafalocaaGreatDoor
open Go.ChangeShapes Go.WideShapes Go.ChangeAt Go.RowKit

section
variable {H : Type} {enc : TypeId × Value → H} {w : World}
end
end Go.Proofs.YtnffigfafalocaaGreatDoor
namespace Go.Proofs.YtnffigfafalocaaGreatDoor
open Go.ChangeShapes Go.WideShapes Go.ChangeAt Go.RowKit

def tab64 : Array Value := (Lib.deBruijn64tab.map fun (n : Nat) => Value.int .u8 n).toArray
def tab32 : Array Value := (Lib.deBruijn32tab.map fun (n : Nat) => Value.int .u8 n).toArray
def tabPow : Array Value := ([1, 10, 100, 1000, 10000, 100000, 1000000, 10000000, 100000000, 1000000000, 10000000000, 100000000000, 1000000000000, 10000000000000, 100000000000000, 1000000000000000, 10000000000000000, 100000000000000000, 1000000000000000000, 10000000000000000000].map fun (n : Nat) => Value.int .u64 n).toArray
def tabFirst : Array Value := (Go.Pinned.utf8FirstZ.map fun (n : Nat) => Value.int .u8 n).toArray
def tabRanges : Array Value := ([128, 191, 160, 191, 128, 159, 144, 191, 128, 143].map (fun (n : Nat) => Value.int .u8 n) ++ List.replicate 22 (Value.int .u8 0)).toArray
def layTab (c : Array Value) : Obj → Obj
  | .cells _ t frozen => .cells c t frozen
  | o => o
noncomputable def laidWorld (os : Os) : World :=
  { World.holding Tryz.prog os ⟨#[], #[], []⟩ with heap := (((((World.holding Tryz.prog os ⟨#[], #[], []⟩).heap.modify 2 (layTab tabFirst)).modify 3 (layTab tabRanges)).modify 1 (layTab tab64)).modify 5 (layTab tab32)).modify 4 (layTab tabPow) }
end Go.Proofs.YtnffigfafalocaaGreatDoor
namespace Go.Proofs.YtnffigfafalocaaGreatDoor
open Go Go.RowKit

/-- an act as it lies in memory -/
structure ADeed where
  kind : Nat
  id : Nat
  bytes : Int
  t_s : List Int
  t_s_a : Option Addr
  t_s_cap : Nat
  t_l : List Int
  t_l_a : Option Addr
  t_l_cap : Nat
def ADeed.cells (x : ADeed) : List Value := [.int .u8 (x.kind : Nat), .int .u32 (x.id : Nat), .int .i64 x.bytes, .slice x.t_s_a x.t_s.length x.t_s_cap, .slice x.t_l_a x.t_l.length x.t_l_cap]
structure ADeedAt (w : World) (c o : Nat) (x : ADeed) : Prop where
  cell : ∀ j, j < 5 → w.cell? ⟨c, o + j, none⟩ = x.cells[j]?
  kind_lt : x.kind < 256
  id_lt : x.id < 4294967296
  bytes_in : -9223372036854775808 ≤ x.bytes ∧ x.bytes ≤ 9223372036854775807
  t_s_rd : Rd w x.t_s_a (ints .i64 x.t_s)
  t_s_le : x.t_s.length ≤ x.t_s_cap
  t_s_max : (x.t_s_cap : Int) * 8 ≤ 140737488355328
  t_s_each : ∀ y ∈ x.t_s, (Lit.int .i64 y).wf = true
  t_l_rd : Rd w x.t_l_a (ints .i32 x.t_l)
  t_l_le : x.t_l.length ≤ x.t_l_cap
  t_l_max : (x.t_l_cap : Int) * 4 ≤ 140737488355328
  t_l_each : ∀ y ∈ x.t_l, (Lit.int .i32 y).wf = true
theorem ADeed.some (x : ADeed) {j : Nat} (hj : j < 5) : ∃ v, x.cells[j]? = Option.some v := ⟨_, List.getElem?_eq_getElem hj⟩
theorem ADeedAt.touch {w w' : World} {c o : Nat} {x : ADeed} (h : ADeedAt w c o x) (t : Touch No w w') : ADeedAt w' c o x :=
  { h with
    cell := fun j hj => by
      obtain ⟨v, hv⟩ := x.some hj
      have := h.cell j hj
      rw [hv] at this ⊢
      exact t.cell (fun f => f) this
    t_s_rd := h.t_s_rd.no t
    t_l_rd := h.t_l_rd.no t
  }
/-- the slice at ad reads as these acts -/
def IsADeeds (w : World) (ad : Option Addr) (acts : List ADeed) : Prop := ∀ i x, acts[i]? = some x → ∃ c o, ad = some ⟨c, o, none⟩ ∧ ADeedAt w c (o + i * 5) x
theorem IsADeeds.touch {w w' : World} {ad : Option Addr} {acts : List ADeed} (h : IsADeeds w ad acts) (t : Touch No w w') : IsADeeds w' ad acts := fun i x hx =>
  let ⟨c, o, e, ha⟩ := h i x hx; ⟨c, o, e, ha.touch t⟩
end Go.Proofs.YtnffigfafalocaaGreatDoor
