/-
  Base for the walks of this seat: what a call may turn ('Touch'), slices that read as lists ('Rd'), small facts on worlds. No program in sight.
-/
import Derived.WalkKit
import Derived.WalkSpells
import Derived.WalkLawsBesides
import Derived.WalkMore
import Derived.Deep.QuietTactic
import Derived.BigQuiet
import Derived.Lib.Hide
namespace Go.Proofs.YtnffigfafalocaaGreatDoor
open Go Go.RowKit

/-- Of what was there only the blocks of F may have turned. -/
structure Touch (F : Nat → Prop) (w w' : World) : Prop where
  os : w'.os = w.os
  tape : w'.tape = w.tape
  output : w'.output = w.output
  size : w.heap.size ≤ w'.heap.size
  block : ∀ k, k < w.heap.size → ¬ F k → w'.heap[k]? = w.heap[k]?

/-- nothing turns -/
def No (_ : Nat) : Prop := False
/-- one block turns -/
def One (b : Nat) (k : Nat) : Prop := k = b

theorem Touch.refl (F : Nat → Prop) (w : World) : Touch F w w := ⟨rfl, rfl, rfl, Nat.le_refl _, fun _ _ _ => rfl⟩
theorem Touch.drew {F : Nat → Prop} {a w : World} (h : Touch F a w) : Touch F a w.drew := ⟨h.os, h.tape, h.output, h.size, h.block⟩
theorem Touch.drewN {F : Nat → Prop} {a w : World} (h : Touch F a w) (n : Nat) : Touch F a (w.drewN n) := ⟨h.os, h.tape, h.output, h.size, h.block⟩
theorem Touch.trans {F : Nat → Prop} {a b c : World} (h : Touch F a b) (k : Touch F b c) : Touch F a c :=
  ⟨k.os.trans h.os, k.tape.trans h.tape, k.output.trans h.output, Nat.le_trans h.size k.size, fun i hi hF => (k.block i (Nat.lt_of_lt_of_le hi h.size) hF).trans (h.block i hi hF)⟩
theorem Touch.mono {F G : Nat → Prop} {a b : World} (h : Touch F a b) (hg : ∀ k, k < a.heap.size → F k → G k) : Touch G a b :=
  ⟨h.os, h.tape, h.output, h.size, fun i hi hG => h.block i hi (fun hF => hG (hg i hi hF))⟩
theorem Touch.no {F : Nat → Prop} {a b : World} (h : Touch No a b) : Touch F a b := h.mono (fun _ _ f => f.elim)
/-- a second step that turns what the first one made, or what may turn -/
theorem Touch.then {F G : Nat → Prop} {a b c : World} (h : Touch F a b) (k : Touch G b c) (hg : ∀ i, i < a.heap.size → G i → F i) : Touch F a c :=
  ⟨k.os.trans h.os, k.tape.trans h.tape, k.output.trans h.output, Nat.le_trans h.size k.size,
    fun i hi hF => (k.block i (Nat.lt_of_lt_of_le hi h.size) (fun hG => hF (hg i hi hG))).trans (h.block i hi hF)⟩
theorem Touch.alloc {F : Nat → Prop} {a w : World} (h : Touch F a w) (o : Obj) : Touch F a (w.alloc o) :=
  ⟨h.os, h.tape, h.output, by have := h.size; simp; omega, fun k hk hF => (Below.heap_alloc _ _ _ (Nat.lt_of_lt_of_le hk h.size)).trans (h.block k hk hF)⟩
theorem Touch.setCell {F : Nat → Prop} {a w : World} (h : Touch F a w) {p : Addr} (hp : p.block < a.heap.size → F p.block) (u : Value) : Touch F a (w.setCell p u) :=
  ⟨h.os, h.tape, h.output, by simpa [World.setCell] using h.size,
    fun k hk hF => (Below.heap_setCell _ _ _ _ (fun e => hF (by subst e; exact hp hk))).trans (h.block k hk hF)⟩
theorem Touch.grown {F : Nat → Prop} {a w w' : World} {row : Option Nat} (h : Touch F a w) (hg : w.grownBy w' row) (hr : ∀ k, row = some k → k < a.heap.size → F k) : Touch F a w' :=
  ⟨hg.os.trans h.os, hg.tape.trans h.tape, hg.output.trans h.output, Nat.le_trans h.size hg.size,
    fun k hk hF => (hg.block k (Nat.lt_of_lt_of_le hk h.size) (fun e => hF (hr k e.symm hk))).trans (h.block k hk hF)⟩
theorem Touch.below {F : Nat → Prop} {w w' : World} (h : Touch F w w') {B : Nat} (hB : B ≤ w.heap.size) (hF : ∀ k, k < B → ¬ F k) : Below B w w' :=
  ⟨h.os, h.tape, h.output, h.size, fun k hk => h.block k (Nat.lt_of_lt_of_le hk hB) (hF k hk)⟩
theorem Touch.of_below {B : Nat} {w w' : World} (h : Below B w w') : Touch (fun k => B ≤ k) w w' :=
  ⟨h.os, h.tape, h.output, h.size, fun k _ hk => h.block k (Nat.lt_of_not_le hk)⟩

theorem lt_of_cell {w : World} {b o : Nat} {v : Value} (h : w.cell? ⟨b, o, none⟩ = some v) : b < w.heap.size := by
  by_cases hb : b < w.heap.size
  · exact hb
  · simp [World.cell?, Array.getElem?_eq_none (Nat.le_of_not_lt hb)] at h
theorem Touch.cell {F : Nat → Prop} {w w' : World} (h : Touch F w w') {b o : Nat} {v : Value} (hF : ¬ F b) (hc : w.cell? ⟨b, o, none⟩ = some v) : w'.cell? ⟨b, o, none⟩ = some v := by
  rw [← hc]; exact World.cell?_of_block (a := ⟨b, o, none⟩) (h.block b (lt_of_cell hc) hF)
theorem Touch.frozen {F : Nat → Prop} {w w' : World} (h : Touch F w w') {b : Nat} (hb : b < w.heap.size) (hF : ¬ F b) (o : Nat) : w'.frozen? ⟨b, o, none⟩ = w.frozen? ⟨b, o, none⟩ :=
  World.frozen?_of_block (a := ⟨b, o, none⟩) (h.block b hb hF)

theorem cell_old (w : World) (o : Obj) {b f : Nat} (h : b < w.heap.size) : (w.alloc o).cell? ⟨b, f, none⟩ = w.cell? ⟨b, f, none⟩ :=
  World.cell?_of_block (a := ⟨b, f, none⟩) (Below.heap_alloc _ _ _ h)
theorem cell_new (w : World) (c : Array Value) (T : TypeId) (fr : Nat × Nat) (f : Nat) : (w.alloc (.cells c T fr)).cell? ⟨w.heap.size, f, none⟩ = c[f]? := by
  show (match (w.heap.push (.cells c T fr))[w.heap.size]? with | some (.cells c _ _) => if (none : Option Nat).isSome then none else c[f]? | _ => none) = _
  simp
theorem size_alloc (w : World) (o : Obj) : (w.alloc o).heap.size = w.heap.size + 1 := by simp
theorem frozen_old (w : World) (o : Obj) {b f : Nat} (h : b < w.heap.size) : (w.alloc o).frozen? ⟨b, f, none⟩ = w.frozen? ⟨b, f, none⟩ :=
  World.frozen?_of_block (a := ⟨b, f, none⟩) (Below.heap_alloc _ _ _ h)
theorem frozen_new (w : World) (c : Array Value) (T : TypeId) (f : Nat) : (w.alloc (.cells c T)).frozen? ⟨w.heap.size, f, none⟩ = false := by
  show (match (w.heap.push (.cells c T))[w.heap.size]? with | some (.cells _ _ (lo, hi)) => decide (lo ≤ f) && decide (f < hi) | _ => false) = _
  simp
theorem cell_set {w : World} {b o : Nat} {u v : Value} (h : w.cell? ⟨b, o, none⟩ = some u) : (w.setCell ⟨b, o, none⟩ v).cell? ⟨b, o, none⟩ = some v :=
  World.cell?_setCell_same w _ v h
theorem cell_set_ne {w : World} {b o b' o' : Nat} {v : Value} (h : b ≠ b' ∨ o ≠ o') : (w.setCell ⟨b, o, none⟩ v).cell? ⟨b', o', none⟩ = w.cell? ⟨b', o', none⟩ :=
  World.cell?_setCell_other w _ _ v (fun e => by simp only [Addr.mk.injEq, and_true] at e; rcases h with h | h; exact h e.1; exact h e.2)

/-- the slice at a reads as the values vs, one cell each -/
def Rd (w : World) (a : Option Addr) (vs : List Value) : Prop :=
  ∀ (i : Nat) (v : Value), vs[i]? = some v → ∃ b o, a = some ⟨b, o, none⟩ ∧ w.cell? ⟨b, o + i, none⟩ = some v
theorem Rd.touch {F : Nat → Prop} {w w' : World} {a : Option Addr} {vs : List Value} (h : Rd w a vs) (t : Touch F w w') (hF : ∀ b o, a = some ⟨b, o, none⟩ → b < w.heap.size → ¬ F b) : Rd w' a vs := by
  intro i v hi
  obtain ⟨b, o, e, hc⟩ := h i v hi
  exact ⟨b, o, e, t.cell (hF b o e (lt_of_cell hc)) hc⟩
theorem Rd.no {w w' : World} {a : Option Addr} {vs : List Value} (h : Rd w a vs) (t : Touch No w w') : Rd w' a vs := h.touch t (fun _ _ _ _ f => f)
theorem Rd.nil (w : World) (a : Option Addr) : Rd w a [] := fun i v hi => by simp at hi

/-- numbers as cells -/
def nums (k : IntKind) (xs : List Nat) : List Value := xs.map fun (x : Nat) => .int k (x : Int)
theorem nums_length (k : IntKind) (xs : List Nat) : (nums k xs).length = xs.length := by simp [nums]
theorem nums_append (k : IntKind) (xs ys : List Nat) : nums k (xs ++ ys) = nums k xs ++ nums k ys := by simp [nums]
theorem nums_get {k : IntKind} {xs : List Nat} {i : Nat} (h : i < xs.length) : (nums k xs)[i]? = some (.int k ((xs.getD i 0 : Nat) : Int)) := by
  simp [nums, List.getElem?_map, List.getElem?_eq_getElem h, List.getD_eq_getElem?_getD]
theorem nums_one (k : IntKind) (xs : List Nat) : ∀ u ∈ nums k xs, u.oneCell' = true := by
  intro u hu
  obtain ⟨x, _, rfl⟩ := List.mem_map.1 hu
  rfl
theorem Rd.num {w : World} {k : IntKind} {a : Option Addr} {xs : List Nat} (h : Rd w a (nums k xs)) {i : Nat} (hi : i < xs.length) :
    ∃ b o, a = some ⟨b, o, none⟩ ∧ w.cell? ⟨b, o + i, none⟩ = some (.int k ((xs.getD i 0 : Nat) : Int)) := h i _ (nums_get hi)

/-- a slice of its own: new memory from base on -/
def Own (w : World) (base : Nat) (T : TypeId) (v : Value) (vs : List Value) : Prop := w.ownsRow base T 1 v vs.length vs

theorem Own.form {w : World} {base : Nat} {T : TypeId} {v : Value} {vs : List Value} (h : Own w base T v vs) :
    ∃ a cap, v = .slice a vs.length cap ∧ vs.length ≤ cap ∧ Rd w a vs ∧ (∀ ad, a = some ad → base ≤ ad.block ∧ ad.off = 0 ∧ ad.spot = none ∧ ad.block < w.heap.size) ∧ vs.length ≤ maxLen := by
  obtain ⟨hl, h⟩ := h
  rcases h with ⟨rfl, h0⟩ | ⟨g, cap, cur, rfl, hg, hh, hn, hc, hs, ht⟩
  · refine ⟨none, 0, by rw [h0], by omega, fun i v hi => ?_, fun ad e => (by cases e), by rw [h0]; exact Nat.zero_le _⟩
    rw [List.getElem?_eq_none (by omega)] at hi; cases hi
  · have hb : g < w.heap.size := by
      by_cases hb : g < w.heap.size
      · exact hb
      · simp [Array.getElem?_eq_none (Nat.le_of_not_lt hb)] at hh
    refine ⟨_, cap, rfl, hn, fun i v hi => ⟨g, 0, rfl, ?_⟩, fun ad e => ?_, by omega⟩
    · rw [← ht, List.getElem?_take] at hi
      split at hi
      · simp only [World.cell?, hh, Nat.zero_add]; simpa using hi
      · cases hi
    · cases e; exact ⟨hg, rfl, rfl, hb⟩
theorem Own.touch {F : Nat → Prop} {w w' : World} {base : Nat} {T : TypeId} {v : Value} {vs : List Value} (h : Own w base T v vs) (t : Touch F w w') (hF : ∀ b, base ≤ b → b < w.heap.size → ¬ F b) : Own w' base T v vs := by
  obtain ⟨hl, h⟩ := h
  refine ⟨hl, ?_⟩
  rcases h with h | ⟨g, cap, cur, hv, hg, hh, r⟩
  · exact Or.inl h
  · have hb : g < w.heap.size := by
      by_cases hb : g < w.heap.size
      · exact hb
      · simp [Array.getElem?_eq_none (Nat.le_of_not_lt hb)] at hh
    exact Or.inr ⟨g, cap, cur, hv, hg, by rw [t.block g hb (hF g hg hb)]; exact hh, r⟩
theorem Own.mono {w : World} {base base' : Nat} {T : TypeId} {v : Value} {vs : List Value} (h : Own w base T v vs) (hb : base' ≤ base) : Own w base' T v vs := by
  obtain ⟨hl, h⟩ := h
  refine ⟨hl, ?_⟩
  rcases h with h | ⟨g, cap, cur, hv, hg, r⟩
  · exact Or.inl h
  · exact Or.inr ⟨g, cap, cur, hv, Nat.le_trans hb hg, r⟩
theorem Own.nil (w : World) (base : Nat) (T : TypeId) : Own w base T (.slice none 0 0) [] := ⟨rfl, Or.inl ⟨rfl, rfl⟩⟩

/-- the block that a slice value lies in -/
def InBlock (v : Value) (k : Nat) : Prop := v.ownBlock = some k
theorem Own.block {w : World} {base : Nat} {T : TypeId} {v : Value} {vs : List Value} (h : Own w base T v vs) {k : Nat} (hk : InBlock v k) : base ≤ k ∧ k < w.heap.size := by
  obtain ⟨a, cap, rfl, _, _, hb, _⟩ := h.form
  cases a with
  | none => cases hk
  | some ad =>
    have e : ad.block = k := by simpa [InBlock, Value.ownBlock] using hk
    obtain ⟨h1, _, _, h4⟩ := hb ad rfl
    omega

/-- 'out = append(out, x)', one cell each: out is the call's own -/
theorem wpList_append1 {P : Program} {w : World} {ops : Array Oper} {rest : List Oper} {o : Oper} {a : Act} {Q : Exit → Act → World → Prop} (hgd : o.guard = none) (s x : Operand) (t : TypeId)
    (ho : o.op = .call { callee := .builtin .append, args := #[s, x], argTypes := #[t, t] })
    (base : Nat) (e : TypeId) (i : TypeInfo) (z : Value) (bytes : Nat) (ht : P.underlying t = some (.slice e)) (hi : P.info? e = some i) (hz : i.zero = some z) (hsize : i.size = 1) (hby : i.bytes = bytes) (hzs : z.cells.size = 1)
    (v : Value) (vs : List Value) (u : Value) (hown : Own w base e v vs) (hs : a.eval s = v) (hx : a.eval x = .slice (some ⟨w.heap.size, 0, none⟩) 1 1) (hu : u.oneCell' = true)
    (h63 : vs.length + 1 ≤ maxLen) (hbytes : (vs.length + 1) * bytes ≤ 140737488355328) (hbase : base ≤ w.heap.size)
    (h : ∀ v' w', Own w' base e v' (vs ++ [u]) → Touch (InBlock v) w w' → wpList P ops Q rest (a.put o.dst v') w') : wpList P ops Q (o :: rest) a (w.alloc (.cells #[u] e)) := by
  have hown1 : (w.alloc (.cells #[u] e)).ownsRow base e 1 v vs.length vs :=
    hown.touch (F := No) ((Touch.refl No w).alloc _) (fun _ _ _ f => f)
  refine wpList_append_own _ hgd s x t ho base e i z 1 bytes ht hi hz hsize hby hzs (by decide) v vs.length vs hs hown1 ⟨w.heap.size, 0, none⟩ 1 1 [u] hx rfl ?_ ?_ h63 hbytes (by simp; omega) ?_
  · intro j y hj
    match j, hj with
    | 0, hj =>
      have : u = y := by simpa using hj
      subst this
      show (w.alloc _).cell? (Addr.add ⟨w.heap.size, 0, none⟩ 0) = _
      simp only [Addr.add, if_true]
      rw [cell_new]; rfl
  · intro y hy
    have : y = u := by simpa using hy
    subst this; exact hu
  · intro v' w' h1 h2 _
    refine h v' w' ?_ ?_
    · have : (vs ++ [u]).length = vs.length + 1 := by simp
      rw [Own, this]; exact h1
    · exact ((Touch.refl (InBlock v) w).alloc _).grown h2 (fun k hk _ => hk)

/-- a slice with its length known -/
theorem Own.form' {w : World} {base : Nat} {T : TypeId} {v : Value} {vs : List Value} (h : Own w base T v vs) {n : Nat} (hn : vs.length = n) :
    ∃ a cap, v = .slice a n cap ∧ n ≤ cap ∧ Rd w a vs ∧ (∀ ad, a = some ad → base ≤ ad.block ∧ ad.off = 0 ∧ ad.spot = none ∧ ad.block < w.heap.size) ∧ n ≤ maxLen := by
  subst hn; exact h.form

/-! ### x[l:], x[:h], x[l:h] of a slice of one-cell elements -/
def cutAddr (a : Option Addr) (cap l : Nat) : Option Addr := if cap = l then a else a.map (·.add l)
theorem run_cut {P : Program} {t e : TypeId} {i : TypeInfo} (ht : P.underlying t = some (.slice e)) (hi : P.info? e = some i) (hs : i.size = 1) (a : Option Addr) (len cap l : Nat) (k : IntKind) (h1 : l ≤ len) (w : World) :
    (Instr.slice t (.slice a len cap) (some (.int k (l : Nat))) none none).run P w = .ok (.slice (cutAddr a cap l) (len - l) (cap - l)) w := by
  have e1 : ¬ ((l : Int) < 0) := by omega
  simp [Instr.slice, Instr.sliceBounds, Instr.sliceBound, asIntOf, run_underlying ht, sizeOf, typeInfo, hi, hs, cutAddr, h1]
theorem run_cut2 {P : Program} {t e : TypeId} {i : TypeInfo} (ht : P.underlying t = some (.slice e)) (hi : P.info? e = some i) (hs : i.size = 1) (a : Option Addr) (len cap l h : Nat) (k k' : IntKind) (h1 : l ≤ h) (h2 : h ≤ cap) (w : World) :
    (Instr.slice t (.slice a len cap) (some (.int k (l : Nat))) (some (.int k' (h : Nat))) none).run P w = .ok (.slice (cutAddr a cap l) (h - l) (cap - l)) w := by
  simp [Instr.slice, Instr.sliceBounds, Instr.sliceBound, asIntOf, run_underlying ht, sizeOf, typeInfo, hi, hs, cutAddr, h1, h2]
theorem add_zero (a : Option Addr) : a.map (fun x => x.add 0) = a := by cases a <;> simp [Addr.add]
theorem run_head {P : Program} {t e : TypeId} {i : TypeInfo} (ht : P.underlying t = some (.slice e)) (hi : P.info? e = some i) (_hs : i.size = 1) (a : Option Addr) (len cap h : Nat) (k' : IntKind) (h2 : h ≤ cap) (w : World) :
    (Instr.slice t (.slice a len cap) none (some (.int k' (h : Nat))) none).run P w = .ok (.slice a h cap) w := by
  simp [Instr.slice, Instr.sliceBounds, Instr.sliceBound, asIntOf, run_underlying ht, sizeOf, typeInfo, hi, h2, add_zero]
theorem Rd.cut {w : World} {a : Option Addr} {vs : List Value} (h : Rd w a vs) {cap l : Nat} (hcap : vs.length ≤ cap) : Rd w (cutAddr a cap l) (vs.drop l) := by
  intro i v hi
  rw [List.getElem?_drop] at hi
  obtain ⟨b, o, rfl, hc⟩ := h _ v hi
  have hlt : l + i < vs.length := by
    rcases Nat.lt_or_ge (l + i) vs.length with h | h
    · exact h
    · rw [List.getElem?_eq_none h] at hi; cases hi
  refine ⟨b, o + l, ?_, by rw [Nat.add_assoc]; exact hc⟩
  rw [cutAddr, if_neg (by omega)]
  simp only [Option.map_some, Addr.add]
  split
  · rename_i h0; subst h0; rfl
  · rfl
theorem Rd.take {w : World} {a : Option Addr} {vs : List Value} (h : Rd w a vs) (k : Nat) : Rd w a (vs.take k) := by
  intro i v hi
  rw [List.getElem?_take] at hi
  split at hi
  · exact h i v hi
  · cases hi

theorem ret_bool {a b : Bool} (h : a = b) : Ending.returned (.bool a) = .returned (.bool b) := by rw [h]
end Go.Proofs.YtnffigfafalocaaGreatDoor
