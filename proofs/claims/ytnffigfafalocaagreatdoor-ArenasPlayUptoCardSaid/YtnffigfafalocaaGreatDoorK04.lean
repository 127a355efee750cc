/-
  The plain mathematics of roots: numbers as four bytes, sums of bytes, a root's bytes. No program in sight.
  Rows of many cells: whole arrays and structs loaded out of, and stored into, the middle of a block. No program in sight.
  Package nums by its own text: put, PutFour, four, GetFour.
  The plain mathematics of lists of numbers as bytes (chapter 1). No program in sight.
  Package nums by its own text: as (both), and what a list that is filled from its first one on holds.
  Tensors as they lie in memory: clones and clips of their lists, shapes, tensors.Check, tensors.Same.
  States that stand beside each other, each in blocks of its own. No program in sight.
-/
import Derived.Test.YtnffigfafalocaaGreatDoorK01
import Derived.KernelRfl
import Derived.Laws.Rows
import Derived.Laws.Tables
import Derived.Laws.CopyRow
import Derived.Test.YtnffigfafalocaaGreatDoorProg
import Derived.Test.YtnffigfafalocaaGreatDoorK03
import Derived.Deep.LoopGhost
import Derived.Laws.MakeOwn
import Derived.Laws.CopyOwn
import Derived.Laws.BitsAllLaws
import Derived.Test.YtnffigfafalocaaGreatDoorRows
import Derived.Lib.SliceRun
import Derived.Deep.QuietTactic
import Derived.BigQuiet
import Derived.Deep.RegionLawGrows
namespace Go.Proofs.YtnffigfafalocaaGreatDoor
open Go Go.RowKit
namespace Rt

/-! ### four bytes -/
def four (n : Nat) : List Nat := [n % 256, n / 256 % 256, n / 65536 % 256, n / 16777216 % 256]
def unfour (b : List Nat) : Nat := b.getD 0 0 + 256 * b.getD 1 0 + 65536 * b.getD 2 0 + 16777216 * b.getD 3 0
theorem four_length (n : Nat) : (four n).length = 4 := rfl
/-! ### sums -/
def half1 (r : Nat) : Nat := if r % 2 = 1 then r / 2 ^^^ 3988292384 else r / 2
def halves : Nat → Nat → Nat
  | 0, r => r
  | k + 1, r => halves k (half1 r)
def tab (n : Nat) : Nat := halves 8 n
def step (r c : Nat) : Nat := tab (r % 256 ^^^ c) ^^^ r / 256
def neg (r : Nat) : Nat := 4294967295 - r
def run (r : Nat) : List Nat → Nat
  | [] => r
  | c :: b => run (step r c) b
def on (sum : Nat) (b : List Nat) : Nat := neg (run (neg sum) b)
def of (b : List Nat) : Nat := on 0 b
/-! ### a root's bytes -/
structure Root where
  epoch : Nat
  first : Nat
  bytes : Nat
def mark : List Nat := [82, 79, 79, 84]
def head (r : Root) : List Nat := mark ++ four r.epoch ++ four r.first ++ four r.bytes
def put (r : Root) : List Nat := head r ++ four (of (head r)) ++ List.replicate 44 0
/-! ### one byte turned -/
end Rt
end Go.Proofs.YtnffigfafalocaaGreatDoor
namespace Go.Proofs.YtnffigfafalocaaGreatDoor
open Go Go.RowKit

/-- block g is a row of these cells -/
def Row (w : World) (g : Nat) (T : TypeId) (l : List Value) : Prop := w.heap[g]? = some (.cells l.toArray T (0, 0))
def splice (l : List Value) (o : Nat) (vs : List Value) : List Value := l.take o ++ vs ++ l.drop (o + vs.length)
theorem Row.lt {w : World} {g : Nat} {T : TypeId} {l : List Value} (h : Row w g T l) : g < w.heap.size := by
  by_cases hb : g < w.heap.size
  · exact hb
  · rw [Row, Array.getElem?_eq_none (Nat.le_of_not_lt hb)] at h; cases h
theorem Row.touch {F : Nat → Prop} {w w' : World} {g : Nat} {T : TypeId} {l : List Value} (h : Row w g T l) (t : Touch F w w') (hF : ¬ F g) : Row w' g T l := by
  rw [Row, t.block g h.lt hF]; exact h
theorem Row.cell {w : World} {g : Nat} {T : TypeId} {l : List Value} (h : Row w g T l) (o : Nat) : w.cell? ⟨g, o, none⟩ = l[o]? := by
  simp only [World.cell?]; rw [h]; simp
theorem Row.soft {w : World} {g : Nat} {T : TypeId} {l : List Value} (h : Row w g T l) (o : Nat) : w.frozen? ⟨g, o, none⟩ = false := by
  simp only [World.frozen?]; rw [h]; simp
theorem Row.new (w : World) (T : TypeId) (c : Array Value) : Row (w.alloc (.cells c T)) w.heap.size T c.toList := by
  rw [Row, Array.toArray_toList]; exact heap_alloc_new w _
theorem Row.setCell {w : World} {g : Nat} {T : TypeId} {l : List Value} (h : Row w g T l) (o : Nat) (v : Value) : Row (w.setCell ⟨g, o, none⟩ v) g T (l.set o v) := by
  rw [setCell_eq_setRow w g o _ T (0, 0) v h]
  have := setRow_heap w g l.toArray (l.toArray.setIfInBounds o v) T (0, 0) h
  rw [Row, this]; simp
section
variable {P : Program}

theorem add_off (g o j : Nat) : (⟨g, o, none⟩ : Addr).add j = ⟨g, o + j, none⟩ := by unfold Addr.add; split <;> simp_all

end
end Go.Proofs.YtnffigfafalocaaGreatDoor
namespace Go.Proofs.YtnffigfafalocaaGreatDoor
open Go Go.RowKit
set_option linter.unusedSimpArgs false

/-- what a type's zero and room are (one cell) -/
theorem one_info {T : TypeId} {k : IntKind} {bytes : Nat} (h : (Tryz.prog.info? T).map (fun i => (i.zero, i.size, i.bytes)) = some (some (.int k 0), 1, bytes)) :
    ∃ i, Tryz.prog.info? T = some i ∧ i.zero = some (.int k 0) ∧ i.size = 1 ∧ i.bytes = bytes := by
  cases hi : Tryz.prog.info? T with
  | none => simp [hi] at h
  | some i =>
    rw [hi] at h
    simp only [Option.map_some, Option.some.injEq, Prod.mk.injEq] at h
    exact ⟨i, rfl, h.1, h.2.1, h.2.2⟩
theorem u8_info : ∃ i, Tryz.prog.info? 5 = some i ∧ i.zero = some (.int .u8 0) ∧ i.size = 1 ∧ i.bytes = 1 := one_info (by kernel_rfl)

/-! ### four, GetFour -/
end Go.Proofs.YtnffigfafalocaaGreatDoor
namespace Go.Proofs.YtnffigfafalocaaGreatDoor
open Go Go.RowKit
namespace Nm

/-- a number of either sign as one without, and back -/
def u (z : Int) : Nat := (z % 4294967296).toNat
def i (n : Nat) : Int := if n < 2147483648 then (n : Int) else (n : Int) - 4294967296
/-- a list's bytes -/
def put (l : List Int) : List Nat := Rt.four (l.length % 4294967296) ++ (l.map u).flatMap Rt.four
def many (b : List Nat) : Nat := Rt.unfour b
def err (b : List Nat) : Nat := if b.length < 4 then 5 else if 4096 < many b then 3 else if b.length < 4 + 4 * many b then 5 else 0
def nth (b : List Nat) (k : Nat) : Int := i (Rt.unfour (b.drop (4 + 4 * k)))
def get (b : List Nat) : List Int := if err b = 0 then (List.range (many b)).map (nth b) else []
theorem flat_length (q : List Nat) : (q.flatMap Rt.four).length = 4 * q.length := by
  induction q with
  | nil => rfl
  | cons y q ih => rw [List.flatMap_cons, List.length_append, ih, Rt.four_length, List.length_cons]; omega
end Nm
end Go.Proofs.YtnffigfafalocaaGreatDoor
namespace Go.Proofs.YtnffigfafalocaaGreatDoor
open Go Go.RowKit
set_option linter.unusedSimpArgs false

theorem own_of_row {w : World} {B base : Nat} {T : TypeId} {vs : List Value} (h : Row w B T vs) (hb : base ≤ B) {n : Nat} (hn : vs.length = n) (hl : n ≤ maxLen) : Own w base T (.slice (some ⟨B, 0, none⟩) n n) vs := by
  subst hn
  exact ⟨by omega, .inr ⟨B, vs.length, vs.toArray, rfl, hb, h, Nat.le_refl _, hl, by simp, by simp⟩⟩
theorem made_fill (v : Value) (n : Nat) : madeCells #[v] n = (List.replicate n v).toArray := by
  apply Array.ext'
  refine List.ext_getElem? (fun j => ?_)
  unfold madeCells
  by_cases hj : j < n
  · simp [hj, List.getElem?_replicate, Nat.mod_one]
  · simp [hj, List.getElem?_replicate]

theorem u32_info : ∃ i, Tryz.prog.info? 38 = some i ∧ i.zero = some (.int .u32 0) ∧ i.size = 1 ∧ i.bytes = 4 := one_info (by kernel_rfl)
theorem i32_info : ∃ i, Tryz.prog.info? 21 = some i ∧ i.zero = some (.int .i32 0) ∧ i.size = 1 ∧ i.bytes = 4 := one_info (by kernel_rfl)

theorem ints_get {k : IntKind} {zs : List Int} {i : Nat} (h : i < zs.length) : (ints k zs)[i]? = some (.int k (zs.getD i 0)) := by
  simp [ints, List.getElem?_map, List.getElem?_eq_getElem h, List.getD_eq_getElem?_getD]
theorem Rd.int {w : World} {k : IntKind} {a : Option Addr} {zs : List Int} (h : Rd w a (ints k zs)) {i : Nat} (hi : i < zs.length) :
    ∃ b o, a = some ⟨b, o, none⟩ ∧ w.cell? ⟨b, o + i, none⟩ = some (.int k (zs.getD i 0)) := h i _ (ints_get hi)
theorem ints_one (k : IntKind) (xs : List Int) : ∀ v ∈ ints k xs, v.oneCell' = true := by
  intro v hv
  obtain ⟨x, _, rfl⟩ := List.mem_map.1 hv
  rfl

/-- a slice of pieces, each of four bytes, at g from o on -/
def pieces (g o m : Nat) : List Value := (List.range m).map fun k => .slice (some ⟨g, o + 4 * k, none⟩) 4 4
end Go.Proofs.YtnffigfafalocaaGreatDoor
namespace Go.Proofs.YtnffigfafalocaaGreatDoor
open Go Go.RowKit
set_option linter.unusedSimpArgs false
set_option linter.unusedVariables false

theorem drop_step (xs : List Int) (k : Nat) (h : k < xs.length) : xs.drop k = xs.getD k 0 :: xs.drop (k + 1) := by
  rw [List.drop_eq_getElem_cons h, List.getD_eq_getElem?_getD, List.getElem?_eq_getElem h]; rfl
theorem info_I : ∃ i, Tryz.prog.info? 3 = some i ∧ i.zero = some (.int .i64 0) ∧ i.size = 1 ∧ i.bytes = 8 := one_info (by kernel_rfl)
set_option maxHeartbeats 2000000 in
theorem cloneI_own (w : World) (a : Option Addr) (n c : Nat) (xs : List Int) (ha : a ≠ none) (hr : Rd w a (ints .i64 xs)) (hl : xs.length = n) (hn : (n : Int) ≤ 1000000000000) :
    Calls Tryz.prog 169 #[.slice a n c] w fun e w' => ∃ a' c', e = .returned (.slice a' n c') ∧ Own w' w.heap.size 3 (.slice a' n c') (ints .i64 xs) ∧ n ≤ c' ∧ Touch No w w' := by
  obtain ⟨⟨g, o, sp⟩, rfl⟩ : ∃ ad, a = some ad := by cases a with | none => exact absurd rfl ha | some ad => exact ⟨ad, rfl⟩
  have hq := fun (w : World) (a : Option Addr) (n c n' c' : Nat) => Lib.run_eql_slice_nil (P := Tryz.prog) w 72 3 a n c n' c' Tryz.underlying72
  obtain ⟨I, hi0, hi1, hi2, hi3⟩ := info_I
  have HI := Lib.hid (And.intro hi0 (And.intro hi1 (And.intro hi2 hi3)))
  have Hl := Lib.hid (show (ints .i64 xs).length = n by rw [ints_length]; exact hl)
  have Hn := Lib.hid hn
  have HR := Lib.hid (hr.no ((Touch.refl No w).alloc (.cells #[] 3)))
  have HO : Hid (Own (w.alloc (.cells #[] 3)) w.heap.size 3 (.slice (some ⟨w.heap.size, 0, none⟩) 0 0) []) := own_of_row (Row.new w 3 #[]) (Nat.le_refl _) rfl (Nat.zero_le _)
  clear hr hn hl hi0 hi1 hi2 hi3 ha
  go_enter Tryz.func169, Tryz.ntmps169
  go_wp2_with (refine wpList_append_rd rfl _ _ _ rfl w.heap.size 3 I (.int .i64 0) 8 Tryz.underlying72 HI.out.1 HI.out.2.1 HI.out.2.2.1 HI.out.2.2.2 rfl _ _ HO.out rfl (some ⟨g, o, sp⟩) n c (ints .i64 xs) rfl Hl.out HR.out (ints_one _ _) (by have := Hn.out; unfold maxLen; simp only [List.length_nil]; omega) (by have := Hn.out; simp only [List.length_nil]; omega) (by simp) ?_)
  rintro v w1 o1 t1
  have o1 : Own w1 w.heap.size 3 v (ints .i64 xs) := o1
  obtain ⟨a', c', rfl, hc, _⟩ := o1.form' (n := n) Hl.out
  have O1 := Lib.hid o1
  have T1 := Lib.hid (((Touch.refl No w).alloc (.cells #[] 3)).then t1 (fun i hi e => absurd (HO.out.block e).1 (Nat.not_le.2 hi)))
  have HC := Lib.hid hc
  clear o1 t1 hc
  go_wp2
  go_ret
  exact ⟨a', c', by simp, O1.out, HC.out, T1.out⟩
theorem clipI_any (w : World) (a : Option Addr) (n c : Nat) (h : n ≤ c) : Calls Tryz.prog 168 #[.slice a n c] w fun e w' => e = .returned (.slice a n n) ∧ w = w' := by
  have hnc : (n : Int) ≤ (c : Int) := by omega
  have h0 : (0 : Int) ≤ (n : Int) := Int.natCast_nonneg _
  go_enter Tryz.func168, Tryz.ntmps168
  go_wp2
  go_ret
  exact ⟨rfl, rfl⟩
theorem info_L : ∃ i, Tryz.prog.info? 21 = some i ∧ i.zero = some (.int .i32 0) ∧ i.size = 1 ∧ i.bytes = 4 := one_info (by kernel_rfl)
set_option maxHeartbeats 2000000 in
theorem cloneL_own (w : World) (a : Option Addr) (n c : Nat) (xs : List Int) (ha : a ≠ none) (hr : Rd w a (ints .i32 xs)) (hl : xs.length = n) (hn : (n : Int) ≤ 1000000000000) :
    Calls Tryz.prog 171 #[.slice a n c] w fun e w' => ∃ a' c', e = .returned (.slice a' n c') ∧ Own w' w.heap.size 21 (.slice a' n c') (ints .i32 xs) ∧ n ≤ c' ∧ Touch No w w' := by
  obtain ⟨⟨g, o, sp⟩, rfl⟩ : ∃ ad, a = some ad := by cases a with | none => exact absurd rfl ha | some ad => exact ⟨ad, rfl⟩
  have hq := fun (w : World) (a : Option Addr) (n c n' c' : Nat) => Lib.run_eql_slice_nil (P := Tryz.prog) w 73 21 a n c n' c' Tryz.underlying73
  obtain ⟨I, hi0, hi1, hi2, hi3⟩ := info_L
  have HI := Lib.hid (And.intro hi0 (And.intro hi1 (And.intro hi2 hi3)))
  have Hl := Lib.hid (show (ints .i32 xs).length = n by rw [ints_length]; exact hl)
  have Hn := Lib.hid hn
  have HR := Lib.hid (hr.no ((Touch.refl No w).alloc (.cells #[] 21)))
  have HO : Hid (Own (w.alloc (.cells #[] 21)) w.heap.size 21 (.slice (some ⟨w.heap.size, 0, none⟩) 0 0) []) := own_of_row (Row.new w 21 #[]) (Nat.le_refl _) rfl (Nat.zero_le _)
  clear hr hn hl hi0 hi1 hi2 hi3 ha
  go_enter Tryz.func171, Tryz.ntmps171
  go_wp2_with (refine wpList_append_rd rfl _ _ _ rfl w.heap.size 21 I (.int .i32 0) 4 Tryz.underlying73 HI.out.1 HI.out.2.1 HI.out.2.2.1 HI.out.2.2.2 rfl _ _ HO.out rfl (some ⟨g, o, sp⟩) n c (ints .i32 xs) rfl Hl.out HR.out (ints_one _ _) (by have := Hn.out; unfold maxLen; simp only [List.length_nil]; omega) (by have := Hn.out; simp only [List.length_nil]; omega) (by simp) ?_)
  rintro v w1 o1 t1
  have o1 : Own w1 w.heap.size 21 v (ints .i32 xs) := o1
  obtain ⟨a', c', rfl, hc, _⟩ := o1.form' (n := n) Hl.out
  have O1 := Lib.hid o1
  have T1 := Lib.hid (((Touch.refl No w).alloc (.cells #[] 21)).then t1 (fun i hi e => absurd (HO.out.block e).1 (Nat.not_le.2 hi)))
  have HC := Lib.hid hc
  clear o1 t1 hc
  go_wp2
  go_ret
  exact ⟨a', c', by simp, O1.out, HC.out, T1.out⟩
theorem clipL_any (w : World) (a : Option Addr) (n c : Nat) (h : n ≤ c) : Calls Tryz.prog 170 #[.slice a n c] w fun e w' => e = .returned (.slice a n n) ∧ w = w' := by
  have hnc : (n : Int) ≤ (c : Int) := by omega
  have h0 : (0 : Int) ≤ (n : Int) := Int.natCast_nonneg _
  go_enter Tryz.func170, Tryz.ntmps170
  go_wp2
  go_ret
  exact ⟨rfl, rfl⟩
end Go.Proofs.YtnffigfafalocaaGreatDoor
namespace Go.Proofs.YtnffigfafalocaaGreatDoor
open Go Go.RowKit
set_option linter.unusedVariables false

/-- what holds of some blocks, whatever becomes of the others -/
structure Part where
  P : World → (Nat → Prop) → Prop
  stable : ∀ {F : Nat → Prop} {w w' : World} {O : Nat → Prop}, P w O → Touch F w w' → (∀ k, O k → ¬ F k) → P w' O
  lt : ∀ {w : World} {O : Nat → Prop}, P w O → ∀ k, O k → k < w.heap.size

/-- a new one -/
def Born (w : World) (p : Part) (w' : World) : Prop := Touch No w w' ∧ ∃ O', p.P w' O' ∧ ∀ k, O' k → w.heap.size ≤ k
section
variable {w0 w w' : World} {l : List Part}
end

/-- a row of cells -/
def Part.row (g : Nat) (T : TypeId) (vs : List Value) : Part where
  P w O := Row w g T vs ∧ O g ∧ ∀ k, O k → k < w.heap.size
  stable := fun {F w w' O} ⟨h, ho, hl⟩ t hF => ⟨h.touch t (hF g ho), ho, fun k hk => Nat.lt_of_lt_of_le (hl k hk) t.size⟩
  lt := fun {w O} h => h.2.2
theorem Born.row (w : World) (T : TypeId) (vs : Array Value) : Born w (.row w.heap.size T vs.toList) (w.alloc (.cells vs T)) :=
  ⟨(Touch.refl No w).alloc _, (fun k => k = w.heap.size), ⟨Row.new w T vs, rfl, fun k hk => by simp; omega⟩, fun k hk => Nat.le_of_eq hk.symm⟩
end Go.Proofs.YtnffigfafalocaaGreatDoor
