/-
  Bytes as a text.
  A disk of the reference (package drydockref03) in memory, as a part; texts out of bytes.
-/
import Derived.Test.YtkiehoboeiengaaGreatDoorK18
import Derived.Lib.SlBytesConst
import Derived.Test.YtkiehoboeiengaaGreatDoorK10
import Derived.Test.YtkiehoboeiengaaGreatDoorK06
import Derived.Test.YtkiehoboeiengaaGreatDoorK25
import Derived.Laws.Strings3
namespace Go.Proofs.YtkiehoboeiengaaGreatDoor
open Go Go.RowKit

/-- bytes as a text -/
def str (xs : List Nat) : ByteArray := strOfNums (xs.map fun (x : Nat) => (x : Int))
theorem conv_str (w : World) (a : Option Addr) (n c : Nat) (xs : List Nat) (hn : xs.length = n) (hr : Rd w a (nums .u8 xs)) :
    (convert 49 9 (.slice a n c)).run Tryz.prog w = .ok (.string (str xs)) w := by
  by_cases h0 : 0 < n
  · obtain ⟨g, o, rfl, _⟩ := hr.num (i := 0) (by omega)
    refine run_convert_bytes_arg w 49 5 Tryz.underlying49 Tryz.underlying5 g o n c _ (by rw [List.length_map]; exact hn) (fun i hi => ?_) 9 Tryz.underlying9
    obtain ⟨g', o', e', hcell⟩ := hr.num (i := i) (by omega)
    cases e'
    rw [hcell]
    congr 2
    rw [List.getD_eq_getElem?_getD, List.getD_eq_getElem?_getD, List.getElem?_map, List.getElem?_eq_getElem (show i < xs.length by omega)]; rfl
  · obtain rfl : n = 0 := by omega
    have hx : xs = [] := List.length_eq_zero_iff.1 hn
    subst hx
    cases a with
    | none => exact run_convert_bytes_nil w 49 5 Tryz.underlying49 Tryz.underlying5 0 c 9 Tryz.underlying9
    | some ad =>
      have hl : (loadCells ad 0).run Tryz.prog w = .ok #[] w := by rfl
      rw [run_convert_bytes_string w 49 9 5 _ 0 c Tryz.underlying49 Tryz.underlying5 Tryz.underlying9, run_bytesToString w _ 0 c [] (by simpa using hl)]
      rfl
end Go.Proofs.YtkiehoboeiengaaGreatDoor
namespace Go.Proofs.YtkiehoboeiengaaGreatDoor
open Go Go.RowKit
set_option linter.unusedSimpArgs false
set_option linter.unusedVariables false

/-! ### texts -/
theorem str_size (xs : List Nat) : (str xs).size = xs.length := by rw [str, strOfNums_size, List.length_map]
theorem str_append (xs ys : List Nat) : str xs ++ str ys = str (xs ++ ys) := by
  apply ByteArray.ext
  simp [str, strOfNums]
theorem str_extract (xs : List Nat) (i j : Nat) : (str xs).extract i j = str ((xs.take j).drop i) := by
  apply ByteArray.ext
  simp only [str, strOfNums, ByteArray.data_extract]
  simp only [List.extract_toArray, List.map_map, List.extract_eq_take_drop, List.map_take, List.map_drop]
  rw [List.drop_take]
theorem str_take (xs : List Nat) (j : Nat) : (str xs).extract 0 j = str (xs.take j) := by rw [str_extract, List.drop_zero]
theorem str_drop (xs : List Nat) (i : Nat) : (str xs).extract i xs.length = str (xs.drop i) := by rw [str_extract, List.take_of_length_le (Nat.le_refl _)]

/-! ### rows of equal pieces -/
def Part.rows (T : TypeId) (size : Nat) (v : Value) (m : Nat) (cs : List Value) : Part where
  P w O := w.ownsRow 0 T size v m cs ∧ (∀ k, InBlock v k → O k) ∧ ∀ k, O k → k < w.heap.size
  stable := fun {F w w' O} ⟨h1, h2, h3⟩ t hF => ⟨rowTouch h1 t (fun k hk => hF k (h2 k hk)), h2, fun k hk => Nat.lt_of_lt_of_le (h3 k hk) t.size⟩
  lt := fun {w O} h => h.2.2
section
variable {α : Type} {f : α → List Value} {size : Nat}
theorem rows_at (hf : ∀ x, (f x).length = size) {w : World} {T : TypeId} {v : Value} {n base : Nat} {xs : List α} (h : w.ownsRow base T size v n (xs.flatMap f)) (hn : xs.length = n) {i : Nat} {y : α} (hy : xs[i]? = some y) (hs : 0 < size) :
    ∃ g c, v = .slice (some ⟨g, 0, none⟩) n c ∧ InBlock v g ∧ g < w.heap.size ∧ (∀ o, w.frozen? ⟨g, o, none⟩ = false) ∧ ∀ j, j < size → w.cell? ⟨g, i * size + j, none⟩ = (f y)[j]? := by
  have hin : i < xs.length := by
    rcases Nat.lt_or_ge i xs.length with h | h
    · exact h
    · rw [List.getElem?_eq_none h] at hy; cases hy
  have hlen := flat_length hf xs
  have hpos : i * size + size ≤ xs.length * size := by have := Nat.mul_le_mul_right size hin; rw [Nat.succ_mul] at this; exact this
  obtain ⟨hl, h⟩ := h
  rcases h with ⟨_, h0⟩ | ⟨g, cap, cur, hv, hg, hh, hn', hm, hs', ht⟩
  · have h1 : (xs.flatMap f).length = 0 := by rw [hl, ← hn]; omega
    omega
  · refine ⟨g, cap, hv, by rw [hv]; rfl, (Array.getElem?_eq_some_iff.1 hh).1, fun o => ?_, fun j hj => ?_⟩
    · simp only [World.frozen?]; rw [hh]; simp
    · have h2 : (xs.flatMap f)[i * size + j]? = (f y)[j]? := flat_get hf xs i j y hy hj
      rw [← h2, ← ht, List.getElem?_take_of_lt (by have := hl; omega)]
      simp only [World.cell?]; rw [hh]; simp
/-- one cell of a piece written -/
theorem rows_put (hf : ∀ x, (f x).length = size) {w : World} {T : TypeId} {g c n : Nat} {xs : List α} (h : w.ownsRow 0 T size (.slice (some ⟨g, 0, none⟩) n c) n (xs.flatMap f)) (hn : xs.length = n) {i j : Nat} {x y : α} {u : Value} (hx : xs[i]? = some x) (hj : j < size) (hy : f y = (f x).set j u) :
    (w.setCell ⟨g, i * size + j, none⟩ u).ownsRow 0 T size (.slice (some ⟨g, 0, none⟩) n c) n ((xs.set i y).flatMap f) := by
  have hin : i < xs.length := by
    rcases Nat.lt_or_ge i xs.length with h | h
    · exact h
    · rw [List.getElem?_eq_none h] at hx; cases hx
  have hlen := flat_length hf xs
  have hpos : i * size + size ≤ xs.length * size := by have := Nat.mul_le_mul_right size hin; rw [Nat.succ_mul] at this; exact this
  obtain ⟨hl, h⟩ := h
  refine ⟨by rw [flat_length hf, List.length_set, hn], Or.inr ?_⟩
  rcases h with ⟨hv, _⟩ | ⟨g', cap, cur, hv, hg, hh, hn', hm, hs', ht⟩
  · cases hv
  · cases hv
    refine ⟨g, c, cur.setIfInBounds (i * size + j) u, rfl, hg, ?_, hn', hm, by simpa using hs', ?_⟩
    · rw [setCell_eq_setRow w g _ cur T (0, 0) u hh]
      exact setRow_heap w g cur _ T (0, 0) hh
    · have e1 := flat_cell hf xs i j x y u (cur.toList.drop (n * size)) hx hj hy
      have e2 : xs.flatMap f ++ cur.toList.drop (n * size) = cur.toList := by rw [← ht, List.take_append_drop]
      rw [e2] at e1
      rw [Array.toList_setIfInBounds, e1, List.take_append_of_le_length (by rw [flat_length hf, List.length_set, hn]; exact Nat.le_refl _), List.take_of_length_le (by rw [flat_length hf, List.length_set, hn]; exact Nat.le_refl _)]
end

/-! ### the reference's disk -/
def rsCells (s : Dk.Sec) : List Value := [.string (str s.b), .bool (s.bad == 1)]
def rwCells (x : Dk.Wr) : List Value := [.int .i64 (x.n : Nat), .string (str x.b), .bool (x.elder == 1)]
theorem rsCells_length (s : Dk.Sec) : (rsCells s).length = 2 := rfl
theorem rwCells_length (s : Dk.Wr) : (rwCells s).length = 3 := rfl
theorem rsCells_one (l : List Dk.Sec) : ∀ u ∈ l.flatMap rsCells, u.oneCell' = true := by
  intro u hu
  obtain ⟨e, _, he⟩ := List.mem_flatMap.1 hu
  simp only [rsCells, List.mem_cons, List.not_mem_nil, or_false] at he
  rcases he with rfl | rfl <;> rfl
theorem rwCells_one (l : List Dk.Wr) : ∀ u ∈ l.flatMap rwCells, u.oneCell' = true := by
  intro u hu
  obtain ⟨e, _, he⟩ := List.mem_flatMap.1 hu
  simp only [rwCells, List.mem_cons, List.not_mem_nil, or_false] at he
  rcases he with rfl | rfl | rfl <;> rfl
def rdParts (g : Nat) (D : Dk.Disk) (vs vn vw : Value) : List Part :=
  [Part.row g 112 [vs, vn, vw], Part.rows 115 2 vs D.sure.length (D.sure.flatMap rsCells), Part.rows 115 2 vn D.seen.length (D.seen.flatMap rsCells), Part.rows 130 3 vw D.waits.length (D.waits.flatMap rwCells)]
def Part.rdisk (g : Nat) (D : Dk.Disk) : Part where
  P w O := (Dk.Ok D ∧ ∃ vs vn vw, Al w (rdParts g D vs vn vw) O) ∧ ∀ k, O k → k < w.heap.size
  stable := fun {F w w' O} ⟨⟨ok, vs, vn, vw, h⟩, hl⟩ t hF => ⟨⟨ok, vs, vn, vw, Al.stable t h hF⟩, fun k hk => Nat.lt_of_lt_of_le (hl k hk) t.size⟩
  lt := fun {w O} h => h.2
/-- what is there to read -/
structure RdAt (w : World) (g : Nat) (D : Dk.Disk) (vs vn vw : Value) : Prop where
  ok : Dk.Ok D
  row : Row w g 112 [vs, vn, vw]
  sure : w.ownsRow 0 115 2 vs D.sure.length (D.sure.flatMap rsCells)
  seen : w.ownsRow 0 115 2 vn D.seen.length (D.seen.flatMap rsCells)
  waits : w.ownsRow 0 130 3 vw D.waits.length (D.waits.flatMap rwCells)
  s0 : ¬ InBlock vs g
  n0 : ¬ InBlock vn g
  w0 : ¬ InBlock vw g
  sn : ∀ k, InBlock vs k → ¬ InBlock vn k
  sw : ∀ k, InBlock vs k → ¬ InBlock vw k
  nw : ∀ k, InBlock vn k → ¬ InBlock vw k
def RdOf (g : Nat) (vs vn vw : Value) (k : Nat) : Prop := k = g ∨ InBlock vs k ∨ InBlock vn k ∨ InBlock vw k
theorem rdisk_at {w : World} {g : Nat} {D : Dk.Disk} {O : Nat → Prop} (h : (Part.rdisk g D).P w O) : ∃ vs vn vw, RdAt w g D vs vn vw ∧ ∀ k, RdOf g vs vn vw k → O k := by
  obtain ⟨⟨ok, vs, vn, vw, A1, B1, ⟨hr, hg, _⟩, ⟨A2, B2, ⟨h2, i2, _⟩, ⟨A3, B3, ⟨h3, i3, _⟩, ⟨A4, _, ⟨h4, i4, _⟩, _, _, u4, _⟩, d3, u3, v3⟩, d2, u2, v2⟩, d1, u1, v1⟩, hl⟩ := h
  have b2 : ∀ k, InBlock vs k → B1 k := fun k hk => u2 k (i2 k hk)
  have b3 : ∀ k, InBlock vn k → B2 k := fun k hk => u3 k (i3 k hk)
  have b4 : ∀ k, InBlock vw k → B3 k := fun k hk => u4 k (i4 k hk)
  refine ⟨vs, vn, vw, ⟨ok, hr, h2, h3, h4, fun h => d1 g hg (b2 g h), fun h => d1 g hg (v2 g (b3 g h)), fun h => d1 g hg (v2 g (v3 g (b4 g h))), fun k h h' => d2 k (i2 k h) (b3 k h'), fun k h h' => d2 k (i2 k h) (v3 k (b4 k h')), fun k h h' => d3 k (i3 k h) (b4 k h')⟩, fun k hk => ?_⟩
  rcases hk with rfl | h | h | h
  · exact u1 _ hg
  · exact v1 _ (b2 _ h)
  · exact v1 _ (v2 _ (b3 _ h))
  · exact v1 _ (v2 _ (v3 _ (b4 _ h)))
theorem RdAt.part {w : World} {g : Nat} {D : Dk.Disk} {vs vn vw : Value} (h : RdAt w g D vs vn vw) : (Part.rdisk g D).P w (RdOf g vs vn vw) := by
  refine ⟨⟨h.ok, vs, vn, vw, fun k => k = g, fun k => InBlock vs k ∨ InBlock vn k ∨ InBlock vw k, ⟨h.row, rfl, fun k hk => by rw [hk]; exact h.row.lt⟩, ⟨InBlock vs, fun k => InBlock vn k ∨ InBlock vw k, ⟨h.sure, fun _ h => h, fun k hk => (rowBlock h.sure hk).2⟩, ⟨InBlock vn, InBlock vw, ⟨h.seen, fun _ h => h, fun k hk => (rowBlock h.seen hk).2⟩, ⟨InBlock vw, fun _ => False, ⟨h.waits, fun _ h => h, fun k hk => (rowBlock h.waits hk).2⟩, trivial, fun _ _ f => f, fun _ h => h, fun _ f => f.elim⟩, h.nw, fun k => Or.inl, fun k => Or.inr⟩, fun k h1 h2 => ?_, fun k => Or.inl, fun k => Or.inr⟩, fun k h1 h2 => ?_, fun k => Or.inl, fun k => Or.inr⟩, fun k hk => ?_⟩
  · rcases h2 with h2 | h2
    · exact h.sn k h1 h2
    · exact h.sw k h1 h2
  · subst h1
    rcases h2 with h2 | h2 | h2
    · exact h.s0 h2
    · exact h.n0 h2
    · exact h.w0 h2
  · rcases hk with rfl | hk | hk | hk
    · exact h.row.lt
    · exact (rowBlock h.sure hk).2
    · exact (rowBlock h.seen hk).2
    · exact (rowBlock h.waits hk).2
theorem RdAt.no {w w' : World} {g : Nat} {D : Dk.Disk} {vs vn vw : Value} (h : RdAt w g D vs vn vw) (t : Touch No w w') : RdAt w' g D vs vn vw :=
  ⟨h.ok, h.row.touch t id, rowTouch h.sure t (fun _ _ f => f), rowTouch h.seen t (fun _ _ f => f), rowTouch h.waits t (fun _ _ f => f), h.s0, h.n0, h.w0, h.sn, h.sw, h.nw⟩
/-- what a call leaves of it, as a turn of the part -/
theorem RdAt.turn {w w' : World} {g : Nat} {D' : Dk.Disk} {vs vn vw vs' vn' vw' : Value} {A : Nat → Prop} (hA : ∀ k, RdOf g vs vn vw k → A k) (h' : RdAt w' g D' vs' vn' vw') (t : Touch (RdOf g vs vn vw) w w') (hin : ∀ k, RdOf g vs' vn' vw' k → RdOf g vs vn vw k ∨ w.heap.size ≤ k) : TurnsL w A [Part.rdisk g D'] w' :=
  ⟨t.mono (fun k _ hk => hA k hk), RdOf g vs' vn' vw', ⟨RdOf g vs' vn' vw', fun _ => False, h'.part, trivial, fun _ _ f => f, fun _ h => h, fun _ f => f.elim⟩, fun k hk => (hin k hk).imp (hA k) id⟩
theorem al_rdisk {w : World} {g : Nat} {D : Dk.Disk} {A : Nat → Prop} (h : Al w [Part.rdisk g D] A) : ∃ vs vn vw, RdAt w g D vs vn vw ∧ ∀ k, RdOf g vs vn vw k → A k := by
  obtain ⟨A1, _, h, _, _, h1, _⟩ := h
  obtain ⟨vs, vn, vw, hr, hi⟩ := rdisk_at h
  exact ⟨vs, vn, vw, hr, fun k hk => h1 k (hi k hk)⟩
end Go.Proofs.YtkiehoboeiengaaGreatDoor
