/-
  The plain mathematics of a disk of sectors: what each call makes of it, and how it lies in rows of cells.
  Package disks by its own text: a disk in memory; ask, Len, Waits.
  Package disks by its own text: Len, Waits; slices.Clone of sectors and of bytes; of.
  Package disks by its own text: New, Sync.
-/
import Derived.Test.YtnffigfafalocaaGreatDoorK02
import Derived.Test.YtnffigfafalocaaGreatDoorRows
import Derived.Lib.SliceRun
import Derived.Deep.LoopGhost
import Derived.Laws.MakeOwn
namespace Go.Proofs.YtnffigfafalocaaGreatDoor
open Go Go.RowKit

/-! ### rows of equal pieces -/
section
variable {α : Type} {f : α → List Value} {k : Nat}
theorem flat_length (hf : ∀ x, (f x).length = k) : ∀ (l : List α), (l.flatMap f).length = l.length * k
  | [] => by simp
  | x :: l => by rw [List.flatMap_cons, List.length_append, hf, flat_length hf l, List.length_cons, Nat.add_mul]; omega
theorem flat_get (hf : ∀ x, (f x).length = k) : ∀ (l : List α) (n j : Nat) (x : α), l[n]? = some x → j < k → (l.flatMap f)[n * k + j]? = (f x)[j]?
  | [], n, j, x, h, _ => by simp at h
  | y :: l, 0, j, x, h, hj => by
    have : y = x := by simpa using h
    subst this
    rw [List.flatMap_cons, Nat.zero_mul, Nat.zero_add, List.getElem?_append_left (by rw [hf]; exact hj)]
  | y :: l, n + 1, j, x, h, hj => by
    have h' : l[n]? = some x := by simpa using h
    rw [List.flatMap_cons, List.getElem?_append_right (by rw [hf, Nat.add_mul]; omega), hf, ← flat_get hf l n j x h' hj]
    congr 1
    rw [Nat.add_mul]; omega
theorem flat_set (hf : ∀ x, (f x).length = k) : ∀ (l : List α) (n : Nat) (y : α) (r : List Value), n < l.length → splice (l.flatMap f ++ r) (n * k) (f y) = (l.set n y).flatMap f ++ r
  | [], n, y, r, h => by simp at h
  | x :: l, 0, y, r, _ => by
    simp only [splice, Nat.zero_mul, List.take_zero, List.nil_append, Nat.zero_add, List.set_cons_zero, List.flatMap_cons, List.append_assoc]
    rw [hf, List.drop_append_of_le_length (by rw [hf]; exact Nat.le_refl _), List.drop_of_length_le (by rw [hf]; exact Nat.le_refl _), List.nil_append]
  | x :: l, n + 1, y, r, h => by
    have hn : n < l.length := by simpa using h
    have ih := flat_set hf l n y r hn
    simp only [splice, List.set_cons_succ, List.flatMap_cons, List.append_assoc] at ih ⊢
    rw [← ih]
    have e : (n + 1) * k = (f x).length + n * k := by rw [hf, Nat.add_mul]; omega
    rw [e, List.take_append, Nat.add_assoc, List.drop_append]
    have h1 : (f x).length + n * k - (f x).length = n * k := by omega
    have h2 : (f x).length + (n * k + (f y).length) - (f x).length = n * k + (f y).length := by omega
    rw [h1, h2, List.take_of_length_le (by omega), List.drop_of_length_le (by omega)]
    simp
/-- one cell of a piece -/
theorem flat_cell (hf : ∀ x, (f x).length = k) (l : List α) (n j : Nat) (x y : α) (v : Value) (r : List Value) (hx : l[n]? = some x) (hj : j < k) (hy : f y = (f x).set j v) : (l.flatMap f ++ r).set (n * k + j) v = (l.set n y).flatMap f ++ r := by
  have hn : n < l.length := by
    rcases Nat.lt_or_ge n l.length with h | h
    · exact h
    · rw [List.getElem?_eq_none h] at hx; cases hx
  rw [← flat_set hf l n y r hn, hy]
  refine List.ext_getElem? (fun i => ?_)
  have hlen : (l.flatMap f).length = l.length * k := flat_length hf l
  have hnk : n * k + k ≤ l.length * k := by have := Nat.mul_le_mul_right k hn; rw [Nat.succ_mul] at this; exact this
  have hlx := hf x
  have ht : ((l.flatMap f ++ r).take (n * k)).length = n * k := by rw [List.length_take, List.length_append]; omega
  simp only [splice, List.length_set]
  by_cases h1 : i < n * k
  · rw [List.append_assoc, List.getElem?_append_left (by rw [ht]; exact h1), List.getElem?_take_of_lt h1, List.getElem?_set_ne (by omega)]
  · by_cases h2 : i < n * k + k
    · obtain ⟨q, rfl⟩ : ∃ q, i = n * k + q := ⟨i - n * k, by omega⟩
      rw [List.getElem?_append_left (by rw [List.length_append, ht, List.length_set]; omega), List.getElem?_append_right (by rw [ht]; omega), ht, Nat.add_sub_cancel_left]
      by_cases h3 : q = j
      · subst h3
        rw [List.getElem?_set_self (by rw [List.length_append]; omega), List.getElem?_set_self (by omega)]
      · rw [List.getElem?_set_ne (by omega), List.getElem?_set_ne (Ne.symm h3), List.getElem?_append_left (by omega), flat_get hf l n q x hx (by omega)]
    · rw [List.getElem?_set_ne (by omega)]
      symm
      rw [List.getElem?_append_right (by rw [List.length_append, ht, List.length_set]; omega), List.length_append, ht, List.length_set, List.getElem?_drop]
      congr 1
      omega
end

namespace Dk
structure Sec where
  b : List Nat
  bad : Nat
structure Wr where
  n : Nat
  b : List Nat
  elder : Nat
structure Disk where
  sure : List Sec
  seen : List Sec
  waits : List Wr

structure Bytes (b : List Nat) : Prop where
  len : b.length = 64
  lt : ∀ x ∈ b, x < 256
structure Sec.Ok (s : Sec) : Prop where
  b : Bytes s.b
  bad : s.bad ≤ 1
structure Wr.Ok (n : Nat) (x : Wr) : Prop where
  n : x.n < n
  b : Bytes x.b
  elder : x.elder ≤ 1
structure Ok (d : Disk) : Prop where
  len : d.sure.length = d.seen.length
  pos : 1 ≤ d.seen.length
  top : d.seen.length ≤ 16384
  sure : ∀ s ∈ d.sure, s.Ok
  seen : ∀ s ∈ d.seen, s.Ok
  waits : ∀ x ∈ d.waits, x.Ok d.seen.length

/-- a sector's bytes: what is written, noughts behind it -/
def pad (b : List Nat) : List Nat := b ++ List.replicate (64 - b.length) 0
def noughts : Sec := ⟨List.replicate 64 0, 0⟩
def new (n : Nat) : Disk := ⟨List.replicate n noughts, List.replicate n noughts, []⟩
def write (d : Disk) (n : Nat) (b : List Nat) : Disk := ⟨d.sure, d.seen.set n ⟨pad b, 0⟩, d.waits ++ [⟨n, pad b, 0⟩]⟩
def sync (d : Disk) : Disk := ⟨d.seen, d.seen, []⟩
def turnB (b : List Nat) (p x : Nat) : List Nat := b.set p (b.getD p 0 ^^^ x)
def turnS (p x : Nat) (s : Sec) : Sec := ⟨turnB s.b p x, s.bad⟩
def turnW (n p x : Nat) (y : Wr) : Wr := if y.n = n then ⟨y.n, turnB y.b p x, y.elder⟩ else y
def badS (s : Sec) : Sec := ⟨s.b, 1⟩
def badW (n : Nat) (y : Wr) : Wr := if y.n = n then ⟨y.n, y.b, 1⟩ else y
def at_ (l : List Sec) (n : Nat) : Sec := l.getD n noughts
def upd (l : List Sec) (n : Nat) (f : Sec → Sec) : List Sec := l.set n (f (at_ l n))
def rot (d : Disk) (n p x : Nat) : Disk := ⟨upd d.sure n (turnS p x), upd d.seen n (turnS p x), d.waits.map (turnW n p x)⟩
def bad (d : Disk) (n : Nat) : Disk := ⟨upd d.sure n badS, upd d.seen n badS, d.waits.map (badW n)⟩
def tornS (y : Wr) (s : Sec) : Sec := ⟨y.b.take 32 ++ s.b.drop 32, s.bad⟩
def keptS (y : Wr) (s : Sec) : Sec := ⟨y.b, s.bad &&& y.elder⟩
def failStep (keep : Nat) (torn : Int) (l : List Sec) (i : Nat) (y : Wr) : List Sec :=
  if (i : Int) = torn then upd l y.n (tornS y) else if keep.testBit (i % 64) then upd l y.n (keptS y) else l
def failed (keep : Nat) (torn : Int) : List Sec → Nat → List Wr → List Sec
  | l, _, [] => l
  | l, i, y :: r => failed keep torn (failStep keep torn l i y) (i + 1) r
def fail (d : Disk) (keep : Nat) (torn : Int) : Disk := ⟨failed keep torn d.sure 0 d.waits, failed keep torn d.sure 0 d.waits, []⟩

theorem pad_ok {b : List Nat} (h : b.length ≤ 64) (hb : ∀ x ∈ b, x < 256) : Bytes (pad b) :=
  ⟨by simp [pad]; omega, fun x hx => by
    rcases List.mem_append.1 hx with h | h
    · exact hb x h
    · have := (List.mem_replicate.1 h).2; omega⟩
theorem noughts_ok : noughts.Ok := ⟨⟨by simp [noughts], fun x hx => by have := (List.mem_replicate.1 hx).2; omega⟩, by simp [noughts]⟩
theorem upd_length (l : List Sec) (n : Nat) (f : Sec → Sec) : (upd l n f).length = l.length := by simp [upd]
theorem mem_set {α : Type} {l : List α} {n : Nat} {y x : α} (h : x ∈ l.set n y) : x ∈ l ∨ x = y := List.mem_or_eq_of_mem_set h
theorem at_mem {l : List Sec} {n : Nat} (h : n < l.length) : at_ l n ∈ l := by
  rw [at_, List.getD_eq_getElem?_getD, List.getElem?_eq_getElem h]; exact List.getElem_mem h
theorem at_get {l : List Sec} {n : Nat} (h : n < l.length) : l[n]? = some (at_ l n) := by
  rw [at_, List.getD_eq_getElem?_getD, List.getElem?_eq_getElem h]; rfl
theorem upd_ok {l : List Sec} {n : Nat} {f : Sec → Sec} (h : ∀ s ∈ l, s.Ok) (hn : n < l.length) (hf : ∀ s, s.Ok → (f s).Ok) : ∀ s ∈ upd l n f, s.Ok := by
  intro s hs
  rcases mem_set hs with h' | h'
  · exact h s h'
  · rw [h']; exact hf _ (h _ (at_mem hn))
theorem turnB_ok {b : List Nat} {p x : Nat} (h : Bytes b) (hx : x < 256) : Bytes (turnB b p x) := by
  refine ⟨by simp [turnB, h.len], fun y hy => ?_⟩
  rcases mem_set hy with h' | h'
  · exact h.lt y h'
  · rw [h']
    have hp : b.getD p 0 < 256 := by
      rw [List.getD_eq_getElem?_getD]
      cases hq : b[p]? with
      | none => simp
      | some z => exact h.lt z (List.mem_of_getElem? hq)
    exact Nat.xor_lt_two_pow (n := 8) hp hx
theorem turnS_ok {p x : Nat} (hx : x < 256) {s : Sec} (h : s.Ok) : (turnS p x s).Ok := ⟨turnB_ok h.b hx, h.bad⟩
theorem new_ok {n : Nat} (h1 : 1 ≤ n) (h2 : n ≤ 16384) : Ok (new n) :=
  ⟨by simp [new], by simp [new]; exact h1, by simp [new]; exact h2, fun s hs => by rw [(List.mem_replicate.1 hs).2]; exact noughts_ok, fun s hs => by rw [(List.mem_replicate.1 hs).2]; exact noughts_ok, fun x hx => by simp [new] at hx⟩
theorem write_ok {d : Disk} (h : Ok d) {n : Nat} {b : List Nat} (hn : n < d.seen.length) (hl : b.length ≤ 64) (hb : ∀ x ∈ b, x < 256) : Ok (write d n b) :=
  ⟨by simp [write, h.len], by simp [write]; exact h.pos, by simp [write]; exact h.top, h.sure,
    fun s hs => by rcases mem_set hs with h' | h'; exact h.seen s h'; rw [h']; exact ⟨pad_ok hl hb, Nat.zero_le _⟩,
    fun x hx => by
      have e : (write d n b).seen.length = d.seen.length := by simp [write]
      rw [e]
      rcases List.mem_append.1 hx with h' | h'
      · exact h.waits x h'
      · have : x = ⟨n, pad b, 0⟩ := by simpa using h'
        rw [this]; exact ⟨hn, pad_ok hl hb, Nat.zero_le _⟩⟩
theorem sync_ok {d : Disk} (h : Ok d) : Ok (sync d) := ⟨rfl, h.pos, h.top, h.seen, h.seen, fun x hx => by simp [sync] at hx⟩
theorem rot_ok {d : Disk} (h : Ok d) {n p x : Nat} (hn : n < d.seen.length) (hx : x < 256) : Ok (rot d n p x) :=
  ⟨by simp [rot, upd_length, h.len], by simp [rot, upd_length]; exact h.pos, by simp [rot, upd_length]; exact h.top,
    upd_ok h.sure (by rw [h.len]; exact hn) (fun s hs => turnS_ok hx hs), upd_ok h.seen hn (fun s hs => turnS_ok hx hs),
    fun y hy => by
      obtain ⟨z, hz, rfl⟩ := List.mem_map.1 hy
      have := h.waits z hz
      simp only [rot, upd_length, turnW]
      split
      · exact ⟨this.n, turnB_ok this.b hx, this.elder⟩
      · exact this⟩
end Dk

/-! ### how they lie in memory -/
def secCells (s : Dk.Sec) : List Value := (List.range 64).map (fun j => Value.int .u8 ((s.b.getD j 0 : Nat) : Int)) ++ [.int .i64 (s.bad : Nat)]
def wrCells (x : Dk.Wr) : List Value := .int .i64 (x.n : Nat) :: ((List.range 64).map (fun j => Value.int .u8 ((x.b.getD j 0 : Nat) : Int)) ++ [.int .i64 (x.elder : Nat)])
theorem secCells_length (s : Dk.Sec) : (secCells s).length = 65 := by simp [secCells]
theorem wrCells_length (x : Dk.Wr) : (wrCells x).length = 66 := by simp [wrCells]
theorem bytes_cells {b : List Nat} (h : b.length = 64) : (List.range 64).map (fun j => Value.int .u8 ((b.getD j 0 : Nat) : Int)) = nums .u8 b := by
  refine List.ext_getElem? (fun i => ?_)
  simp only [nums, List.getElem?_map]
  by_cases hi : i < 64
  · rw [List.getElem?_range hi, List.getElem?_eq_getElem (by omega)]
    simp [List.getD_eq_getElem?_getD, List.getElem?_eq_getElem (show i < b.length by omega)]
  · rw [List.getElem?_eq_none (by simp; omega), List.getElem?_eq_none (by omega)]; rfl
end Go.Proofs.YtnffigfafalocaaGreatDoor
namespace Go.Proofs.YtnffigfafalocaaGreatDoor
open Go Go.RowKit

theorem sec_cell (s : Dk.Sec) {j : Nat} (hj : j < 64) : (secCells s)[j]? = some (.int .u8 ((s.b.getD j 0 : Nat) : Int)) := by
  rw [secCells, List.getElem?_append_left (by simp; exact hj), List.getElem?_map, List.getElem?_range hj]; rfl
theorem sec_bad (s : Dk.Sec) : (secCells s)[64]? = some (.int .i64 (s.bad : Nat)) := by
  rw [secCells, List.getElem?_append_right (by simp)]; simp
theorem wr_n (x : Dk.Wr) : (wrCells x)[0]? = some (.int .i64 (x.n : Nat)) := rfl
theorem wr_cell (x : Dk.Wr) {j : Nat} (hj : j < 64) : (wrCells x)[1 + j]? = some (.int .u8 ((x.b.getD j 0 : Nat) : Int)) := by
  rw [wrCells, Nat.add_comm, List.getElem?_cons_succ, List.getElem?_append_left (by simp; exact hj), List.getElem?_map, List.getElem?_range hj]; rfl
/-- a disk in its blocks: d itself, what is sure, what is seen, what waits -/
structure DiskIn (w : World) (d gs gn cs cn : Nat) (rs rn : List Value) (vw : Value) (D : Dk.Disk) : Prop where
  ok : Dk.Ok D
  c0 : w.cell? ⟨d, 0, none⟩ = some (.slice (some ⟨gs, 0, none⟩) D.sure.length cs)
  c1 : w.cell? ⟨d, 1, none⟩ = some (.slice (some ⟨gn, 0, none⟩) D.seen.length cn)
  c2 : w.cell? ⟨d, 2, none⟩ = some vw
  soft : ∀ o, w.frozen? ⟨d, o, none⟩ = false
  sure : Row w gs 122 (D.sure.flatMap secCells ++ rs)
  seen : Row w gn 122 (D.seen.flatMap secCells ++ rn)
  lcs : D.sure.length ≤ cs
  lcn : D.seen.length ≤ cn
  mcs : cs ≤ maxLen
  mcn : cn ≤ maxLen
  waits : w.ownsRow 0 133 66 vw D.waits.length (D.waits.flatMap wrCells)
  ne : d ≠ gs ∧ d ≠ gn ∧ gs ≠ gn
  wne : ∀ k, InBlock vw k → k ≠ d ∧ k ≠ gs ∧ k ≠ gn

/-- a disk whose blocks are among O -/
def DiskAt (w : World) (d : Nat) (D : Dk.Disk) (O : Nat → Prop) : Prop :=
  ∃ gs gn cs cn rs rn vw, DiskIn w d gs gn cs cn rs rn vw D ∧ O d ∧ O gs ∧ O gn ∧ (∀ k, InBlock vw k → O k)

theorem DiskIn.lt {w : World} {d gs gn cs cn : Nat} {rs rn : List Value} {vw : Value} {D : Dk.Disk} (h : DiskIn w d gs gn cs cn rs rn vw D) : d < w.heap.size := lt_of_cell h.c0
theorem DiskAt.lt {w : World} {d : Nat} {D : Dk.Disk} {O : Nat → Prop} (h : DiskAt w d D O) : d < w.heap.size := by
  obtain ⟨gs, gn, cs, cn, rs, rn, vw, h, _⟩ := h; exact h.lt
theorem DiskAt.ok {w : World} {d : Nat} {D : Dk.Disk} {O : Nat → Prop} (h : DiskAt w d D O) : Dk.Ok D := by
  obtain ⟨gs, gn, cs, cn, rs, rn, vw, h, _⟩ := h; exact h.ok
theorem rowTouch {F : Nat → Prop} {w w' : World} {base e size n : Nat} {v : Value} {xs : List Value} (h : w.ownsRow base e size v n xs) (t : Touch F w w') (hF : ∀ b, InBlock v b → ¬ F b) : w'.ownsRow base e size v n xs := by
  obtain ⟨hl, h⟩ := h
  refine ⟨hl, ?_⟩
  rcases h with h | ⟨g, cap, cur, hv, hg, hh, r⟩
  · exact Or.inl h
  · have hb : g < w.heap.size := by
      by_cases hb : g < w.heap.size
      · exact hb
      · simp [Array.getElem?_eq_none (Nat.le_of_not_lt hb)] at hh
    exact Or.inr ⟨g, cap, cur, hv, hg, by rw [t.block g hb (hF g (by rw [hv]; rfl))]; exact hh, r⟩
theorem rowBlock {w : World} {base e size n : Nat} {v : Value} {xs : List Value} (h : w.ownsRow base e size v n xs) {k : Nat} (hk : InBlock v k) : base ≤ k ∧ k < w.heap.size := by
  obtain ⟨hl, h⟩ := h
  rcases h with ⟨rfl, _⟩ | ⟨g, cap, cur, rfl, hg, hh, r⟩
  · cases hk
  · have e : g = k := by simpa [InBlock, Value.ownBlock] using hk
    subst e
    refine ⟨hg, ?_⟩
    by_cases hb : g < w.heap.size
    · exact hb
    · simp [Array.getElem?_eq_none (Nat.le_of_not_lt hb)] at hh
theorem DiskIn.touch {F : Nat → Prop} {w w' : World} {d gs gn cs cn : Nat} {rs rn : List Value} {vw : Value} {D : Dk.Disk} (h : DiskIn w d gs gn cs cn rs rn vw D) (t : Touch F w w') (hd : ¬ F d) (hs : ¬ F gs) (hn : ¬ F gn) (hw : ∀ k, InBlock vw k → ¬ F k) :
    DiskIn w' d gs gn cs cn rs rn vw D :=
  ⟨h.ok, t.cell hd h.c0, t.cell hd h.c1, t.cell hd h.c2, fun o => (t.frozen h.lt hd o).trans (h.soft o), h.sure.touch t hs, h.seen.touch t hn, h.lcs, h.lcn, h.mcs, h.mcn, rowTouch h.waits t hw, h.ne, h.wne⟩
theorem DiskAt.touch {F : Nat → Prop} {w w' : World} {d : Nat} {D : Dk.Disk} {O : Nat → Prop} (h : DiskAt w d D O) (t : Touch F w w') (hF : ∀ k, k < w.heap.size → O k → ¬ F k) : DiskAt w' d D O := by
  obtain ⟨gs, gn, cs, cn, rs, rn, vw, h, o1, o2, o3, o4⟩ := h
  exact ⟨gs, gn, cs, cn, rs, rn, vw, h.touch t (hF _ h.lt o1) (hF _ h.sure.lt o2) (hF _ h.seen.lt o3) (fun k hk => hF k (rowBlock h.waits hk).2 (o4 k hk)), o1, o2, o3, o4⟩
theorem DiskAt.no {w w' : World} {d : Nat} {D : Dk.Disk} {O : Nat → Prop} (h : DiskAt w d D O) (t : Touch No w w') : DiskAt w' d D O := h.touch t (fun _ _ _ f => f)

/-- p is no disk that a call made -/
def NotDisk (w : World) (p : Value) : Prop := p = .pointer none ∨ ∃ b, p = .pointer (some ⟨b, 0, none⟩) ∧ w.cell? ⟨b, 1, none⟩ = some (.slice none 0 0)

/-- what ask says of a disk -/
def askSays (len : Nat) (n : Int) : Nat := if 0 ≤ n ∧ n < len then 0 else 1

set_option maxHeartbeats 400000 in
theorem ask_not (w : World) (p : Value) (n : Int) (h : NotDisk w p) : Calls Tryz.prog 56 #[p, .int .i64 n] w fun e w' => e = .returned (.int .i64 2) ∧ w = w' := by
  have hq := fun wx => Lib.run_eql_slice_nil (P := Tryz.prog) wx 123 122 none 0 0 0 0 Tryz.underlying123
  rcases h with rfl | ⟨b, rfl, h⟩
  all_goals
    go_enter Tryz.func56, Tryz.ntmps56
    go_wp2
    go_ret
    exact ⟨rfl, rfl⟩

set_option maxHeartbeats 400000 in
theorem ask_any (w : World) (d : Nat) (D : Dk.Disk) (O : Nat → Prop) (n : Int) (h : DiskAt w d D O) :
    Calls Tryz.prog 56 #[.pointer (some ⟨d, 0, none⟩), .int .i64 n] w fun e w' => e = .returned (.int .i64 (askSays D.seen.length n : Nat)) ∧ w = w' := by
  obtain ⟨gs, gn, cs, cn, rs, rn, vw, h, _⟩ := h
  have hq := fun wx => Lib.run_eql_slice_nil (P := Tryz.prog) wx 123 122 (some ⟨gn, 0, none⟩) D.seen.length cn 0 0 Tryz.underlying123
  have hc := h.c1
  have Fin : Hid (∀ r : Nat, ((0 ≤ n ∧ n < D.seen.length) ∧ r = 0 ∨ (n < 0 ∨ D.seen.length ≤ n) ∧ r = 1) → askSays D.seen.length n = r) := fun r hr => by
    unfold askSays
    rcases hr with ⟨h1, rfl⟩ | ⟨h1, rfl⟩
    · rw [if_pos h1]
    · rw [if_neg (by omega)]
  clear h
  generalize D.seen.length = m at *
  by_cases h0 : n < 0
  · go_enter Tryz.func56, Tryz.ntmps56
    go_wp2
    go_ret
    exact ⟨by rw [Fin.out 1 (Or.inr ⟨Or.inl h0, rfl⟩)]; rfl, rfl⟩
  · by_cases h1 : n < m
    · have h1' : ¬ (m : Int) ≤ n := by omega
      go_enter Tryz.func56, Tryz.ntmps56
      go_wp2
      go_ret
      exact ⟨by rw [Fin.out 0 (Or.inl ⟨⟨by omega, h1⟩, rfl⟩)]; rfl, rfl⟩
    · have h1' : (m : Int) ≤ n := by omega
      go_enter Tryz.func56, Tryz.ntmps56
      go_wp2
      go_ret
      exact ⟨by rw [Fin.out 1 (Or.inr ⟨Or.inr h1', rfl⟩)]; rfl, rfl⟩
end Go.Proofs.YtnffigfafalocaaGreatDoor
namespace Go.Proofs.YtnffigfafalocaaGreatDoor
open Go Go.RowKit

set_option maxHeartbeats 400000 in
theorem len_in (w : World) (d : Nat) (D : Dk.Disk) (O : Nat → Prop) (h : DiskAt w d D O) :
    Calls Tryz.prog 58 #[.pointer (some ⟨d, 0, none⟩)] w fun e w' => e = .returned (.int .i64 (D.seen.length : Nat)) ∧ w = w' := by
  have H := Lib.hid h
  have ok := h.ok
  obtain ⟨gs, gn, cs, cn, rs, rn, vw, h, _⟩ := h
  have hc := h.c1
  have e0 : askSays D.seen.length 0 = 0 := by
    have := ok.pos
    unfold askSays; rw [if_pos (by omega)]
  clear h ok
  go_enter Tryz.func58, Tryz.ntmps58
  go_wp2_with (go_at_call 56; refine (ask_any _ _ _ _ _ H.out).mono ?_; rintro e w' ⟨rfl, rfl⟩; rw [e0])
  go_ret
  exact ⟨rfl, rfl⟩

theorem rowSlice {w : World} {base e size n : Nat} {v : Value} {xs : List Value} (h : w.ownsRow base e size v n xs) : ∃ a c, v = .slice a n c ∧ n ≤ c ∧ c ≤ maxLen := by
  obtain ⟨_, h⟩ := h
  rcases h with ⟨rfl, rfl⟩ | ⟨g, cap, cur, rfl, _, _, h1, h2, _⟩
  · exact ⟨_, _, rfl, Nat.le_refl _, by unfold maxLen; omega⟩
  · exact ⟨_, _, rfl, h1, h2⟩

/-! ### the types of the elements -/
/-- what a type's zero and room are -/
structure TypeIs (t : TypeId) (i : TypeInfo) (z : Value) (size bytes : Nat) (cells : List Value) : Prop where
  info : Tryz.prog.info? t = some i
  zero : i.zero = some z
  size : i.size = size
  bytes : i.bytes = bytes
  cells : z.cells = cells.toArray
theorem type_is {t : TypeId} {size bytes : Nat} {cells : List Value} (h : (Tryz.prog.info? t).map (fun i => (i.zero.map (·.cells), i.size, i.bytes)) = some (some cells.toArray, size, bytes)) : ∃ i z, TypeIs t i z size bytes cells := by
  cases hi : Tryz.prog.info? t with
  | none => simp [hi] at h
  | some i =>
    rw [hi] at h
    simp only [Option.map_some, Option.some.injEq, Prod.mk.injEq] at h
    obtain ⟨h1, h2, h3⟩ := h
    cases hz : i.zero with
    | none => simp [hz] at h1
    | some z => exact ⟨i, z, hi, hz, h2, h3, by simpa [hz] using h1⟩
theorem sec_is : ∃ i z, TypeIs 122 i z 65 72 (secCells Dk.noughts) := type_is (by kernel_rfl)
theorem wr_is : ∃ i z, TypeIs 133 i z 66 80 (wrCells ⟨0, Dk.noughts.b, 0⟩) := type_is (by kernel_rfl)

theorem secCells_one (s : Dk.Sec) : ∀ u ∈ secCells s, u.oneCell' = true := by
  intro u hu
  rcases List.mem_append.1 hu with h | h
  · obtain ⟨x, _, rfl⟩ := List.mem_map.1 h; rfl
  · rw [List.mem_singleton.1 h]; rfl
theorem wrCells_one (x : Dk.Wr) : ∀ u ∈ wrCells x, u.oneCell' = true := by
  intro u hu
  rcases List.mem_cons.1 hu with rfl | h
  · rfl
  rcases List.mem_append.1 h with h | h
  · obtain ⟨x, _, rfl⟩ := List.mem_map.1 h; rfl
  · rw [List.mem_singleton.1 h]; rfl
theorem secs_one (l : List Dk.Sec) : ∀ u ∈ l.flatMap secCells, u.oneCell' = true := by
  intro u hu
  obtain ⟨s, _, h⟩ := List.mem_flatMap.1 hu
  exact secCells_one s u h

theorem ownRow {w : World} {base e size n : Nat} {v : Value} {xs : List Value} (h : w.ownsRow base e size v n xs) (hv : v ≠ .slice none 0 0) :
    ∃ g c r, v = .slice (some ⟨g, 0, none⟩) n c ∧ base ≤ g ∧ Row w g e (xs ++ r) ∧ n ≤ c ∧ c ≤ maxLen := by
  obtain ⟨_, h⟩ := h
  rcases h with ⟨rfl, _⟩ | ⟨g, cap, cur, rfl, h1, h2, h3, h4, h5, h6⟩
  · exact absurd rfl hv
  · refine ⟨g, cap, cur.toList.drop (n * size), rfl, h1, ?_, h3, h4⟩
    rw [Row, h2, ← h6, List.take_append_drop, Array.toArray_toList]

set_option maxHeartbeats 2000000 in
theorem clone_secs (w : World) (g c : Nat) (l : List Dk.Sec) (r : List Value) (hr : Row w g 122 (l.flatMap secCells ++ r)) (hn : l.length ≤ 16384) :
    Calls Tryz.prog 209 #[.slice (some ⟨g, 0, none⟩) l.length c] w fun e w' => ∃ g' c' r', e = .returned (.slice (some ⟨g', 0, none⟩) l.length c') ∧ w.heap.size ≤ g' ∧ Row w' g' 122 (l.flatMap secCells ++ r') ∧ l.length ≤ c' ∧ c' ≤ maxLen ∧ Touch No w w' := by
  have hq := fun (w : World) (a : Option Addr) (n c n' c' : Nat) => Lib.run_eql_slice_nil (P := Tryz.prog) w 123 122 a n c n' c' Tryz.underlying123
  have hlen : (l.flatMap secCells).length = l.length * 65 := flat_length secCells_length l
  obtain ⟨I, z, hI⟩ := sec_is
  have HI := Lib.hid hI
  clear hI
  have H := Lib.hid hr
  have Hl := Lib.hid hlen
  have Hn := Lib.hid hn
  clear hr hlen hn
  generalize l.length = m at *
  go_enter Tryz.func209, Tryz.ntmps209
  go_wp2_with (at_builtin; refine wpList_append_own _ rfl _ _ 123 rfl w.heap.size 122 I z 65 72 Tryz.underlying123 HI.out.info HI.out.zero HI.out.size HI.out.bytes (by rw [HI.out.cells]; exact secCells_length _) (by decide) _ _ _ rfl (World.ownsRow_made w #[] 0 (Nat.le_refl _) (Nat.zero_le _) (by simp)) ⟨g, 0, none⟩ m c (l.flatMap secCells) rfl ?qc1 ?qc2 ?qc3 ?qc4 ?qc5 ?qc6 ?_)
  case qc1 => exact Hl.out
  case qc2 =>
    intro j u hj
    rw [Addr.add_lit]
    refine Lib.cell?_alloc_some _ ?_
    rw [Nat.zero_add, H.out.cell]
    rw [List.getElem?_append_left (by
      by_cases hh : j < (l.flatMap secCells).length
      · exact hh
      · rw [List.getElem?_eq_none (by omega)] at hj; cases hj)]
    exact hj
  case qc3 => exact secs_one l
  case qc4 => have := Hn.out; unfold maxLen; omega
  case qc5 => have := Hn.out; omega
  case qc6 => simp
  intro v' w1 hown hgrow hnil
  have Ho := Lib.hid hown
  have Hg := Lib.hid hgrow
  have Hx := Lib.hid hnil
  clear hown hgrow hnil
  go_wp2
  go_ret
  obtain ⟨g', c', r', rfl, h1, h2, h3, h4⟩ := ownRow Ho.out Hx.out
  refine ⟨g', c', r', by simp, h1, by simpa using h2, by simpa using h3, h4, ?_⟩
  exact ((Touch.refl No w).alloc _).grown Hg.out (by intro k hk hlt; simp [Value.ownBlock] at hk; omega)

/-- of: a disk of sectors that are sure -/
theorem of_is (w : World) (g c : Nat) (l : List Dk.Sec) (r : List Value) (hr : Row w g 122 (l.flatMap secCells ++ r)) (h1 : 1 ≤ l.length) (hn : l.length ≤ 16384) (hc : l.length ≤ c) (hm : c ≤ maxLen) (hok : ∀ s ∈ l, s.Ok) :
    Calls Tryz.prog 128 #[.slice (some ⟨g, 0, none⟩) l.length c] w fun e w' => ∃ d, e = .returned (.pointer (some ⟨d, 0, none⟩)) ∧ w.heap.size ≤ d ∧ DiskAt w' d ⟨l, l, []⟩ (fun k => k = g ∨ w.heap.size ≤ k) ∧ Touch No w w' := by
  have H := Lib.hid hr
  have hg := hr.lt
  have Hg := Lib.hid hg
  have Hn := Lib.hid hn
  have Hc := Lib.hid hc
  have Hm := Lib.hid hm
  have H1 := Lib.hid h1
  clear hr hn hc hm hg h1
  have E : Hid (l.length = l.length) := rfl
  obtain ⟨m, Em⟩ : ∃ m, l.length = m := ⟨_, rfl⟩
  rw [Em]
  have HEm := Lib.hid Em
  clear Em E
  go_enter Tryz.func128, Tryz.ntmps128
  go_wp2_with fail
  rw [← HEm.out]
  refine (clone_secs w g c l r H.out Hn.out).mono ?_
  rintro e w1 ⟨g', c', r', rfl, k1, k2, k3, k4, k5⟩
  rw [HEm.out]
  have K1 := Lib.hid k1
  have K2 := Lib.hid k2
  have K3 := Lib.hid k3
  have K4 := Lib.hid k4
  have K5 := Lib.hid k5
  clear k1 k2 k3 k4 k5
  go_wp2
  go_ret
  have hg' := K2.out.lt
  have hsz := K5.out.size
  have em := HEm.out
  have T1 : Touch No w1 (w1.alloc (Obj.cells #[.slice (some ⟨g, 0, none⟩) m c, .slice (some ⟨g', 0, none⟩) m c', .slice none 0 0] 126)) := (Touch.refl No w1).alloc _
  refine ⟨w1.heap.size, rfl, hsz, ⟨g, g', c, c', r, r', .slice none 0 0, ?_, Or.inr hsz, Or.inl rfl, Or.inr K1.out, fun k hk => by cases hk⟩, (K5.out.alloc _)⟩
  refine ⟨⟨rfl, H1.out, Hn.out, hok, hok, fun x hx => by cases hx⟩, ?_, ?_, ?_, fun o => ?_, ?_, ?_, Hc.out, K3.out, Hm.out, K4.out, ⟨rfl, Or.inl ⟨rfl, rfl⟩⟩, ?_, fun k hk => by cases hk⟩
  · rw [cell_new]; simp only [em]; rfl
  · rw [cell_new]; simp only [em]; rfl
  · rw [cell_new]; rfl
  · rw [frozen_new]
  · exact (H.out.touch K5.out id).touch T1 id
  · exact K2.out.touch T1 id
  · have := Hg.out
    have := K1.out
    exact ⟨by omega, by omega, by omega⟩
end Go.Proofs.YtnffigfafalocaaGreatDoor
namespace Go.Proofs.YtnffigfafalocaaGreatDoor
open Go Go.RowKit

theorem made_flat {α : Type} {f : α → List Value} {k : Nat} (hf : ∀ x, (f x).length = k) (hk : 0 < k) (x : α) (n : Nat) : madeCells (f x).toArray (n * k) = ((List.replicate n x).flatMap f).toArray := by
  apply Array.ext'
  refine List.ext_getElem? (fun i => ?_)
  have hl : ((List.replicate n x).flatMap f).length = n * k := by rw [flat_length hf]; simp
  by_cases hi : i < n * k
  · have hq : i / k < n := (Nat.div_lt_iff_lt_mul hk).2 hi
    have he : i = (i / k) * k + i % k := (Nat.div_add_mod' i k).symm
    have hm := Nat.mod_lt i hk
    have h1 : ((List.replicate n x).flatMap f)[i]? = (f x)[i % k]? := by
      conv => lhs; rw [he]
      exact flat_get hf _ _ _ x (by rw [List.getElem?_replicate]; simp [hq]) hm
    rw [show ((List.replicate n x).flatMap f).toArray.toList = (List.replicate n x).flatMap f from rfl, h1]
    unfold madeCells
    simp [hi, hf, List.getElem?_eq_getElem (show i % k < (f x).length by rw [hf]; exact hm)]
  · rw [List.getElem?_eq_none (by rw [Array.length_toList, size_madeCells]; omega), List.getElem?_eq_none (by rw [hl]; omega)]

set_option maxHeartbeats 2000000 in
theorem new_is (w : World) (n : Nat) (h1 : 1 ≤ n) (hn : n ≤ 16384) :
    Calls Tryz.prog 40 #[.int .i64 (n : Nat)] w fun e w' => ∃ d, e = .returned (.tuple #[.pointer (some ⟨d, 0, none⟩), .int .i64 0]) ∧ w.heap.size ≤ d ∧ DiskAt w' d (Dk.new n) (fun k => w.heap.size ≤ k) ∧ Touch No w w' := by
  obtain ⟨I, z, hI⟩ := sec_is
  have hmk : ∀ wx : World, (Instr.makeSlice 123 (.int .i64 (n : Int)) (.int .i64 (n : Int))).run Tryz.prog wx = .ok (.slice (some ⟨wx.heap.size, 0, none⟩) n n) (wx.alloc (.cells ((List.replicate n Dk.noughts).flatMap secCells).toArray 122)) := fun wx => by
    have := run_make (P := Tryz.prog) wx 123 122 I z Tryz.underlying123 hI.info hI.zero .i64 .i64 (n : Int) (n : Int) (by omega) (by omega) (by rw [hI.bytes]; omega) (by omega)
    rw [this, hI.cells, hI.size, Int.toNat_natCast, made_flat secCells_length (by decide)]
  clear hI
  have g1 : ¬ (n : Int) < 1 := by omega
  have g2 : ¬ (16384 : Int) < (n : Int) := by omega
  go_enter Tryz.func40, Tryz.ntmps40
  go_wp2_with fail
  have hl : (List.replicate n Dk.noughts).length = n := List.length_replicate
  have hR : Row (w.alloc (.cells ((List.replicate n Dk.noughts).flatMap secCells).toArray 122)) w.heap.size 122 ((List.replicate n Dk.noughts).flatMap secCells ++ []) := by
    rw [List.append_nil]; exact Row.new w _ _
  have hc := of_is _ _ n (List.replicate n Dk.noughts) [] hR (by rw [hl]; exact h1) (by rw [hl]; exact hn) (by rw [hl]; exact Nat.le_refl _) (by unfold maxLen; omega) (fun s hs => by rw [(List.mem_replicate.1 hs).2]; exact Dk.noughts_ok)
  rw [hl] at hc
  refine hc.mono ?_
  rintro e w1 ⟨d, rfl, k1, k2, k3⟩
  have K1 := Lib.hid k1
  have K2 := Lib.hid k2
  have K3 := Lib.hid k3
  clear k1 k2 k3
  go_wp2
  go_ret2
  have hs := K1.out
  rw [size_alloc] at hs
  refine ⟨d, rfl, by omega, ?_, ((Touch.refl No w).alloc _).trans K3.out⟩
  obtain ⟨gs, gn, cs, cn, rs, rn, vw, h, o1, o2, o3, o4⟩ := K2.out
  have P : ∀ k, (k = w.heap.size ∨ (w.alloc (.cells ((List.replicate n Dk.noughts).flatMap secCells).toArray 122)).heap.size ≤ k) → w.heap.size ≤ k := fun k hk => by
    rw [size_alloc] at hk; omega
  exact ⟨gs, gn, cs, cn, rs, rn, vw, h, P _ o1, P _ o2, P _ o3, fun k hk => P _ (o4 k hk)⟩
set_option maxHeartbeats 2000000 in
theorem sync_in (w : World) (d : Nat) (D : Dk.Disk) (O : Nat → Prop) (h : DiskAt w d D O) :
    Calls Tryz.prog 146 #[.pointer (some ⟨d, 0, none⟩)] w fun e w' => e = .returned (.int .i64 0) ∧ Touch O w w' ∧ DiskAt w' d (Dk.sync D) (fun k => O k ∨ w.heap.size ≤ k) := by
  have H := Lib.hid h
  have ok := h.ok
  have Hd := Lib.hid h.lt
  obtain ⟨gs, gn, cs, cn, rs, rn, vw, h, o1, o2, o3, o4⟩ := h
  have hc := h.c1
  have Hi := Lib.hid h
  have Hok := Lib.hid ok
  have e0 : askSays D.seen.length 0 = 0 := by
    have := ok.pos
    unfold askSays; rw [if_pos (by omega)]
  clear h ok
  have Hc := Lib.hid hc
  clear hc
  go_enter Tryz.func146, Tryz.ntmps146
  go_wp2_with fail
  refine (ask_any w d D O _ H.out).mono ?_
  rintro e w' ⟨rfl, rfl⟩
  rw [e0]
  have hc := Hc.out
  go_wp2_with fail
  refine (clone_secs w gn cn D.seen rn Hi.out.seen Hok.out.top).mono ?_
  rintro e w1 ⟨g', c', r', rfl, k1, k2, k3, k4, k5⟩
  clear hc
  have f0 : w1.frozen? ⟨d, 0, none⟩ = false := (k5.frozen Hd.out id 0).trans (Hi.out.soft 0)
  have f2 : w1.frozen? ⟨d, 2, none⟩ = false := (k5.frozen Hd.out id 2).trans (Hi.out.soft 2)
  have c0 := k5.cell (id : No d → False) Hi.out.c0
  have c2 := k5.cell (id : No d → False) Hi.out.c2
  have K1 := Lib.hid k1
  have K2 := Lib.hid k2
  have K3 := Lib.hid k3
  have K4 := Lib.hid k4
  have K5 := Lib.hid k5
  have C0 := Lib.hid c0
  have C2 := Lib.hid c2
  clear k1 k2 k3 k4 k5
  go_wp2
  go_ret
  have T2 : Touch (One d) w1 ((w1.setCell ⟨d, 0, none⟩ (.slice (some ⟨g', 0, none⟩) D.seen.length c')).setCell ⟨d, 2, none⟩ (.slice none 0 0)) := ((Touch.refl (One d) w1).setCell (p := ⟨d, 0, none⟩) (fun _ => rfl) _).setCell (p := ⟨d, 2, none⟩) (fun _ => rfl) _
  have d1 : d < w1.heap.size := Nat.lt_of_lt_of_le Hd.out K5.out.size
  have eg : g' ≠ d := fun e => by have := K1.out; have := Hd.out; omega
  have sn := Hi.out.seen.touch K5.out id
  refine ⟨rfl, (Touch.no (F := O) K5.out).then T2 (fun i _ e => by rw [show i = d from e]; exact o1), g', gn, c', cn, r', rn, .slice none 0 0, ⟨Dk.sync_ok Hok.out, ?_, ?_, ?_, fun o => ?_, K2.out.touch T2 eg, sn.touch T2 (fun e => Hi.out.ne.2.1 e.symm), K3.out, Hi.out.lcn, K4.out, Hi.out.mcn, ⟨rfl, Or.inl ⟨rfl, rfl⟩⟩, ⟨Ne.symm eg, Hi.out.ne.2.1, fun e => ?_⟩, fun k hk => by cases hk⟩, Or.inl o1, Or.inr K1.out, Or.inl o3, fun k hk => by cases hk⟩
  · rw [cell_set_ne (Or.inr (by decide))]; exact cell_set C0.out
  · rw [cell_set_ne (Or.inr (by decide)), cell_set_ne (Or.inr (by decide))]; exact K5.out.cell (id : No d → False) Hi.out.c1
  · exact cell_set ((cell_set_ne (Or.inr (by decide))).trans C2.out)
  · rw [World.frozen?_setCell, World.frozen?_setCell]; exact (K5.out.frozen Hd.out id o).trans (Hi.out.soft o)
  · have := K1.out; have := Hi.out.seen.lt; omega
end Go.Proofs.YtnffigfafalocaaGreatDoor
