/-
  The plain mathematics of a disk of sectors: what each call makes of it, and how it lies in rows of cells.
-/
import Derived.Test.YtkiehoboeiengaaGreatDoorK02
namespace Go.Proofs.YtkiehoboeiengaaGreatDoor
open Go Go.RowKit

/-! ### rows of equal pieces -/
section
variable {α : Type} {f : α → List Value} {k : Nat}
theorem flat_length (hf : ∀ x, (f x).length = k) : ∀ (l : List α), (l.flatMap f).length = l.length * k
  | [] => by simp
  | x :: l => by rw [List.flatMap_cons, List.length_append, hf, flat_length hf l, List.length_cons, Nat.add_mul]; omega
theorem flat_get (hf : ∀ x, (f x).length = k) : ∀ (l : List α) (n j : Nat) (x : α), l[n]? = some x → j < k → (l.flatMap f)[n * k + j]? = (f x)[j]?
  | [], n, j, x, h, _ => by simp at h
  | y :: l, 0, j, x, h, hj => by
    have : y = x := by simpa using h
    subst this
    rw [List.flatMap_cons, Nat.zero_mul, Nat.zero_add, List.getElem?_append_left (by rw [hf]; exact hj)]
  | y :: l, n + 1, j, x, h, hj => by
    have h' : l[n]? = some x := by simpa using h
    rw [List.flatMap_cons, List.getElem?_append_right (by rw [hf, Nat.add_mul]; omega), hf, ← flat_get hf l n j x h' hj]
    congr 1
    rw [Nat.add_mul]; omega
theorem flat_set (hf : ∀ x, (f x).length = k) : ∀ (l : List α) (n : Nat) (y : α) (r : List Value), n < l.length → splice (l.flatMap f ++ r) (n * k) (f y) = (l.set n y).flatMap f ++ r
  | [], n, y, r, h => by simp at h
  | x :: l, 0, y, r, _ => by
    simp only [splice, Nat.zero_mul, List.take_zero, List.nil_append, Nat.zero_add, List.set_cons_zero, List.flatMap_cons, List.append_assoc]
    rw [hf, List.drop_append_of_le_length (by rw [hf]; exact Nat.le_refl _), List.drop_of_length_le (by rw [hf]; exact Nat.le_refl _), List.nil_append]
  | x :: l, n + 1, y, r, h => by
    have hn : n < l.length := by simpa using h
    have ih := flat_set hf l n y r hn
    simp only [splice, List.set_cons_succ, List.flatMap_cons, List.append_assoc] at ih ⊢
    rw [← ih]
    have e : (n + 1) * k = (f x).length + n * k := by rw [hf, Nat.add_mul]; omega
    rw [e, List.take_append, Nat.add_assoc, List.drop_append]
    have h1 : (f x).length + n * k - (f x).length = n * k := by omega
    have h2 : (f x).length + (n * k + (f y).length) - (f x).length = n * k + (f y).length := by omega
    rw [h1, h2, List.take_of_length_le (by omega), List.drop_of_length_le (by omega)]
    simp
/-- one cell of a piece -/
theorem flat_cell (hf : ∀ x, (f x).length = k) (l : List α) (n j : Nat) (x y : α) (v : Value) (r : List Value) (hx : l[n]? = some x) (hj : j < k) (hy : f y = (f x).set j v) : (l.flatMap f ++ r).set (n * k + j) v = (l.set n y).flatMap f ++ r := by
  have hn : n < l.length := by
    rcases Nat.lt_or_ge n l.length with h | h
    · exact h
    · rw [List.getElem?_eq_none h] at hx; cases hx
  rw [← flat_set hf l n y r hn, hy]
  refine List.ext_getElem? (fun i => ?_)
  have hlen : (l.flatMap f).length = l.length * k := flat_length hf l
  have hnk : n * k + k ≤ l.length * k := by have := Nat.mul_le_mul_right k hn; rw [Nat.succ_mul] at this; exact this
  have hlx := hf x
  have ht : ((l.flatMap f ++ r).take (n * k)).length = n * k := by rw [List.length_take, List.length_append]; omega
  simp only [splice, List.length_set]
  by_cases h1 : i < n * k
  · rw [List.append_assoc, List.getElem?_append_left (by rw [ht]; exact h1), List.getElem?_take_of_lt h1, List.getElem?_set_ne (by omega)]
  · by_cases h2 : i < n * k + k
    · obtain ⟨q, rfl⟩ : ∃ q, i = n * k + q := ⟨i - n * k, by omega⟩
      rw [List.getElem?_append_left (by rw [List.length_append, ht, List.length_set]; omega), List.getElem?_append_right (by rw [ht]; omega), ht, Nat.add_sub_cancel_left]
      by_cases h3 : q = j
      · subst h3
        rw [List.getElem?_set_self (by rw [List.length_append]; omega), List.getElem?_set_self (by omega)]
      · rw [List.getElem?_set_ne (by omega), List.getElem?_set_ne (Ne.symm h3), List.getElem?_append_left (by omega), flat_get hf l n q x hx (by omega)]
    · rw [List.getElem?_set_ne (by omega)]
      symm
      rw [List.getElem?_append_right (by rw [List.length_append, ht, List.length_set]; omega), List.length_append, ht, List.length_set, List.getElem?_drop]
      congr 1
      omega
end

namespace Dk
structure Sec where
  b : List Nat
  bad : Nat
structure Wr where
  n : Nat
  b : List Nat
  elder : Nat
structure Disk where
  sure : List Sec
  seen : List Sec
  waits : List Wr

structure Bytes (b : List Nat) : Prop where
  len : b.length = 64
  lt : ∀ x ∈ b, x < 256
structure Sec.Ok (s : Sec) : Prop where
  b : Bytes s.b
  bad : s.bad ≤ 1
structure Wr.Ok (n : Nat) (x : Wr) : Prop where
  n : x.n < n
  b : Bytes x.b
  elder : x.elder ≤ 1
structure Ok (d : Disk) : Prop where
  len : d.sure.length = d.seen.length
  pos : 1 ≤ d.seen.length
  top : d.seen.length ≤ 16384
  sure : ∀ s ∈ d.sure, s.Ok
  seen : ∀ s ∈ d.seen, s.Ok
  waits : ∀ x ∈ d.waits, x.Ok d.seen.length

/-- a sector's bytes: what is written, noughts behind it -/
def pad (b : List Nat) : List Nat := b ++ List.replicate (64 - b.length) 0
def noughts : Sec := ⟨List.replicate 64 0, 0⟩
def new (n : Nat) : Disk := ⟨List.replicate n noughts, List.replicate n noughts, []⟩
def write (d : Disk) (n : Nat) (b : List Nat) : Disk := ⟨d.sure, d.seen.set n ⟨pad b, 0⟩, d.waits ++ [⟨n, pad b, 0⟩]⟩
def sync (d : Disk) : Disk := ⟨d.seen, d.seen, []⟩
def turnB (b : List Nat) (p x : Nat) : List Nat := b.set p (b.getD p 0 ^^^ x)
def turnS (p x : Nat) (s : Sec) : Sec := ⟨turnB s.b p x, s.bad⟩
def turnW (n p x : Nat) (y : Wr) : Wr := if y.n = n then ⟨y.n, turnB y.b p x, y.elder⟩ else y
def badS (s : Sec) : Sec := ⟨s.b, 1⟩
def badW (n : Nat) (y : Wr) : Wr := if y.n = n then ⟨y.n, y.b, 1⟩ else y
def at_ (l : List Sec) (n : Nat) : Sec := l.getD n noughts
def upd (l : List Sec) (n : Nat) (f : Sec → Sec) : List Sec := l.set n (f (at_ l n))
def rot (d : Disk) (n p x : Nat) : Disk := ⟨upd d.sure n (turnS p x), upd d.seen n (turnS p x), d.waits.map (turnW n p x)⟩
def bad (d : Disk) (n : Nat) : Disk := ⟨upd d.sure n badS, upd d.seen n badS, d.waits.map (badW n)⟩
def tornS (y : Wr) (s : Sec) : Sec := ⟨y.b.take 32 ++ s.b.drop 32, s.bad⟩
def keptS (y : Wr) (s : Sec) : Sec := ⟨y.b, s.bad &&& y.elder⟩
def failStep (keep : Nat) (torn : Int) (l : List Sec) (i : Nat) (y : Wr) : List Sec :=
  if (i : Int) = torn then upd l y.n (tornS y) else if keep.testBit (i % 64) then upd l y.n (keptS y) else l
def failed (keep : Nat) (torn : Int) : List Sec → Nat → List Wr → List Sec
  | l, _, [] => l
  | l, i, y :: r => failed keep torn (failStep keep torn l i y) (i + 1) r
def fail (d : Disk) (keep : Nat) (torn : Int) : Disk := ⟨failed keep torn d.sure 0 d.waits, failed keep torn d.sure 0 d.waits, []⟩

theorem pad_ok {b : List Nat} (h : b.length ≤ 64) (hb : ∀ x ∈ b, x < 256) : Bytes (pad b) :=
  ⟨by simp [pad]; omega, fun x hx => by
    rcases List.mem_append.1 hx with h | h
    · exact hb x h
    · have := (List.mem_replicate.1 h).2; omega⟩
theorem noughts_ok : noughts.Ok := ⟨⟨by simp [noughts], fun x hx => by have := (List.mem_replicate.1 hx).2; omega⟩, by simp [noughts]⟩
theorem upd_length (l : List Sec) (n : Nat) (f : Sec → Sec) : (upd l n f).length = l.length := by simp [upd]
theorem mem_set {α : Type} {l : List α} {n : Nat} {y x : α} (h : x ∈ l.set n y) : x ∈ l ∨ x = y := List.mem_or_eq_of_mem_set h
theorem at_mem {l : List Sec} {n : Nat} (h : n < l.length) : at_ l n ∈ l := by
  rw [at_, List.getD_eq_getElem?_getD, List.getElem?_eq_getElem h]; exact List.getElem_mem h
theorem at_get {l : List Sec} {n : Nat} (h : n < l.length) : l[n]? = some (at_ l n) := by
  rw [at_, List.getD_eq_getElem?_getD, List.getElem?_eq_getElem h]; rfl
theorem upd_ok {l : List Sec} {n : Nat} {f : Sec → Sec} (h : ∀ s ∈ l, s.Ok) (hn : n < l.length) (hf : ∀ s, s.Ok → (f s).Ok) : ∀ s ∈ upd l n f, s.Ok := by
  intro s hs
  rcases mem_set hs with h' | h'
  · exact h s h'
  · rw [h']; exact hf _ (h _ (at_mem hn))
theorem turnB_ok {b : List Nat} {p x : Nat} (h : Bytes b) (hx : x < 256) : Bytes (turnB b p x) := by
  refine ⟨by simp [turnB, h.len], fun y hy => ?_⟩
  rcases mem_set hy with h' | h'
  · exact h.lt y h'
  · rw [h']
    have hp : b.getD p 0 < 256 := by
      rw [List.getD_eq_getElem?_getD]
      cases hq : b[p]? with
      | none => simp
      | some z => exact h.lt z (List.mem_of_getElem? hq)
    exact Nat.xor_lt_two_pow (n := 8) hp hx
theorem turnS_ok {p x : Nat} (hx : x < 256) {s : Sec} (h : s.Ok) : (turnS p x s).Ok := ⟨turnB_ok h.b hx, h.bad⟩
theorem badS_ok {s : Sec} (h : s.Ok) : (badS s).Ok := ⟨h.b, Nat.le_refl _⟩
theorem tornS_ok {y : Wr} {m : Nat} (hy : y.Ok m) {s : Sec} (h : s.Ok) : (tornS y s).Ok := by
  refine ⟨⟨by simp [tornS, hy.b.len, h.b.len], fun x hx => ?_⟩, h.bad⟩
  rcases List.mem_append.1 hx with h' | h'
  · exact hy.b.lt x (List.mem_of_mem_take h')
  · exact h.b.lt x (List.mem_of_mem_drop h')
theorem keptS_ok {y : Wr} {m : Nat} (hy : y.Ok m) {s : Sec} (h : s.Ok) : (keptS y s).Ok := ⟨hy.b, by
  have h1 := h.bad
  have h2 := hy.elder
  simp only [keptS]
  have : s.bad &&& y.elder ≤ s.bad := Nat.and_le_left
  omega⟩
theorem failStep_ok {keep : Nat} {torn : Int} {l : List Sec} {i : Nat} {y : Wr} (h : ∀ s ∈ l, s.Ok) (hy : y.Ok l.length) : (∀ s ∈ failStep keep torn l i y, s.Ok) ∧ (failStep keep torn l i y).length = l.length := by
  unfold failStep
  split
  · exact ⟨upd_ok h hy.n (fun s hs => tornS_ok hy hs), upd_length _ _ _⟩
  · split
    · exact ⟨upd_ok h hy.n (fun s hs => keptS_ok hy hs), upd_length _ _ _⟩
    · exact ⟨h, rfl⟩
theorem failed_ok {keep : Nat} {torn : Int} : ∀ (ws : List Wr) (l : List Sec) (i : Nat), (∀ s ∈ l, s.Ok) → (∀ y ∈ ws, y.Ok l.length) → (∀ s ∈ failed keep torn l i ws, s.Ok) ∧ (failed keep torn l i ws).length = l.length
  | [], l, i, h, _ => ⟨h, rfl⟩
  | y :: ws, l, i, h, hw => by
    have h1 := failStep_ok (keep := keep) (torn := torn) (i := i) h (hw y (by simp))
    have h2 := failed_ok (keep := keep) (torn := torn) ws (failStep keep torn l i y) (i + 1) h1.1 (fun z hz => by rw [h1.2]; exact hw z (by simp [hz]))
    exact ⟨h2.1, h2.2.trans h1.2⟩
theorem failed_snoc {keep : Nat} {torn : Int} : ∀ (ws : List Wr) (l : List Sec) (i : Nat) (y : Wr), failed keep torn l i (ws ++ [y]) = failStep keep torn (failed keep torn l i ws) (i + ws.length) y
  | [], l, i, y => by simp [failed]
  | z :: ws, l, i, y => by
    rw [List.cons_append, failed, failed_snoc ws, failed, List.length_cons]
    congr 1; omega

theorem new_ok {n : Nat} (h1 : 1 ≤ n) (h2 : n ≤ 16384) : Ok (new n) :=
  ⟨by simp [new], by simp [new]; exact h1, by simp [new]; exact h2, fun s hs => by rw [(List.mem_replicate.1 hs).2]; exact noughts_ok, fun s hs => by rw [(List.mem_replicate.1 hs).2]; exact noughts_ok, fun x hx => by simp [new] at hx⟩
theorem write_ok {d : Disk} (h : Ok d) {n : Nat} {b : List Nat} (hn : n < d.seen.length) (hl : b.length ≤ 64) (hb : ∀ x ∈ b, x < 256) : Ok (write d n b) :=
  ⟨by simp [write, h.len], by simp [write]; exact h.pos, by simp [write]; exact h.top, h.sure,
    fun s hs => by rcases mem_set hs with h' | h'; exact h.seen s h'; rw [h']; exact ⟨pad_ok hl hb, Nat.zero_le _⟩,
    fun x hx => by
      have e : (write d n b).seen.length = d.seen.length := by simp [write]
      rw [e]
      rcases List.mem_append.1 hx with h' | h'
      · exact h.waits x h'
      · have : x = ⟨n, pad b, 0⟩ := by simpa using h'
        rw [this]; exact ⟨hn, pad_ok hl hb, Nat.zero_le _⟩⟩
theorem sync_ok {d : Disk} (h : Ok d) : Ok (sync d) := ⟨rfl, h.pos, h.top, h.seen, h.seen, fun x hx => by simp [sync] at hx⟩
theorem rot_ok {d : Disk} (h : Ok d) {n p x : Nat} (hn : n < d.seen.length) (hx : x < 256) : Ok (rot d n p x) :=
  ⟨by simp [rot, upd_length, h.len], by simp [rot, upd_length]; exact h.pos, by simp [rot, upd_length]; exact h.top,
    upd_ok h.sure (by rw [h.len]; exact hn) (fun s hs => turnS_ok hx hs), upd_ok h.seen hn (fun s hs => turnS_ok hx hs),
    fun y hy => by
      obtain ⟨z, hz, rfl⟩ := List.mem_map.1 hy
      have := h.waits z hz
      simp only [rot, upd_length, turnW]
      split
      · exact ⟨this.n, turnB_ok this.b hx, this.elder⟩
      · exact this⟩
theorem bad_ok {d : Disk} (h : Ok d) {n : Nat} (hn : n < d.seen.length) : Ok (bad d n) :=
  ⟨by simp [bad, upd_length, h.len], by simp [bad, upd_length]; exact h.pos, by simp [bad, upd_length]; exact h.top,
    upd_ok h.sure (by rw [h.len]; exact hn) (fun s hs => badS_ok hs), upd_ok h.seen hn (fun s hs => badS_ok hs),
    fun y hy => by
      obtain ⟨z, hz, rfl⟩ := List.mem_map.1 hy
      have := h.waits z hz
      simp only [bad, upd_length, badW]
      split
      · exact ⟨this.n, this.b, Nat.le_refl _⟩
      · exact this⟩
theorem fail_ok {d : Disk} (h : Ok d) (keep : Nat) (torn : Int) : Ok (fail d keep torn) := by
  have h1 := failed_ok (keep := keep) (torn := torn) d.waits d.sure 0 h.sure (fun y hy => by rw [h.len]; exact h.waits y hy)
  have e : (failed keep torn d.sure 0 d.waits).length = d.seen.length := h1.2.trans h.len
  exact ⟨rfl, by rw [fail, e]; exact h.pos, by rw [fail, e]; exact h.top, h1.1, h1.1, fun x hx => by simp [fail] at hx⟩
end Dk

/-! ### how they lie in memory -/
def secCells (s : Dk.Sec) : List Value := (List.range 64).map (fun j => Value.int .u8 ((s.b.getD j 0 : Nat) : Int)) ++ [.int .i64 (s.bad : Nat)]
def wrCells (x : Dk.Wr) : List Value := .int .i64 (x.n : Nat) :: ((List.range 64).map (fun j => Value.int .u8 ((x.b.getD j 0 : Nat) : Int)) ++ [.int .i64 (x.elder : Nat)])
theorem secCells_length (s : Dk.Sec) : (secCells s).length = 65 := by simp [secCells]
theorem wrCells_length (x : Dk.Wr) : (wrCells x).length = 66 := by simp [wrCells]
theorem bytes_cells {b : List Nat} (h : b.length = 64) : (List.range 64).map (fun j => Value.int .u8 ((b.getD j 0 : Nat) : Int)) = nums .u8 b := by
  refine List.ext_getElem? (fun i => ?_)
  simp only [nums, List.getElem?_map]
  by_cases hi : i < 64
  · rw [List.getElem?_range hi, List.getElem?_eq_getElem (by omega)]
    simp [List.getD_eq_getElem?_getD, List.getElem?_eq_getElem (show i < b.length by omega)]
  · rw [List.getElem?_eq_none (by simp; omega), List.getElem?_eq_none (by omega)]; rfl
end Go.Proofs.YtkiehoboeiengaaGreatDoor
