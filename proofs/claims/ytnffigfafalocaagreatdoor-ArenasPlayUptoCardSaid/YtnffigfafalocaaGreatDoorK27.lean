/-
  The arena's answers with their room: Get, IDs, beside other parts.
  A book: its cells, its lists, what is held. No program in sight.
  The plain mathematics of a disk of sectors: what each call makes of it, and how it lies in rows of cells.
-/
import Derived.Test.YtnffigfafalocaaGreatDoorK25
import Derived.Test.YtnffigfafalocaaGreatDoorK26
import Derived.Laws.OwnMore
import Derived.Test.YtnffigfafalocaaGreatDoorK04
namespace Go.Proofs.YtnffigfafalocaaGreatDoor
open Go Go.RowKit Go.Maps Go.MuLone
set_option linter.unusedSimpArgs false
set_option linter.unusedVariables false

def ArIds2 (w : World) (g b : Nat) (O : Nat → Prop) (A : Ar.Arena) (e : Ending) (w' : World) : Prop :=
  ∃ a, e = .returned (.slice a A.its.length A.its.length) ∧ SlAt w' 38 a (ints .u32 (Ar.ids A.its)) ∧ (∀ g' o, a = some ⟨g', o, none⟩ → w.heap.size ≤ g' ∧ g' < w'.heap.size) ∧ ArAt w' g b 0 A O ∧ Touch O w w'
theorem sortedA2_any {w : World} {g b : Nat} {lk : Int} {A : Ar.Arena} {O : Nat → Prop} (h : ArAt w g b lk A O) (hok : Ar.Ok A) (hn : A.its.length ≤ 1000000000) :
    Calls Tryz.prog 45 #[.func (.func 178) #[] #[.pointer (some ⟨w.heap.size, 0, none⟩)]] (w.alloc (.cells #[.map (some b)] 145)) fun e w' =>
      ∃ a c, e = .returned (.slice a A.its.length c) ∧ A.its.length ≤ c ∧ SlAt w' 38 a (ints .u32 (Ar.ids A.its)) ∧ (∀ g' o, a = some ⟨g', o, none⟩ → w.heap.size ≤ g' ∧ g' < w'.heap.size) ∧ Touch No w w' := by
  obtain ⟨D, hD, hM⟩ := h.map
  have hp := ids_perm hD hM hok.up hok.ids
  have hD' : (w.alloc (.cells #[.map (some b)] 145)).ownsMap Tryz.prog 38 asHeld b A.puts D := ownsMap_touch hD ((Touch.refl No w).alloc _) (fun f => f)
  have hsz : Maps.size D ≤ 1000000000 := by
    obtain ⟨es, rfl, _⟩ := hD.keysOf
    have := hp.length_eq
    simp only [Ar.ids, intKeys, List.length_map] at this
    show es.length ≤ _
    omega
  refine (sorted_any _ w.heap.size b A.puts D (by simp) (by rw [cell_new]; rfl) hD' hsz).mono ?_
  rintro e w' ⟨v, ss, rfl, hs, hrow, hnil, hb⟩
  have hss : ss.mergeSort (fun x y => decide (x ≤ y)) = Ar.ids A.its := Ar.sort_ids hok.up (hs.trans hp.symm)
  have hlen : ss.length = A.its.length := by rw [(hs.trans hp.symm).length_eq]; simp [Ar.ids]
  have hO : Own w' (w.alloc (.cells #[.map (some b)] 145)).heap.size 38 v (ints .u32 (Ar.ids A.its)) := by
    unfold Own
    rw [hss, hlen] at hrow
    rw [show (ints .u32 (Ar.ids A.its)).length = A.its.length by simp [ints, Ar.ids]]
    exact hrow
  obtain ⟨a, c, rfl, hc, hr, hbl, _⟩ := hO.form
  have hl2 : (ints .u32 (Ar.ids A.its)).length = A.its.length := by simp [ints, Ar.ids]
  rw [hl2] at hc ⊢
  refine ⟨a, c, rfl, hc, slAt_own hO, fun g' o e => ?_, ?_⟩
  · obtain ⟨h1, _, _, h2⟩ := hbl _ e
    have h1' : w.heap.size + 1 ≤ g' := by rw [size_alloc] at h1; exact h1
    exact ⟨by omega, h2⟩
  · exact ((Touch.refl No w).alloc _).trans ((Touch.of_below hb).mono (fun k hk hB => absurd hk (Nat.not_lt.2 hB)))

set_option maxRecDepth 100000 in
set_option maxHeartbeats 4000000 in
theorem arIDs2_in {w : World} {g b : Nat} {A : Ar.Arena} {O : Nat → Prop} (h : ArAt w g b 0 A O) (hok : Ar.Ok A) (hlt : ∀ k, O k → k < w.heap.size) (hn : A.its.length ≤ 1000000000) : Calls Tryz.prog 31 #[.pointer (some ⟨g, 0, none⟩)] w (ArIds2 w g b O A) := by
  have H := Lib.hid h
  have HOK := Lib.hid hok
  have HLT := Lib.hid hlt
  obtain ⟨w1, hw1⟩ : ∃ w1, w1 = w.setCell ⟨g, 0, none⟩ (.int .i32 1) := ⟨_, rfl⟩
  have HL := Lib.hid (h.lock 1)
  rw [← hw1] at HL
  have L1 := Lib.hid (lock_free muLib ⟨g, 0, none⟩ w h.c0 (h.row.soft 0))
  rw [← hw1] at L1
  have c6 := HL.out.1.c6
  have hg : g < w1.heap.size := HL.out.1.row.lt
  clear h hw1 hok hlt
  go_enter_defers Tryz.func31, Tryz.ntmps31
  go_wp2_with fail
  refine (there_any H.out).mono ?_
  rintro e w' ⟨rfl, rfl⟩
  go_wp2_with fail
  refine L1.out.mono ?_
  rintro e w1 ⟨rfl, rfl⟩
  go_wp2_with fail
  refine (keys_any (some b) w1).mono ?_
  rintro e w2 ⟨rfl, rfl⟩
  go_wp2_with fail
  refine (sortedA2_any HL.out.1 HOK.out hn).mono ?_
  rintro e w3 ⟨a, c, rfl, hc, hr, hb, t3⟩
  have HR := Lib.hid hr
  have HB := Lib.hid hb
  have HT := Lib.hid t3
  clear hr hb t3
  go_wp2_with fail
  refine (clipU_any w3 a _ c hc).mono ?_
  rintro e w4 ⟨rfl, rfl⟩
  have A3 := Lib.hid (HL.out.1.no HT.out)
  go_wp2_with fail
  refine leaves_cons (f := 67) (args := #[.pointer (some ⟨g, 0, none⟩)]) (by simp) (by simp [go_sem]) ?_
  refine (unlock_deferred muLib ⟨g, 0, none⟩ .returning _ A3.out.c0 (A3.out.row.soft 0)).mono ?_
  rintro e u' w'' ⟨rfl, rfl, rfl⟩
  have tl := (A3.out.lock 0)
  have t0 := HL.out.2
  have t1 : Touch O w w3 := t0.trans (HT.out.mono (fun k _ f => f.elim))
  refine ⟨_, results_tmp rfl _ _ _, a, rfl, HR.out.touch tl.2 (fun b' o e _ hO => ?_), fun g' o e => ?_, tl.1, t1.trans tl.2⟩
  · have h1 := (HB.out b' o e).1
    have h2 := HLT.out b' hO
    have h3 := t0.size
    omega
  · obtain ⟨h1, h2⟩ := HB.out g' o e
    have h3 := t0.size
    have h4 := tl.2.size
    exact ⟨by omega, by omega⟩

theorem ints_length' (k : IntKind) (l : List Int) : (ints k l).length = l.length := by simp [ints]
theorem Ars.ids2 {w0 w : World} {g : Nat} {A : Ar.Arena} {E : List Part} (h : Ars w0 w g A E) (hn : A.its.length ≤ 1000000000) :
    Calls Tryz.prog 31 #[.pointer (some ⟨g, 0, none⟩)] w fun e w' => ∃ a, e = .returned (.slice a A.its.length A.its.length) ∧ Ars w0 w' g A (Part.sl 38 a A.its.length A.its.length (ints .u32 (Ar.ids A.its)) :: E) := by
  obtain ⟨O, ⟨⟨b, ha⟩, hok, hlt⟩, _, _, hf⟩ := Sl.step2 h
  refine (arIDs2_in ha hok hlt hn).mono fun e w' ⟨a, he, r1, b1, h1, h2⟩ => ⟨a, he, hf w' [_, _] ⟨h2, fun k => O k ∨ (w.heap.size ≤ k ∧ k < w'.heap.size), ⟨O, fun k => w.heap.size ≤ k ∧ k < w'.heap.size, ⟨⟨b, h1⟩, hok, fun k hk => Nat.lt_of_lt_of_le (hlt k hk) h2.size⟩, ?_, fun k hk hk2 => by have := hlt k hk; omega, fun k => Or.inl, fun k => Or.inr⟩, fun k hk => hk.imp (fun h => h) And.left⟩⟩
  have hl : (ints .u32 (Ar.ids A.its)).length = A.its.length := by simp [ints, Ar.ids]
  unfold SlAt at r1
  rw [hl] at r1
  exact ⟨_, fun _ => False, r1, trivial, fun _ _ f => f, fun k ⟨o, e⟩ => b1 k o e, fun _ f => f.elim⟩
def ArsGet2 (w0 w : World) (g : Nat) (A : Ar.Arena) (E : List Part) (er : Nat) (s l : List Int) (e : Ending) (w' : World) : Prop :=
  ∃ sa la, e = .returned (.tuple #[.agg #[.slice sa s.length s.length, .slice la l.length l.length], .int .i64 (er : Nat)]) ∧ Ars w0 w' g A (Part.sl 3 sa s.length s.length (ints .i64 s) :: Part.sl 21 la l.length l.length (ints .i32 l) :: E)
theorem Ars.get2 {w0 w : World} {g : Nat} {A : Ar.Arena} {E : List Part} (h : Ars w0 w g A E) (id : Nat) (hid : id < 4294967296) :
    Calls Tryz.prog 26 #[.pointer (some ⟨g, 0, none⟩), .int .u32 (id : Nat)] w (ArsGet2 w0 w g A E (Ar.getE A id) (Ar.getS A id) (Ar.getL A id)) := by
  obtain ⟨O, ⟨⟨b, ha⟩, hok, hlt⟩, _, _, hf⟩ := Sl.step2 h
  refine (arGet2_in ha hlt hok id hid).mono fun e w' ⟨sa, la, he, r1, r2, b1, b2, h1, h2⟩ => ⟨sa, la, he, hf w' [_, _, _] ⟨h2, fun k => O k ∨ (w.heap.size ≤ k ∧ k < w'.heap.size), ⟨O, fun k => w.heap.size ≤ k ∧ k < w'.heap.size, ⟨⟨b, h1⟩, hok, fun k hk => Nat.lt_of_lt_of_le (hlt k hk) h2.size⟩, slAt_al r1 r2 (ints_length' _ _) (ints_length' _ _) b1 b2, fun k hk hk2 => by have := hlt k hk; omega, fun k => Or.inl, fun k => Or.inr⟩, fun k hk => hk.imp (fun h => h) And.left⟩⟩
end Go.Proofs.YtnffigfafalocaaGreatDoor
namespace Go.Proofs.YtnffigfafalocaaGreatDoor
open Go Go.RowKit
set_option linter.unusedVariables false

/-- a list that a book holds, and its number -/
structure HE where
  a : Option Addr
  n : Nat
  c : Nat
  k : Nat
/-- its three cells; the middle one: what became of it -/
def HE.cells (e : HE) (long : Value) : List Value := [.slice e.a e.n e.c, long, .int .i64 (e.k : Nat)]
theorem HE.cells_length (e : HE) (v : Value) : (e.cells v).length = 3 := rfl
def nilSl : Value := .slice none 0 0
/-- nothing has become of these yet -/
def heNew (B : List HE) : List Value := B.flatMap fun e => e.cells nilSl
theorem flat3_length {α : Type} (f : α → List Value) (hf : ∀ x, (f x).length = 3) (l : List α) : (l.flatMap f).length = l.length * 3 := by
  induction l with
  | nil => rfl
  | cons x r ih => rw [List.flatMap_cons, List.length_append, ih, hf, List.length_cons]; omega
theorem heNew_length (B : List HE) : (heNew B).length = B.length * 3 := flat3_length _ (fun e => e.cells_length _) B
theorem heNew_snoc (B : List HE) (e : HE) : heNew (B ++ [e]) = heNew B ++ e.cells nilSl := by simp [heNew]
/-- the book's own cells -/
def bookCells (n : Nat) (vB vI vN vD : Value) : List Value := .int .i64 (n : Nat) :: vB :: vI :: vN :: vD :: List.replicate 11 nilSl
/-- a row of three cells an element -/
def Part.arr (T : TypeId) (v : Value) (m : Nat) (cs : List Value) : Part where
  P w O := w.ownsRow 0 T 3 v m cs ∧ (∀ k, InBlock v k → O k) ∧ ∀ k, O k → k < w.heap.size
  stable := fun {F w w' O} ⟨h1, h2, h3⟩ t hF => by
    refine ⟨?_, h2, fun k hk => Nat.lt_of_lt_of_le (h3 k hk) t.size⟩
    obtain ⟨hl, hh⟩ := h1
    refine ⟨hl, hh.imp id ?_⟩
    rintro ⟨g, cap, cur, rfl, hg, hgt, q⟩
    exact ⟨g, cap, cur, rfl, hg, by rw [t.block g (Array.getElem?_eq_some_iff.1 hgt).1 (hF g (h2 g rfl))]; exact hgt, q⟩
  lt := fun {w O} h => h.2.2
theorem arr_nil (w : World) (T : TypeId) : (Part.arr T nilSl 0 []).P w (fun _ => False) := ⟨⟨rfl, Or.inl ⟨rfl, rfl⟩⟩, ⟨(fun k h => by cases h), fun _ f => f.elim⟩⟩
/-- a slice whose cells nobody asks -/
def Part.room (T : TypeId) (e : HE) : Part where
  P w O := ∃ vs, (Part.sl T e.a e.n e.c vs).P w O
  stable := fun {F w w' O} ⟨vs, h⟩ t hF => ⟨vs, (Part.sl T e.a e.n e.c vs).stable h t hF⟩
  lt := fun {w O} ⟨vs, h⟩ => (Part.sl T e.a e.n e.c vs).lt h
/-- slices that read so -/
def Part.full (T : TypeId) (mk : Nat → Value) (e : HE) : Part := Part.sl T e.a e.n e.c (List.replicate e.n (mk e.k))
end Go.Proofs.YtnffigfafalocaaGreatDoor
namespace Go.Proofs.YtnffigfafalocaaGreatDoor
open Go Go.RowKit

/-! ### rows of equal pieces -/
section
variable {α : Type} {f : α → List Value} {k : Nat}
theorem flat_length (hf : ∀ x, (f x).length = k) : ∀ (l : List α), (l.flatMap f).length = l.length * k
  | [] => by simp
  | x :: l => by rw [List.flatMap_cons, List.length_append, hf, flat_length hf l, List.length_cons, Nat.add_mul]; omega
theorem flat_get (hf : ∀ x, (f x).length = k) : ∀ (l : List α) (n j : Nat) (x : α), l[n]? = some x → j < k → (l.flatMap f)[n * k + j]? = (f x)[j]?
  | [], n, j, x, h, _ => by simp at h
  | y :: l, 0, j, x, h, hj => by
    have : y = x := by simpa using h
    subst this
    rw [List.flatMap_cons, Nat.zero_mul, Nat.zero_add, List.getElem?_append_left (by rw [hf]; exact hj)]
  | y :: l, n + 1, j, x, h, hj => by
    have h' : l[n]? = some x := by simpa using h
    rw [List.flatMap_cons, List.getElem?_append_right (by rw [hf, Nat.add_mul]; omega), hf, ← flat_get hf l n j x h' hj]
    congr 1
    rw [Nat.add_mul]; omega
theorem flat_set (hf : ∀ x, (f x).length = k) : ∀ (l : List α) (n : Nat) (y : α) (r : List Value), n < l.length → splice (l.flatMap f ++ r) (n * k) (f y) = (l.set n y).flatMap f ++ r
  | [], n, y, r, h => by simp at h
  | x :: l, 0, y, r, _ => by
    simp only [splice, Nat.zero_mul, List.take_zero, List.nil_append, Nat.zero_add, List.set_cons_zero, List.flatMap_cons, List.append_assoc]
    rw [hf, List.drop_append_of_le_length (by rw [hf]; exact Nat.le_refl _), List.drop_of_length_le (by rw [hf]; exact Nat.le_refl _), List.nil_append]
  | x :: l, n + 1, y, r, h => by
    have hn : n < l.length := by simpa using h
    have ih := flat_set hf l n y r hn
    simp only [splice, List.set_cons_succ, List.flatMap_cons, List.append_assoc] at ih ⊢
    rw [← ih]
    have e : (n + 1) * k = (f x).length + n * k := by rw [hf, Nat.add_mul]; omega
    rw [e, List.take_append, Nat.add_assoc, List.drop_append]
    have h1 : (f x).length + n * k - (f x).length = n * k := by omega
    have h2 : (f x).length + (n * k + (f y).length) - (f x).length = n * k + (f y).length := by omega
    rw [h1, h2, List.take_of_length_le (by omega), List.drop_of_length_le (by omega)]
    simp
/-- one cell of a piece -/
theorem flat_cell (hf : ∀ x, (f x).length = k) (l : List α) (n j : Nat) (x y : α) (v : Value) (r : List Value) (hx : l[n]? = some x) (hj : j < k) (hy : f y = (f x).set j v) : (l.flatMap f ++ r).set (n * k + j) v = (l.set n y).flatMap f ++ r := by
  have hn : n < l.length := by
    rcases Nat.lt_or_ge n l.length with h | h
    · exact h
    · rw [List.getElem?_eq_none h] at hx; cases hx
  rw [← flat_set hf l n y r hn, hy]
  refine List.ext_getElem? (fun i => ?_)
  have hlen : (l.flatMap f).length = l.length * k := flat_length hf l
  have hnk : n * k + k ≤ l.length * k := by have := Nat.mul_le_mul_right k hn; rw [Nat.succ_mul] at this; exact this
  have hlx := hf x
  have ht : ((l.flatMap f ++ r).take (n * k)).length = n * k := by rw [List.length_take, List.length_append]; omega
  simp only [splice, List.length_set]
  by_cases h1 : i < n * k
  · rw [List.append_assoc, List.getElem?_append_left (by rw [ht]; exact h1), List.getElem?_take_of_lt h1, List.getElem?_set_ne (by omega)]
  · by_cases h2 : i < n * k + k
    · obtain ⟨q, rfl⟩ : ∃ q, i = n * k + q := ⟨i - n * k, by omega⟩
      rw [List.getElem?_append_left (by rw [List.length_append, ht, List.length_set]; omega), List.getElem?_append_right (by rw [ht]; omega), ht, Nat.add_sub_cancel_left]
      by_cases h3 : q = j
      · subst h3
        rw [List.getElem?_set_self (by rw [List.length_append]; omega), List.getElem?_set_self (by omega)]
      · rw [List.getElem?_set_ne (by omega), List.getElem?_set_ne (Ne.symm h3), List.getElem?_append_left (by omega), flat_get hf l n q x hx (by omega)]
    · rw [List.getElem?_set_ne (by omega)]
      symm
      rw [List.getElem?_append_right (by rw [List.length_append, ht, List.length_set]; omega), List.length_append, ht, List.length_set, List.getElem?_drop]
      congr 1
      omega
end

namespace Dk
structure Sec where
  b : List Nat
  bad : Nat
structure Wr where
  n : Nat
  b : List Nat
  elder : Nat
structure Disk where
  sure : List Sec
  seen : List Sec
  waits : List Wr

structure Bytes (b : List Nat) : Prop where
  len : b.length = 64
  lt : ∀ x ∈ b, x < 256
structure Sec.Ok (s : Sec) : Prop where
  b : Bytes s.b
  bad : s.bad ≤ 1
structure Wr.Ok (n : Nat) (x : Wr) : Prop where
  n : x.n < n
  b : Bytes x.b
  elder : x.elder ≤ 1
structure Ok (d : Disk) : Prop where
  len : d.sure.length = d.seen.length
  pos : 1 ≤ d.seen.length
  top : d.seen.length ≤ 16384
  sure : ∀ s ∈ d.sure, s.Ok
  seen : ∀ s ∈ d.seen, s.Ok
  waits : ∀ x ∈ d.waits, x.Ok d.seen.length

def noughts : Sec := ⟨List.replicate 64 0, 0⟩
def new (n : Nat) : Disk := ⟨List.replicate n noughts, List.replicate n noughts, []⟩
def badS (s : Sec) : Sec := ⟨s.b, 1⟩
def badW (n : Nat) (y : Wr) : Wr := if y.n = n then ⟨y.n, y.b, 1⟩ else y
def at_ (l : List Sec) (n : Nat) : Sec := l.getD n noughts
def upd (l : List Sec) (n : Nat) (f : Sec → Sec) : List Sec := l.set n (f (at_ l n))
def bad (d : Disk) (n : Nat) : Disk := ⟨upd d.sure n badS, upd d.seen n badS, d.waits.map (badW n)⟩
def tornS (y : Wr) (s : Sec) : Sec := ⟨y.b.take 32 ++ s.b.drop 32, s.bad⟩
def keptS (y : Wr) (s : Sec) : Sec := ⟨y.b, s.bad &&& y.elder⟩
def failStep (keep : Nat) (torn : Int) (l : List Sec) (i : Nat) (y : Wr) : List Sec :=
  if (i : Int) = torn then upd l y.n (tornS y) else if keep.testBit (i % 64) then upd l y.n (keptS y) else l
def failed (keep : Nat) (torn : Int) : List Sec → Nat → List Wr → List Sec
  | l, _, [] => l
  | l, i, y :: r => failed keep torn (failStep keep torn l i y) (i + 1) r
def fail (d : Disk) (keep : Nat) (torn : Int) : Disk := ⟨failed keep torn d.sure 0 d.waits, failed keep torn d.sure 0 d.waits, []⟩

end Dk

/-! ### how they lie in memory -/
end Go.Proofs.YtnffigfafalocaaGreatDoor
