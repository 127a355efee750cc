/-
  States that stand beside each other, as a list that may be put in another order. No program in sight.
  Slices with room of their own, as parts; a book's lists. No program in sight.
  A book: its cells, its lists, what is held. No program in sight.
  Package drydocklaw01 by its own text: a book is told of bytes.
  A book as one part: what it has been told of lies in blocks of its own.
  Package drydocklaw01 by its own text: Book.Bytes.
  Package drydocklaw01 by its own text: a book is told of bytes.
  Package drydocklaw01 by its own text: a book is told of bytes.
  Package drydocklaw01 by its own text: Book.Numbers, Book.Ids.
  A book's lists, grown: what lies behind; append to a slice with its room. No program in sight.
  What the walks of a book's functions share. No program in sight.
  Package drydocklaw01 by its own text: a book's lists of bytes, filled with marks.
  The plain mathematics of roots: numbers as four bytes, sums of bytes, a root's bytes. No program in sight.
  append of a slice that reads as a list (nil or not), and of so many zeros. No program in sight.
-/
import Derived.Test.YtnffigfafalocaaGreatDoorK06
import Derived.ArgAppend
import Derived.Laws.OwnMore
import Derived.Test.YtnffigfafalocaaGreatDoorK04
import Derived.Test.YtnffigfafalocaaGreatDoorK03
import Derived.StillTailTactics
import Derived.Test.YtnffigfafalocaaGreatDoorK01
import Derived.KernelRfl
import Derived.IntWalk
namespace Go.Proofs.YtnffigfafalocaaGreatDoor
open Go Go.RowKit
set_option linter.unusedVariables false

/-- these, each in blocks of its own, all of which are O's -/
def Al (w : World) : List Part → (Nat → Prop) → Prop
  | [], _ => True
  | p :: l, O => ∃ A B, p.P w A ∧ Al w l B ∧ (∀ k, A k → ¬ B k) ∧ (∀ k, A k → O k) ∧ ∀ k, B k → O k
section
variable {w w' : World} {l m : List Part} {O O' : Nat → Prop}
theorem Al.mono (h : Al w l O) (hO : ∀ k, O k → O' k) : Al w l O' := by
  cases l with
  | nil => trivial
  | cons p l =>
    obtain ⟨A, B, ha, hb, hd, h1, h2⟩ := h
    exact ⟨A, B, ha, hb, hd, fun k hk => hO k (h1 k hk), fun k hk => hO k (h2 k hk)⟩
theorem Al.stable {F : Nat → Prop} (t : Touch F w w') : ∀ {l : List Part} {O : Nat → Prop}, Al w l O → (∀ k, O k → ¬ F k) → Al w' l O
  | [], _, _, _ => trivial
  | p :: l, O, ⟨A, B, ha, hb, hd, h1, h2⟩, hF => ⟨A, B, p.stable ha t (fun k hk => hF k (h1 k hk)), Al.stable t hb (fun k hk => hF k (h2 k hk)), hd, h1, h2⟩
theorem Al.no (t : Touch No w w') (h : Al w l O) : Al w' l O := Al.stable t h (fun _ _ f => f)
/-- no more blocks than there are -/
theorem Al.cut : ∀ {l : List Part} {O : Nat → Prop}, Al w l O → Al w l (fun k => O k ∧ k < w.heap.size)
  | [], _, _ => trivial
  | p :: l, O, ⟨A, B, ha, hb, hd, h1, h2⟩ => ⟨A, _, ha, Al.cut hb, fun k hk h => hd k hk h.1, fun k hk => ⟨h1 k hk, p.lt ha k hk⟩, fun k hk => ⟨h2 k hk.1, hk.2⟩⟩
theorem Al.append : ∀ {l m : List Part} {O : Nat → Prop}, Al w (l ++ m) O → ∃ A B, Al w l A ∧ Al w m B ∧ (∀ k, A k → ¬ B k) ∧ (∀ k, A k → O k) ∧ ∀ k, B k → O k
  | [], m, O, h => ⟨fun _ => False, O, trivial, h, fun _ f => f.elim, fun _ f => f.elim, fun _ h => h⟩
  | p :: l, m, O, ⟨A, B, ha, hb, hd, h1, h2⟩ => by
    obtain ⟨C, D, hc, hdd, hcd, h3, h4⟩ := Al.append hb
    refine ⟨fun k => A k ∨ C k, D, ⟨A, C, ha, hc, fun k hk h => hd k hk (h3 k h), fun k => Or.inl, fun k => Or.inr⟩, hdd, fun k hk h => ?_, fun k hk => ?_, fun k hk => h2 k (h4 k hk)⟩
    · rcases hk with hk | hk
      · exact hd k hk (h4 k h)
      · exact hcd k hk h
    · rcases hk with hk | hk
      · exact h1 k hk
      · exact h2 k (h3 k hk)
theorem Al.join : ∀ {l m : List Part} {A B O : Nat → Prop}, Al w l A → Al w m B → (∀ k, A k → ¬ B k) → (∀ k, A k → O k) → (∀ k, B k → O k) → Al w (l ++ m) O
  | [], m, A, B, O, _, hb, _, _, h2 => hb.mono h2
  | p :: l, m, A, B, O, ⟨C, D, hc, hd, hcd, h3, h4⟩, hb, hdis, h1, h2 => by
    refine ⟨C, fun k => D k ∨ B k, hc, Al.join hd hb (fun k hk => hdis k (h4 k hk)) (fun k => Or.inl) (fun k => Or.inr), fun k hk h => ?_, fun k hk => h1 k (h3 k hk), fun k hk => ?_⟩
    · rcases h with h | h
      · exact hcd k hk h
      · exact hdis k (h3 k hk) h
    · rcases hk with hk | hk
      · exact h1 k (h4 k hk)
      · exact h2 k hk
theorem Al.perm (h : l.Perm m) : ∀ {O : Nat → Prop}, Al w l O → Al w m O := by
  induction h with
  | nil => intro O h; exact h
  | cons p _ ih => rintro O ⟨A, B, ha, hb, hd, h1, h2⟩; exact ⟨A, B, ha, ih hb, hd, h1, h2⟩
  | swap p q l =>
    rintro O ⟨A, B, ha, ⟨C, D, hc, hdd, hcd, h3, h4⟩, hd, h1, h2⟩
    refine ⟨C, fun k => A k ∨ D k, hc, ⟨A, D, ha, hdd, fun k hk h => hd k hk (h4 k h), fun k => Or.inl, fun k => Or.inr⟩, fun k hk h => ?_, fun k hk => h2 k (h3 k hk), fun k hk => ?_⟩
    · rcases h with h | h
      · exact hd k h (h3 k hk)
      · exact hcd k hk h
    · rcases hk with hk | hk
      · exact h1 k hk
      · exact h2 k (h4 k hk)
  | trans _ _ ih1 ih2 => intro O h; exact ih2 (ih1 h)
theorem Al.head {p : Part} (h : Al w (p :: l) O) : ∃ A, p.P w A ∧ ∀ k, A k → O k := by
  obtain ⟨A, B, ha, _, _, h1, _⟩ := h
  exact ⟨A, ha, h1⟩
theorem Al.tail {p : Part} (h : Al w (p :: l) O) : Al w l O := by
  obtain ⟨A, B, _, hb, _, _, h2⟩ := h
  exact hb.mono h2
theorem Al.mem {p : Part} : ∀ {l : List Part} {O : Nat → Prop}, Al w l O → p ∈ l → ∃ A, p.P w A ∧ ∀ k, A k → O k
  | q :: l, O, h, hp => by
    rcases List.mem_cons.1 hp with rfl | hp
    · exact h.head
    · exact Al.mem h.tail hp
end

/-- in their blocks, and in new ones, these became those -/
def TurnsL (w : World) (O : Nat → Prop) (l' : List Part) (w' : World) : Prop := Touch O w w' ∧ ∃ O', Al w' l' O' ∧ ∀ k, O' k → O k ∨ w.heap.size ≤ k
theorem TurnsL.same {w : World} {O : Nat → Prop} {l : List Part} (h : Al w l O) : TurnsL w O l w := ⟨Touch.refl _ _, O, h, fun _ h => Or.inl h⟩
/-- .. whatever stands beside them -/
theorem Al.frame {w : World} {l m : List Part} {O : Nat → Prop} (h : Al w (l ++ m) O) : ∃ A, Al w l A ∧ (∀ k, A k → O k) ∧ ∀ w' l', TurnsL w A l' w' → TurnsL w O (l' ++ m) w' := by
  obtain ⟨A, B, ha, hb, hd, h1, h2⟩ := h.append
  refine ⟨A, ha, h1, fun w' l' ht => ?_⟩
  obtain ⟨t, A', ha', hin⟩ := ht
  refine ⟨t.mono (fun k _ hk => h1 k hk), fun k => A' k ∨ (B k ∧ k < w.heap.size), Al.join ha' (Al.stable t hb.cut (fun k hk f => hd k f hk.1)) (fun k hk hB => ?_) (fun k => Or.inl) (fun k => Or.inr), fun k hk => ?_⟩
  · rcases hin k hk with h | h
    · exact hd k h hB.1
    · have := hB.2
      omega
  · rcases hk with hk | hk
    · exact (hin k hk).imp (h1 k) id
    · exact Or.inl (h2 k hk.1)
/-- these, made since w0 -/
def Sl (w0 w : World) (l : List Part) : Prop := ∃ O, Al w l O ∧ (∀ k, O k → w0.heap.size ≤ k ∧ k < w.heap.size) ∧ Touch No w0 w
section
variable {w0 w w' : World} {l m : List Part}
theorem Sl.end (h : Sl w0 w l) : Touch No w0 w := by obtain ⟨O, _, _, t⟩ := h; exact t
theorem Sl.nil (t : Touch No w0 w) : Sl w0 w [] := ⟨fun _ => False, trivial, fun _ f => f.elim, t⟩
theorem Sl.no (h : Sl w0 w l) (t : Touch No w w') : Sl w0 w' l := by
  obtain ⟨O, h1, h2, t0⟩ := h
  exact ⟨O, h1.no t, fun k hk => ⟨(h2 k hk).1, Nat.lt_of_lt_of_le (h2 k hk).2 t.size⟩, t0.trans t⟩
theorem Sl.perm (h : Sl w0 w l) (hp : l.Perm m) : Sl w0 w m := by
  obtain ⟨O, h1, h2, t0⟩ := h
  exact ⟨O, h1.perm hp, h2, t0⟩
theorem Sl.mem (h : Sl w0 w l) {p : Part} (hp : p ∈ l) : ∃ A, p.P w A ∧ ∀ k, A k → w0.heap.size ≤ k ∧ k < w.heap.size := by
  obtain ⟨O, h1, h2, _⟩ := h
  obtain ⟨A, ha, hA⟩ := h1.mem hp
  exact ⟨A, ha, fun k hk => h2 k (hA k hk)⟩
theorem Sl.frame (h : Sl w0 w (l ++ m)) : ∃ A, Al w l A ∧ (∀ k, A k → w0.heap.size ≤ k ∧ k < w.heap.size) ∧ ∀ w' l', TurnsL w A l' w' → Sl w0 w' (l' ++ m) := by
  obtain ⟨O, h1, h2, t0⟩ := h
  obtain ⟨A, ha, hA, hf⟩ := h1.frame
  refine ⟨A, ha, fun k hk => h2 k (hA k hk), fun w' l' ht => ?_⟩
  obtain ⟨t, O', hO', hin⟩ := hf w' l' ht
  refine ⟨_, hO'.cut, fun k hk => ⟨?_, hk.2⟩, t0.then t (fun i hi f => absurd hi (Nat.not_lt.2 (h2 i f).1))⟩
  rcases hin k hk.1 with h | h
  · exact (h2 k h).1
  · exact Nat.le_trans t0.size h
theorem Sl.push (h : Sl w0 w l) {p : Part} (b : Born w p w') : Sl w0 w' (p :: l) := by
  obtain ⟨O, h1, h2, t0⟩ := h
  obtain ⟨t, A, ha, hge⟩ := b
  have hs := t.size
  refine ⟨fun k => A k ∨ O k, ⟨A, O, ha, h1.no t, fun k hk ho => ?_, fun k => Or.inl, fun k => Or.inr⟩, fun k hk => ?_, t0.trans t⟩
  · have := hge k hk
    have := (h2 k ho).2
    omega
  · rcases hk with hk | hk
    · exact ⟨Nat.le_trans t0.size (hge k hk), p.lt ha k hk⟩
    · exact ⟨(h2 k hk).1, Nat.lt_of_lt_of_le (h2 k hk).2 hs⟩
theorem Sl.drop {p : Part} (h : Sl w0 w (p :: l)) : Sl w0 w l := by
  obtain ⟨O, h1, h2, t0⟩ := h
  exact ⟨O, h1.tail, h2, t0⟩
end
end Go.Proofs.YtnffigfafalocaaGreatDoor
namespace Go.Proofs.YtnffigfafalocaaGreatDoor
open Go Go.RowKit
set_option linter.unusedVariables false

/-- room for cap cells at a -/
def RoomAt (w : World) (T : TypeId) (a : Option Addr) (cap : Nat) (vs : List Value) (O : Nat → Prop) : Prop :=
  cap = 0 ∨ ∃ g o cs, a = some ⟨g, o, none⟩ ∧ w.heap[g]? = some (.cells cs T (0, 0)) ∧ o + cap ≤ cs.size ∧ O g ∧ ∀ (i : Nat) v, vs[i]? = some v → cs[o + i]? = some v
/-- a slice with its room, that reads so -/
def Part.sl (T : TypeId) (a : Option Addr) (n cap : Nat) (vs : List Value) : Part where
  P w O := vs.length = n ∧ n ≤ cap ∧ cap ≤ maxLen ∧ (∀ k, O k → k < w.heap.size) ∧ RoomAt w T a cap vs O
  stable := fun {F w w' O} ⟨h1, h2, h3, h4, h5⟩ t hF => ⟨h1, h2, h3, fun k hk => Nat.lt_of_lt_of_le (h4 k hk) t.size, by
    rcases h5 with h5 | ⟨g, o, cs, ha, hg, hc, hO, hv⟩
    · exact Or.inl h5
    · exact Or.inr ⟨g, o, cs, ha, by rw [t.block g (h4 g hO) (hF g hO)]; exact hg, hc, hO, hv⟩⟩
  lt := fun {w O} h => h.2.2.2.1
section
variable {w w' : World} {T : TypeId} {a : Option Addr} {n cap : Nat} {vs : List Value} {O : Nat → Prop}
theorem sl_len (h : (Part.sl T a n cap vs).P w O) : vs.length = n ∧ n ≤ cap ∧ cap ≤ maxLen := ⟨h.1, h.2.1, h.2.2.1⟩
theorem sl_rd (h : (Part.sl T a n cap vs).P w O) : Rd w a vs := by
  obtain ⟨h1, h2, h3, h4, h5⟩ := h
  intro i v hi
  have hlt : i < vs.length := by
    rcases Nat.lt_or_ge i vs.length with h | h
    · exact h
    · rw [List.getElem?_eq_none h] at hi; cases hi
  rcases h5 with h5 | ⟨g, o, cs, rfl, hg, hc, hO, hv⟩
  · omega
  · exact ⟨g, o, rfl, by simp only [World.cell?, hg]; simpa using hv i v hi⟩
/-- new memory of a call's own -/
theorem born_sl {base c : Nat} (t : Touch No w w') (hb : w.heap.size ≤ base) (h : Own w' base T (.slice a n c) vs) (hc : n ≤ cap) (hc' : cap ≤ c) : Born w (.sl T a n cap vs) w' := by
  obtain ⟨hl, h⟩ := h
  rcases h with ⟨hv, h0⟩ | ⟨g, cp, cur, hv, hg, hh, hn, hm, hs, ht⟩
  · cases hv
    exact ⟨t, fun _ => False, ⟨h0, hc, by omega, fun _ f => f.elim, Or.inl (by omega)⟩, fun _ f => f.elim⟩
  · cases hv
    have hgs : g < w'.heap.size := (Array.getElem?_eq_some_iff.1 hh).1
    refine ⟨t, fun k => k = g, ⟨by omega, hc, by omega, fun k hk => by rw [hk]; exact hgs, Or.inr ⟨g, 0, cur, rfl, hh, by omega, rfl, fun i v hi => ?_⟩⟩, fun k hk => by rw [hk]; omega⟩
    rw [← ht, List.getElem?_take] at hi
    split at hi
    · rw [Nat.zero_add]; simpa using hi
    · cases hi
end
end Go.Proofs.YtnffigfafalocaaGreatDoor
namespace Go.Proofs.YtnffigfafalocaaGreatDoor
open Go Go.RowKit
set_option linter.unusedVariables false

/-- a list that a book holds, and its number -/
structure HE where
  a : Option Addr
  n : Nat
  c : Nat
  k : Nat
end Go.Proofs.YtnffigfafalocaaGreatDoor
namespace Go.Proofs.YtnffigfafalocaaGreatDoor
open Go Go.RowKit
set_option linter.unusedSimpArgs false

end Go.Proofs.YtnffigfafalocaaGreatDoor
namespace Go.Proofs.YtnffigfafalocaaGreatDoor
open Go Go.RowKit
set_option linter.unusedVariables false

end Go.Proofs.YtnffigfafalocaaGreatDoor
namespace Go.Proofs.YtnffigfafalocaaGreatDoor
open Go Go.RowKit
set_option linter.unusedSimpArgs false

end Go.Proofs.YtnffigfafalocaaGreatDoor
namespace Go.Proofs.YtnffigfafalocaaGreatDoor
open Go Go.RowKit
set_option linter.unusedSimpArgs false

end Go.Proofs.YtnffigfafalocaaGreatDoor
namespace Go.Proofs.YtnffigfafalocaaGreatDoor
open Go Go.RowKit
set_option linter.unusedSimpArgs false

end Go.Proofs.YtnffigfafalocaaGreatDoor
namespace Go.Proofs.YtnffigfafalocaaGreatDoor
open Go Go.RowKit
set_option linter.unusedSimpArgs false

end Go.Proofs.YtnffigfafalocaaGreatDoor
namespace Go.Proofs.YtnffigfafalocaaGreatDoor
open Go Go.RowKit
set_option linter.unusedVariables false

theorem rd_lt {w : World} {g o : Nat} {vs : List Value} (h : Rd w (some ⟨g, o, none⟩) vs) (hv : 0 < vs.length) : g < w.heap.size := by
  obtain ⟨b, o', e, hc⟩ := h 0 vs[0] (List.getElem?_eq_getElem hv)
  cases e
  exact lt_of_cell hc
end Go.Proofs.YtnffigfafalocaaGreatDoor
namespace Go.Proofs.YtnffigfafalocaaGreatDoor
open Go Go.RowKit
set_option linter.unusedVariables false

end Go.Proofs.YtnffigfafalocaaGreatDoor
namespace Go.Proofs.YtnffigfafalocaaGreatDoor
open Go Go.RowKit
set_option linter.unusedSimpArgs false

end Go.Proofs.YtnffigfafalocaaGreatDoor
namespace Go.Proofs.YtnffigfafalocaaGreatDoor
open Go Go.RowKit
namespace Rt

/-! ### four bytes -/
def four (n : Nat) : List Nat := [n % 256, n / 256 % 256, n / 65536 % 256, n / 16777216 % 256]
def unfour (b : List Nat) : Nat := b.getD 0 0 + 256 * b.getD 1 0 + 65536 * b.getD 2 0 + 16777216 * b.getD 3 0
theorem four_length (n : Nat) : (four n).length = 4 := rfl
theorem four_lt (n : Nat) : ∀ x ∈ four n, x < 256 := by
  intro x hx
  simp only [four, List.mem_cons, List.not_mem_nil, or_false] at hx
  omega
theorem unfour_four {n : Nat} (h : n < 4294967296) : unfour (four n) = n := by
  simp [unfour, four]; omega
theorem unfour_lt {b : List Nat} (h : ∀ x ∈ b, x < 256) : unfour b < 4294967296 := by
  have hb : ∀ i, b.getD i 0 < 256 := fun i => by
    rw [List.getD_eq_getElem?_getD]
    cases hq : b[i]? with
    | none => simp
    | some z => exact h z (List.mem_of_getElem? hq)
  have h0 := hb 0
  have h1 := hb 1
  have h2 := hb 2
  have h3 := hb 3
  unfold unfour; omega

/-! ### sums -/
def half1 (r : Nat) : Nat := if r % 2 = 1 then r / 2 ^^^ 3988292384 else r / 2
def halves : Nat → Nat → Nat
  | 0, r => r
  | k + 1, r => halves k (half1 r)
theorem halves_succ : ∀ (k r : Nat), halves (k + 1) r = half1 (halves k r)
  | 0, _ => rfl
  | k + 1, r => by rw [halves, halves_succ k, halves]
def tab (n : Nat) : Nat := halves 8 n
theorem half1_lt {r : Nat} (h : r < 4294967296) : half1 r < 4294967296 := by
  unfold half1
  split
  · exact Nat.xor_lt_two_pow (n := 32) (by omega) (by decide)
  · omega
theorem halves_lt : ∀ (k : Nat) {r : Nat}, r < 4294967296 → halves k r < 4294967296
  | 0, _, h => h
  | k + 1, _, h => halves_lt k (half1_lt h)
theorem tab_lt {n : Nat} (h : n < 256) : tab n < 4294967296 := halves_lt 8 (by omega)
def step (r c : Nat) : Nat := tab (r % 256 ^^^ c) ^^^ r / 256
def neg (r : Nat) : Nat := 4294967295 - r
def run (r : Nat) : List Nat → Nat
  | [] => r
  | c :: b => run (step r c) b
def on (sum : Nat) (b : List Nat) : Nat := neg (run (neg sum) b)
def of (b : List Nat) : Nat := on 0 b
theorem run_append : ∀ (a b : List Nat) (r : Nat), run r (a ++ b) = run (run r a) b
  | [], _, _ => rfl
  | c :: a, b, r => run_append a b (step r c)
theorem idx_lt {r c : Nat} (h : c < 256) : r % 256 ^^^ c < 256 := Nat.xor_lt_two_pow (n := 8) (by omega) h
theorem step_lt {r c : Nat} (hr : r < 4294967296) (hc : c < 256) : step r c < 4294967296 :=
  Nat.xor_lt_two_pow (n := 32) (tab_lt (idx_lt hc)) (by omega)
theorem run_lt : ∀ (b : List Nat) {r : Nat}, r < 4294967296 → (∀ x ∈ b, x < 256) → run r b < 4294967296
  | [], _, h, _ => h
  | c :: b, _, h, hb => run_lt b (step_lt h (hb c (by simp))) (fun x hx => hb x (by simp [hx]))
theorem neg_lt (r : Nat) : neg r < 4294967296 := by unfold neg; omega
theorem on_lt {sum : Nat} {b : List Nat} : on sum b < 4294967296 := neg_lt _
theorem of_lt {b : List Nat} : of b < 4294967296 := neg_lt _

/-- the highest bytes of the table are all unlike -/
def tops : List Nat := (List.range 256).map (fun i => tab i / 16777216)
theorem tops_nodup : tops.Nodup := of_decide_eq_true (by kernel_rfl)
theorem tops_inj {i j : Nat} (hi : i < 256) (hj : j < 256) (h : tab i / 16777216 = tab j / 16777216) : i = j := by
  have li : i < tops.length := by simp [tops]; exact hi
  have lj : j < tops.length := by simp [tops]; exact hj
  refine (List.getElem_inj (h₀ := li) (h₁ := lj) tops_nodup).1 ?_
  simpa [tops] using h
theorem xor_top {a b : Nat} (hb : b < 16777216) : (a ^^^ b) / 16777216 = a / 16777216 := by
  have e : (16777216 : Nat) = 2 ^ 24 := rfl
  rw [e] at hb ⊢
  rw [← Nat.shiftRight_eq_div_pow, ← Nat.shiftRight_eq_div_pow, Nat.shiftRight_xor_distrib, Nat.shiftRight_eq_div_pow b, Nat.div_eq_of_lt hb, Nat.xor_zero]
theorem xor_cancel {a b c : Nat} (h : a ^^^ b = a ^^^ c) : b = c := by
  have := congrArg (fun x => a ^^^ x) h
  simpa [← Nat.xor_assoc] using this
theorem step_idx {r r' c c' : Nat} (hr : r < 4294967296) (hr' : r' < 4294967296) (hc : c < 256) (hc' : c' < 256) (h : step r c = step r' c') : r % 256 ^^^ c = r' % 256 ^^^ c' := by
  refine tops_inj (idx_lt hc) (idx_lt hc') ?_
  have h1 := xor_top (a := tab (r % 256 ^^^ c)) (b := r / 256) (by omega)
  have h2 := xor_top (a := tab (r' % 256 ^^^ c')) (b := r' / 256) (by omega)
  rw [← h1, ← h2]
  exact congrArg (fun x => x / 16777216) h
theorem step_inj {r r' c : Nat} (hr : r < 4294967296) (hr' : r' < 4294967296) (hc : c < 256) (h : step r c = step r' c) : r = r' := by
  have hi := step_idx hr hr' hc hc h
  have h1 : r % 256 = r' % 256 := by
    rw [Nat.xor_comm, Nat.xor_comm (r' % 256)] at hi
    exact xor_cancel hi
  unfold step at h
  rw [hi] at h
  have h2 := xor_cancel h
  omega
theorem step_byte {r c c' : Nat} (hr : r < 4294967296) (hc : c < 256) (hc' : c' < 256) (h : step r c = step r c') : c = c' :=
  xor_cancel (step_idx hr hr hc hc' h)
theorem run_inj : ∀ (b : List Nat) {r r' : Nat}, r < 4294967296 → r' < 4294967296 → (∀ x ∈ b, x < 256) → run r b = run r' b → r = r'
  | [], _, _, _, _, _, h => h
  | c :: b, _, _, hr, hr', hb, h => by
    have hc := hb c (by simp)
    exact step_inj hr hr' hc (run_inj b (step_lt hr hc) (step_lt hr' hc) (fun x hx => hb x (by simp [hx])) h)
theorem neg_inj {a b : Nat} (ha : a < 4294967296) (hb : b < 4294967296) (h : neg a = neg b) : a = b := by unfold neg at h; omega
/-- one byte another one: another sum -/
theorem on_byte {sum : Nat} {a b : List Nat} {c c' : Nat} (ha : ∀ x ∈ a, x < 256) (hb : ∀ x ∈ b, x < 256) (hc : c < 256) (hc' : c' < 256) (h : on sum (a ++ c :: b) = on sum (a ++ c' :: b)) : c = c' := by
  have hr := run_lt a (neg_lt sum) ha
  unfold on at h
  rw [run_append, run_append] at h
  have h1 := neg_inj (run_lt _ hr (by intro x hx; rcases List.mem_cons.1 hx with rfl | hx; exact hc; exact hb x hx)) (run_lt _ hr (by intro x hx; rcases List.mem_cons.1 hx with rfl | hx; exact hc'; exact hb x hx)) h
  exact step_byte hr hc hc' (run_inj b (step_lt hr hc) (step_lt hr hc') hb h1)
theorem on_append (sum : Nat) (a b : List Nat) (_hs : sum < 4294967296) (ha : ∀ x ∈ a, x < 256) : on (on sum a) b = on sum (a ++ b) := by
  have hr := run_lt a (neg_lt sum) ha
  unfold on
  rw [run_append]
  congr 2
  unfold neg at hr ⊢; omega

/-! ### a root's bytes -/
structure Root where
  epoch : Nat
  first : Nat
  bytes : Nat
structure Root.Ok (r : Root) : Prop where
  epoch : r.epoch < 4294967296
  first : r.first < 4294967296
  bytes : r.bytes < 4294967296
def mark : List Nat := [82, 79, 79, 84]
def head (r : Root) : List Nat := mark ++ four r.epoch ++ four r.first ++ four r.bytes
def put (r : Root) : List Nat := head r ++ four (of (head r)) ++ List.replicate 44 0
theorem head_length (r : Root) : (head r).length = 16 := rfl
theorem put_length (r : Root) : (put r).length = 64 := rfl
theorem head_lt (r : Root) : ∀ x ∈ head r, x < 256 := by
  intro x hx
  simp only [head, List.mem_append] at hx
  rcases hx with ((h | h) | h) | h
  · simp only [mark, List.mem_cons, List.not_mem_nil, or_false] at h; omega
  · exact four_lt _ x h
  · exact four_lt _ x h
  · exact four_lt _ x h
theorem put_lt (r : Root) : ∀ x ∈ put r, x < 256 := by
  intro x hx
  simp only [put, List.mem_append] at hx
  rcases hx with (h | h) | h
  · exact head_lt r x h
  · exact four_lt _ x h
  · have := (List.mem_replicate.1 h).2; omega

/-- what Get says of bytes: 0 and the root, or an error: 4 (form), 11 (sum) -/
def nought (b : List Nat) : Bool := b.all (· == 0)
def errOf (b : List Nat) : Nat := if b.length = 64 ∧ b.take 4 = mark ∧ nought (b.drop 20) = true then (if of (b.take 16) = unfour ((b.drop 16).take 4) then 0 else 11) else 4
def rootOf (b : List Nat) : Root := if errOf b = 0 then ⟨unfour ((b.drop 4).take 4), unfour ((b.drop 8).take 4), unfour ((b.drop 12).take 4)⟩ else ⟨0, 0, 0⟩
theorem put_err (r : Root) : errOf (put r) = 0 := by
  have h1 : (put r).take 4 = mark := rfl
  have h2 : nought ((put r).drop 20) = true := rfl
  have h3 : (put r).take 16 = head r := rfl
  have h4 : ((put r).drop 16).take 4 = four (of (head r)) := rfl
  rw [errOf, if_pos ⟨put_length r, h1, h2⟩, h3, h4, unfour_four of_lt, if_pos rfl]
theorem put_root {r : Root} (h : r.Ok) : rootOf (put r) = r := by
  rw [rootOf, if_pos (put_err r)]
  have h1 : ((put r).drop 4).take 4 = four r.epoch := rfl
  have h2 : ((put r).drop 8).take 4 = four r.first := rfl
  have h3 : ((put r).drop 12).take 4 = four r.bytes := rfl
  rw [h1, h2, h3, unfour_four h.epoch, unfour_four h.first, unfour_four h.bytes]

/-! ### one byte turned -/
theorem set_split {α : Type} (l : List α) (p : Nat) (v : α) (h : p < l.length) : l.set p v = l.take p ++ v :: l.drop (p + 1) := by
  rw [List.set_eq_take_append_cons_drop, if_pos h]
theorem self_split {α : Type} (l : List α) (p : Nat) (h : p < l.length) : l = l.take p ++ l[p] :: l.drop (p + 1) := by
  conv => lhs; rw [← List.take_append_drop p l, List.drop_eq_getElem_cons h]
theorem on_set {sum : Nat} {l : List Nat} {p v : Nat} (hl : ∀ x ∈ l, x < 256) (hp : p < l.length) (hv : v < 256) (hne : v ≠ l.getD p 0) : on sum (l.set p v) ≠ on sum l := by
  intro h
  have hc : l[p] = l.getD p 0 := by rw [List.getD_eq_getElem?_getD, List.getElem?_eq_getElem hp]; rfl
  rw [set_split l p v hp] at h
  conv at h => rhs; rw [self_split l p hp]
  have := on_byte (fun x hx => hl x (List.mem_of_mem_take hx)) (fun x hx => hl x (List.mem_of_mem_drop hx)) hv (hl _ (List.getElem_mem hp)) h
  exact hne (this.trans hc)
theorem unfour_set {l : List Nat} {j v : Nat} (hl : l.length = 4) (hj : j < 4) (hne : v ≠ l.getD j 0) : unfour (l.set j v) ≠ unfour l := by
  match l, hl with
  | [a, b, c, d], _ =>
    have : j = 0 ∨ j = 1 ∨ j = 2 ∨ j = 3 := by omega
    rcases this with rfl | rfl | rfl | rfl <;> simp [unfour] at hne ⊢ <;> omega
theorem nought_set {l : List Nat} {j v : Nat} (hj : j < l.length) (hv : v ≠ 0) : nought (l.set j v) = false := by
  unfold nought
  rw [List.all_eq_false]
  exact ⟨v, List.mem_of_getElem? (i := j) (by rw [List.getElem?_set_self hj]), by simpa using hv⟩
theorem turned_err (r : Root) {p v : Nat} (hp : p < 64) (hv : v < 256) (hne : v ≠ (put r).getD p 0) : errOf ((put r).set p v) = 4 ∨ errOf ((put r).set p v) = 11 := by
  have hlen : ((put r).set p v).length = 64 := by rw [List.length_set]; rfl
  by_cases h1 : p < 4
  · left
    have h2 : ((put r).set p v).take 4 ≠ mark := by
      have e : ((put r).set p v).take 4 = mark.set p v := by rw [List.take_set]; rfl
      rw [e]
      intro h
      have h3 : (mark.set p v)[p]? = mark[p]? := by rw [h]
      rw [List.getElem?_set_self (by show p < 4; exact h1)] at h3
      have h4 : (put r).getD p 0 = mark.getD p 0 := by
        have : p = 0 ∨ p = 1 ∨ p = 2 ∨ p = 3 := by omega
        rcases this with rfl | rfl | rfl | rfl <;> rfl
      apply hne
      rw [h4, List.getD_eq_getElem?_getD, ← h3]; rfl
    rw [errOf, if_neg (fun h => h2 h.2.1)]
  · by_cases h2 : 20 ≤ p
    · left
      have h3 : nought (((put r).set p v).drop 20) = false := by
        have e : ((put r).set p v).drop 20 = (List.replicate 44 0).set (p - 20) v := by
          rw [List.drop_set, if_neg (by omega)]; rfl
        rw [e]
        refine nought_set (by rw [List.length_replicate]; omega) (fun h => hne ?_)
        rw [h]
        have e2 : (put r).getD p 0 = (List.replicate 44 0).getD (p - 20) 0 := by
          have e3 : (put r).drop 20 = List.replicate 44 0 := rfl
          rw [← e3, List.getD_eq_getElem?_getD, List.getD_eq_getElem?_getD, List.getElem?_drop]
          congr 2; omega
        rw [e2, List.getD_eq_getElem?_getD, List.getElem?_replicate]
        simp [show p - 20 < 44 by omega]
      rw [errOf, if_neg (fun h => by rw [h3] at h; exact absurd h.2.2 (by decide))]
    · right
      have h4 : ((put r).set p v).take 4 = mark := by rw [List.take_set_of_le (by omega)]; rfl
      have h5 : nought (((put r).set p v).drop 20) = true := by rw [List.drop_set_of_lt (by omega)]; rfl
      rw [errOf, if_pos ⟨hlen, h4, h5⟩]
      by_cases h6 : p < 16
      · have e1 : ((put r).set p v).take 16 = (head r).set p v := by rw [List.take_set]; rfl
        have e2 : (((put r).set p v).drop 16).take 4 = four (of (head r)) := by rw [List.drop_set_of_lt h6]; rfl
        have e3 : (put r).getD p 0 = (head r).getD p 0 := by
          have e4 : (put r).take 16 = head r := rfl
          rw [← e4, List.getD_eq_getElem?_getD, List.getD_eq_getElem?_getD, List.getElem?_take_of_lt h6]
        have h8 : ¬ of ((head r).set p v) = of (head r) := on_set (sum := 0) (head_lt r) h6 hv (by rw [← e3]; exact hne)
        rw [e1, e2, unfour_four of_lt, if_neg h8]
      · have e1 : ((put r).set p v).take 16 = head r := by rw [List.take_set_of_le (by omega)]; rfl
        have e2 : (((put r).set p v).drop 16).take 4 = (four (of (head r))).set (p - 16) v := by
          rw [List.drop_set, if_neg (by omega), List.take_set]; rfl
        have e3 : (put r).getD p 0 = (four (of (head r))).getD (p - 16) 0 := by
          have e4 : ((put r).drop 16).take 4 = four (of (head r)) := rfl
          rw [← e4, List.getD_eq_getElem?_getD, List.getD_eq_getElem?_getD, List.getElem?_take_of_lt (by omega), List.getElem?_drop]
          congr 2; omega
        have h7 := unfour_set (l := four (of (head r))) (j := p - 16) (v := v) rfl (by omega) (by rw [← e3]; exact hne)
        rw [e1, e2, if_neg (fun h => h7 (by rw [← h, unfour_four of_lt]))]
end Rt
end Go.Proofs.YtnffigfafalocaaGreatDoor
namespace Go.Proofs.YtnffigfafalocaaGreatDoor
open Go Go.RowKit
set_option linter.unusedSimpArgs false

theorem Own.rd {w : World} {base : Nat} {T : TypeId} {a : Option Addr} {n c : Nat} {vs : List Value} (h : Own w base T (.slice a n c) vs) : Rd w a vs := by
  obtain ⟨a', c', e, _, hr, _⟩ := h.form
  cases e; exact hr
section
variable {P : Program} {w : World}

/-- 'append(v, a...)', one cell each -/
theorem run_append_rd (base : Nat) (t ty e : TypeId) (i : TypeInfo) (z : Value) (bytes : Nat) (ht : P.underlying t = some (.slice e)) (hi : P.info? e = some i) (hz : i.zero = some z) (hsize : i.size = 1) (hby : i.bytes = bytes) (hzs : z.cells.size = 1)
    (v : Value) (vs : List Value) (hown : Own w base e v vs) (a : Option Addr) (m c : Nat) (us : List Value) (hl : us.length = m) (hr : Rd w a us) (h1 : ∀ u ∈ us, u.oneCell' = true)
    (h63 : vs.length + m ≤ maxLen) (hbytes : (vs.length + m) * bytes ≤ 140737488355328) (hbase : base ≤ w.heap.size) :
    ∃ v' w', (Builtin.append_ #[t, t] ty #[v, .slice a m c]).run P w = .ok v' w' ∧ Own w' base e v' (vs ++ us) ∧ Touch (InBlock v) w w' := by
  cases a with
  | some ad =>
    have hnews : ∀ j u, us[j]? = some u → w.cell? (ad.add j) = some u := fun j u hj => by
      obtain ⟨b, o, e1, hc⟩ := hr j u hj
      cases e1
      unfold Addr.add
      split
      · rename_i h0; subst h0; exact hc
      · exact hc
    obtain ⟨v', w', h2, h3, h4, _⟩ := run_append_own (P := P) w base t ty e i z 1 bytes ht hi hz hsize hby hzs (by decide) v vs.length vs hown ad m c us (by omega) hnews h1 h63 hbytes hbase
    refine ⟨v', w', h2, ?_, (Touch.refl _ w).grown h4 (fun k hk _ => hk)⟩
    rw [Own, List.length_append, hl]; exact h3
  | none =>
    have hus : us = [] := by
      cases us with
      | nil => rfl
      | cons u r => obtain ⟨b, o, e1, _⟩ := hr 0 u rfl; cases e1
    subst hus
    obtain rfl : m = 0 := by simpa using hl.symm
    obtain ⟨b, cap, rfl, hcap, _, _, _⟩ := hown.form
    refine ⟨.slice b vs.length cap, w, ?_, by rw [List.append_nil]; exact hown, Touch.refl _ _⟩
    cases b <;> simp [Builtin.append_, run_underlying ht, sizeOf, typeInfo, hi, Builtin.lenOf, hcap, Builtin.firstCells, storeCells]

theorem zeroCells_one (z : Value) (u : Value) (hzs : z.cells = #[u]) (n : Nat) : Builtin.zeroCells z.cells n = (List.replicate n u).toArray := by
  rw [hzs]
  apply Array.ext'
  unfold Builtin.zeroCells
  refine List.ext_getElem? (fun j => ?_)
  by_cases hj : j < n
  · simp [hj, List.getElem?_replicate, Nat.mod_one]
  · simp [hj, List.getElem?_replicate]
theorem run_zero {e : TypeId} {i : TypeInfo} {z : Value} (hi : P.info? e = some i) (hz : i.zero = some z) : (zeroValue e).run P w = .ok z w := by
  simp [zeroValue, typeInfo, hi, hz]

/-- 'append(v, make([]E, n)...)', one cell each -/
theorem run_append_zeros (base : Nat) (t t2 ty e : TypeId) (i : TypeInfo) (z u : Value) (bytes : Nat) (ht : P.underlying t = some (.slice e)) (ht2 : P.underlying t2 = some (.int .i64)) (hi : P.info? e = some i) (hz : i.zero = some z) (hsize : i.size = 1) (hby : i.bytes = bytes) (hzs : z.cells = #[u]) (hu : u.oneCell' = true)
    (v : Value) (vs : List Value) (hown : Own w base e v vs) (m : Nat)
    (h63 : vs.length + m ≤ maxLen) (hbytes : (vs.length + m) * bytes ≤ 140737488355328) (hbase : base ≤ w.heap.size) :
    ∃ v' w', (Builtin.append_ #[t, t2] ty #[v, .int .i64 (m : Nat)]).run P w = .ok v' w' ∧ Own w' base e v' (vs ++ List.replicate m u) ∧ Touch (InBlock v) w w' := by
  have hmm : (m : Int) ≤ 9223372036854775807 := by unfold maxLen at h63; omega
  have hwrap : IntKind.i64.wrap (m : Int) = (m : Int) := IntWalk.i64_in _ (by omega)
  have hneg : ¬ ((m : Int) < 0) := by omega
  have hw0 : IntKind.i64.wrap 0 = 0 := rfl
  have hmb : m * bytes ≤ 140737488355328 := Nat.le_trans (Nat.mul_le_mul_right _ (by omega)) hbytes
  have hbig : ¬ (281474976710656 < (m : Int) * (i.bytes : Int)) := by
    have h : m * i.bytes ≤ 140737488355328 := by rw [hby]; exact hmb
    have e2 : (m : Int) * (i.bytes : Int) = ((m * i.bytes : Nat) : Int) := by push_cast; rfl
    rw [e2]; omega
  have hzc := zeroCells_one z u hzs
  have grown : ∀ (old : Nat) (olds : List Value), olds = vs → old < vs.length + m →
      Own (w.drew.alloc (.cells (olds.toArray ++ (List.replicate m u).toArray ++ Builtin.zeroCells z.cells (grownCap w (vs.length + m) old e - (vs.length + m))) e)) base e
        (.slice (some ⟨w.heap.size, 0, none⟩) (vs.length + m) (grownCap w (vs.length + m) old e)) (vs ++ List.replicate m u) ∧
      Touch (InBlock v) w (w.drew.alloc (.cells (olds.toArray ++ (List.replicate m u).toArray ++ Builtin.zeroCells z.cells (grownCap w (vs.length + m) old e - (vs.length + m))) e)) := by
    intro old olds ho _
    subst ho
    have hge := grownCap_ge w (olds.length + m) old e
    have hcm : grownCap w (olds.length + m) old e ≤ maxLen := grownCap_le_maxLen w (olds.length + m) old e h63
    have hlen : (olds ++ List.replicate m u).length = olds.length + m := by simp
    refine ⟨⟨by rw [hlen]; omega, .inr ⟨w.heap.size, _, _, by rw [hlen], hbase, heap_alloc_new w.drew _, by rw [hlen]; exact hge, hcm, ?_, ?_⟩⟩, (Touch.refl _ w).drew.alloc _⟩
    · simp only [Array.size_append, List.size_toArray, size_zeroCells, hzs, List.length_replicate]
      show olds.length + m + (_ - (olds.length + m)) * 1 = _ * 1
      omega
    · rw [Nat.mul_one]
      simp only [Array.toList_append, List.append_assoc]
      rw [← List.append_assoc]
      exact List.take_left
  obtain ⟨b, cap, rfl, hcap, hrd, hb, hmax⟩ := hown.form
  by_cases hroom : vs.length + m ≤ cap
  · rcases hown.2 with ⟨h0, hvs⟩ | ⟨g, cap', cur, h0, hbg, hg, hnc, hcm, hcs, htake⟩
    · have hvs : vs.length = 0 := hvs
      have hb0 : b = none := by simp at h0; exact h0.1
      have hc0 : cap = 0 := by simp at h0; exact h0.2.2
      subst hb0 hc0
      obtain rfl : m = 0 := by omega
      refine ⟨.slice none vs.length 0, w, ?_, by simpa using hown, Touch.refl _ _⟩
      simp [Builtin.append_, run_underlying ht, run_underlying ht2, sizeOf, typeInfo, hi, asInt, asIntOf, hw0, hsize, hvs]
    · cases h0
      have hfit : vs.length * 1 + (List.replicate m u).length ≤ cur.size := by rw [hcs]; simp; omega
      have hst := run_storeCells_at P g (vs.length * 1) e (List.replicate m u) 0 cur w hg (by simpa using hfit) (fun x hx => by rw [List.eq_of_mem_replicate hx]; exact hu)
      simp only [Nat.add_zero] at hst
      refine ⟨.slice (some ⟨g, 0, none⟩) (vs.length + m) cap, w.setRow g (cur.toList.take (vs.length * 1) ++ List.replicate m u ++ cur.toList.drop (vs.length * 1 + (List.replicate m u).length)).toArray, ?_, ?_, ?_⟩
      · have hzr : ∀ wx : World, (zeroValue e).run P wx = .ok z wx := fun wx => run_zero hi hz
        have hadd : (⟨g, 0, none⟩ : Addr).add (vs.length * 1) = ⟨g, vs.length * 1, none⟩ := by unfold Addr.add; split <;> simp_all
        by_cases hm0 : m = 0
        · subst hm0
          have hst' : w.setRow g (cur.toList.take (vs.length * 1) ++ List.replicate 0 u ++ cur.toList.drop (vs.length * 1 + (List.replicate 0 u).length)).toArray = w := by
            have := hst
            simp only [List.replicate_zero, storeCells, Sem.run_pure, Result.ok.injEq, true_and] at this
            exact this.symm
          rw [hst']
          simp [Builtin.append_, run_underlying ht, run_underlying ht2, sizeOf, typeInfo, hi, asInt, asIntOf, hw0, hsize, hcap, storeCells]
        · simp [Builtin.append_, run_underlying ht, run_underlying ht2, sizeOf, typeInfo, hi, asInt, asIntOf, hwrap, hsize, hroom, hbig, hm0, hzr, hzc]
          rw [Nat.mul_one] at hadd hst
          rw [hadd, hst]
          simp
          intro h; exact absurd h hneg
      · refine ⟨by simp, .inr ⟨g, cap, _, by simp, hbg, setRow_heap w g cur _ e _ hg, by simpa using hroom, hcm, ?_, ?_⟩⟩
        · simp only [List.size_toArray, List.length_append, List.length_take, List.length_drop, Array.length_toList]
          omega
        · simp only [Nat.mul_one] at htake ⊢
          rw [htake]
          exact List.take_left
      · exact ⟨rfl, rfl, rfl, by simp [World.setRow], fun k _ hk => setRow_other w g k _ (fun e => hk (by simp [InBlock, Value.ownBlock, e]))⟩
  · have hg : cap < vs.length + m := by omega
    have hn : ¬ (vs.length + m ≤ cap) := hroom
    have h63' : ¬ (9223372036854775807 < ((vs.length : Int) + (m : Int))) := by unfold maxLen at h63; omega
    have h48' : ¬ (281474976710656 < Builtin.nextslicecap (vs.length + m) cap * i.bytes) := by
      have := growslice_fits (need := vs.length + m) (old := cap) (bytes := i.bytes) (by omega) (by rw [hby]; exact hbytes)
      omega
    have hm0 : m ≠ 0 := by omega
    have hzr : ∀ wx : World, (zeroValue e).run P wx = .ok z wx := fun wx => run_zero hi hz
    obtain ⟨g1, g2⟩ := grown cap vs rfl hg
    refine ⟨_, _, ?_, g1, g2⟩
    have hfo : (Builtin.firstCells 1 vs.length (.slice b vs.length cap)).run P w.drew = .ok vs.toArray w.drew := by
      cases b with
      | none =>
        have : vs = [] := by
          cases vs with
          | nil => rfl
          | cons x r => obtain ⟨b, o, e1, _⟩ := hrd 0 x rfl; cases e1
        subst this; rfl
      | some ad =>
        refine run_firstCells_some (P := P) w.drew 1 vs.length ad vs.length cap vs (by omega) (fun j x hj => ?_)
        obtain ⟨b', o', e1, hc⟩ := hrd j x hj
        cases e1
        unfold Addr.add
        split
        · rename_i h0; subst h0; exact hc
        · exact hc
    simp [Builtin.append_, run_underlying ht, run_underlying ht2, sizeOf, typeInfo, hi, asInt, asIntOf, hwrap, hsize, hn, h63', h48', hbig, hm0, hzr, hzc, Question.forced, hfo, newRow, grownCap]
    intro h; exact absurd h hneg

theorem wp_append_run {o : Oper} {a : Act} {K : Act → World → Prop} {Q : Exit → Act → World → Prop} (s x : Operand) (t t2 : TypeId) (ho : o.op = .call { callee := .builtin .append, args := #[s, x], argTypes := #[t, t2] }) (v u : Value) (hs : a.eval s = v) (hx : a.eval x = u)
    {R : Value → World → Prop} (hr : ∃ v' w', (Builtin.append_ #[t, t2] o.type #[v, u]).run P w = .ok v' w' ∧ R v' w') (h : ∀ v' w', R v' w' → K (a.put o.dst v') w') : o.wp P a w K Q := by
  obtain ⟨v', w', h1, h2⟩ := hr
  unfold Oper.wp execOp
  simp only [ho, resolve, invoke, builtin, Sem.run_bind, Sem.run_pure, Result.andThen_ok, List.map_toArray, List.map_cons, List.map_nil, hs, hx, h1]
  exact h v' w' h2

/-- 'append(v, a...)', one cell each, in a plain region and in one that draws its order -/
theorem wpList_append_rd {ops : Array Oper} {rest : List Oper} {o : Oper} {a : Act} {Q : Exit → Act → World → Prop} (hgd : o.guard = none) (s x : Operand) (t : TypeId) (ho : o.op = .call { callee := .builtin .append, args := #[s, x], argTypes := #[t, t] })
    (base : Nat) (e : TypeId) (i : TypeInfo) (z : Value) (bytes : Nat) (ht : P.underlying t = some (.slice e)) (hi : P.info? e = some i) (hz : i.zero = some z) (hsize : i.size = 1) (hby : i.bytes = bytes) (hzs : z.cells.size = 1)
    (v : Value) (vs : List Value) (hown : Own w base e v vs) (hs : a.eval s = v) (ad : Option Addr) (m c : Nat) (us : List Value) (hx : a.eval x = .slice ad m c) (hl : us.length = m) (hr : Rd w ad us) (h1 : ∀ u ∈ us, u.oneCell' = true)
    (h63 : vs.length + m ≤ maxLen) (hbytes : (vs.length + m) * bytes ≤ 140737488355328) (hbase : base ≤ w.heap.size)
    (h : ∀ v' w', Own w' base e v' (vs ++ us) → Touch (InBlock v) w w' → wpList P ops Q rest (a.put o.dst v') w') : wpList P ops Q (o :: rest) a w :=
  wpList_plain hgd fun _ hK => wp_append_run s x t t ho v _ hs hx (R := fun v' w' => Own w' base e v' (vs ++ us) ∧ Touch (InBlock v) w w') (run_append_rd base t _ e i z bytes ht hi hz hsize hby hzs v vs hown ad m c us hl hr h1 h63 hbytes hbase) fun v' w' hh => hK _ _ (h v' w' hh.1 hh.2)
theorem step_append_rd {ops : Array Oper} {o : Oper} {a : Act} {K : Act → World → Prop} {Q : Exit → Act → World → Prop} {E : Prop} (hw : Region.wanted o (yielded ops a.tmps) = true) (s x : Operand) (t : TypeId) (ho : o.op = .call { callee := .builtin .append, args := #[s, x], argTypes := #[t, t] })
    (base : Nat) (e : TypeId) (i : TypeInfo) (z : Value) (bytes : Nat) (ht : P.underlying t = some (.slice e)) (hi : P.info? e = some i) (hz : i.zero = some z) (hsize : i.size = 1) (hby : i.bytes = bytes) (hzs : z.cells.size = 1)
    (v : Value) (vs : List Value) (hown : Own w base e v vs) (hs : a.eval s = v) (ad : Option Addr) (m c : Nat) (us : List Value) (hx : a.eval x = .slice ad m c) (hl : us.length = m) (hr : Rd w ad us) (h1 : ∀ u ∈ us, u.oneCell' = true)
    (h63 : vs.length + m ≤ maxLen) (hbytes : (vs.length + m) * bytes ≤ 140737488355328) (hbase : base ≤ w.heap.size)
    (h : ∀ v' w', Own w' base e v' (vs ++ us) → Touch (InBlock v) w w' → K (a.put o.dst v') w') : if Region.wanted o (yielded ops a.tmps) = true then Oper.wp P o a w K Q else E := by
  rw [if_pos hw]
  exact wp_append_run s x t t ho v _ hs hx (R := fun v' w' => Own w' base e v' (vs ++ us) ∧ Touch (InBlock v) w w') (run_append_rd base t _ e i z bytes ht hi hz hsize hby hzs v vs hown ad m c us hl hr h1 h63 hbytes hbase) fun v' w' hh => h v' w' hh.1 hh.2
/-- the same, the outcome's form laid open -/
theorem step_append_rds {ops : Array Oper} {o : Oper} {a : Act} {K : Act → World → Prop} {Q : Exit → Act → World → Prop} {E : Prop} (hw : Region.wanted o (yielded ops a.tmps) = true) (s x : Operand) (t : TypeId) (ho : o.op = .call { callee := .builtin .append, args := #[s, x], argTypes := #[t, t] })
    (base : Nat) (e : TypeId) (i : TypeInfo) (z : Value) (bytes : Nat) (ht : P.underlying t = some (.slice e)) (hi : P.info? e = some i) (hz : i.zero = some z) (hsize : i.size = 1) (hby : i.bytes = bytes) (hzs : z.cells.size = 1)
    (v : Value) (vs : List Value) (hown : Own w base e v vs) (hs : a.eval s = v) (ad : Option Addr) (m c n' : Nat) (us : List Value) (hx : a.eval x = .slice ad m c) (hl : us.length = m) (hr : Rd w ad us) (h1 : ∀ u ∈ us, u.oneCell' = true) (hn : vs.length + m = n')
    (h63 : n' ≤ maxLen) (hbytes : n' * bytes ≤ 140737488355328) (hbase : base ≤ w.heap.size)
    (h : ∀ a' c' w', Own w' base e (.slice a' n' c') (vs ++ us) → Touch (InBlock v) w w' → K (a.put o.dst (.slice a' n' c')) w') : if Region.wanted o (yielded ops a.tmps) = true then Oper.wp P o a w K Q else E := by
  subst hn
  refine step_append_rd hw s x t ho base e i z bytes ht hi hz hsize hby hzs v vs hown hs ad m c us hx hl hr h1 h63 hbytes hbase fun v' w' ho ht => ?_
  obtain ⟨a', c', rfl, _⟩ := ho.form' (n := vs.length + m) (by simp [hl])
  exact h a' c' w' ho ht
/-- 'append(v, make([]E, n)...)', one cell each -/
theorem wpList_append_zeros {ops : Array Oper} {rest : List Oper} {o : Oper} {a : Act} {Q : Exit → Act → World → Prop} (hgd : o.guard = none) (s x : Operand) (t t2 : TypeId) (ho : o.op = .call { callee := .builtin .append, args := #[s, x], argTypes := #[t, t2] })
    (base : Nat) (e : TypeId) (i : TypeInfo) (z u : Value) (bytes : Nat) (ht : P.underlying t = some (.slice e)) (ht2 : P.underlying t2 = some (.int .i64)) (hi : P.info? e = some i) (hz : i.zero = some z) (hsize : i.size = 1) (hby : i.bytes = bytes) (hzs : z.cells = #[u]) (hu : u.oneCell' = true)
    (v : Value) (vs : List Value) (hown : Own w base e v vs) (hs : a.eval s = v) (m : Nat) (hx : a.eval x = .int .i64 (m : Nat))
    (h63 : vs.length + m ≤ maxLen) (hbytes : (vs.length + m) * bytes ≤ 140737488355328) (hbase : base ≤ w.heap.size)
    (h : ∀ v' w', Own w' base e v' (vs ++ List.replicate m u) → Touch (InBlock v) w w' → wpList P ops Q rest (a.put o.dst v') w') : wpList P ops Q (o :: rest) a w :=
  wpList_plain hgd fun _ hK => wp_append_run s x t t2 ho v _ hs hx (R := fun v' w' => Own w' base e v' (vs ++ List.replicate m u) ∧ Touch (InBlock v) w w') (run_append_zeros base t t2 _ e i z u bytes ht ht2 hi hz hsize hby hzs hu v vs hown m h63 hbytes hbase) fun v' w' hh => hK _ _ (h v' w' hh.1 hh.2)
end
end Go.Proofs.YtnffigfafalocaaGreatDoor
