/-
  States that stand beside each other, as a list that may be put in another order. No program in sight.
  Slices with room of their own, as parts; a book's lists. No program in sight.
  A book: its cells, its lists, what is held. No program in sight.
  Package drydocklaw01 by its own text: a book is told of bytes.
  A book as one part: what it has been told of lies in blocks of its own.
  Package drydocklaw01 by its own text: Book.Bytes.
  Package drydocklaw01 by its own text: a book is told of bytes.
  Package drydocklaw01 by its own text: a book is told of bytes.
  Package drydocklaw01 by its own text: Book.Numbers, Book.Ids.
  A book's lists, grown: what lies behind; append to a slice with its room. No program in sight.
  What the walks of a book's functions share. No program in sight.
  Package drydocklaw01 by its own text: a book's lists of bytes, filled with marks.
  The plain mathematics of roots: numbers as four bytes, sums of bytes, a root's bytes. No program in sight.
-/
import Derived.Test.YtpmkegbgbldpnaaGreatDoorK05
import Derived.ArgAppend
import Derived.Laws.OwnMore
import Derived.Test.YtpmkegbgbldpnaaGreatDoorK04
import Derived.Test.YtpmkegbgbldpnaaGreatDoorK03
import Derived.StillTailTactics
import Derived.Test.YtpmkegbgbldpnaaGreatDoorK01
import Derived.KernelRfl
namespace Go.Proofs.YtpmkegbgbldpnaaGreatDoor
open Go Go.RowKit
set_option linter.unusedVariables false

/-- these, each in blocks of its own, all of which are O's -/
def Al (w : World) : List Part → (Nat → Prop) → Prop
  | [], _ => True
  | p :: l, O => ∃ A B, p.P w A ∧ Al w l B ∧ (∀ k, A k → ¬ B k) ∧ (∀ k, A k → O k) ∧ ∀ k, B k → O k
section
variable {w w' : World} {l m : List Part} {O O' : Nat → Prop}
theorem Al.mono (h : Al w l O) (hO : ∀ k, O k → O' k) : Al w l O' := by
  cases l with
  | nil => trivial
  | cons p l =>
    obtain ⟨A, B, ha, hb, hd, h1, h2⟩ := h
    exact ⟨A, B, ha, hb, hd, fun k hk => hO k (h1 k hk), fun k hk => hO k (h2 k hk)⟩
theorem Al.stable {F : Nat → Prop} (t : Touch F w w') : ∀ {l : List Part} {O : Nat → Prop}, Al w l O → (∀ k, O k → ¬ F k) → Al w' l O
  | [], _, _, _ => trivial
  | p :: l, O, ⟨A, B, ha, hb, hd, h1, h2⟩, hF => ⟨A, B, p.stable ha t (fun k hk => hF k (h1 k hk)), Al.stable t hb (fun k hk => hF k (h2 k hk)), hd, h1, h2⟩
theorem Al.no (t : Touch No w w') (h : Al w l O) : Al w' l O := Al.stable t h (fun _ _ f => f)
/-- no more blocks than there are -/
theorem Al.cut : ∀ {l : List Part} {O : Nat → Prop}, Al w l O → Al w l (fun k => O k ∧ k < w.heap.size)
  | [], _, _ => trivial
  | p :: l, O, ⟨A, B, ha, hb, hd, h1, h2⟩ => ⟨A, _, ha, Al.cut hb, fun k hk h => hd k hk h.1, fun k hk => ⟨h1 k hk, p.lt ha k hk⟩, fun k hk => ⟨h2 k hk.1, hk.2⟩⟩
theorem Al.append : ∀ {l m : List Part} {O : Nat → Prop}, Al w (l ++ m) O → ∃ A B, Al w l A ∧ Al w m B ∧ (∀ k, A k → ¬ B k) ∧ (∀ k, A k → O k) ∧ ∀ k, B k → O k
  | [], m, O, h => ⟨fun _ => False, O, trivial, h, fun _ f => f.elim, fun _ f => f.elim, fun _ h => h⟩
  | p :: l, m, O, ⟨A, B, ha, hb, hd, h1, h2⟩ => by
    obtain ⟨C, D, hc, hdd, hcd, h3, h4⟩ := Al.append hb
    refine ⟨fun k => A k ∨ C k, D, ⟨A, C, ha, hc, fun k hk h => hd k hk (h3 k h), fun k => Or.inl, fun k => Or.inr⟩, hdd, fun k hk h => ?_, fun k hk => ?_, fun k hk => h2 k (h4 k hk)⟩
    · rcases hk with hk | hk
      · exact hd k hk (h4 k h)
      · exact hcd k hk h
    · rcases hk with hk | hk
      · exact h1 k hk
      · exact h2 k (h3 k hk)
theorem Al.join : ∀ {l m : List Part} {A B O : Nat → Prop}, Al w l A → Al w m B → (∀ k, A k → ¬ B k) → (∀ k, A k → O k) → (∀ k, B k → O k) → Al w (l ++ m) O
  | [], m, A, B, O, _, hb, _, _, h2 => hb.mono h2
  | p :: l, m, A, B, O, ⟨C, D, hc, hd, hcd, h3, h4⟩, hb, hdis, h1, h2 => by
    refine ⟨C, fun k => D k ∨ B k, hc, Al.join hd hb (fun k hk => hdis k (h4 k hk)) (fun k => Or.inl) (fun k => Or.inr), fun k hk h => ?_, fun k hk => h1 k (h3 k hk), fun k hk => ?_⟩
    · rcases h with h | h
      · exact hcd k hk h
      · exact hdis k (h3 k hk) h
    · rcases hk with hk | hk
      · exact h1 k (h4 k hk)
      · exact h2 k hk
theorem Al.perm (h : l.Perm m) : ∀ {O : Nat → Prop}, Al w l O → Al w m O := by
  induction h with
  | nil => intro O h; exact h
  | cons p _ ih => rintro O ⟨A, B, ha, hb, hd, h1, h2⟩; exact ⟨A, B, ha, ih hb, hd, h1, h2⟩
  | swap p q l =>
    rintro O ⟨A, B, ha, ⟨C, D, hc, hdd, hcd, h3, h4⟩, hd, h1, h2⟩
    refine ⟨C, fun k => A k ∨ D k, hc, ⟨A, D, ha, hdd, fun k hk h => hd k hk (h4 k h), fun k => Or.inl, fun k => Or.inr⟩, fun k hk h => ?_, fun k hk => h2 k (h3 k hk), fun k hk => ?_⟩
    · rcases h with h | h
      · exact hd k h (h3 k hk)
      · exact hcd k hk h
    · rcases hk with hk | hk
      · exact h1 k hk
      · exact h2 k (h4 k hk)
  | trans _ _ ih1 ih2 => intro O h; exact ih2 (ih1 h)
theorem Al.head {p : Part} (h : Al w (p :: l) O) : ∃ A, p.P w A ∧ ∀ k, A k → O k := by
  obtain ⟨A, B, ha, _, _, h1, _⟩ := h
  exact ⟨A, ha, h1⟩
theorem Al.tail {p : Part} (h : Al w (p :: l) O) : Al w l O := by
  obtain ⟨A, B, _, hb, _, _, h2⟩ := h
  exact hb.mono h2
theorem Al.mem {p : Part} : ∀ {l : List Part} {O : Nat → Prop}, Al w l O → p ∈ l → ∃ A, p.P w A ∧ ∀ k, A k → O k
  | q :: l, O, h, hp => by
    rcases List.mem_cons.1 hp with rfl | hp
    · exact h.head
    · exact Al.mem h.tail hp
end

/-- in their blocks, and in new ones, these became those -/
def TurnsL (w : World) (O : Nat → Prop) (l' : List Part) (w' : World) : Prop := Touch O w w' ∧ ∃ O', Al w' l' O' ∧ ∀ k, O' k → O k ∨ w.heap.size ≤ k
theorem TurnsL.same {w : World} {O : Nat → Prop} {l : List Part} (h : Al w l O) : TurnsL w O l w := ⟨Touch.refl _ _, O, h, fun _ h => Or.inl h⟩
/-- .. whatever stands beside them -/
theorem Al.frame {w : World} {l m : List Part} {O : Nat → Prop} (h : Al w (l ++ m) O) : ∃ A, Al w l A ∧ (∀ k, A k → O k) ∧ ∀ w' l', TurnsL w A l' w' → TurnsL w O (l' ++ m) w' := by
  obtain ⟨A, B, ha, hb, hd, h1, h2⟩ := h.append
  refine ⟨A, ha, h1, fun w' l' ht => ?_⟩
  obtain ⟨t, A', ha', hin⟩ := ht
  refine ⟨t.mono (fun k _ hk => h1 k hk), fun k => A' k ∨ (B k ∧ k < w.heap.size), Al.join ha' (Al.stable t hb.cut (fun k hk f => hd k f hk.1)) (fun k hk hB => ?_) (fun k => Or.inl) (fun k => Or.inr), fun k hk => ?_⟩
  · rcases hin k hk with h | h
    · exact hd k h hB.1
    · have := hB.2
      omega
  · rcases hk with hk | hk
    · exact (hin k hk).imp (h1 k) id
    · exact Or.inl (h2 k hk.1)
/-- these, made since w0 -/
def Sl (w0 w : World) (l : List Part) : Prop := ∃ O, Al w l O ∧ (∀ k, O k → w0.heap.size ≤ k ∧ k < w.heap.size) ∧ Touch No w0 w
section
variable {w0 w w' : World} {l m : List Part}
theorem Sl.end (h : Sl w0 w l) : Touch No w0 w := by obtain ⟨O, _, _, t⟩ := h; exact t
theorem Sl.nil (t : Touch No w0 w) : Sl w0 w [] := ⟨fun _ => False, trivial, fun _ f => f.elim, t⟩
theorem Sl.no (h : Sl w0 w l) (t : Touch No w w') : Sl w0 w' l := by
  obtain ⟨O, h1, h2, t0⟩ := h
  exact ⟨O, h1.no t, fun k hk => ⟨(h2 k hk).1, Nat.lt_of_lt_of_le (h2 k hk).2 t.size⟩, t0.trans t⟩
theorem Sl.perm (h : Sl w0 w l) (hp : l.Perm m) : Sl w0 w m := by
  obtain ⟨O, h1, h2, t0⟩ := h
  exact ⟨O, h1.perm hp, h2, t0⟩
theorem Sl.mem (h : Sl w0 w l) {p : Part} (hp : p ∈ l) : ∃ A, p.P w A ∧ ∀ k, A k → w0.heap.size ≤ k ∧ k < w.heap.size := by
  obtain ⟨O, h1, h2, _⟩ := h
  obtain ⟨A, ha, hA⟩ := h1.mem hp
  exact ⟨A, ha, fun k hk => h2 k (hA k hk)⟩
theorem Sl.frame (h : Sl w0 w (l ++ m)) : ∃ A, Al w l A ∧ (∀ k, A k → w0.heap.size ≤ k ∧ k < w.heap.size) ∧ ∀ w' l', TurnsL w A l' w' → Sl w0 w' (l' ++ m) := by
  obtain ⟨O, h1, h2, t0⟩ := h
  obtain ⟨A, ha, hA, hf⟩ := h1.frame
  refine ⟨A, ha, fun k hk => h2 k (hA k hk), fun w' l' ht => ?_⟩
  obtain ⟨t, O', hO', hin⟩ := hf w' l' ht
  refine ⟨_, hO'.cut, fun k hk => ⟨?_, hk.2⟩, t0.then t (fun i hi f => absurd hi (Nat.not_lt.2 (h2 i f).1))⟩
  rcases hin k hk.1 with h | h
  · exact (h2 k h).1
  · exact Nat.le_trans t0.size h
theorem Sl.push (h : Sl w0 w l) {p : Part} (b : Born w p w') : Sl w0 w' (p :: l) := by
  obtain ⟨O, h1, h2, t0⟩ := h
  obtain ⟨t, A, ha, hge⟩ := b
  have hs := t.size
  refine ⟨fun k => A k ∨ O k, ⟨A, O, ha, h1.no t, fun k hk ho => ?_, fun k => Or.inl, fun k => Or.inr⟩, fun k hk => ?_, t0.trans t⟩
  · have := hge k hk
    have := (h2 k ho).2
    omega
  · rcases hk with hk | hk
    · exact ⟨Nat.le_trans t0.size (hge k hk), p.lt ha k hk⟩
    · exact ⟨(h2 k hk).1, Nat.lt_of_lt_of_le (h2 k hk).2 hs⟩
theorem Sl.drop {p : Part} (h : Sl w0 w (p :: l)) : Sl w0 w l := by
  obtain ⟨O, h1, h2, t0⟩ := h
  exact ⟨O, h1.tail, h2, t0⟩
end
end Go.Proofs.YtpmkegbgbldpnaaGreatDoor
namespace Go.Proofs.YtpmkegbgbldpnaaGreatDoor
open Go Go.RowKit
set_option linter.unusedVariables false

/-- room for cap cells at a -/
def RoomAt (w : World) (T : TypeId) (a : Option Addr) (cap : Nat) (vs : List Value) (O : Nat → Prop) : Prop :=
  cap = 0 ∨ ∃ g o cs, a = some ⟨g, o, none⟩ ∧ w.heap[g]? = some (.cells cs T (0, 0)) ∧ o + cap ≤ cs.size ∧ O g ∧ ∀ (i : Nat) v, vs[i]? = some v → cs[o + i]? = some v
/-- a slice with its room, that reads so -/
def Part.sl (T : TypeId) (a : Option Addr) (n cap : Nat) (vs : List Value) : Part where
  P w O := vs.length = n ∧ n ≤ cap ∧ cap ≤ maxLen ∧ (∀ k, O k → k < w.heap.size) ∧ RoomAt w T a cap vs O
  stable := fun {F w w' O} ⟨h1, h2, h3, h4, h5⟩ t hF => ⟨h1, h2, h3, fun k hk => Nat.lt_of_lt_of_le (h4 k hk) t.size, by
    rcases h5 with h5 | ⟨g, o, cs, ha, hg, hc, hO, hv⟩
    · exact Or.inl h5
    · exact Or.inr ⟨g, o, cs, ha, by rw [t.block g (h4 g hO) (hF g hO)]; exact hg, hc, hO, hv⟩⟩
  lt := fun {w O} h => h.2.2.2.1
section
variable {w w' : World} {T : TypeId} {a : Option Addr} {n cap : Nat} {vs : List Value} {O : Nat → Prop}
theorem sl_len (h : (Part.sl T a n cap vs).P w O) : vs.length = n ∧ n ≤ cap ∧ cap ≤ maxLen := ⟨h.1, h.2.1, h.2.2.1⟩
theorem sl_rd (h : (Part.sl T a n cap vs).P w O) : Rd w a vs := by
  obtain ⟨h1, h2, h3, h4, h5⟩ := h
  intro i v hi
  have hlt : i < vs.length := by
    rcases Nat.lt_or_ge i vs.length with h | h
    · exact h
    · rw [List.getElem?_eq_none h] at hi; cases hi
  rcases h5 with h5 | ⟨g, o, cs, rfl, hg, hc, hO, hv⟩
  · omega
  · exact ⟨g, o, rfl, by simp only [World.cell?, hg]; simpa using hv i v hi⟩
/-- new memory of a call's own -/
theorem born_sl {base c : Nat} (t : Touch No w w') (hb : w.heap.size ≤ base) (h : Own w' base T (.slice a n c) vs) (hc : n ≤ cap) (hc' : cap ≤ c) : Born w (.sl T a n cap vs) w' := by
  obtain ⟨hl, h⟩ := h
  rcases h with ⟨hv, h0⟩ | ⟨g, cp, cur, hv, hg, hh, hn, hm, hs, ht⟩
  · cases hv
    exact ⟨t, fun _ => False, ⟨h0, hc, by omega, fun _ f => f.elim, Or.inl (by omega)⟩, fun _ f => f.elim⟩
  · cases hv
    have hgs : g < w'.heap.size := (Array.getElem?_eq_some_iff.1 hh).1
    refine ⟨t, fun k => k = g, ⟨by omega, hc, by omega, fun k hk => by rw [hk]; exact hgs, Or.inr ⟨g, 0, cur, rfl, hh, by omega, rfl, fun i v hi => ?_⟩⟩, fun k hk => by rw [hk]; omega⟩
    rw [← ht, List.getElem?_take] at hi
    split at hi
    · rw [Nat.zero_add]; simpa using hi
    · cases hi
end
end Go.Proofs.YtpmkegbgbldpnaaGreatDoor
namespace Go.Proofs.YtpmkegbgbldpnaaGreatDoor
open Go Go.RowKit
set_option linter.unusedVariables false

/-- a list that a book holds, and its number -/
structure HE where
  a : Option Addr
  n : Nat
  c : Nat
  k : Nat
end Go.Proofs.YtpmkegbgbldpnaaGreatDoor
namespace Go.Proofs.YtpmkegbgbldpnaaGreatDoor
open Go Go.RowKit
set_option linter.unusedSimpArgs false

end Go.Proofs.YtpmkegbgbldpnaaGreatDoor
namespace Go.Proofs.YtpmkegbgbldpnaaGreatDoor
open Go Go.RowKit
set_option linter.unusedVariables false

end Go.Proofs.YtpmkegbgbldpnaaGreatDoor
namespace Go.Proofs.YtpmkegbgbldpnaaGreatDoor
open Go Go.RowKit
set_option linter.unusedSimpArgs false

end Go.Proofs.YtpmkegbgbldpnaaGreatDoor
namespace Go.Proofs.YtpmkegbgbldpnaaGreatDoor
open Go Go.RowKit
set_option linter.unusedSimpArgs false

end Go.Proofs.YtpmkegbgbldpnaaGreatDoor
namespace Go.Proofs.YtpmkegbgbldpnaaGreatDoor
open Go Go.RowKit
set_option linter.unusedSimpArgs false

end Go.Proofs.YtpmkegbgbldpnaaGreatDoor
namespace Go.Proofs.YtpmkegbgbldpnaaGreatDoor
open Go Go.RowKit
set_option linter.unusedSimpArgs false

end Go.Proofs.YtpmkegbgbldpnaaGreatDoor
namespace Go.Proofs.YtpmkegbgbldpnaaGreatDoor
open Go Go.RowKit
set_option linter.unusedVariables false

theorem rd_lt {w : World} {g o : Nat} {vs : List Value} (h : Rd w (some ⟨g, o, none⟩) vs) (hv : 0 < vs.length) : g < w.heap.size := by
  obtain ⟨b, o', e, hc⟩ := h 0 vs[0] (List.getElem?_eq_getElem hv)
  cases e
  exact lt_of_cell hc
end Go.Proofs.YtpmkegbgbldpnaaGreatDoor
namespace Go.Proofs.YtpmkegbgbldpnaaGreatDoor
open Go Go.RowKit
set_option linter.unusedVariables false

end Go.Proofs.YtpmkegbgbldpnaaGreatDoor
namespace Go.Proofs.YtpmkegbgbldpnaaGreatDoor
open Go Go.RowKit
set_option linter.unusedSimpArgs false

end Go.Proofs.YtpmkegbgbldpnaaGreatDoor
namespace Go.Proofs.YtpmkegbgbldpnaaGreatDoor
open Go Go.RowKit
namespace Rt

/-! ### four bytes -/
def four (n : Nat) : List Nat := [n % 256, n / 256 % 256, n / 65536 % 256, n / 16777216 % 256]
def unfour (b : List Nat) : Nat := b.getD 0 0 + 256 * b.getD 1 0 + 65536 * b.getD 2 0 + 16777216 * b.getD 3 0
theorem four_length (n : Nat) : (four n).length = 4 := rfl
theorem four_lt (n : Nat) : ∀ x ∈ four n, x < 256 := by
  intro x hx
  simp only [four, List.mem_cons, List.not_mem_nil, or_false] at hx
  omega
theorem unfour_four {n : Nat} (h : n < 4294967296) : unfour (four n) = n := by
  simp [unfour, four]; omega
theorem unfour_lt {b : List Nat} (h : ∀ x ∈ b, x < 256) : unfour b < 4294967296 := by
  have hb : ∀ i, b.getD i 0 < 256 := fun i => by
    rw [List.getD_eq_getElem?_getD]
    cases hq : b[i]? with
    | none => simp
    | some z => exact h z (List.mem_of_getElem? hq)
  have h0 := hb 0
  have h1 := hb 1
  have h2 := hb 2
  have h3 := hb 3
  unfold unfour; omega

/-! ### sums -/
def half1 (r : Nat) : Nat := if r % 2 = 1 then r / 2 ^^^ 3988292384 else r / 2
def halves : Nat → Nat → Nat
  | 0, r => r
  | k + 1, r => halves k (half1 r)
theorem halves_succ : ∀ (k r : Nat), halves (k + 1) r = half1 (halves k r)
  | 0, _ => rfl
  | k + 1, r => by rw [halves, halves_succ k, halves]
def tab (n : Nat) : Nat := halves 8 n
theorem half1_lt {r : Nat} (h : r < 4294967296) : half1 r < 4294967296 := by
  unfold half1
  split
  · exact Nat.xor_lt_two_pow (n := 32) (by omega) (by decide)
  · omega
theorem halves_lt : ∀ (k : Nat) {r : Nat}, r < 4294967296 → halves k r < 4294967296
  | 0, _, h => h
  | k + 1, _, h => halves_lt k (half1_lt h)
theorem tab_lt {n : Nat} (h : n < 256) : tab n < 4294967296 := halves_lt 8 (by omega)
def step (r c : Nat) : Nat := tab (r % 256 ^^^ c) ^^^ r / 256
def neg (r : Nat) : Nat := 4294967295 - r
def run (r : Nat) : List Nat → Nat
  | [] => r
  | c :: b => run (step r c) b
def on (sum : Nat) (b : List Nat) : Nat := neg (run (neg sum) b)
def of (b : List Nat) : Nat := on 0 b
theorem run_append : ∀ (a b : List Nat) (r : Nat), run r (a ++ b) = run (run r a) b
  | [], _, _ => rfl
  | c :: a, b, r => run_append a b (step r c)
theorem idx_lt {r c : Nat} (h : c < 256) : r % 256 ^^^ c < 256 := Nat.xor_lt_two_pow (n := 8) (by omega) h
theorem step_lt {r c : Nat} (hr : r < 4294967296) (hc : c < 256) : step r c < 4294967296 :=
  Nat.xor_lt_two_pow (n := 32) (tab_lt (idx_lt hc)) (by omega)
theorem run_lt : ∀ (b : List Nat) {r : Nat}, r < 4294967296 → (∀ x ∈ b, x < 256) → run r b < 4294967296
  | [], _, h, _ => h
  | c :: b, _, h, hb => run_lt b (step_lt h (hb c (by simp))) (fun x hx => hb x (by simp [hx]))
theorem neg_lt (r : Nat) : neg r < 4294967296 := by unfold neg; omega
theorem on_lt {sum : Nat} {b : List Nat} : on sum b < 4294967296 := neg_lt _
theorem of_lt {b : List Nat} : of b < 4294967296 := neg_lt _

/-- the highest bytes of the table are all unlike -/
def tops : List Nat := (List.range 256).map (fun i => tab i / 16777216)
theorem tops_nodup : tops.Nodup := of_decide_eq_true (by kernel_rfl)
theorem tops_inj {i j : Nat} (hi : i < 256) (hj : j < 256) (h : tab i / 16777216 = tab j / 16777216) : i = j := by
  have li : i < tops.length := by simp [tops]; exact hi
  have lj : j < tops.length := by simp [tops]; exact hj
  refine (List.getElem_inj (h₀ := li) (h₁ := lj) tops_nodup).1 ?_
  simpa [tops] using h
theorem xor_top {a b : Nat} (hb : b < 16777216) : (a ^^^ b) / 16777216 = a / 16777216 := by
  have e : (16777216 : Nat) = 2 ^ 24 := rfl
  rw [e] at hb ⊢
  rw [← Nat.shiftRight_eq_div_pow, ← Nat.shiftRight_eq_div_pow, Nat.shiftRight_xor_distrib, Nat.shiftRight_eq_div_pow b, Nat.div_eq_of_lt hb, Nat.xor_zero]
theorem xor_cancel {a b c : Nat} (h : a ^^^ b = a ^^^ c) : b = c := by
  have := congrArg (fun x => a ^^^ x) h
  simpa [← Nat.xor_assoc] using this
theorem step_idx {r r' c c' : Nat} (hr : r < 4294967296) (hr' : r' < 4294967296) (hc : c < 256) (hc' : c' < 256) (h : step r c = step r' c') : r % 256 ^^^ c = r' % 256 ^^^ c' := by
  refine tops_inj (idx_lt hc) (idx_lt hc') ?_
  have h1 := xor_top (a := tab (r % 256 ^^^ c)) (b := r / 256) (by omega)
  have h2 := xor_top (a := tab (r' % 256 ^^^ c')) (b := r' / 256) (by omega)
  rw [← h1, ← h2]
  exact congrArg (fun x => x / 16777216) h
theorem step_inj {r r' c : Nat} (hr : r < 4294967296) (hr' : r' < 4294967296) (hc : c < 256) (h : step r c = step r' c) : r = r' := by
  have hi := step_idx hr hr' hc hc h
  have h1 : r % 256 = r' % 256 := by
    rw [Nat.xor_comm, Nat.xor_comm (r' % 256)] at hi
    exact xor_cancel hi
  unfold step at h
  rw [hi] at h
  have h2 := xor_cancel h
  omega
theorem run_inj : ∀ (b : List Nat) {r r' : Nat}, r < 4294967296 → r' < 4294967296 → (∀ x ∈ b, x < 256) → run r b = run r' b → r = r'
  | [], _, _, _, _, _, h => h
  | c :: b, _, _, hr, hr', hb, h => by
    have hc := hb c (by simp)
    exact step_inj hr hr' hc (run_inj b (step_lt hr hc) (step_lt hr' hc) (fun x hx => hb x (by simp [hx])) h)
theorem neg_inj {a b : Nat} (ha : a < 4294967296) (hb : b < 4294967296) (h : neg a = neg b) : a = b := by unfold neg at h; omega
theorem on_append (sum : Nat) (a b : List Nat) (_hs : sum < 4294967296) (ha : ∀ x ∈ a, x < 256) : on (on sum a) b = on sum (a ++ b) := by
  have hr := run_lt a (neg_lt sum) ha
  unfold on
  rw [run_append]
  congr 2
  unfold neg at hr ⊢; omega

/-! ### a root's bytes -/
structure Root where
  epoch : Nat
  first : Nat
  bytes : Nat
structure Root.Ok (r : Root) : Prop where
  epoch : r.epoch < 4294967296
  first : r.first < 4294967296
  bytes : r.bytes < 4294967296
def mark : List Nat := [82, 79, 79, 84]
def head (r : Root) : List Nat := mark ++ four r.epoch ++ four r.first ++ four r.bytes
def put (r : Root) : List Nat := head r ++ four (of (head r)) ++ List.replicate 44 0
theorem head_length (r : Root) : (head r).length = 16 := rfl
theorem put_length (r : Root) : (put r).length = 64 := rfl
theorem head_lt (r : Root) : ∀ x ∈ head r, x < 256 := by
  intro x hx
  simp only [head, List.mem_append] at hx
  rcases hx with ((h | h) | h) | h
  · simp only [mark, List.mem_cons, List.not_mem_nil, or_false] at h; omega
  · exact four_lt _ x h
  · exact four_lt _ x h
  · exact four_lt _ x h
theorem put_lt (r : Root) : ∀ x ∈ put r, x < 256 := by
  intro x hx
  simp only [put, List.mem_append] at hx
  rcases hx with (h | h) | h
  · exact head_lt r x h
  · exact four_lt _ x h
  · have := (List.mem_replicate.1 h).2; omega

/-- what Get says of bytes: 0 and the root, or an error: 4 (form), 11 (sum) -/
def nought (b : List Nat) : Bool := b.all (· == 0)
def errOf (b : List Nat) : Nat := if b.length = 64 ∧ b.take 4 = mark ∧ nought (b.drop 20) = true then (if of (b.take 16) = unfour ((b.drop 16).take 4) then 0 else 11) else 4
def rootOf (b : List Nat) : Root := if errOf b = 0 then ⟨unfour ((b.drop 4).take 4), unfour ((b.drop 8).take 4), unfour ((b.drop 12).take 4)⟩ else ⟨0, 0, 0⟩
theorem put_err (r : Root) : errOf (put r) = 0 := by
  have h1 : (put r).take 4 = mark := rfl
  have h2 : nought ((put r).drop 20) = true := rfl
  have h3 : (put r).take 16 = head r := rfl
  have h4 : ((put r).drop 16).take 4 = four (of (head r)) := rfl
  rw [errOf, if_pos ⟨put_length r, h1, h2⟩, h3, h4, unfour_four of_lt, if_pos rfl]
theorem put_root {r : Root} (h : r.Ok) : rootOf (put r) = r := by
  rw [rootOf, if_pos (put_err r)]
  have h1 : ((put r).drop 4).take 4 = four r.epoch := rfl
  have h2 : ((put r).drop 8).take 4 = four r.first := rfl
  have h3 : ((put r).drop 12).take 4 = four r.bytes := rfl
  rw [h1, h2, h3, unfour_four h.epoch, unfour_four h.first, unfour_four h.bytes]

/-! ### one byte turned -/
end Rt
end Go.Proofs.YtpmkegbgbldpnaaGreatDoor
