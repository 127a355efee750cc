/-
  What the laws with a book share: parts read, parts told to the book, the end.
-/
import Derived.Test.YtmjeigceclmdoaaGreatDoorBkBytes
import Derived.Test.YtmjeigceclmdoaaGreatDoorBkIds
import Derived.Test.YtmjeigceclmdoaaGreatDoorBkApart
import Derived.Test.YtmjeigceclmdoaaGreatDoorNumA
namespace Go.Proofs.YtmjeigceclmdoaaGreatDoor
open Go Go.RowKit
set_option linter.unusedVariables false

theorem nums_ints (k : IntKind) (b : List Nat) : ints k (b.map fun (x : Nat) => (x : Int)) = nums k b := by
  simp [ints, nums, List.map_map, Function.comp]
theorem Sl.rd {w0 w : World} {l : List Part} (h : Sl w0 w l) {T : TypeId} {a : Option Addr} {n c : Nat} {vs : List Value} (hp : Part.sl T a n c vs ∈ l) : Rd w a vs := by
  obtain ⟨A, ha, _⟩ := h.mem hp
  exact sl_rd ha
theorem Sl.step {P : Program} {f : FuncId} {args : Array Value} {w0 w1 : World} {l l' m : List Part} {v : Ending} (h : Sl w0 w1 (l ++ m)) (C : ∀ F, Al w1 l F → Calls P f args w1 fun e w' => e = v ∧ TurnsL w1 F l' w') :
    Calls P f args w1 fun e w' => e = v ∧ Sl w0 w' (l' ++ m) := by
  obtain ⟨F, hF, _, hf⟩ := h.frame
  exact (C F hF).mono fun e w' ⟨he, ht⟩ => ⟨he, hf w' l' ht⟩
/-- a part that says less -/
theorem Sl.imp1 {w0 w : World} {p q : Part} {l : List Part} (h : Sl w0 w (p :: l)) (hp : ∀ A, p.P w A → q.P w A) : Sl w0 w (q :: l) := by
  obtain ⟨O, h1, h2, t⟩ := h
  exact ⟨O, h1.imp1 hp, h2, t⟩
theorem Sl.imp2 {w0 w : World} {r p q : Part} {l : List Part} (h : Sl w0 w (r :: p :: l)) (hp : ∀ A, p.P w A → q.P w A) : Sl w0 w (r :: q :: l) :=
  ((h.perm (List.Perm.swap _ _ _)).imp1 hp).perm (List.Perm.swap _ _ _)
/-- a twin: what is told to the book is without the mark -/
theorem sl_twin {w : World} {T : TypeId} {a : Option Addr} {n c : Nat} {vs : List Value} {v : Value} {A : Nat → Prop} (h : (Part.sl T a (n + 1) c (vs ++ [v])).P w A) : (Part.sl T a n c vs).P w A := by
  have h1 := sl_cut h (Nat.le_succ n)
  have hl := (sl_len h).1
  have : (vs ++ [v]).take n = vs := by
    rw [List.length_append] at hl
    have h2 : vs.length = n := by simpa using hl
    rw [← h2, List.take_left]
  rw [this] at h1
  exact h1
theorem Sl.bytes {w0 w : World} {g n : Nat} {B I N D : List HE} {a : Option Addr} {len cap : Nat} {vs : List Value} {m : List Part} (h : Sl w0 w (Part.book g n B I N D :: Part.sl 5 a len cap vs :: m)) (hm : B.length ≤ 100000) (hn : n ≤ 1000000) :
    Calls Tryz.prog 21 #[.pointer (some ⟨g, 0, none⟩), .slice a len cap] w fun e w' => e = .returned (.tuple #[]) ∧ Sl w0 w' (Part.book g (n + 1) (B ++ [⟨a, len, cap, n + 1⟩]) I N D :: m) :=
  Sl.step (l := [_, _]) h (fun F hF => book_bytes w g n B I N D a len cap vs F hF hm hn)
theorem Sl.numbers {w0 w : World} {g n : Nat} {B I N D : List HE} {a : Option Addr} {len cap : Nat} {vs : List Value} {m : List Part} (h : Sl w0 w (Part.book g n B I N D :: Part.sl 21 a len cap vs :: m)) (hm : N.length ≤ 100000) (hn : n ≤ 1000000) :
    Calls Tryz.prog 22 #[.pointer (some ⟨g, 0, none⟩), .slice a len cap] w fun e w' => e = .returned (.tuple #[]) ∧ Sl w0 w' (Part.book g (n + 1) B I (N ++ [⟨a, len, cap, n + 1⟩]) D :: m) :=
  Sl.step (l := [_, _]) h (fun F hF => book_numbers w g n B I N D a len cap vs F hF hm hn)
theorem Sl.ids {w0 w : World} {g n : Nat} {B I N D : List HE} {a : Option Addr} {len cap : Nat} {vs : List Value} {m : List Part} (h : Sl w0 w (Part.book g n B I N D :: Part.sl 23 a len cap vs :: m)) (hm : D.length ≤ 100000) (hn : n ≤ 1000000) :
    Calls Tryz.prog 36 #[.pointer (some ⟨g, 0, none⟩), .slice a len cap] w fun e w' => e = .returned (.tuple #[]) ∧ Sl w0 w' (Part.book g (n + 1) B I N (D ++ [⟨a, len, cap, n + 1⟩]) :: m) :=
  Sl.step (l := [_, _]) h (fun F hF => book_ids w g n B I N D a len cap vs F hF hm hn)
theorem Sl.apart {w0 w : World} {g n : Nat} {B N D : List HE} {m : List Part} (h : Sl w0 w (Part.book g n B [] N D :: m)) (hB : BkOkB B) (hN : BkOk N) (hD : BkOk D) :
    Calls Tryz.prog 23 #[.pointer (some ⟨g, 0, none⟩)] w fun e w' => e = .returned (.bool true) ∧ Touch No w0 w' := by
  have t := h.end
  obtain ⟨A, ha, hA⟩ := h.mem List.mem_cons_self
  exact (apart_any w g n B N D A ha hB hN hD).mono fun e w' ⟨he, ht⟩ => ⟨he, t.then ht (fun i hi hAi => absurd hi (Nat.not_lt.2 (hA i hAi).1))⟩
theorem born_book (w : World) (cs : Array Value) (h : cs.toList = bookCells 0 nilSl nilSl nilSl nilSl) : Born w (Part.book w.heap.size 0 [] [] [] []) (w.alloc (.cells cs 48)) := by
  refine ⟨(Touch.refl No w).alloc _, fun k => k = w.heap.size, book_new ?_, fun k hk => Nat.le_of_eq hk.symm⟩
  have := Row.new w 48 cs
  rw [h] at this
  exact this
theorem born_own {w w' : World} {T : TypeId} {a : Option Addr} {n c : Nat} {vs : List Value} (t : Touch No w w') (h : Own w' w.heap.size T (.slice a n c) vs) : Born w (Part.sl T a n c vs) w' := by
  obtain ⟨a', c', e, hc, _⟩ := h.form
  cases e
  exact born_sl t (Nat.le_refl _) h hc (Nat.le_refl _)
theorem rd_pre {w : World} {a : Option Addr} {vs us : List Value} (h : Rd w a (vs ++ us)) : Rd w a vs := fun i v hi => h i v (by
  have hlt : i < vs.length := by
    rcases Nat.lt_or_ge i vs.length with h | h
    · exact h
    · rw [List.getElem?_eq_none h] at hi; cases hi
  rw [List.getElem?_append_left hlt]; exact hi)
theorem bkOkB_nil : BkOkB [] := ⟨Nat.zero_le _, (fun e h => by cases h), fun e h => by cases h⟩
theorem bkOk_nil : BkOk [] := ⟨Nat.zero_le _, (fun e h => by cases h), fun e h => by cases h⟩
end Go.Proofs.YtmjeigceclmdoaaGreatDoor
