/-
  Package drydocklaw01 by its own text: Book.Numbers, Book.Ids.
  What the laws with a book share: parts read, parts told to the book, the end.
  Package drydocklaw01 by its own text: Book.Ints; a tensor told to a book.
  A store into what reads as a list. No program in sight.
-/
import Derived.Test.YtnffigfafalocaaGreatDoorK39
import Derived.Test.YtnffigfafalocaaGreatDoorK28
import Derived.Test.YtnffigfafalocaaGreatDoorK36
import Derived.Test.YtnffigfafalocaaGreatDoorK04
import Derived.Test.YtnffigfafalocaaGreatDoorK38
namespace Go.Proofs.YtnffigfafalocaaGreatDoor
open Go Go.RowKit
set_option linter.unusedSimpArgs false

theorem permN {α : Type} (a b c d : α) (t : List α) : (a :: b :: c :: d :: t).Perm (a :: d :: b :: c :: t) := (((List.Perm.swap d c t).cons b).trans (List.Perm.swap d b _)).cons a
theorem permD {α : Type} (a b c d e : α) (t : List α) : (a :: b :: c :: d :: e :: t).Perm (a :: e :: b :: c :: d :: t) := ((permN b c d e t).trans (List.Perm.swap e b _)).cons a
theorem numbers_raw (w : World) (g n : Nat) (vB vI vN vD : Value) (a : Option Addr) (len cap m : Nat) (cs : List Value) (hR : Row w g 71 (bookCells n vB vI vN vD)) (hown : w.ownsRow 0 246 3 vN m cs) (hne : ¬ InBlock vN g) (hm : m ≤ 100000) (hn : n ≤ 1000000) :
    Calls Tryz.prog 75 #[.pointer (some ⟨g, 0, none⟩), .slice a len cap] w fun e w' => e = .returned (.tuple #[]) ∧ ∃ v', w'.ownsRow 0 246 3 v' (m + 1) (cs ++ [.slice a len cap, nilSl, .int .i64 ((n + 1 : Nat) : Int)]) ∧
      Row w' g 71 (bookCells (n + 1) vB vI v' vD) ∧ Touch (fun k => k = g ∨ InBlock vN k) w w' ∧ ∀ k, InBlock v' k → InBlock vN k ∨ w.heap.size ≤ k := by
  have C := Lib.hid (keepNumber_any w g n vB vI vN vD a len cap m cs hR hown hne hm hn)
  clear hR hown hne
  go_enter Tryz.func75, Tryz.ntmps75
  go_wp2_with fail
  refine C.out.mono ?_
  rintro e w' ⟨rfl, h⟩
  have H := Lib.hid h
  clear h
  go_wp2
  go_end0
  exact ⟨rfl, H.out⟩
theorem ids_raw (w : World) (g n : Nat) (vB vI vN vD : Value) (a : Option Addr) (len cap m : Nat) (cs : List Value) (hR : Row w g 71 (bookCells n vB vI vN vD)) (hown : w.ownsRow 0 239 3 vD m cs) (hne : ¬ InBlock vD g) (hm : m ≤ 100000) (hn : n ≤ 1000000) :
    Calls Tryz.prog 38 #[.pointer (some ⟨g, 0, none⟩), .slice a len cap] w fun e w' => e = .returned (.tuple #[]) ∧ ∃ v', w'.ownsRow 0 239 3 v' (m + 1) (cs ++ [.slice a len cap, nilSl, .int .i64 ((n + 1 : Nat) : Int)]) ∧
      Row w' g 71 (bookCells (n + 1) vB vI vN v') ∧ Touch (fun k => k = g ∨ InBlock vD k) w w' ∧ ∀ k, InBlock v' k → InBlock vD k ∨ w.heap.size ≤ k := by
  have C := Lib.hid (keepId_any w g n vB vI vN vD a len cap m cs hR hown hne hm hn)
  clear hR hown hne
  go_enter Tryz.func38, Tryz.ntmps38
  go_wp2_with fail
  refine C.out.mono ?_
  rintro e w' ⟨rfl, h⟩
  have H := Lib.hid h
  clear h
  go_wp2
  go_end0
  exact ⟨rfl, H.out⟩
/-- the row of a book and one of its arrays, one element longer -/
theorem two_turn {w w' : World} {F : Nat → Prop} {g : Nat} {TB TH : TypeId} {cs cs' : List Value} {v v' : Value} {m m' : Nat} {xs xs' : List Value} (hF : Al w [Part.row g TB cs, Part.arr TH v m xs] F)
    (hrow' : Row w' g TB cs') (hown : w'.ownsRow 0 TH 3 v' m' xs') (ht : Touch (fun k => k = g ∨ InBlock v k) w w') (hin' : ∀ k, InBlock v' k → InBlock v k ∨ w.heap.size ≤ k) : TurnsL w F [Part.row g TB cs', Part.arr TH v' m' xs'] w' := by
  obtain ⟨R1, R2, ⟨hrow, hg, _⟩, ⟨R3, _, ⟨harr, hin, _⟩, _, _, hR3, _⟩, hdR, hRF, hRF2⟩ := hF
  refine ⟨ht.mono (fun k _ hk => ?_), fun k => k = g ∨ InBlock v' k, ⟨fun k => k = g, InBlock v', ⟨hrow', rfl, fun k hk => by rw [hk]; exact hrow'.lt⟩, ⟨InBlock v', fun _ => False, ⟨hown, fun _ h => h, fun k hk => (rowBlock hown hk).2⟩, trivial, fun _ _ f => f, fun _ h => h, fun _ f => f.elim⟩, fun k hk hb => ?_, fun k hk => Or.inl hk, fun k hk => Or.inr hk⟩, fun k hk => ?_⟩
  · rcases hk with rfl | hk
    · exact hRF _ hg
    · exact hRF2 k (hR3 k (hin k hk))
  · rw [hk] at hb
    rcases hin' g hb with h | h
    · exact hdR g hg (hR3 g (hin g h))
    · have := hrow.lt; omega
  · rcases hk with rfl | hk
    · exact Or.inl (hRF _ hg)
    · exact (hin' k hk).imp (fun h => hRF2 k (hR3 k (hin k h))) id
theorem two_get {w : World} {F : Nat → Prop} {g : Nat} {TB TH : TypeId} {cs : List Value} {v : Value} {m : Nat} {xs : List Value} (hF : Al w [Part.row g TB cs, Part.arr TH v m xs] F) : Row w g TB cs ∧ w.ownsRow 0 TH 3 v m xs ∧ ¬ InBlock v g := by
  obtain ⟨R1, R2, ⟨hrow, hg, _⟩, ⟨R3, _, ⟨harr, hin, _⟩, _, _, hR3, _⟩, hdR, hRF, hRF2⟩ := hF
  exact ⟨hrow, harr, fun h => hdR g hg (hR3 g (hin g h))⟩
theorem book_numbers (w : World) (g n : Nat) (B I N D : List HE) (a : Option Addr) (len cap : Nat) (vs : List Value) (A : Nat → Prop) (h : Al w [Part.book g n B I N D, Part.sl 21 a len cap vs] A) (hm : N.length ≤ 100000) (hn : n ≤ 1000000) :
    Calls Tryz.prog 75 #[.pointer (some ⟨g, 0, none⟩), .slice a len cap] w fun e w' => e = .returned (.tuple #[]) ∧ TurnsL w A [Part.book g (n + 1) B I (N ++ [⟨a, len, cap, n + 1⟩]) D] w' := by
  obtain ⟨A1, A2, ⟨⟨vB, vI, vN, vD, h0, hb⟩, hl1⟩, ⟨A3, _, hs, _, _, h3, _⟩, hd, h1, h2⟩ := h
  have hs' : Al w [Part.room 21 ⟨a, len, cap, n + 1⟩] A2 := ⟨A3, fun _ => False, ⟨vs, hs⟩, trivial, fun _ _ f => f, h3, fun _ f => f.elim⟩
  have hall : Al w (bookParts g n vB vI vN vD B I N D ++ [Part.room 21 ⟨a, len, cap, n + 1⟩]) A := Al.join hb hs' hd h1 h2
  obtain ⟨F, hF, hFA, hf⟩ := Al.frame (l := [Part.row g 71 (bookCells n vB vI vN vD), Part.arr 246 vN N.length (heNew N)]) (m := _) (hall.perm (permN _ _ _ _ _))
  obtain ⟨g1, g2, g3⟩ := two_get hF
  refine (numbers_raw w g n vB vI vN vD a len cap N.length (heNew N) g1 g2 g3 hm hn).mono ?_
  rintro e w' ⟨he, v', hown, hrow', ht, hin'⟩
  refine ⟨he, ?_⟩
  have hT := two_turn hF hrow' (m' := (N ++ [(⟨a, len, cap, n + 1⟩ : HE)]).length) (xs' := heNew (N ++ [⟨a, len, cap, n + 1⟩])) (by rw [heNew_snoc, List.length_append]; exact hown) ht hin'
  refine TurnsL.wrap (l := bookParts g (n + 1) vB vI v' vD B I (N ++ [⟨a, len, cap, n + 1⟩]) D) (((hf w' _ hT).perm (permN _ _ _ _ _).symm).perm ?_) (fun O hO hlt => ⟨⟨vB, vI, v', vD, h0, hO⟩, hlt⟩)
  rw [bookParts, List.map_append]
  refine ((((List.Perm.cons _ ?_).cons _).cons _).cons _).cons _
  have hp := perm_in (B.map (Part.room 5) ++ I.map (Part.room 3)) (N.map (Part.room 21)) (D.map (Part.room 38)) (Part.room 21 ⟨a, len, cap, n + 1⟩)
  simpa [List.append_assoc] using hp
theorem book_ids (w : World) (g n : Nat) (B I N D : List HE) (a : Option Addr) (len cap : Nat) (vs : List Value) (A : Nat → Prop) (h : Al w [Part.book g n B I N D, Part.sl 38 a len cap vs] A) (hm : D.length ≤ 100000) (hn : n ≤ 1000000) :
    Calls Tryz.prog 38 #[.pointer (some ⟨g, 0, none⟩), .slice a len cap] w fun e w' => e = .returned (.tuple #[]) ∧ TurnsL w A [Part.book g (n + 1) B I N (D ++ [⟨a, len, cap, n + 1⟩])] w' := by
  obtain ⟨A1, A2, ⟨⟨vB, vI, vN, vD, h0, hb⟩, hl1⟩, ⟨A3, _, hs, _, _, h3, _⟩, hd, h1, h2⟩ := h
  have hs' : Al w [Part.room 38 ⟨a, len, cap, n + 1⟩] A2 := ⟨A3, fun _ => False, ⟨vs, hs⟩, trivial, fun _ _ f => f, h3, fun _ f => f.elim⟩
  have hall : Al w (bookParts g n vB vI vN vD B I N D ++ [Part.room 38 ⟨a, len, cap, n + 1⟩]) A := Al.join hb hs' hd h1 h2
  obtain ⟨F, hF, hFA, hf⟩ := Al.frame (l := [Part.row g 71 (bookCells n vB vI vN vD), Part.arr 239 vD D.length (heNew D)]) (m := _) (hall.perm (permD _ _ _ _ _ _))
  obtain ⟨g1, g2, g3⟩ := two_get hF
  refine (ids_raw w g n vB vI vN vD a len cap D.length (heNew D) g1 g2 g3 hm hn).mono ?_
  rintro e w' ⟨he, v', hown, hrow', ht, hin'⟩
  refine ⟨he, ?_⟩
  have hT := two_turn hF hrow' (m' := (D ++ [(⟨a, len, cap, n + 1⟩ : HE)]).length) (xs' := heNew (D ++ [⟨a, len, cap, n + 1⟩])) (by rw [heNew_snoc, List.length_append]; exact hown) ht hin'
  refine TurnsL.wrap (l := bookParts g (n + 1) vB vI vN v' B I N (D ++ [⟨a, len, cap, n + 1⟩])) (((hf w' _ hT).perm (permD _ _ _ _ _ _).symm).perm ?_) (fun O hO hlt => ⟨⟨vB, vI, vN, v', h0, hO⟩, hlt⟩)
  rw [bookParts, List.map_append]
  refine ((((List.Perm.cons _ ?_).cons _).cons _).cons _).cons _
  exact List.Perm.of_eq (by simp [List.append_assoc])
end Go.Proofs.YtnffigfafalocaaGreatDoor
namespace Go.Proofs.YtnffigfafalocaaGreatDoor
open Go Go.RowKit
set_option linter.unusedVariables false

theorem Sl.rd {w0 w : World} {l : List Part} (h : Sl w0 w l) {T : TypeId} {a : Option Addr} {n c : Nat} {vs : List Value} (hp : Part.sl T a n c vs ∈ l) : Rd w a vs := by
  obtain ⟨A, ha, _⟩ := h.mem hp
  exact sl_rd ha
theorem Sl.step {P : Program} {f : FuncId} {args : Array Value} {w0 w1 : World} {l l' m : List Part} {v : Ending} (h : Sl w0 w1 (l ++ m)) (C : ∀ F, Al w1 l F → Calls P f args w1 fun e w' => e = v ∧ TurnsL w1 F l' w') :
    Calls P f args w1 fun e w' => e = v ∧ Sl w0 w' (l' ++ m) := by
  obtain ⟨F, hF, _, hf⟩ := h.frame
  exact (C F hF).mono fun e w' ⟨he, ht⟩ => ⟨he, hf w' l' ht⟩
/-- a part that says less -/
theorem Sl.imp1 {w0 w : World} {p q : Part} {l : List Part} (h : Sl w0 w (p :: l)) (hp : ∀ A, p.P w A → q.P w A) : Sl w0 w (q :: l) := by
  obtain ⟨O, h1, h2, t⟩ := h
  exact ⟨O, h1.imp1 hp, h2, t⟩
theorem Sl.imp2 {w0 w : World} {r p q : Part} {l : List Part} (h : Sl w0 w (r :: p :: l)) (hp : ∀ A, p.P w A → q.P w A) : Sl w0 w (r :: q :: l) :=
  ((h.perm (List.Perm.swap _ _ _)).imp1 hp).perm (List.Perm.swap _ _ _)
/-- a twin: what is told to the book is without the mark -/
theorem sl_twin {w : World} {T : TypeId} {a : Option Addr} {n c : Nat} {vs : List Value} {v : Value} {A : Nat → Prop} (h : (Part.sl T a (n + 1) c (vs ++ [v])).P w A) : (Part.sl T a n c vs).P w A := by
  have h1 := sl_cut h (Nat.le_succ n)
  have hl := (sl_len h).1
  have : (vs ++ [v]).take n = vs := by
    rw [List.length_append] at hl
    have h2 : vs.length = n := by simpa using hl
    rw [← h2, List.take_left]
  rw [this] at h1
  exact h1
theorem Sl.numbers {w0 w : World} {g n : Nat} {B I N D : List HE} {a : Option Addr} {len cap : Nat} {vs : List Value} {m : List Part} (h : Sl w0 w (Part.book g n B I N D :: Part.sl 21 a len cap vs :: m)) (hm : N.length ≤ 100000) (hn : n ≤ 1000000) :
    Calls Tryz.prog 75 #[.pointer (some ⟨g, 0, none⟩), .slice a len cap] w fun e w' => e = .returned (.tuple #[]) ∧ Sl w0 w' (Part.book g (n + 1) B I (N ++ [⟨a, len, cap, n + 1⟩]) D :: m) :=
  Sl.step (l := [_, _]) h (fun F hF => book_numbers w g n B I N D a len cap vs F hF hm hn)
theorem Sl.ids {w0 w : World} {g n : Nat} {B I N D : List HE} {a : Option Addr} {len cap : Nat} {vs : List Value} {m : List Part} (h : Sl w0 w (Part.book g n B I N D :: Part.sl 38 a len cap vs :: m)) (hm : D.length ≤ 100000) (hn : n ≤ 1000000) :
    Calls Tryz.prog 38 #[.pointer (some ⟨g, 0, none⟩), .slice a len cap] w fun e w' => e = .returned (.tuple #[]) ∧ Sl w0 w' (Part.book g (n + 1) B I N (D ++ [⟨a, len, cap, n + 1⟩]) :: m) :=
  Sl.step (l := [_, _]) h (fun F hF => book_ids w g n B I N D a len cap vs F hF hm hn)
theorem born_book (w : World) (cs : Array Value) (h : cs.toList = bookCells 0 nilSl nilSl nilSl nilSl) : Born w (Part.book w.heap.size 0 [] [] [] []) (w.alloc (.cells cs 71)) := by
  refine ⟨(Touch.refl No w).alloc _, fun k => k = w.heap.size, book_new ?_, fun k hk => Nat.le_of_eq hk.symm⟩
  have := Row.new w 71 cs
  rw [h] at this
  exact this
theorem rd_pre {w : World} {a : Option Addr} {vs us : List Value} (h : Rd w a (vs ++ us)) : Rd w a vs := fun i v hi => h i v (by
  have hlt : i < vs.length := by
    rcases Nat.lt_or_ge i vs.length with h | h
    · exact h
    · rw [List.getElem?_eq_none h] at hi; cases hi
  rw [List.getElem?_append_left hlt]; exact hi)
theorem bkOkB_nil : BkOkB [] := ⟨Nat.zero_le _, (fun e h => by cases h), fun e h => by cases h⟩
end Go.Proofs.YtnffigfafalocaaGreatDoor
namespace Go.Proofs.YtnffigfafalocaaGreatDoor
open Go Go.RowKit
set_option linter.unusedSimpArgs false
set_option linter.unusedVariables false

theorem permI {α : Type} (a b c : α) (t : List α) : (a :: b :: c :: t).Perm (a :: c :: b :: t) := (List.Perm.swap c b t).cons a
theorem ints_raw (w : World) (g n : Nat) (vB vI vN vD : Value) (a : Option Addr) (len cap m : Nat) (cs : List Value) (hR : Row w g 71 (bookCells n vB vI vN vD)) (hown : w.ownsRow 0 244 3 vI m cs) (hne : ¬ InBlock vI g) (hm : m ≤ 100000) (hn : n ≤ 1000000) :
    Calls Tryz.prog 74 #[.pointer (some ⟨g, 0, none⟩), .slice a len cap] w fun e w' => e = .returned (.tuple #[]) ∧ ∃ v', w'.ownsRow 0 244 3 v' (m + 1) (cs ++ [.slice a len cap, nilSl, .int .i64 ((n + 1 : Nat) : Int)]) ∧
      Row w' g 71 (bookCells (n + 1) vB v' vN vD) ∧ Touch (fun k => k = g ∨ InBlock vI k) w w' ∧ ∀ k, InBlock v' k → InBlock vI k ∨ w.heap.size ≤ k := by
  have C := Lib.hid (keepInt_any w g n vB vI vN vD a len cap m cs hR hown hne hm hn)
  clear hR hown hne
  go_enter Tryz.func74, Tryz.ntmps74
  go_wp2_with fail
  refine C.out.mono ?_
  rintro e w' ⟨rfl, h⟩
  have H := Lib.hid h
  clear h
  go_wp2
  go_end0
  exact ⟨rfl, H.out⟩
theorem book_ints (w : World) (g n : Nat) (B I N D : List HE) (a : Option Addr) (len cap : Nat) (vs : List Value) (A : Nat → Prop) (h : Al w [Part.book g n B I N D, Part.sl 3 a len cap vs] A) (hm : I.length ≤ 100000) (hn : n ≤ 1000000) :
    Calls Tryz.prog 74 #[.pointer (some ⟨g, 0, none⟩), .slice a len cap] w fun e w' => e = .returned (.tuple #[]) ∧ TurnsL w A [Part.book g (n + 1) B (I ++ [⟨a, len, cap, n + 1⟩]) N D] w' := by
  obtain ⟨A1, A2, ⟨⟨vB, vI, vN, vD, h0, hb⟩, hl1⟩, ⟨A3, _, hs, _, _, h3, _⟩, hd, h1, h2⟩ := h
  have hs' : Al w [Part.room 3 ⟨a, len, cap, n + 1⟩] A2 := ⟨A3, fun _ => False, ⟨vs, hs⟩, trivial, fun _ _ f => f, h3, fun _ f => f.elim⟩
  have hall : Al w (bookParts g n vB vI vN vD B I N D ++ [Part.room 3 ⟨a, len, cap, n + 1⟩]) A := Al.join hb hs' hd h1 h2
  obtain ⟨F, hF, hFA, hf⟩ := Al.frame (l := [Part.row g 71 (bookCells n vB vI vN vD), Part.arr 244 vI I.length (heNew I)]) (m := _) (hall.perm (permI _ _ _ _))
  obtain ⟨g1, g2, g3⟩ := two_get hF
  refine (ints_raw w g n vB vI vN vD a len cap I.length (heNew I) g1 g2 g3 hm hn).mono ?_
  rintro e w' ⟨he, v', hown, hrow', ht, hin'⟩
  refine ⟨he, ?_⟩
  have hT := two_turn hF hrow' (m' := (I ++ [(⟨a, len, cap, n + 1⟩ : HE)]).length) (xs' := heNew (I ++ [⟨a, len, cap, n + 1⟩])) (by rw [heNew_snoc, List.length_append]; exact hown) ht hin'
  refine TurnsL.wrap (l := bookParts g (n + 1) vB v' vN vD B (I ++ [⟨a, len, cap, n + 1⟩]) N D) (((hf w' _ hT).perm (permI _ _ _ _).symm).perm ?_) (fun O hO hlt => ⟨⟨vB, v', vN, vD, fun e => by simp at e, hO⟩, hlt⟩)
  rw [bookParts, List.map_append]
  refine ((((List.Perm.cons _ ?_).cons _).cons _).cons _).cons _
  have hp := perm_in (B.map (Part.room 5)) (I.map (Part.room 3)) (N.map (Part.room 21) ++ D.map (Part.room 38)) (Part.room 3 ⟨a, len, cap, n + 1⟩)
  simpa [List.append_assoc] using hp
theorem Sl.ints {w0 w : World} {g n : Nat} {B I N D : List HE} {a : Option Addr} {len cap : Nat} {vs : List Value} {m : List Part} (h : Sl w0 w (Part.book g n B I N D :: Part.sl 3 a len cap vs :: m)) (hm : I.length ≤ 100000) (hn : n ≤ 1000000) :
    Calls Tryz.prog 74 #[.pointer (some ⟨g, 0, none⟩), .slice a len cap] w fun e w' => e = .returned (.tuple #[]) ∧ Sl w0 w' (Part.book g (n + 1) B (I ++ [⟨a, len, cap, n + 1⟩]) N D :: m) :=
  Sl.step (l := [_, _]) h (fun F hF => book_ints w g n B I N D a len cap vs F hF hm hn)
theorem Sl.apart4 {w0 w : World} {g n : Nat} {B I N D : List HE} {m : List Part} (h : Sl w0 w (Part.book g n B I N D :: m)) (hB : BkOkB B) (hI : BkOk I) (hN : BkOk N) (hD : BkOk D) :
    Calls Tryz.prog 39 #[.pointer (some ⟨g, 0, none⟩)] w fun e w' => e = .returned (.bool true) ∧ Touch No w0 w' := by
  have t := h.end
  obtain ⟨A, ha, hA⟩ := h.mem List.mem_cons_self
  exact (apart4_any w g n B I N D A ha hB hI hN hD).mono fun e w' ⟨he, ht⟩ => ⟨he, t.then ht (fun i hi hAi => absurd hi (Nat.not_lt.2 (hA i hAi).1))⟩
end Go.Proofs.YtnffigfafalocaaGreatDoor
namespace Go.Proofs.YtnffigfafalocaaGreatDoor
open Go Go.RowKit

end Go.Proofs.YtnffigfafalocaaGreatDoor
