/-
  Package drydocklaw01 by its own text: Book.Numbers, Book.Ids.
-/
import Derived.Test.YtmjeigceclmdoaaGreatDoorK20
import Derived.Test.YtmjeigceclmdoaaGreatDoorK19
namespace Go.Proofs.YtmjeigceclmdoaaGreatDoor
open Go Go.RowKit
set_option linter.unusedSimpArgs false

theorem permN {α : Type} (a b c d : α) (t : List α) : (a :: b :: c :: d :: t).Perm (a :: d :: b :: c :: t) := (((List.Perm.swap d c t).cons b).trans (List.Perm.swap d b _)).cons a
theorem permD {α : Type} (a b c d e : α) (t : List α) : (a :: b :: c :: d :: e :: t).Perm (a :: e :: b :: c :: d :: t) := ((permN b c d e t).trans (List.Perm.swap e b _)).cons a
theorem numbers_raw (w : World) (g n : Nat) (vB vI vN vD : Value) (a : Option Addr) (len cap m : Nat) (cs : List Value) (hR : Row w g 48 (bookCells n vB vI vN vD)) (hown : w.ownsRow 0 206 3 vN m cs) (hne : ¬ InBlock vN g) (hm : m ≤ 100000) (hn : n ≤ 1000000) :
    Calls Tryz.prog 22 #[.pointer (some ⟨g, 0, none⟩), .slice a len cap] w fun e w' => e = .returned (.tuple #[]) ∧ ∃ v', w'.ownsRow 0 206 3 v' (m + 1) (cs ++ [.slice a len cap, nilSl, .int .i64 ((n + 1 : Nat) : Int)]) ∧
      Row w' g 48 (bookCells (n + 1) vB vI v' vD) ∧ Touch (fun k => k = g ∨ InBlock vN k) w w' ∧ ∀ k, InBlock v' k → InBlock vN k ∨ w.heap.size ≤ k := by
  have C := Lib.hid (keepNumber_any w g n vB vI vN vD a len cap m cs hR hown hne hm hn)
  clear hR hown hne
  go_enter Tryz.func22, Tryz.ntmps22
  go_wp2_with fail
  refine C.out.mono ?_
  rintro e w' ⟨rfl, h⟩
  have H := Lib.hid h
  clear h
  go_wp2
  go_end0
  exact ⟨rfl, H.out⟩
theorem ids_raw (w : World) (g n : Nat) (vB vI vN vD : Value) (a : Option Addr) (len cap m : Nat) (cs : List Value) (hR : Row w g 48 (bookCells n vB vI vN vD)) (hown : w.ownsRow 0 212 3 vD m cs) (hne : ¬ InBlock vD g) (hm : m ≤ 100000) (hn : n ≤ 1000000) :
    Calls Tryz.prog 36 #[.pointer (some ⟨g, 0, none⟩), .slice a len cap] w fun e w' => e = .returned (.tuple #[]) ∧ ∃ v', w'.ownsRow 0 212 3 v' (m + 1) (cs ++ [.slice a len cap, nilSl, .int .i64 ((n + 1 : Nat) : Int)]) ∧
      Row w' g 48 (bookCells (n + 1) vB vI vN v') ∧ Touch (fun k => k = g ∨ InBlock vD k) w w' ∧ ∀ k, InBlock v' k → InBlock vD k ∨ w.heap.size ≤ k := by
  have C := Lib.hid (keepId_any w g n vB vI vN vD a len cap m cs hR hown hne hm hn)
  clear hR hown hne
  go_enter Tryz.func36, Tryz.ntmps36
  go_wp2_with fail
  refine C.out.mono ?_
  rintro e w' ⟨rfl, h⟩
  have H := Lib.hid h
  clear h
  go_wp2
  go_end0
  exact ⟨rfl, H.out⟩
/-- the row of a book and one of its arrays, one element longer -/
theorem two_turn {w w' : World} {F : Nat → Prop} {g : Nat} {TB TH : TypeId} {cs cs' : List Value} {v v' : Value} {m m' : Nat} {xs xs' : List Value} (hF : Al w [Part.row g TB cs, Part.arr TH v m xs] F)
    (hrow' : Row w' g TB cs') (hown : w'.ownsRow 0 TH 3 v' m' xs') (ht : Touch (fun k => k = g ∨ InBlock v k) w w') (hin' : ∀ k, InBlock v' k → InBlock v k ∨ w.heap.size ≤ k) : TurnsL w F [Part.row g TB cs', Part.arr TH v' m' xs'] w' := by
  obtain ⟨R1, R2, ⟨hrow, hg, _⟩, ⟨R3, _, ⟨harr, hin, _⟩, _, _, hR3, _⟩, hdR, hRF, hRF2⟩ := hF
  refine ⟨ht.mono (fun k _ hk => ?_), fun k => k = g ∨ InBlock v' k, ⟨fun k => k = g, InBlock v', ⟨hrow', rfl, fun k hk => by rw [hk]; exact hrow'.lt⟩, ⟨InBlock v', fun _ => False, ⟨hown, fun _ h => h, fun k hk => (rowBlock hown hk).2⟩, trivial, fun _ _ f => f, fun _ h => h, fun _ f => f.elim⟩, fun k hk hb => ?_, fun k hk => Or.inl hk, fun k hk => Or.inr hk⟩, fun k hk => ?_⟩
  · rcases hk with rfl | hk
    · exact hRF _ hg
    · exact hRF2 k (hR3 k (hin k hk))
  · rw [hk] at hb
    rcases hin' g hb with h | h
    · exact hdR g hg (hR3 g (hin g h))
    · have := hrow.lt; omega
  · rcases hk with rfl | hk
    · exact Or.inl (hRF _ hg)
    · exact (hin' k hk).imp (fun h => hRF2 k (hR3 k (hin k h))) id
theorem two_get {w : World} {F : Nat → Prop} {g : Nat} {TB TH : TypeId} {cs : List Value} {v : Value} {m : Nat} {xs : List Value} (hF : Al w [Part.row g TB cs, Part.arr TH v m xs] F) : Row w g TB cs ∧ w.ownsRow 0 TH 3 v m xs ∧ ¬ InBlock v g := by
  obtain ⟨R1, R2, ⟨hrow, hg, _⟩, ⟨R3, _, ⟨harr, hin, _⟩, _, _, hR3, _⟩, hdR, hRF, hRF2⟩ := hF
  exact ⟨hrow, harr, fun h => hdR g hg (hR3 g (hin g h))⟩
theorem book_numbers (w : World) (g n : Nat) (B I N D : List HE) (a : Option Addr) (len cap : Nat) (vs : List Value) (A : Nat → Prop) (h : Al w [Part.book g n B I N D, Part.sl 21 a len cap vs] A) (hm : N.length ≤ 100000) (hn : n ≤ 1000000) :
    Calls Tryz.prog 22 #[.pointer (some ⟨g, 0, none⟩), .slice a len cap] w fun e w' => e = .returned (.tuple #[]) ∧ TurnsL w A [Part.book g (n + 1) B I (N ++ [⟨a, len, cap, n + 1⟩]) D] w' := by
  obtain ⟨A1, A2, ⟨⟨vB, vI, vN, vD, h0, hb⟩, hl1⟩, ⟨A3, _, hs, _, _, h3, _⟩, hd, h1, h2⟩ := h
  have hs' : Al w [Part.room 21 ⟨a, len, cap, n + 1⟩] A2 := ⟨A3, fun _ => False, ⟨vs, hs⟩, trivial, fun _ _ f => f, h3, fun _ f => f.elim⟩
  have hall : Al w (bookParts g n vB vI vN vD B I N D ++ [Part.room 21 ⟨a, len, cap, n + 1⟩]) A := Al.join hb hs' hd h1 h2
  obtain ⟨F, hF, hFA, hf⟩ := Al.frame (l := [Part.row g 48 (bookCells n vB vI vN vD), Part.arr 206 vN N.length (heNew N)]) (m := _) (hall.perm (permN _ _ _ _ _))
  obtain ⟨g1, g2, g3⟩ := two_get hF
  refine (numbers_raw w g n vB vI vN vD a len cap N.length (heNew N) g1 g2 g3 hm hn).mono ?_
  rintro e w' ⟨he, v', hown, hrow', ht, hin'⟩
  refine ⟨he, ?_⟩
  have hT := two_turn hF hrow' (m' := (N ++ [(⟨a, len, cap, n + 1⟩ : HE)]).length) (xs' := heNew (N ++ [⟨a, len, cap, n + 1⟩])) (by rw [heNew_snoc, List.length_append]; exact hown) ht hin'
  refine TurnsL.wrap (l := bookParts g (n + 1) vB vI v' vD B I (N ++ [⟨a, len, cap, n + 1⟩]) D) (((hf w' _ hT).perm (permN _ _ _ _ _).symm).perm ?_) (fun O hO hlt => ⟨⟨vB, vI, v', vD, h0, hO⟩, hlt⟩)
  rw [bookParts, List.map_append]
  refine ((((List.Perm.cons _ ?_).cons _).cons _).cons _).cons _
  have hp := perm_in (B.map (Part.room 5) ++ I.map (Part.room 3)) (N.map (Part.room 21)) (D.map (Part.room 23)) (Part.room 21 ⟨a, len, cap, n + 1⟩)
  simpa [List.append_assoc] using hp
theorem book_ids (w : World) (g n : Nat) (B I N D : List HE) (a : Option Addr) (len cap : Nat) (vs : List Value) (A : Nat → Prop) (h : Al w [Part.book g n B I N D, Part.sl 23 a len cap vs] A) (hm : D.length ≤ 100000) (hn : n ≤ 1000000) :
    Calls Tryz.prog 36 #[.pointer (some ⟨g, 0, none⟩), .slice a len cap] w fun e w' => e = .returned (.tuple #[]) ∧ TurnsL w A [Part.book g (n + 1) B I N (D ++ [⟨a, len, cap, n + 1⟩])] w' := by
  obtain ⟨A1, A2, ⟨⟨vB, vI, vN, vD, h0, hb⟩, hl1⟩, ⟨A3, _, hs, _, _, h3, _⟩, hd, h1, h2⟩ := h
  have hs' : Al w [Part.room 23 ⟨a, len, cap, n + 1⟩] A2 := ⟨A3, fun _ => False, ⟨vs, hs⟩, trivial, fun _ _ f => f, h3, fun _ f => f.elim⟩
  have hall : Al w (bookParts g n vB vI vN vD B I N D ++ [Part.room 23 ⟨a, len, cap, n + 1⟩]) A := Al.join hb hs' hd h1 h2
  obtain ⟨F, hF, hFA, hf⟩ := Al.frame (l := [Part.row g 48 (bookCells n vB vI vN vD), Part.arr 212 vD D.length (heNew D)]) (m := _) (hall.perm (permD _ _ _ _ _ _))
  obtain ⟨g1, g2, g3⟩ := two_get hF
  refine (ids_raw w g n vB vI vN vD a len cap D.length (heNew D) g1 g2 g3 hm hn).mono ?_
  rintro e w' ⟨he, v', hown, hrow', ht, hin'⟩
  refine ⟨he, ?_⟩
  have hT := two_turn hF hrow' (m' := (D ++ [(⟨a, len, cap, n + 1⟩ : HE)]).length) (xs' := heNew (D ++ [⟨a, len, cap, n + 1⟩])) (by rw [heNew_snoc, List.length_append]; exact hown) ht hin'
  refine TurnsL.wrap (l := bookParts g (n + 1) vB vI vN v' B I N (D ++ [⟨a, len, cap, n + 1⟩])) (((hf w' _ hT).perm (permD _ _ _ _ _ _).symm).perm ?_) (fun O hO hlt => ⟨⟨vB, vI, vN, v', h0, hO⟩, hlt⟩)
  rw [bookParts, List.map_append]
  refine ((((List.Perm.cons _ ?_).cons _).cons _).cons _).cons _
  exact List.Perm.of_eq (by simp [List.append_assoc])
end Go.Proofs.YtmjeigceclmdoaaGreatDoor
