/-
  Package drydocklaw01 by its own text: Book.Bytes.
-/
import Derived.Test.YtmjeigceclmdoaaGreatDoorBkKeepB
import Derived.Test.YtmjeigceclmdoaaGreatDoorBkBook
namespace Go.Proofs.YtmjeigceclmdoaaGreatDoor
open Go Go.RowKit
set_option linter.unusedSimpArgs false

theorem bytes_raw (w : World) (g n : Nat) (vB vI vN vD : Value) (a : Option Addr) (len cap m : Nat) (cs : List Value) (hR : Row w g 48 (bookCells n vB vI vN vD)) (hown : w.ownsRow 0 204 3 vB m cs) (hne : ¬ InBlock vB g) (hm : m ≤ 100000) (hn : n ≤ 1000000) :
    Calls Tryz.prog 21 #[.pointer (some ⟨g, 0, none⟩), .slice a len cap] w fun e w' => e = .returned (.tuple #[]) ∧ ∃ v', w'.ownsRow 0 204 3 v' (m + 1) (cs ++ [.slice a len cap, nilSl, .int .i64 ((n + 1 : Nat) : Int)]) ∧
      Row w' g 48 (bookCells (n + 1) v' vI vN vD) ∧ Touch (fun k => k = g ∨ InBlock vB k) w w' ∧ ∀ k, InBlock v' k → InBlock vB k ∨ w.heap.size ≤ k := by
  have C := Lib.hid (keepByte_any w g n vB vI vN vD a len cap m cs hR hown hne hm hn)
  clear hR hown hne
  go_enter Tryz.func21, Tryz.ntmps21
  go_wp2_with fail
  refine C.out.mono ?_
  rintro e w' ⟨rfl, h⟩
  have H := Lib.hid h
  clear h
  go_wp2
  go_end0
  exact ⟨rfl, H.out⟩
theorem book_bytes (w : World) (g n : Nat) (B I N D : List HE) (a : Option Addr) (len cap : Nat) (vs : List Value) (A : Nat → Prop) (h : Al w [Part.book g n B I N D, Part.sl 5 a len cap vs] A) (hm : B.length ≤ 100000) (hn : n ≤ 1000000) :
    Calls Tryz.prog 21 #[.pointer (some ⟨g, 0, none⟩), .slice a len cap] w fun e w' => e = .returned (.tuple #[]) ∧ TurnsL w A [Part.book g (n + 1) (B ++ [⟨a, len, cap, n + 1⟩]) I N D] w' := by
  obtain ⟨A1, A2, ⟨⟨vB, vI, vN, vD, h0, hb⟩, hl1⟩, ⟨A3, _, hs, _, _, h3, _⟩, hd, h1, h2⟩ := h
  have hs' : Al w [Part.room 5 ⟨a, len, cap, n + 1⟩] A2 := ⟨A3, fun _ => False, ⟨vs, hs⟩, trivial, fun _ _ f => f, h3, fun _ f => f.elim⟩
  have hall : Al w (bookParts g n vB vI vN vD B I N D ++ [Part.room 5 ⟨a, len, cap, n + 1⟩]) A := Al.join hb hs' hd h1 h2
  obtain ⟨F, hF, hFA, hf⟩ := Al.frame (l := [Part.row g 48 (bookCells n vB vI vN vD), Part.arr 204 vB B.length (heNew B)]) (m := _) hall
  obtain ⟨R1, R2, ⟨hrow, hg, _⟩, ⟨R3, _, ⟨harr, hin, _⟩, _, _, hR3, _⟩, hdR, hRF, hRF2⟩ := hF
  refine (bytes_raw w g n vB vI vN vD a len cap B.length (heNew B) hrow harr (fun h => hdR g hg (hR3 g (hin g h))) hm hn).mono ?_
  rintro e w' ⟨he, v', hown, hrow', ht, hin'⟩
  refine ⟨he, ?_⟩
  have hT : TurnsL w F [Part.row g 48 (bookCells (n + 1) v' vI vN vD), Part.arr 204 v' (B ++ [(⟨a, len, cap, n + 1⟩ : HE)]).length (heNew (B ++ [⟨a, len, cap, n + 1⟩]))] w' := by
    refine ⟨ht.mono (fun k _ hk => ?_), fun k => k = g ∨ InBlock v' k, ⟨fun k => k = g, InBlock v', ⟨hrow', rfl, fun k hk => by rw [hk]; exact hrow'.lt⟩, ⟨InBlock v', fun _ => False, ⟨?_, fun _ h => h, fun k hk => (rowBlock hown hk).2⟩, trivial, fun _ _ f => f, fun _ h => h, fun _ f => f.elim⟩, fun k hk hb => ?_, fun k hk => Or.inl hk, fun k hk => Or.inr hk⟩, fun k hk => ?_⟩
    · rcases hk with rfl | hk
      · exact hRF _ hg
      · exact hRF2 k (hR3 k (hin k hk))
    · rw [heNew_snoc, List.length_append]
      exact hown
    · rw [hk] at hb
      rcases hin' g hb with h | h
      · exact hdR g hg (hR3 g (hin g h))
      · have := hrow.lt; omega
    · rcases hk with rfl | hk
      · exact Or.inl (hRF _ hg)
      · exact (hin' k hk).imp (fun h => hRF2 k (hR3 k (hin k h))) id
  refine TurnsL.wrap (l := bookParts g (n + 1) v' vI vN vD (B ++ [⟨a, len, cap, n + 1⟩]) I N D) ((hf w' _ hT).perm ?_) (fun O hO hlt => ⟨⟨v', vI, vN, vD, h0, hO⟩, hlt⟩)
  have hp := perm_in [Part.row g 48 (bookCells (n + 1) v' vI vN vD), Part.arr 204 v' (B ++ [(⟨a, len, cap, n + 1⟩ : HE)]).length (heNew (B ++ [⟨a, len, cap, n + 1⟩])), Part.arr 209 vI I.length (heNew I), Part.arr 206 vN N.length (heNew N), Part.arr 212 vD D.length (heNew D)]
    (B.map (Part.room 5)) (I.map (Part.room 3) ++ (N.map (Part.room 21) ++ D.map (Part.room 23))) (Part.room 5 ⟨a, len, cap, n + 1⟩)
  rw [bookParts, List.map_append]
  exact hp
end Go.Proofs.YtmjeigceclmdoaaGreatDoor
