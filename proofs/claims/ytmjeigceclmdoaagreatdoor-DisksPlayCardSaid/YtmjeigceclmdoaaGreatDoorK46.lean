/-
  A book that has been told of lists that it does not hold yet: what is told may still be read; before it says whether they are apart it takes them.
-/
import Derived.Test.YtmjeigceclmdoaaGreatDoorK36
namespace Go.Proofs.YtmjeigceclmdoaaGreatDoor
open Go Go.RowKit
set_option linter.unusedVariables false

def preParts (g n : Nat) (vB vI vN vD : Value) (B I N D : List HE) : List Part :=
  [Part.row g 48 (bookCells n vB vI vN vD), Part.arr 204 vB B.length (heNew B), Part.arr 209 vI I.length (heNew I),
    Part.arr 206 vN N.length (heNew N), Part.arr 212 vD D.length (heNew D)]
def Part.pre (g n : Nat) (B I N D : List HE) : Part where
  P w O := (∃ vB vI vN vD, (I = [] → vI = nilSl) ∧ Al w (preParts g n vB vI vN vD B I N D) O) ∧ ∀ k, O k → k < w.heap.size
  stable := fun {F w w' O} ⟨⟨vB, vI, vN, vD, h0, h⟩, hl⟩ t hF => ⟨⟨vB, vI, vN, vD, h0, Al.stable t h hF⟩, fun k hk => Nat.lt_of_lt_of_le (hl k hk) t.size⟩
  lt := fun {w O} h => h.2
theorem born_pre (w : World) (cs : Array Value) (h : cs.toList = bookCells 0 nilSl nilSl nilSl nilSl) : Born w (Part.pre w.heap.size 0 [] [] [] []) (w.alloc (.cells cs 48)) := born_book w cs h
theorem pre_bytes (w : World) (g n : Nat) (B I N D : List HE) (a : Option Addr) (len cap : Nat) (A : Nat → Prop) (h : Al w [Part.pre g n B I N D] A) (hm : B.length ≤ 100000) (hn : n ≤ 1000000) :
    Calls Tryz.prog 21 #[.pointer (some ⟨g, 0, none⟩), .slice a len cap] w fun e w' => e = .returned (.tuple #[]) ∧ TurnsL w A [Part.pre g (n + 1) (B ++ [⟨a, len, cap, n + 1⟩]) I N D] w' := by
  obtain ⟨A1, A2, ⟨⟨vB, vI, vN, vD, h0, hb⟩, hl1⟩, _, hd, h1, h2⟩ := h
  have hall : Al w ([Part.row g 48 (bookCells n vB vI vN vD), Part.arr 204 vB B.length (heNew B)] ++ [Part.arr 209 vI I.length (heNew I), Part.arr 206 vN N.length (heNew N), Part.arr 212 vD D.length (heNew D)]) A := Al.mono hb h1
  obtain ⟨F, hF, hFA, hf⟩ := Al.frame (l := [Part.row g 48 (bookCells n vB vI vN vD), Part.arr 204 vB B.length (heNew B)]) (m := _) hall
  obtain ⟨R1, R2, ⟨hrow, hg, _⟩, ⟨R3, _, ⟨harr, hin, _⟩, _, _, hR3, _⟩, hdR, hRF, hRF2⟩ := hF
  refine (bytes_raw w g n vB vI vN vD a len cap B.length (heNew B) hrow harr (fun h => hdR g hg (hR3 g (hin g h))) hm hn).mono ?_
  rintro e w' ⟨he, v', hown, hrow', ht, hin'⟩
  refine ⟨he, ?_⟩
  have hT : TurnsL w F [Part.row g 48 (bookCells (n + 1) v' vI vN vD), Part.arr 204 v' (B ++ [(⟨a, len, cap, n + 1⟩ : HE)]).length (heNew (B ++ [⟨a, len, cap, n + 1⟩]))] w' := by
    refine ⟨ht.mono (fun k _ hk => ?_), fun k => k = g ∨ InBlock v' k, ⟨fun k => k = g, InBlock v', ⟨hrow', rfl, fun k hk => by rw [hk]; exact hrow'.lt⟩, ⟨InBlock v', fun _ => False, ⟨?_, fun _ h => h, fun k hk => (rowBlock hown hk).2⟩, trivial, fun _ _ f => f, fun _ h => h, fun _ f => f.elim⟩, fun k hk hb => ?_, fun k hk => Or.inl hk, fun k hk => Or.inr hk⟩, fun k hk => ?_⟩
    · rcases hk with rfl | hk
      · exact hRF _ hg
      · exact hRF2 k (hR3 k (hin k hk))
    · rw [heNew_snoc, List.length_append]
      exact hown
    · rw [hk] at hb
      rcases hin' g hb with h | h
      · exact hdR g hg (hR3 g (hin g h))
      · have := hrow.lt; omega
    · rcases hk with rfl | hk
      · exact Or.inl (hRF _ hg)
      · exact (hin' k hk).imp (fun h => hRF2 k (hR3 k (hin k h))) id
  have hw : TurnsL w A (preParts g (n + 1) v' vI vN vD (B ++ [(⟨a, len, cap, n + 1⟩ : HE)]) I N D) w' := hf w' _ hT
  exact TurnsL.wrap hw (fun O hO hlt => ⟨⟨v', vI, vN, vD, h0, hO⟩, hlt⟩)
theorem Sl.preBytes {w0 w : World} {g n : Nat} {B I N D : List HE} {m : List Part} (h : Sl w0 w (Part.pre g n B I N D :: m)) (a : Option Addr) (len cap : Nat) (hm : B.length ≤ 100000) (hn : n ≤ 1000000) :
    Calls Tryz.prog 21 #[.pointer (some ⟨g, 0, none⟩), .slice a len cap] w fun e w' => e = .returned (.tuple #[]) ∧ Sl w0 w' (Part.pre g (n + 1) (B ++ [⟨a, len, cap, n + 1⟩]) I N D :: m) :=
  Sl.step (l := [_]) h (fun F hF => pre_bytes w g n B I N D a len cap F hF hm hn)
/-- the book takes what it was told of -/
theorem Sl.take {w0 w : World} {g n : Nat} {B : List HE} {m : List Part} (h : Sl w0 w (Part.pre g n B [] [] [] :: (B.map (Part.room 5) ++ m))) : Sl w0 w (Part.book g n B [] [] [] :: m) := by
  obtain ⟨A, hA, _, hf⟩ := Sl.frame (l := Part.pre g n B [] [] [] :: B.map (Part.room 5)) (m := m) h
  refine hf w [Part.book g n B [] [] []] ?_
  obtain ⟨A1, A2, ⟨⟨vB, vI, vN, vD, h0, hb⟩, hl1⟩, hr, hd, h1, h2⟩ := hA
  have hj : Al w (bookParts g n vB vI vN vD B [] [] []) A := by
    have := Al.join hb hr hd h1 h2
    simpa [preParts, bookParts] using this
  exact TurnsL.wrap (l := bookParts g n vB vI vN vD B [] [] []) (TurnsL.same hj) (fun O hO hlt => ⟨⟨vB, vI, vN, vD, h0, hO⟩, hlt⟩)
/-- a slice with its room: the room alone -/
theorem sl_room {w : World} {T : TypeId} {a : Option Addr} {n c k : Nat} {vs : List Value} {A : Nat → Prop} (h : (Part.sl T a n c vs).P w A) : (Part.room T ⟨a, n, c, k⟩).P w A := ⟨vs, h⟩
end Go.Proofs.YtmjeigceclmdoaaGreatDoor
