/-
  Package drydocklaw01 by its own text: a book is told of bytes.
  A book as one part: what it has been told of lies in blocks of its own.
  Package drydocklaw01 by its own text: Book.Bytes.
-/
import Derived.Test.YtkiehoboeiengaaGreatDoorK12
import Derived.Test.YtkiehoboeiengaaGreatDoorK05
namespace Go.Proofs.YtkiehoboeiengaaGreatDoor
open Go Go.RowKit
set_option linter.unusedSimpArgs false

theorem heldByte_is : ∃ i z, TypeIs 197 i z 3 56 [nilSl, nilSl, .int .i64 0] := type_is (by kernel_rfl)
set_option maxRecDepth 100000 in
set_option maxHeartbeats 4000000 in
theorem keepByte_any (w : World) (g n : Nat) (vB vI vN vD : Value) (a : Option Addr) (len cap m : Nat) (cs : List Value) (hR : Row w g 47 (bookCells n vB vI vN vD)) (hown : w.ownsRow 0 197 3 vB m cs) (hne : ¬ InBlock vB g) (hm : m ≤ 100000) (hn : n ≤ 1000000) :
    Calls Tryz.prog 71 #[.pointer (some ⟨g, 0, none⟩), .slice a len cap] w fun e w' => e = .returned (.tuple #[]) ∧ ∃ v', w'.ownsRow 0 197 3 v' (m + 1) (cs ++ [.slice a len cap, nilSl, .int .i64 ((n + 1 : Nat) : Int)]) ∧
      Row w' g 47 (bookCells (n + 1) v' vI vN vD) ∧ Touch (fun k => k = g ∨ InBlock vB k) w w' ∧ ∀ k, InBlock v' k → InBlock vB k ∨ w.heap.size ≤ k := by
  obtain ⟨ab, cb, rfl, hcb, _⟩ := rowSlice hown
  obtain ⟨I, z, hI⟩ := heldByte_is
  have c0 : w.cell? ⟨g, 0, none⟩ = some (.int .i64 (n : Nat)) := hR.cell 0
  have c1 : w.cell? ⟨g, 1, none⟩ = some (.slice ab m cb) := hR.cell 1
  have f0 : w.frozen? ⟨g, 0, none⟩ = false := hR.soft 0
  have f1 : w.frozen? ⟨g, 1, none⟩ = false := hR.soft 1
  have hn1 : (n : Int) ≤ 1000000 := by omega
  have HR := Lib.hid hR
  have HO := Lib.hid hown
  have HNe := Lib.hid hne
  have HI := Lib.hid hI
  clear hR hown hne hI
  go_enter Tryz.func71, Tryz.ntmps71
  go_wp2_with fail
  obtain ⟨W1, hW1⟩ : ∃ W1, W1 = w.setCell ⟨g, 0, none⟩ (.int .i64 ((n : Int) + 1)) := ⟨_, rfl⟩
  have R1 : Row W1 g 47 (bookCells (n + 1) (.slice ab m cb) vI vN vD) := by
    rw [hW1]
    have := HR.out.setCell 0 (.int .i64 ((n : Int) + 1))
    exact this
  have t1 : Touch (One g) w W1 := by rw [hW1]; exact (Touch.refl (One g) w).setCell (p := ⟨g, 0, none⟩) (fun _ => rfl) _
  have hs1 : W1.heap.size = w.heap.size := by rw [hW1]; simp [World.setCell]
  rw [← hW1]
  have k0 : W1.cell? ⟨g, 0, none⟩ = some (.int .i64 ((n : Int) + 1)) := R1.cell 0
  have k1 : W1.cell? ⟨g, 1, none⟩ = some (.slice ab m cb) := R1.cell 1
  have q1 : W1.frozen? ⟨g, 1, none⟩ = false := R1.soft 1
  have hgs := R1.lt
  have hO1 := rowTouch HO.out t1 (fun k hk e => HNe.out (by have e2 : k = g := e; subst e2; exact hk))
  have HO1 := Lib.hid hO1
  have HR1 := Lib.hid R1
  have Ht1 := Lib.hid t1
  have Hs1 := Lib.hid hs1
  clear R1 t1 hs1 hW1 c0 c1 f0 f1 hO1
  have k0a : ∀ o : Obj, (W1.alloc o).cell? ⟨g, 0, none⟩ = some (.int .i64 ((n : Int) + 1)) := fun o => (cell_old W1 o hgs).trans k0
  have k1a : ∀ o : Obj, (W1.alloc o).cell? ⟨g, 1, none⟩ = some (.slice ab m cb) := fun o => (cell_old W1 o hgs).trans k1
  go_region_law ((refine step_append_row rfl _ _ _ rfl 197 I z 3 56 Tryz.underlying31 HI.out.info HI.out.zero HI.out.size HI.out.bytes (by rw [HI.out.cells]; rfl) (by decide) _ m cs (rowTouch HO1.out (((Touch.refl No W1).drew).alloc _) (fun _ _ f => f)) rfl W1.heap.size [.slice a len cap, .slice none 0 0, .int .i64 ((n : Int) + 1)] (Row.new W1.drew _ _) rfl rfl (by intro u hu; simp only [List.mem_cons, List.not_mem_nil, or_false] at hu; rcases hu with rfl | rfl | rfl <;> rfl) (by unfold maxLen; omega) (by omega) ?_; intro a' c' w' hown' ht' hin'; have k0' : w'.cell? ⟨g, 0, none⟩ = some (.int .i64 ((n : Int) + 1)) := ht'.cell HNe.out (k0a _); have k2 : w'.cell? ⟨g, 1, none⟩ = some (.slice ab m cb) := ht'.cell HNe.out (k1a _); have q2 : w'.frozen? ⟨g, 1, none⟩ = false := (ht'.frozen (lt_of_cell (k1a _)) HNe.out 1).trans ((frozen_old W1 _ hgs).trans q1)))
  all_goals
    go_wp2
    go_end0
    have hlow : ∀ k, InBlock (.slice a' (m + 1) c') k → InBlock (.slice ab m cb) k ∨ w.heap.size ≤ k := fun k hk => (hin' k hk).imp id (fun h => by
      have h2 : (W1.alloc (Obj.cells #[.slice a len cap, .slice none 0 0, .int .i64 ((n : Int) + 1)] 197)).heap.size ≤ k := h
      rw [size_alloc] at h2
      have := Hs1.out
      omega)
    have hgw : g < w.heap.size := HR.out.lt
    have tB : Touch (One g) w' (w'.setCell ⟨g, 1, none⟩ (.slice a' (m + 1) c')) := (Touch.refl (One g) w').setCell (p := ⟨g, 1, none⟩) (fun _ => rfl) _
    refine ⟨rfl, .slice a' (m + 1) c', rowTouch hown' tB (fun k hk e => ?_), ?_, ?_, hlow⟩
    · have e2 : k = g := e
      subst e2
      rcases hlow k hk with h | h
      · exact HNe.out h
      · omega
    · have h1 := ((HR1.out.touch (((Touch.refl No W1).alloc (Obj.cells #[.slice a len cap, .slice none 0 0, .int .i64 ((n : Int) + 1)] 197)).drew) id).touch ht' HNe.out).setCell 1 (.slice a' (m + 1) c')
      exact h1
    · refine (((Ht1.out.mono (fun k _ e => Or.inl e)).then ((Touch.refl No W1).alloc (Obj.cells #[.slice a len cap, .slice none 0 0, .int .i64 ((n : Int) + 1)] 197)).drew (fun _ _ f => f.elim)).then ht' (fun k _ hk => Or.inr hk)).then tB (fun k _ e => Or.inl e)
end Go.Proofs.YtkiehoboeiengaaGreatDoor
namespace Go.Proofs.YtkiehoboeiengaaGreatDoor
open Go Go.RowKit
set_option linter.unusedVariables false

def bookParts (g n : Nat) (vB vI vN vD : Value) (B I N D : List HE) : List Part :=
  Part.row g 47 (bookCells n vB vI vN vD) :: Part.arr 197 vB B.length (heNew B) :: Part.arr 200 vI I.length (heNew I) ::
    Part.arr 202 vN N.length (heNew N) :: Part.arr 205 vD D.length (heNew D) ::
    (B.map (Part.room 5) ++ (I.map (Part.room 3) ++ (N.map (Part.room 21) ++ D.map (Part.room 48))))
def Part.book (g n : Nat) (B I N D : List HE) : Part where
  P w O := (∃ vB vI vN vD, (I = [] → vI = nilSl) ∧ Al w (bookParts g n vB vI vN vD B I N D) O) ∧ ∀ k, O k → k < w.heap.size
  stable := fun {F w w' O} ⟨⟨vB, vI, vN, vD, h0, h⟩, hl⟩ t hF => ⟨⟨vB, vI, vN, vD, h0, Al.stable t h hF⟩, fun k hk => Nat.lt_of_lt_of_le (hl k hk) t.size⟩
  lt := fun {w O} h => h.2
theorem TurnsL.wrap {w w' : World} {A : Nat → Prop} {l : List Part} {p : Part} (h : TurnsL w A l w') (hp : ∀ O, Al w' l O → (∀ k, O k → k < w'.heap.size) → p.P w' O) : TurnsL w A [p] w' := by
  obtain ⟨t, O', h1, h2⟩ := h
  refine ⟨t, fun k => O' k ∧ k < w'.heap.size, ⟨fun k => O' k ∧ k < w'.heap.size, fun _ => False, hp _ h1.cut (fun k hk => hk.2), trivial, fun _ _ f => f, fun _ h => h, fun _ f => f.elim⟩, fun k hk => h2 k hk.1⟩
theorem Al.swap2 {w : World} {p q : Part} {l : List Part} {O : Nat → Prop} (h : Al w (p :: q :: l) O) : Al w (q :: p :: l) O := h.perm (List.Perm.swap _ _ _)
/-- one part for another -/
theorem Al.imp1 {w : World} {p q : Part} {l : List Part} {O : Nat → Prop} (h : Al w (p :: l) O) (hp : ∀ A, p.P w A → q.P w A) : Al w (q :: l) O := by
  obtain ⟨A, B, ha, hb, hd, h1, h2⟩ := h
  exact ⟨A, B, hp A ha, hb, hd, h1, h2⟩
/-- a new book -/
theorem book_new {w : World} {g : Nat} (h : Row w g 47 (bookCells 0 nilSl nilSl nilSl nilSl)) : (Part.book g 0 [] [] [] []).P w (fun k => k = g) := by
  have hN : ∀ (T : TypeId), (Part.arr T nilSl 0 []).P w (fun _ => False) := arr_nil w
  refine ⟨⟨nilSl, nilSl, nilSl, nilSl, fun _ => rfl, ?_⟩, fun k hk => by rw [hk]; exact h.lt⟩
  refine ⟨fun k => k = g, fun _ => False, ⟨h, rfl, fun k hk => by rw [hk]; exact h.lt⟩, ?_, fun _ _ f => f, fun _ h => h, fun _ f => f.elim⟩
  exact ⟨_, fun _ => False, hN _, ⟨_, fun _ => False, hN _, ⟨_, fun _ => False, hN _, ⟨_, fun _ => False, hN _, trivial, fun _ _ f => f, fun _ h => h, fun _ f => f⟩, fun _ _ f => f, fun _ h => h, fun _ f => f⟩, fun _ _ f => f, fun _ h => h, fun _ f => f⟩, fun _ _ f => f, fun _ h => h, fun _ f => f⟩
/-- a list joins those of its kind -/
theorem perm_in {α : Type} (l1 B R : List α) (x : α) : (l1 ++ (B ++ R) ++ [x]).Perm (l1 ++ ((B ++ [x]) ++ R)) := by
  rw [List.append_assoc l1]
  refine List.Perm.append_left l1 ?_
  rw [List.append_assoc, List.append_assoc]
  exact List.Perm.append_left B List.perm_append_comm
end Go.Proofs.YtkiehoboeiengaaGreatDoor
namespace Go.Proofs.YtkiehoboeiengaaGreatDoor
open Go Go.RowKit
set_option linter.unusedSimpArgs false

theorem bytes_raw (w : World) (g n : Nat) (vB vI vN vD : Value) (a : Option Addr) (len cap m : Nat) (cs : List Value) (hR : Row w g 47 (bookCells n vB vI vN vD)) (hown : w.ownsRow 0 197 3 vB m cs) (hne : ¬ InBlock vB g) (hm : m ≤ 100000) (hn : n ≤ 1000000) :
    Calls Tryz.prog 15 #[.pointer (some ⟨g, 0, none⟩), .slice a len cap] w fun e w' => e = .returned (.tuple #[]) ∧ ∃ v', w'.ownsRow 0 197 3 v' (m + 1) (cs ++ [.slice a len cap, nilSl, .int .i64 ((n + 1 : Nat) : Int)]) ∧
      Row w' g 47 (bookCells (n + 1) v' vI vN vD) ∧ Touch (fun k => k = g ∨ InBlock vB k) w w' ∧ ∀ k, InBlock v' k → InBlock vB k ∨ w.heap.size ≤ k := by
  have C := Lib.hid (keepByte_any w g n vB vI vN vD a len cap m cs hR hown hne hm hn)
  clear hR hown hne
  go_enter Tryz.func15, Tryz.ntmps15
  go_wp2_with fail
  refine C.out.mono ?_
  rintro e w' ⟨rfl, h⟩
  have H := Lib.hid h
  clear h
  go_wp2
  go_end0
  exact ⟨rfl, H.out⟩
theorem book_bytes (w : World) (g n : Nat) (B I N D : List HE) (a : Option Addr) (len cap : Nat) (vs : List Value) (A : Nat → Prop) (h : Al w [Part.book g n B I N D, Part.sl 5 a len cap vs] A) (hm : B.length ≤ 100000) (hn : n ≤ 1000000) :
    Calls Tryz.prog 15 #[.pointer (some ⟨g, 0, none⟩), .slice a len cap] w fun e w' => e = .returned (.tuple #[]) ∧ TurnsL w A [Part.book g (n + 1) (B ++ [⟨a, len, cap, n + 1⟩]) I N D] w' := by
  obtain ⟨A1, A2, ⟨⟨vB, vI, vN, vD, h0, hb⟩, hl1⟩, ⟨A3, _, hs, _, _, h3, _⟩, hd, h1, h2⟩ := h
  have hs' : Al w [Part.room 5 ⟨a, len, cap, n + 1⟩] A2 := ⟨A3, fun _ => False, ⟨vs, hs⟩, trivial, fun _ _ f => f, h3, fun _ f => f.elim⟩
  have hall : Al w (bookParts g n vB vI vN vD B I N D ++ [Part.room 5 ⟨a, len, cap, n + 1⟩]) A := Al.join hb hs' hd h1 h2
  obtain ⟨F, hF, hFA, hf⟩ := Al.frame (l := [Part.row g 47 (bookCells n vB vI vN vD), Part.arr 197 vB B.length (heNew B)]) (m := _) hall
  obtain ⟨R1, R2, ⟨hrow, hg, _⟩, ⟨R3, _, ⟨harr, hin, _⟩, _, _, hR3, _⟩, hdR, hRF, hRF2⟩ := hF
  refine (bytes_raw w g n vB vI vN vD a len cap B.length (heNew B) hrow harr (fun h => hdR g hg (hR3 g (hin g h))) hm hn).mono ?_
  rintro e w' ⟨he, v', hown, hrow', ht, hin'⟩
  refine ⟨he, ?_⟩
  have hT : TurnsL w F [Part.row g 47 (bookCells (n + 1) v' vI vN vD), Part.arr 197 v' (B ++ [(⟨a, len, cap, n + 1⟩ : HE)]).length (heNew (B ++ [⟨a, len, cap, n + 1⟩]))] w' := by
    refine ⟨ht.mono (fun k _ hk => ?_), fun k => k = g ∨ InBlock v' k, ⟨fun k => k = g, InBlock v', ⟨hrow', rfl, fun k hk => by rw [hk]; exact hrow'.lt⟩, ⟨InBlock v', fun _ => False, ⟨?_, fun _ h => h, fun k hk => (rowBlock hown hk).2⟩, trivial, fun _ _ f => f, fun _ h => h, fun _ f => f.elim⟩, fun k hk hb => ?_, fun k hk => Or.inl hk, fun k hk => Or.inr hk⟩, fun k hk => ?_⟩
    · rcases hk with rfl | hk
      · exact hRF _ hg
      · exact hRF2 k (hR3 k (hin k hk))
    · rw [heNew_snoc, List.length_append]
      exact hown
    · rw [hk] at hb
      rcases hin' g hb with h | h
      · exact hdR g hg (hR3 g (hin g h))
      · have := hrow.lt; omega
    · rcases hk with rfl | hk
      · exact Or.inl (hRF _ hg)
      · exact (hin' k hk).imp (fun h => hRF2 k (hR3 k (hin k h))) id
  refine TurnsL.wrap (l := bookParts g (n + 1) v' vI vN vD (B ++ [⟨a, len, cap, n + 1⟩]) I N D) ((hf w' _ hT).perm ?_) (fun O hO hlt => ⟨⟨v', vI, vN, vD, h0, hO⟩, hlt⟩)
  have hp := perm_in [Part.row g 47 (bookCells (n + 1) v' vI vN vD), Part.arr 197 v' (B ++ [(⟨a, len, cap, n + 1⟩ : HE)]).length (heNew (B ++ [⟨a, len, cap, n + 1⟩])), Part.arr 200 vI I.length (heNew I), Part.arr 202 vN N.length (heNew N), Part.arr 205 vD D.length (heNew D)]
    (B.map (Part.room 5)) (I.map (Part.room 3) ++ (N.map (Part.room 21) ++ D.map (Part.room 48))) (Part.room 5 ⟨a, len, cap, n + 1⟩)
  rw [bookParts, List.map_append]
  exact hp
end Go.Proofs.YtkiehoboeiengaaGreatDoor
