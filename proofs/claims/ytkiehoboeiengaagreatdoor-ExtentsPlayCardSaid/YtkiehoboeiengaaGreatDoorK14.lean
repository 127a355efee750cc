/-
  Package drydocklaw01 by its own text: a book is told of bytes.
  Package drydocklaw01 by its own text: a book is told of bytes.
  Package drydocklaw01 by its own text: Book.Numbers, Book.Ids.
-/
import Derived.Test.YtkiehoboeiengaaGreatDoorK12
import Derived.Test.YtkiehoboeiengaaGreatDoorK05
import Derived.Test.YtkiehoboeiengaaGreatDoorK13
namespace Go.Proofs.YtkiehoboeiengaaGreatDoor
open Go Go.RowKit
set_option linter.unusedSimpArgs false

theorem heldNumber_is : ∃ i z, TypeIs 202 i z 3 56 [nilSl, nilSl, .int .i64 0] := type_is (by kernel_rfl)
set_option maxRecDepth 100000 in
set_option maxHeartbeats 4000000 in
theorem keepNumber_any (w : World) (g n : Nat) (vB vI vN vD : Value) (a : Option Addr) (len cap m : Nat) (cs : List Value) (hR : Row w g 47 (bookCells n vB vI vN vD)) (hown : w.ownsRow 0 202 3 vN m cs) (hne : ¬ InBlock vN g) (hm : m ≤ 100000) (hn : n ≤ 1000000) :
    Calls Tryz.prog 198 #[.pointer (some ⟨g, 0, none⟩), .slice a len cap] w fun e w' => e = .returned (.tuple #[]) ∧ ∃ v', w'.ownsRow 0 202 3 v' (m + 1) (cs ++ [.slice a len cap, nilSl, .int .i64 ((n + 1 : Nat) : Int)]) ∧
      Row w' g 47 (bookCells (n + 1) vB vI v' vD) ∧ Touch (fun k => k = g ∨ InBlock vN k) w w' ∧ ∀ k, InBlock v' k → InBlock vN k ∨ w.heap.size ≤ k := by
  obtain ⟨ab, cb, rfl, hcb, _⟩ := rowSlice hown
  obtain ⟨I, z, hI⟩ := heldNumber_is
  have c0 : w.cell? ⟨g, 0, none⟩ = some (.int .i64 (n : Nat)) := hR.cell 0
  have c1 : w.cell? ⟨g, 3, none⟩ = some (.slice ab m cb) := hR.cell 3
  have f0 : w.frozen? ⟨g, 0, none⟩ = false := hR.soft 0
  have f1 : w.frozen? ⟨g, 3, none⟩ = false := hR.soft 3
  have hn1 : (n : Int) ≤ 1000000 := by omega
  have HR := Lib.hid hR
  have HO := Lib.hid hown
  have HNe := Lib.hid hne
  have HI := Lib.hid hI
  clear hR hown hne hI
  go_enter Tryz.func198, Tryz.ntmps198
  go_wp2_with fail
  obtain ⟨W1, hW1⟩ : ∃ W1, W1 = w.setCell ⟨g, 0, none⟩ (.int .i64 ((n : Int) + 1)) := ⟨_, rfl⟩
  have R1 : Row W1 g 47 (bookCells (n + 1) vB vI (.slice ab m cb) vD) := by
    rw [hW1]
    have := HR.out.setCell 0 (.int .i64 ((n : Int) + 1))
    exact this
  have t1 : Touch (One g) w W1 := by rw [hW1]; exact (Touch.refl (One g) w).setCell (p := ⟨g, 0, none⟩) (fun _ => rfl) _
  have hs1 : W1.heap.size = w.heap.size := by rw [hW1]; simp [World.setCell]
  rw [← hW1]
  have k0 : W1.cell? ⟨g, 0, none⟩ = some (.int .i64 ((n : Int) + 1)) := R1.cell 0
  have k1 : W1.cell? ⟨g, 3, none⟩ = some (.slice ab m cb) := R1.cell 3
  have q1 : W1.frozen? ⟨g, 3, none⟩ = false := R1.soft 3
  have hgs := R1.lt
  have hO1 := rowTouch HO.out t1 (fun k hk e => HNe.out (by have e2 : k = g := e; subst e2; exact hk))
  have HO1 := Lib.hid hO1
  have HR1 := Lib.hid R1
  have Ht1 := Lib.hid t1
  have Hs1 := Lib.hid hs1
  clear R1 t1 hs1 hW1 c0 c1 f0 f1 hO1
  have k0a : ∀ o : Obj, (W1.alloc o).cell? ⟨g, 0, none⟩ = some (.int .i64 ((n : Int) + 1)) := fun o => (cell_old W1 o hgs).trans k0
  have k1a : ∀ o : Obj, (W1.alloc o).cell? ⟨g, 3, none⟩ = some (.slice ab m cb) := fun o => (cell_old W1 o hgs).trans k1
  go_region_law ((refine step_append_row rfl _ _ _ rfl 202 I z 3 56 Tryz.underlying33 HI.out.info HI.out.zero HI.out.size HI.out.bytes (by rw [HI.out.cells]; rfl) (by decide) _ m cs (rowTouch HO1.out (((Touch.refl No W1).drew).alloc _) (fun _ _ f => f)) rfl W1.heap.size [.slice a len cap, .slice none 0 0, .int .i64 ((n : Int) + 1)] (Row.new W1.drew _ _) rfl rfl (by intro u hu; simp only [List.mem_cons, List.not_mem_nil, or_false] at hu; rcases hu with rfl | rfl | rfl <;> rfl) (by unfold maxLen; omega) (by omega) ?_; intro a' c' w' hown' ht' hin'; have k0' : w'.cell? ⟨g, 0, none⟩ = some (.int .i64 ((n : Int) + 1)) := ht'.cell HNe.out (k0a _); have k2 : w'.cell? ⟨g, 3, none⟩ = some (.slice ab m cb) := ht'.cell HNe.out (k1a _); have q2 : w'.frozen? ⟨g, 3, none⟩ = false := (ht'.frozen (lt_of_cell (k1a _)) HNe.out 3).trans ((frozen_old W1 _ hgs).trans q1)))
  all_goals
    go_wp2
    go_end0
    have hlow : ∀ k, InBlock (.slice a' (m + 1) c') k → InBlock (.slice ab m cb) k ∨ w.heap.size ≤ k := fun k hk => (hin' k hk).imp id (fun h => by
      have h2 : (W1.alloc (Obj.cells #[.slice a len cap, .slice none 0 0, .int .i64 ((n : Int) + 1)] 202)).heap.size ≤ k := h
      rw [size_alloc] at h2
      have := Hs1.out
      omega)
    have hgw : g < w.heap.size := HR.out.lt
    have tB : Touch (One g) w' (w'.setCell ⟨g, 3, none⟩ (.slice a' (m + 1) c')) := (Touch.refl (One g) w').setCell (p := ⟨g, 3, none⟩) (fun _ => rfl) _
    refine ⟨rfl, .slice a' (m + 1) c', rowTouch hown' tB (fun k hk e => ?_), ?_, ?_, hlow⟩
    · have e2 : k = g := e
      subst e2
      rcases hlow k hk with h | h
      · exact HNe.out h
      · omega
    · have h1 := ((HR1.out.touch (((Touch.refl No W1).alloc (Obj.cells #[.slice a len cap, .slice none 0 0, .int .i64 ((n : Int) + 1)] 202)).drew) id).touch ht' HNe.out).setCell 3 (.slice a' (m + 1) c')
      exact h1
    · refine (((Ht1.out.mono (fun k _ e => Or.inl e)).then ((Touch.refl No W1).alloc (Obj.cells #[.slice a len cap, .slice none 0 0, .int .i64 ((n : Int) + 1)] 202)).drew (fun _ _ f => f.elim)).then ht' (fun k _ hk => Or.inr hk)).then tB (fun k _ e => Or.inl e)
end Go.Proofs.YtkiehoboeiengaaGreatDoor
namespace Go.Proofs.YtkiehoboeiengaaGreatDoor
open Go Go.RowKit
set_option linter.unusedSimpArgs false

theorem heldId_is : ∃ i z, TypeIs 205 i z 3 56 [nilSl, nilSl, .int .i64 0] := type_is (by kernel_rfl)
set_option maxRecDepth 100000 in
set_option maxHeartbeats 4000000 in
theorem keepId_any (w : World) (g n : Nat) (vB vI vN vD : Value) (a : Option Addr) (len cap m : Nat) (cs : List Value) (hR : Row w g 47 (bookCells n vB vI vN vD)) (hown : w.ownsRow 0 205 3 vD m cs) (hne : ¬ InBlock vD g) (hm : m ≤ 100000) (hn : n ≤ 1000000) :
    Calls Tryz.prog 144 #[.pointer (some ⟨g, 0, none⟩), .slice a len cap] w fun e w' => e = .returned (.tuple #[]) ∧ ∃ v', w'.ownsRow 0 205 3 v' (m + 1) (cs ++ [.slice a len cap, nilSl, .int .i64 ((n + 1 : Nat) : Int)]) ∧
      Row w' g 47 (bookCells (n + 1) vB vI vN v') ∧ Touch (fun k => k = g ∨ InBlock vD k) w w' ∧ ∀ k, InBlock v' k → InBlock vD k ∨ w.heap.size ≤ k := by
  obtain ⟨ab, cb, rfl, hcb, _⟩ := rowSlice hown
  obtain ⟨I, z, hI⟩ := heldId_is
  have c0 : w.cell? ⟨g, 0, none⟩ = some (.int .i64 (n : Nat)) := hR.cell 0
  have c1 : w.cell? ⟨g, 4, none⟩ = some (.slice ab m cb) := hR.cell 4
  have f0 : w.frozen? ⟨g, 0, none⟩ = false := hR.soft 0
  have f1 : w.frozen? ⟨g, 4, none⟩ = false := hR.soft 4
  have hn1 : (n : Int) ≤ 1000000 := by omega
  have HR := Lib.hid hR
  have HO := Lib.hid hown
  have HNe := Lib.hid hne
  have HI := Lib.hid hI
  clear hR hown hne hI
  go_enter Tryz.func144, Tryz.ntmps144
  go_wp2_with fail
  obtain ⟨W1, hW1⟩ : ∃ W1, W1 = w.setCell ⟨g, 0, none⟩ (.int .i64 ((n : Int) + 1)) := ⟨_, rfl⟩
  have R1 : Row W1 g 47 (bookCells (n + 1) vB vI vN (.slice ab m cb)) := by
    rw [hW1]
    have := HR.out.setCell 0 (.int .i64 ((n : Int) + 1))
    exact this
  have t1 : Touch (One g) w W1 := by rw [hW1]; exact (Touch.refl (One g) w).setCell (p := ⟨g, 0, none⟩) (fun _ => rfl) _
  have hs1 : W1.heap.size = w.heap.size := by rw [hW1]; simp [World.setCell]
  rw [← hW1]
  have k0 : W1.cell? ⟨g, 0, none⟩ = some (.int .i64 ((n : Int) + 1)) := R1.cell 0
  have k1 : W1.cell? ⟨g, 4, none⟩ = some (.slice ab m cb) := R1.cell 4
  have q1 : W1.frozen? ⟨g, 4, none⟩ = false := R1.soft 4
  have hgs := R1.lt
  have hO1 := rowTouch HO.out t1 (fun k hk e => HNe.out (by have e2 : k = g := e; subst e2; exact hk))
  have HO1 := Lib.hid hO1
  have HR1 := Lib.hid R1
  have Ht1 := Lib.hid t1
  have Hs1 := Lib.hid hs1
  clear R1 t1 hs1 hW1 c0 c1 f0 f1 hO1
  have k0a : ∀ o : Obj, (W1.alloc o).cell? ⟨g, 0, none⟩ = some (.int .i64 ((n : Int) + 1)) := fun o => (cell_old W1 o hgs).trans k0
  have k1a : ∀ o : Obj, (W1.alloc o).cell? ⟨g, 4, none⟩ = some (.slice ab m cb) := fun o => (cell_old W1 o hgs).trans k1
  go_region_law ((refine step_append_row rfl _ _ _ rfl 205 I z 3 56 Tryz.underlying34 HI.out.info HI.out.zero HI.out.size HI.out.bytes (by rw [HI.out.cells]; rfl) (by decide) _ m cs (rowTouch HO1.out (((Touch.refl No W1).drew).alloc _) (fun _ _ f => f)) rfl W1.heap.size [.slice a len cap, .slice none 0 0, .int .i64 ((n : Int) + 1)] (Row.new W1.drew _ _) rfl rfl (by intro u hu; simp only [List.mem_cons, List.not_mem_nil, or_false] at hu; rcases hu with rfl | rfl | rfl <;> rfl) (by unfold maxLen; omega) (by omega) ?_; intro a' c' w' hown' ht' hin'; have k0' : w'.cell? ⟨g, 0, none⟩ = some (.int .i64 ((n : Int) + 1)) := ht'.cell HNe.out (k0a _); have k2 : w'.cell? ⟨g, 4, none⟩ = some (.slice ab m cb) := ht'.cell HNe.out (k1a _); have q2 : w'.frozen? ⟨g, 4, none⟩ = false := (ht'.frozen (lt_of_cell (k1a _)) HNe.out 4).trans ((frozen_old W1 _ hgs).trans q1)))
  all_goals
    go_wp2
    go_end0
    have hlow : ∀ k, InBlock (.slice a' (m + 1) c') k → InBlock (.slice ab m cb) k ∨ w.heap.size ≤ k := fun k hk => (hin' k hk).imp id (fun h => by
      have h2 : (W1.alloc (Obj.cells #[.slice a len cap, .slice none 0 0, .int .i64 ((n : Int) + 1)] 205)).heap.size ≤ k := h
      rw [size_alloc] at h2
      have := Hs1.out
      omega)
    have hgw : g < w.heap.size := HR.out.lt
    have tB : Touch (One g) w' (w'.setCell ⟨g, 4, none⟩ (.slice a' (m + 1) c')) := (Touch.refl (One g) w').setCell (p := ⟨g, 4, none⟩) (fun _ => rfl) _
    refine ⟨rfl, .slice a' (m + 1) c', rowTouch hown' tB (fun k hk e => ?_), ?_, ?_, hlow⟩
    · have e2 : k = g := e
      subst e2
      rcases hlow k hk with h | h
      · exact HNe.out h
      · omega
    · have h1 := ((HR1.out.touch (((Touch.refl No W1).alloc (Obj.cells #[.slice a len cap, .slice none 0 0, .int .i64 ((n : Int) + 1)] 205)).drew) id).touch ht' HNe.out).setCell 4 (.slice a' (m + 1) c')
      exact h1
    · refine (((Ht1.out.mono (fun k _ e => Or.inl e)).then ((Touch.refl No W1).alloc (Obj.cells #[.slice a len cap, .slice none 0 0, .int .i64 ((n : Int) + 1)] 205)).drew (fun _ _ f => f.elim)).then ht' (fun k _ hk => Or.inr hk)).then tB (fun k _ e => Or.inl e)
end Go.Proofs.YtkiehoboeiengaaGreatDoor
namespace Go.Proofs.YtkiehoboeiengaaGreatDoor
open Go Go.RowKit
set_option linter.unusedSimpArgs false

theorem permN {α : Type} (a b c d : α) (t : List α) : (a :: b :: c :: d :: t).Perm (a :: d :: b :: c :: t) := (((List.Perm.swap d c t).cons b).trans (List.Perm.swap d b _)).cons a
theorem permD {α : Type} (a b c d e : α) (t : List α) : (a :: b :: c :: d :: e :: t).Perm (a :: e :: b :: c :: d :: t) := ((permN b c d e t).trans (List.Perm.swap e b _)).cons a
theorem numbers_raw (w : World) (g n : Nat) (vB vI vN vD : Value) (a : Option Addr) (len cap m : Nat) (cs : List Value) (hR : Row w g 47 (bookCells n vB vI vN vD)) (hown : w.ownsRow 0 202 3 vN m cs) (hne : ¬ InBlock vN g) (hm : m ≤ 100000) (hn : n ≤ 1000000) :
    Calls Tryz.prog 136 #[.pointer (some ⟨g, 0, none⟩), .slice a len cap] w fun e w' => e = .returned (.tuple #[]) ∧ ∃ v', w'.ownsRow 0 202 3 v' (m + 1) (cs ++ [.slice a len cap, nilSl, .int .i64 ((n + 1 : Nat) : Int)]) ∧
      Row w' g 47 (bookCells (n + 1) vB vI v' vD) ∧ Touch (fun k => k = g ∨ InBlock vN k) w w' ∧ ∀ k, InBlock v' k → InBlock vN k ∨ w.heap.size ≤ k := by
  have C := Lib.hid (keepNumber_any w g n vB vI vN vD a len cap m cs hR hown hne hm hn)
  clear hR hown hne
  go_enter Tryz.func136, Tryz.ntmps136
  go_wp2_with fail
  refine C.out.mono ?_
  rintro e w' ⟨rfl, h⟩
  have H := Lib.hid h
  clear h
  go_wp2
  go_end0
  exact ⟨rfl, H.out⟩
theorem ids_raw (w : World) (g n : Nat) (vB vI vN vD : Value) (a : Option Addr) (len cap m : Nat) (cs : List Value) (hR : Row w g 47 (bookCells n vB vI vN vD)) (hown : w.ownsRow 0 205 3 vD m cs) (hne : ¬ InBlock vD g) (hm : m ≤ 100000) (hn : n ≤ 1000000) :
    Calls Tryz.prog 56 #[.pointer (some ⟨g, 0, none⟩), .slice a len cap] w fun e w' => e = .returned (.tuple #[]) ∧ ∃ v', w'.ownsRow 0 205 3 v' (m + 1) (cs ++ [.slice a len cap, nilSl, .int .i64 ((n + 1 : Nat) : Int)]) ∧
      Row w' g 47 (bookCells (n + 1) vB vI vN v') ∧ Touch (fun k => k = g ∨ InBlock vD k) w w' ∧ ∀ k, InBlock v' k → InBlock vD k ∨ w.heap.size ≤ k := by
  have C := Lib.hid (keepId_any w g n vB vI vN vD a len cap m cs hR hown hne hm hn)
  clear hR hown hne
  go_enter Tryz.func56, Tryz.ntmps56
  go_wp2_with fail
  refine C.out.mono ?_
  rintro e w' ⟨rfl, h⟩
  have H := Lib.hid h
  clear h
  go_wp2
  go_end0
  exact ⟨rfl, H.out⟩
/-- the row of a book and one of its arrays, one element longer -/
theorem two_turn {w w' : World} {F : Nat → Prop} {g : Nat} {TB TH : TypeId} {cs cs' : List Value} {v v' : Value} {m m' : Nat} {xs xs' : List Value} (hF : Al w [Part.row g TB cs, Part.arr TH v m xs] F)
    (hrow' : Row w' g TB cs') (hown : w'.ownsRow 0 TH 3 v' m' xs') (ht : Touch (fun k => k = g ∨ InBlock v k) w w') (hin' : ∀ k, InBlock v' k → InBlock v k ∨ w.heap.size ≤ k) : TurnsL w F [Part.row g TB cs', Part.arr TH v' m' xs'] w' := by
  obtain ⟨R1, R2, ⟨hrow, hg, _⟩, ⟨R3, _, ⟨harr, hin, _⟩, _, _, hR3, _⟩, hdR, hRF, hRF2⟩ := hF
  refine ⟨ht.mono (fun k _ hk => ?_), fun k => k = g ∨ InBlock v' k, ⟨fun k => k = g, InBlock v', ⟨hrow', rfl, fun k hk => by rw [hk]; exact hrow'.lt⟩, ⟨InBlock v', fun _ => False, ⟨hown, fun _ h => h, fun k hk => (rowBlock hown hk).2⟩, trivial, fun _ _ f => f, fun _ h => h, fun _ f => f.elim⟩, fun k hk hb => ?_, fun k hk => Or.inl hk, fun k hk => Or.inr hk⟩, fun k hk => ?_⟩
  · rcases hk with rfl | hk
    · exact hRF _ hg
    · exact hRF2 k (hR3 k (hin k hk))
  · rw [hk] at hb
    rcases hin' g hb with h | h
    · exact hdR g hg (hR3 g (hin g h))
    · have := hrow.lt; omega
  · rcases hk with rfl | hk
    · exact Or.inl (hRF _ hg)
    · exact (hin' k hk).imp (fun h => hRF2 k (hR3 k (hin k h))) id
theorem two_get {w : World} {F : Nat → Prop} {g : Nat} {TB TH : TypeId} {cs : List Value} {v : Value} {m : Nat} {xs : List Value} (hF : Al w [Part.row g TB cs, Part.arr TH v m xs] F) : Row w g TB cs ∧ w.ownsRow 0 TH 3 v m xs ∧ ¬ InBlock v g := by
  obtain ⟨R1, R2, ⟨hrow, hg, _⟩, ⟨R3, _, ⟨harr, hin, _⟩, _, _, hR3, _⟩, hdR, hRF, hRF2⟩ := hF
  exact ⟨hrow, harr, fun h => hdR g hg (hR3 g (hin g h))⟩
theorem book_numbers (w : World) (g n : Nat) (B I N D : List HE) (a : Option Addr) (len cap : Nat) (vs : List Value) (A : Nat → Prop) (h : Al w [Part.book g n B I N D, Part.sl 21 a len cap vs] A) (hm : N.length ≤ 100000) (hn : n ≤ 1000000) :
    Calls Tryz.prog 136 #[.pointer (some ⟨g, 0, none⟩), .slice a len cap] w fun e w' => e = .returned (.tuple #[]) ∧ TurnsL w A [Part.book g (n + 1) B I (N ++ [⟨a, len, cap, n + 1⟩]) D] w' := by
  obtain ⟨A1, A2, ⟨⟨vB, vI, vN, vD, h0, hb⟩, hl1⟩, ⟨A3, _, hs, _, _, h3, _⟩, hd, h1, h2⟩ := h
  have hs' : Al w [Part.room 21 ⟨a, len, cap, n + 1⟩] A2 := ⟨A3, fun _ => False, ⟨vs, hs⟩, trivial, fun _ _ f => f, h3, fun _ f => f.elim⟩
  have hall : Al w (bookParts g n vB vI vN vD B I N D ++ [Part.room 21 ⟨a, len, cap, n + 1⟩]) A := Al.join hb hs' hd h1 h2
  obtain ⟨F, hF, hFA, hf⟩ := Al.frame (l := [Part.row g 47 (bookCells n vB vI vN vD), Part.arr 202 vN N.length (heNew N)]) (m := _) (hall.perm (permN _ _ _ _ _))
  obtain ⟨g1, g2, g3⟩ := two_get hF
  refine (numbers_raw w g n vB vI vN vD a len cap N.length (heNew N) g1 g2 g3 hm hn).mono ?_
  rintro e w' ⟨he, v', hown, hrow', ht, hin'⟩
  refine ⟨he, ?_⟩
  have hT := two_turn hF hrow' (m' := (N ++ [(⟨a, len, cap, n + 1⟩ : HE)]).length) (xs' := heNew (N ++ [⟨a, len, cap, n + 1⟩])) (by rw [heNew_snoc, List.length_append]; exact hown) ht hin'
  refine TurnsL.wrap (l := bookParts g (n + 1) vB vI v' vD B I (N ++ [⟨a, len, cap, n + 1⟩]) D) (((hf w' _ hT).perm (permN _ _ _ _ _).symm).perm ?_) (fun O hO hlt => ⟨⟨vB, vI, v', vD, h0, hO⟩, hlt⟩)
  rw [bookParts, List.map_append]
  refine ((((List.Perm.cons _ ?_).cons _).cons _).cons _).cons _
  have hp := perm_in (B.map (Part.room 5) ++ I.map (Part.room 3)) (N.map (Part.room 21)) (D.map (Part.room 48)) (Part.room 21 ⟨a, len, cap, n + 1⟩)
  simpa [List.append_assoc] using hp
theorem book_ids (w : World) (g n : Nat) (B I N D : List HE) (a : Option Addr) (len cap : Nat) (vs : List Value) (A : Nat → Prop) (h : Al w [Part.book g n B I N D, Part.sl 48 a len cap vs] A) (hm : D.length ≤ 100000) (hn : n ≤ 1000000) :
    Calls Tryz.prog 56 #[.pointer (some ⟨g, 0, none⟩), .slice a len cap] w fun e w' => e = .returned (.tuple #[]) ∧ TurnsL w A [Part.book g (n + 1) B I N (D ++ [⟨a, len, cap, n + 1⟩])] w' := by
  obtain ⟨A1, A2, ⟨⟨vB, vI, vN, vD, h0, hb⟩, hl1⟩, ⟨A3, _, hs, _, _, h3, _⟩, hd, h1, h2⟩ := h
  have hs' : Al w [Part.room 48 ⟨a, len, cap, n + 1⟩] A2 := ⟨A3, fun _ => False, ⟨vs, hs⟩, trivial, fun _ _ f => f, h3, fun _ f => f.elim⟩
  have hall : Al w (bookParts g n vB vI vN vD B I N D ++ [Part.room 48 ⟨a, len, cap, n + 1⟩]) A := Al.join hb hs' hd h1 h2
  obtain ⟨F, hF, hFA, hf⟩ := Al.frame (l := [Part.row g 47 (bookCells n vB vI vN vD), Part.arr 205 vD D.length (heNew D)]) (m := _) (hall.perm (permD _ _ _ _ _ _))
  obtain ⟨g1, g2, g3⟩ := two_get hF
  refine (ids_raw w g n vB vI vN vD a len cap D.length (heNew D) g1 g2 g3 hm hn).mono ?_
  rintro e w' ⟨he, v', hown, hrow', ht, hin'⟩
  refine ⟨he, ?_⟩
  have hT := two_turn hF hrow' (m' := (D ++ [(⟨a, len, cap, n + 1⟩ : HE)]).length) (xs' := heNew (D ++ [⟨a, len, cap, n + 1⟩])) (by rw [heNew_snoc, List.length_append]; exact hown) ht hin'
  refine TurnsL.wrap (l := bookParts g (n + 1) vB vI vN v' B I N (D ++ [⟨a, len, cap, n + 1⟩])) (((hf w' _ hT).perm (permD _ _ _ _ _ _).symm).perm ?_) (fun O hO hlt => ⟨⟨vB, vI, vN, v', h0, hO⟩, hlt⟩)
  rw [bookParts, List.map_append]
  refine ((((List.Perm.cons _ ?_).cons _).cons _).cons _).cons _
  exact List.Perm.of_eq (by simp [List.append_assoc])
end Go.Proofs.YtkiehoboeiengaaGreatDoor
