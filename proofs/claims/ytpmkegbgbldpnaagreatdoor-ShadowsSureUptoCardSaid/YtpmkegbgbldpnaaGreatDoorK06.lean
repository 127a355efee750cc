/-
  Package drydocklaw01 by its own text: a book is told of bytes.
  Package drydocklaw01 by its own text: a book is told of bytes.
  Package drydocklaw01 by its own text: Book.Numbers, Book.Ids.
  A book's lists, grown: what lies behind; append to a slice with its room. No program in sight.
  What the walks of a book's functions share. No program in sight.
  Package drydocklaw01 by its own text: a book's lists of bytes, filled with marks.
  The plain mathematics of roots: numbers as four bytes, sums of bytes, a root's bytes. No program in sight.
-/
import Derived.Test.YtpmkegbgbldpnaaGreatDoorK05
import Derived.Test.YtpmkegbgbldpnaaGreatDoorK03
import Derived.Test.YtpmkegbgbldpnaaGreatDoorK02
import Derived.StillTailTactics
import Derived.Test.YtpmkegbgbldpnaaGreatDoorK01
import Derived.KernelRfl
namespace Go.Proofs.YtpmkegbgbldpnaaGreatDoor
open Go Go.RowKit
set_option linter.unusedSimpArgs false

theorem heldNumber_is : ∃ i z, TypeIs 258 i z 3 56 [nilSl, nilSl, .int .i64 0] := type_is (by kernel_rfl)
set_option maxRecDepth 100000 in
set_option maxHeartbeats 4000000 in
theorem keepNumber_any (w : World) (g n : Nat) (vB vI vN vD : Value) (a : Option Addr) (len cap m : Nat) (cs : List Value) (hR : Row w g 88 (bookCells n vB vI vN vD)) (hown : w.ownsRow 0 258 3 vN m cs) (hne : ¬ InBlock vN g) (hm : m ≤ 100000) (hn : n ≤ 1000000) :
    Calls Tryz.prog 185 #[.pointer (some ⟨g, 0, none⟩), .slice a len cap] w fun e w' => e = .returned (.tuple #[]) ∧ ∃ v', w'.ownsRow 0 258 3 v' (m + 1) (cs ++ [.slice a len cap, nilSl, .int .i64 ((n + 1 : Nat) : Int)]) ∧
      Row w' g 88 (bookCells (n + 1) vB vI v' vD) ∧ Touch (fun k => k = g ∨ InBlock vN k) w w' ∧ ∀ k, InBlock v' k → InBlock vN k ∨ w.heap.size ≤ k := by
  obtain ⟨ab, cb, rfl, hcb, _⟩ := rowSlice hown
  obtain ⟨I, z, hI⟩ := heldNumber_is
  have c0 : w.cell? ⟨g, 0, none⟩ = some (.int .i64 (n : Nat)) := hR.cell 0
  have c1 : w.cell? ⟨g, 3, none⟩ = some (.slice ab m cb) := hR.cell 3
  have f0 : w.frozen? ⟨g, 0, none⟩ = false := hR.soft 0
  have f1 : w.frozen? ⟨g, 3, none⟩ = false := hR.soft 3
  have hn1 : (n : Int) ≤ 1000000 := by omega
  have HR := Lib.hid hR
  have HO := Lib.hid hown
  have HNe := Lib.hid hne
  have HI := Lib.hid hI
  clear hR hown hne hI
  go_enter Tryz.func185, Tryz.ntmps185
  go_wp2_with fail
  obtain ⟨W1, hW1⟩ : ∃ W1, W1 = w.setCell ⟨g, 0, none⟩ (.int .i64 ((n : Int) + 1)) := ⟨_, rfl⟩
  have R1 : Row W1 g 88 (bookCells (n + 1) vB vI (.slice ab m cb) vD) := by
    rw [hW1]
    have := HR.out.setCell 0 (.int .i64 ((n : Int) + 1))
    exact this
  have t1 : Touch (One g) w W1 := by rw [hW1]; exact (Touch.refl (One g) w).setCell (p := ⟨g, 0, none⟩) (fun _ => rfl) _
  have hs1 : W1.heap.size = w.heap.size := by rw [hW1]; simp [World.setCell]
  rw [← hW1]
  have k0 : W1.cell? ⟨g, 0, none⟩ = some (.int .i64 ((n : Int) + 1)) := R1.cell 0
  have k1 : W1.cell? ⟨g, 3, none⟩ = some (.slice ab m cb) := R1.cell 3
  have q1 : W1.frozen? ⟨g, 3, none⟩ = false := R1.soft 3
  have hgs := R1.lt
  have hO1 := rowTouch HO.out t1 (fun k hk e => HNe.out (by have e2 : k = g := e; subst e2; exact hk))
  have HO1 := Lib.hid hO1
  have HR1 := Lib.hid R1
  have Ht1 := Lib.hid t1
  have Hs1 := Lib.hid hs1
  clear R1 t1 hs1 hW1 c0 c1 f0 f1 hO1
  have k0a : ∀ o : Obj, (W1.alloc o).cell? ⟨g, 0, none⟩ = some (.int .i64 ((n : Int) + 1)) := fun o => (cell_old W1 o hgs).trans k0
  have k1a : ∀ o : Obj, (W1.alloc o).cell? ⟨g, 3, none⟩ = some (.slice ab m cb) := fun o => (cell_old W1 o hgs).trans k1
  go_region_law ((refine step_append_row rfl _ _ _ rfl 258 I z 3 56 Tryz.underlying74 HI.out.info HI.out.zero HI.out.size HI.out.bytes (by rw [HI.out.cells]; rfl) (by decide) _ m cs (rowTouch HO1.out (((Touch.refl No W1).drew).alloc _) (fun _ _ f => f)) rfl W1.heap.size [.slice a len cap, .slice none 0 0, .int .i64 ((n : Int) + 1)] (Row.new W1.drew _ _) rfl rfl (by intro u hu; simp only [List.mem_cons, List.not_mem_nil, or_false] at hu; rcases hu with rfl | rfl | rfl <;> rfl) (by unfold maxLen; omega) (by omega) ?_; intro a' c' w' hown' ht' hin'; have k0' : w'.cell? ⟨g, 0, none⟩ = some (.int .i64 ((n : Int) + 1)) := ht'.cell HNe.out (k0a _); have k2 : w'.cell? ⟨g, 3, none⟩ = some (.slice ab m cb) := ht'.cell HNe.out (k1a _); have q2 : w'.frozen? ⟨g, 3, none⟩ = false := (ht'.frozen (lt_of_cell (k1a _)) HNe.out 3).trans ((frozen_old W1 _ hgs).trans q1)))
  all_goals
    go_wp2
    go_end0
    have hlow : ∀ k, InBlock (.slice a' (m + 1) c') k → InBlock (.slice ab m cb) k ∨ w.heap.size ≤ k := fun k hk => (hin' k hk).imp id (fun h => by
      have h2 : (W1.alloc (Obj.cells #[.slice a len cap, .slice none 0 0, .int .i64 ((n : Int) + 1)] 258)).heap.size ≤ k := h
      rw [size_alloc] at h2
      have := Hs1.out
      omega)
    have hgw : g < w.heap.size := HR.out.lt
    have tB : Touch (One g) w' (w'.setCell ⟨g, 3, none⟩ (.slice a' (m + 1) c')) := (Touch.refl (One g) w').setCell (p := ⟨g, 3, none⟩) (fun _ => rfl) _
    refine ⟨rfl, .slice a' (m + 1) c', rowTouch hown' tB (fun k hk e => ?_), ?_, ?_, hlow⟩
    · have e2 : k = g := e
      subst e2
      rcases hlow k hk with h | h
      · exact HNe.out h
      · omega
    · have h1 := ((HR1.out.touch (((Touch.refl No W1).alloc (Obj.cells #[.slice a len cap, .slice none 0 0, .int .i64 ((n : Int) + 1)] 258)).drew) id).touch ht' HNe.out).setCell 3 (.slice a' (m + 1) c')
      exact h1
    · refine (((Ht1.out.mono (fun k _ e => Or.inl e)).then ((Touch.refl No W1).alloc (Obj.cells #[.slice a len cap, .slice none 0 0, .int .i64 ((n : Int) + 1)] 258)).drew (fun _ _ f => f.elim)).then ht' (fun k _ hk => Or.inr hk)).then tB (fun k _ e => Or.inl e)
end Go.Proofs.YtpmkegbgbldpnaaGreatDoor
namespace Go.Proofs.YtpmkegbgbldpnaaGreatDoor
open Go Go.RowKit
set_option linter.unusedSimpArgs false

theorem heldId_is : ∃ i z, TypeIs 251 i z 3 56 [nilSl, nilSl, .int .i64 0] := type_is (by kernel_rfl)
set_option maxRecDepth 100000 in
set_option maxHeartbeats 4000000 in
theorem keepId_any (w : World) (g n : Nat) (vB vI vN vD : Value) (a : Option Addr) (len cap m : Nat) (cs : List Value) (hR : Row w g 88 (bookCells n vB vI vN vD)) (hown : w.ownsRow 0 251 3 vD m cs) (hne : ¬ InBlock vD g) (hm : m ≤ 100000) (hn : n ≤ 1000000) :
    Calls Tryz.prog 97 #[.pointer (some ⟨g, 0, none⟩), .slice a len cap] w fun e w' => e = .returned (.tuple #[]) ∧ ∃ v', w'.ownsRow 0 251 3 v' (m + 1) (cs ++ [.slice a len cap, nilSl, .int .i64 ((n + 1 : Nat) : Int)]) ∧
      Row w' g 88 (bookCells (n + 1) vB vI vN v') ∧ Touch (fun k => k = g ∨ InBlock vD k) w w' ∧ ∀ k, InBlock v' k → InBlock vD k ∨ w.heap.size ≤ k := by
  obtain ⟨ab, cb, rfl, hcb, _⟩ := rowSlice hown
  obtain ⟨I, z, hI⟩ := heldId_is
  have c0 : w.cell? ⟨g, 0, none⟩ = some (.int .i64 (n : Nat)) := hR.cell 0
  have c1 : w.cell? ⟨g, 4, none⟩ = some (.slice ab m cb) := hR.cell 4
  have f0 : w.frozen? ⟨g, 0, none⟩ = false := hR.soft 0
  have f1 : w.frozen? ⟨g, 4, none⟩ = false := hR.soft 4
  have hn1 : (n : Int) ≤ 1000000 := by omega
  have HR := Lib.hid hR
  have HO := Lib.hid hown
  have HNe := Lib.hid hne
  have HI := Lib.hid hI
  clear hR hown hne hI
  go_enter Tryz.func97, Tryz.ntmps97
  go_wp2_with fail
  obtain ⟨W1, hW1⟩ : ∃ W1, W1 = w.setCell ⟨g, 0, none⟩ (.int .i64 ((n : Int) + 1)) := ⟨_, rfl⟩
  have R1 : Row W1 g 88 (bookCells (n + 1) vB vI vN (.slice ab m cb)) := by
    rw [hW1]
    have := HR.out.setCell 0 (.int .i64 ((n : Int) + 1))
    exact this
  have t1 : Touch (One g) w W1 := by rw [hW1]; exact (Touch.refl (One g) w).setCell (p := ⟨g, 0, none⟩) (fun _ => rfl) _
  have hs1 : W1.heap.size = w.heap.size := by rw [hW1]; simp [World.setCell]
  rw [← hW1]
  have k0 : W1.cell? ⟨g, 0, none⟩ = some (.int .i64 ((n : Int) + 1)) := R1.cell 0
  have k1 : W1.cell? ⟨g, 4, none⟩ = some (.slice ab m cb) := R1.cell 4
  have q1 : W1.frozen? ⟨g, 4, none⟩ = false := R1.soft 4
  have hgs := R1.lt
  have hO1 := rowTouch HO.out t1 (fun k hk e => HNe.out (by have e2 : k = g := e; subst e2; exact hk))
  have HO1 := Lib.hid hO1
  have HR1 := Lib.hid R1
  have Ht1 := Lib.hid t1
  have Hs1 := Lib.hid hs1
  clear R1 t1 hs1 hW1 c0 c1 f0 f1 hO1
  have k0a : ∀ o : Obj, (W1.alloc o).cell? ⟨g, 0, none⟩ = some (.int .i64 ((n : Int) + 1)) := fun o => (cell_old W1 o hgs).trans k0
  have k1a : ∀ o : Obj, (W1.alloc o).cell? ⟨g, 4, none⟩ = some (.slice ab m cb) := fun o => (cell_old W1 o hgs).trans k1
  go_region_law ((refine step_append_row rfl _ _ _ rfl 251 I z 3 56 Tryz.underlying75 HI.out.info HI.out.zero HI.out.size HI.out.bytes (by rw [HI.out.cells]; rfl) (by decide) _ m cs (rowTouch HO1.out (((Touch.refl No W1).drew).alloc _) (fun _ _ f => f)) rfl W1.heap.size [.slice a len cap, .slice none 0 0, .int .i64 ((n : Int) + 1)] (Row.new W1.drew _ _) rfl rfl (by intro u hu; simp only [List.mem_cons, List.not_mem_nil, or_false] at hu; rcases hu with rfl | rfl | rfl <;> rfl) (by unfold maxLen; omega) (by omega) ?_; intro a' c' w' hown' ht' hin'; have k0' : w'.cell? ⟨g, 0, none⟩ = some (.int .i64 ((n : Int) + 1)) := ht'.cell HNe.out (k0a _); have k2 : w'.cell? ⟨g, 4, none⟩ = some (.slice ab m cb) := ht'.cell HNe.out (k1a _); have q2 : w'.frozen? ⟨g, 4, none⟩ = false := (ht'.frozen (lt_of_cell (k1a _)) HNe.out 4).trans ((frozen_old W1 _ hgs).trans q1)))
  all_goals
    go_wp2
    go_end0
    have hlow : ∀ k, InBlock (.slice a' (m + 1) c') k → InBlock (.slice ab m cb) k ∨ w.heap.size ≤ k := fun k hk => (hin' k hk).imp id (fun h => by
      have h2 : (W1.alloc (Obj.cells #[.slice a len cap, .slice none 0 0, .int .i64 ((n : Int) + 1)] 251)).heap.size ≤ k := h
      rw [size_alloc] at h2
      have := Hs1.out
      omega)
    have hgw : g < w.heap.size := HR.out.lt
    have tB : Touch (One g) w' (w'.setCell ⟨g, 4, none⟩ (.slice a' (m + 1) c')) := (Touch.refl (One g) w').setCell (p := ⟨g, 4, none⟩) (fun _ => rfl) _
    refine ⟨rfl, .slice a' (m + 1) c', rowTouch hown' tB (fun k hk e => ?_), ?_, ?_, hlow⟩
    · have e2 : k = g := e
      subst e2
      rcases hlow k hk with h | h
      · exact HNe.out h
      · omega
    · have h1 := ((HR1.out.touch (((Touch.refl No W1).alloc (Obj.cells #[.slice a len cap, .slice none 0 0, .int .i64 ((n : Int) + 1)] 251)).drew) id).touch ht' HNe.out).setCell 4 (.slice a' (m + 1) c')
      exact h1
    · refine (((Ht1.out.mono (fun k _ e => Or.inl e)).then ((Touch.refl No W1).alloc (Obj.cells #[.slice a len cap, .slice none 0 0, .int .i64 ((n : Int) + 1)] 251)).drew (fun _ _ f => f.elim)).then ht' (fun k _ hk => Or.inr hk)).then tB (fun k _ e => Or.inl e)
end Go.Proofs.YtpmkegbgbldpnaaGreatDoor
namespace Go.Proofs.YtpmkegbgbldpnaaGreatDoor
open Go Go.RowKit
set_option linter.unusedSimpArgs false

theorem permN {α : Type} (a b c d : α) (t : List α) : (a :: b :: c :: d :: t).Perm (a :: d :: b :: c :: t) := (((List.Perm.swap d c t).cons b).trans (List.Perm.swap d b _)).cons a
theorem permD {α : Type} (a b c d e : α) (t : List α) : (a :: b :: c :: d :: e :: t).Perm (a :: e :: b :: c :: d :: t) := ((permN b c d e t).trans (List.Perm.swap e b _)).cons a
theorem numbers_raw (w : World) (g n : Nat) (vB vI vN vD : Value) (a : Option Addr) (len cap m : Nat) (cs : List Value) (hR : Row w g 88 (bookCells n vB vI vN vD)) (hown : w.ownsRow 0 258 3 vN m cs) (hne : ¬ InBlock vN g) (hm : m ≤ 100000) (hn : n ≤ 1000000) :
    Calls Tryz.prog 90 #[.pointer (some ⟨g, 0, none⟩), .slice a len cap] w fun e w' => e = .returned (.tuple #[]) ∧ ∃ v', w'.ownsRow 0 258 3 v' (m + 1) (cs ++ [.slice a len cap, nilSl, .int .i64 ((n + 1 : Nat) : Int)]) ∧
      Row w' g 88 (bookCells (n + 1) vB vI v' vD) ∧ Touch (fun k => k = g ∨ InBlock vN k) w w' ∧ ∀ k, InBlock v' k → InBlock vN k ∨ w.heap.size ≤ k := by
  have C := Lib.hid (keepNumber_any w g n vB vI vN vD a len cap m cs hR hown hne hm hn)
  clear hR hown hne
  go_enter Tryz.func90, Tryz.ntmps90
  go_wp2_with fail
  refine C.out.mono ?_
  rintro e w' ⟨rfl, h⟩
  have H := Lib.hid h
  clear h
  go_wp2
  go_end0
  exact ⟨rfl, H.out⟩
theorem ids_raw (w : World) (g n : Nat) (vB vI vN vD : Value) (a : Option Addr) (len cap m : Nat) (cs : List Value) (hR : Row w g 88 (bookCells n vB vI vN vD)) (hown : w.ownsRow 0 251 3 vD m cs) (hne : ¬ InBlock vD g) (hm : m ≤ 100000) (hn : n ≤ 1000000) :
    Calls Tryz.prog 51 #[.pointer (some ⟨g, 0, none⟩), .slice a len cap] w fun e w' => e = .returned (.tuple #[]) ∧ ∃ v', w'.ownsRow 0 251 3 v' (m + 1) (cs ++ [.slice a len cap, nilSl, .int .i64 ((n + 1 : Nat) : Int)]) ∧
      Row w' g 88 (bookCells (n + 1) vB vI vN v') ∧ Touch (fun k => k = g ∨ InBlock vD k) w w' ∧ ∀ k, InBlock v' k → InBlock vD k ∨ w.heap.size ≤ k := by
  have C := Lib.hid (keepId_any w g n vB vI vN vD a len cap m cs hR hown hne hm hn)
  clear hR hown hne
  go_enter Tryz.func51, Tryz.ntmps51
  go_wp2_with fail
  refine C.out.mono ?_
  rintro e w' ⟨rfl, h⟩
  have H := Lib.hid h
  clear h
  go_wp2
  go_end0
  exact ⟨rfl, H.out⟩
/-- the row of a book and one of its arrays, one element longer -/
theorem two_turn {w w' : World} {F : Nat → Prop} {g : Nat} {TB TH : TypeId} {cs cs' : List Value} {v v' : Value} {m m' : Nat} {xs xs' : List Value} (hF : Al w [Part.row g TB cs, Part.arr TH v m xs] F)
    (hrow' : Row w' g TB cs') (hown : w'.ownsRow 0 TH 3 v' m' xs') (ht : Touch (fun k => k = g ∨ InBlock v k) w w') (hin' : ∀ k, InBlock v' k → InBlock v k ∨ w.heap.size ≤ k) : TurnsL w F [Part.row g TB cs', Part.arr TH v' m' xs'] w' := by
  obtain ⟨R1, R2, ⟨hrow, hg, _⟩, ⟨R3, _, ⟨harr, hin, _⟩, _, _, hR3, _⟩, hdR, hRF, hRF2⟩ := hF
  refine ⟨ht.mono (fun k _ hk => ?_), fun k => k = g ∨ InBlock v' k, ⟨fun k => k = g, InBlock v', ⟨hrow', rfl, fun k hk => by rw [hk]; exact hrow'.lt⟩, ⟨InBlock v', fun _ => False, ⟨hown, fun _ h => h, fun k hk => (rowBlock hown hk).2⟩, trivial, fun _ _ f => f, fun _ h => h, fun _ f => f.elim⟩, fun k hk hb => ?_, fun k hk => Or.inl hk, fun k hk => Or.inr hk⟩, fun k hk => ?_⟩
  · rcases hk with rfl | hk
    · exact hRF _ hg
    · exact hRF2 k (hR3 k (hin k hk))
  · rw [hk] at hb
    rcases hin' g hb with h | h
    · exact hdR g hg (hR3 g (hin g h))
    · have := hrow.lt; omega
  · rcases hk with rfl | hk
    · exact Or.inl (hRF _ hg)
    · exact (hin' k hk).imp (fun h => hRF2 k (hR3 k (hin k h))) id
theorem two_get {w : World} {F : Nat → Prop} {g : Nat} {TB TH : TypeId} {cs : List Value} {v : Value} {m : Nat} {xs : List Value} (hF : Al w [Part.row g TB cs, Part.arr TH v m xs] F) : Row w g TB cs ∧ w.ownsRow 0 TH 3 v m xs ∧ ¬ InBlock v g := by
  obtain ⟨R1, R2, ⟨hrow, hg, _⟩, ⟨R3, _, ⟨harr, hin, _⟩, _, _, hR3, _⟩, hdR, hRF, hRF2⟩ := hF
  exact ⟨hrow, harr, fun h => hdR g hg (hR3 g (hin g h))⟩
theorem book_numbers (w : World) (g n : Nat) (B I N D : List HE) (a : Option Addr) (len cap : Nat) (vs : List Value) (A : Nat → Prop) (h : Al w [Part.book g n B I N D, Part.sl 21 a len cap vs] A) (hm : N.length ≤ 100000) (hn : n ≤ 1000000) :
    Calls Tryz.prog 90 #[.pointer (some ⟨g, 0, none⟩), .slice a len cap] w fun e w' => e = .returned (.tuple #[]) ∧ TurnsL w A [Part.book g (n + 1) B I (N ++ [⟨a, len, cap, n + 1⟩]) D] w' := by
  obtain ⟨A1, A2, ⟨⟨vB, vI, vN, vD, h0, hb⟩, hl1⟩, ⟨A3, _, hs, _, _, h3, _⟩, hd, h1, h2⟩ := h
  have hs' : Al w [Part.room 21 ⟨a, len, cap, n + 1⟩] A2 := ⟨A3, fun _ => False, ⟨vs, hs⟩, trivial, fun _ _ f => f, h3, fun _ f => f.elim⟩
  have hall : Al w (bookParts g n vB vI vN vD B I N D ++ [Part.room 21 ⟨a, len, cap, n + 1⟩]) A := Al.join hb hs' hd h1 h2
  obtain ⟨F, hF, hFA, hf⟩ := Al.frame (l := [Part.row g 88 (bookCells n vB vI vN vD), Part.arr 258 vN N.length (heNew N)]) (m := _) (hall.perm (permN _ _ _ _ _))
  obtain ⟨g1, g2, g3⟩ := two_get hF
  refine (numbers_raw w g n vB vI vN vD a len cap N.length (heNew N) g1 g2 g3 hm hn).mono ?_
  rintro e w' ⟨he, v', hown, hrow', ht, hin'⟩
  refine ⟨he, ?_⟩
  have hT := two_turn hF hrow' (m' := (N ++ [(⟨a, len, cap, n + 1⟩ : HE)]).length) (xs' := heNew (N ++ [⟨a, len, cap, n + 1⟩])) (by rw [heNew_snoc, List.length_append]; exact hown) ht hin'
  refine TurnsL.wrap (l := bookParts g (n + 1) vB vI v' vD B I (N ++ [⟨a, len, cap, n + 1⟩]) D) (((hf w' _ hT).perm (permN _ _ _ _ _).symm).perm ?_) (fun O hO hlt => ⟨⟨vB, vI, v', vD, h0, hO⟩, hlt⟩)
  rw [bookParts, List.map_append]
  refine ((((List.Perm.cons _ ?_).cons _).cons _).cons _).cons _
  have hp := perm_in (B.map (Part.room 5) ++ I.map (Part.room 3)) (N.map (Part.room 21)) (D.map (Part.room 24)) (Part.room 21 ⟨a, len, cap, n + 1⟩)
  simpa [List.append_assoc] using hp
theorem book_ids (w : World) (g n : Nat) (B I N D : List HE) (a : Option Addr) (len cap : Nat) (vs : List Value) (A : Nat → Prop) (h : Al w [Part.book g n B I N D, Part.sl 24 a len cap vs] A) (hm : D.length ≤ 100000) (hn : n ≤ 1000000) :
    Calls Tryz.prog 51 #[.pointer (some ⟨g, 0, none⟩), .slice a len cap] w fun e w' => e = .returned (.tuple #[]) ∧ TurnsL w A [Part.book g (n + 1) B I N (D ++ [⟨a, len, cap, n + 1⟩])] w' := by
  obtain ⟨A1, A2, ⟨⟨vB, vI, vN, vD, h0, hb⟩, hl1⟩, ⟨A3, _, hs, _, _, h3, _⟩, hd, h1, h2⟩ := h
  have hs' : Al w [Part.room 24 ⟨a, len, cap, n + 1⟩] A2 := ⟨A3, fun _ => False, ⟨vs, hs⟩, trivial, fun _ _ f => f, h3, fun _ f => f.elim⟩
  have hall : Al w (bookParts g n vB vI vN vD B I N D ++ [Part.room 24 ⟨a, len, cap, n + 1⟩]) A := Al.join hb hs' hd h1 h2
  obtain ⟨F, hF, hFA, hf⟩ := Al.frame (l := [Part.row g 88 (bookCells n vB vI vN vD), Part.arr 251 vD D.length (heNew D)]) (m := _) (hall.perm (permD _ _ _ _ _ _))
  obtain ⟨g1, g2, g3⟩ := two_get hF
  refine (ids_raw w g n vB vI vN vD a len cap D.length (heNew D) g1 g2 g3 hm hn).mono ?_
  rintro e w' ⟨he, v', hown, hrow', ht, hin'⟩
  refine ⟨he, ?_⟩
  have hT := two_turn hF hrow' (m' := (D ++ [(⟨a, len, cap, n + 1⟩ : HE)]).length) (xs' := heNew (D ++ [⟨a, len, cap, n + 1⟩])) (by rw [heNew_snoc, List.length_append]; exact hown) ht hin'
  refine TurnsL.wrap (l := bookParts g (n + 1) vB vI vN v' B I N (D ++ [⟨a, len, cap, n + 1⟩])) (((hf w' _ hT).perm (permD _ _ _ _ _ _).symm).perm ?_) (fun O hO hlt => ⟨⟨vB, vI, vN, v', h0, hO⟩, hlt⟩)
  rw [bookParts, List.map_append]
  refine ((((List.Perm.cons _ ?_).cons _).cons _).cons _).cons _
  exact List.Perm.of_eq (by simp [List.append_assoc])
end Go.Proofs.YtpmkegbgbldpnaaGreatDoor
namespace Go.Proofs.YtpmkegbgbldpnaaGreatDoor
open Go Go.RowKit
set_option linter.unusedVariables false

theorem rd_lt {w : World} {g o : Nat} {vs : List Value} (h : Rd w (some ⟨g, o, none⟩) vs) (hv : 0 < vs.length) : g < w.heap.size := by
  obtain ⟨b, o', e, hc⟩ := h 0 vs[0] (List.getElem?_eq_getElem hv)
  cases e
  exact lt_of_cell hc
theorem sl_own {w : World} {T : TypeId} {n cap : Nat} {vs : List Value} {O : Nat → Prop} {g o : Nat} (h : (Part.sl T (some ⟨g, o, none⟩) n cap vs).P w O) (hc : 0 < cap) : O g := by
  rcases h.2.2.2.2 with h | ⟨g', o', cs, e, _, _, hO, _⟩
  · omega
  · cases e; exact hO
/-- the first ones' middle cells are these -/
def heMid : List HE → List Value → List Value
  | [], _ => []
  | e :: B, [] => e.cells nilSl ++ heMid B []
  | e :: B, l :: ls => e.cells l ++ heMid B ls
theorem heMid_nil : ∀ B, heMid B [] = heNew B
  | [] => rfl
  | e :: B => by rw [heMid, heMid_nil B]; simp [heNew]
theorem heMid_set : ∀ (B : List HE) (ls : List Value) (l : Value), ls.length < B.length → (heMid B ls).set (ls.length * 3 + 1) l = heMid B (ls ++ [l])
  | [], _, _, h => absurd h (Nat.not_lt_zero _)
  | e :: B, [], l, _ => by simp [heMid, HE.cells]
  | e :: B, x :: ls, l, h => by
    have ih := heMid_set B ls l (by simpa using h)
    rw [heMid, List.cons_append, heMid, ← ih, List.length_cons, show (ls.length + 1) * 3 + 1 = (e.cells x).length + (ls.length * 3 + 1) by rw [e.cells_length]; omega, List.set_append_right _ _ (by omega)]
    congr 2
    omega
theorem heMid_at : ∀ (B : List HE) (ls : List Value) (i j : Nat) (hi : i < B.length), j < 3 → (heMid B ls)[i * 3 + j]? = (B[i].cells (ls.getD i nilSl))[j]?
  | [], _, _, _, hi, _ => absurd hi (Nat.not_lt_zero _)
  | e :: B, [], 0, j, _, hj => by rw [heMid, Nat.zero_mul, Nat.zero_add, List.getElem?_append_left (by rw [e.cells_length]; exact hj)]; rfl
  | e :: B, l :: ls, 0, j, _, hj => by rw [heMid, Nat.zero_mul, Nat.zero_add, List.getElem?_append_left (by rw [e.cells_length]; exact hj)]; rfl
  | e :: B, [], i + 1, j, hi, hj => by
    rw [heMid, List.getElem?_append_right (by rw [e.cells_length]; omega), e.cells_length, show (i + 1) * 3 + j - 3 = i * 3 + j by omega, heMid_at B [] i j (by simpa using hi) hj]
    simp
  | e :: B, l :: ls, i + 1, j, hi, hj => by
    rw [heMid, List.getElem?_append_right (by rw [e.cells_length]; omega), e.cells_length, show (i + 1) * 3 + j - 3 = i * 3 + j by omega, heMid_at B ls i j (by simpa using hi) hj]
    simp
theorem mid_at {w : World} {T : TypeId} {v : Value} {B : List HE} {ls : List Value} {O : Nat → Prop} (h : (Part.arr T v B.length (heMid B ls)).P w O) {i : Nat} (hi : i < B.length) :
    ∃ gb cb, v = .slice (some ⟨gb, 0, none⟩) B.length cb ∧ O gb ∧ w.cell? ⟨gb, i * 3, none⟩ = some (.slice B[i].a B[i].n B[i].c) ∧ w.cell? ⟨gb, i * 3 + 1, none⟩ = some (ls.getD i nilSl) ∧ w.cell? ⟨gb, i * 3 + 2, none⟩ = some (.int .i64 (B[i].k : Nat)) ∧ w.frozen? ⟨gb, i * 3 + 1, none⟩ = false := by
  obtain ⟨⟨hl, hh⟩, hin, _⟩ := h
  rcases hh with ⟨_, h0⟩ | ⟨gb, cb, cur, hv, _, hh, hn, hc, hs, ht⟩
  · omega
  · have hc : ∀ j, j < 3 → w.cell? ⟨gb, i * 3 + j, none⟩ = (B[i].cells (ls.getD i nilSl))[j]? := fun j hj => by
      rw [← heMid_at B ls i j hi hj, ← ht, List.getElem?_take, if_pos (by omega)]
      simp only [World.cell?, hh]
      simp
    exact ⟨gb, cb, hv, hin gb (by rw [hv]; rfl), hc 0 (by decide), hc 1 (by decide), hc 2 (by decide), (row_at hh).soft _⟩
/-- one of its cells, written anew -/
theorem arr_set {w : World} {T : TypeId} {gb m cb : Nat} {cs : List Value} {O : Nat → Prop} (h : (Part.arr T (.slice (some ⟨gb, 0, none⟩) m cb) m cs).P w O) {j : Nat} (hj : j < m * 3) (u : Value) :
    (Part.arr T (.slice (some ⟨gb, 0, none⟩) m cb) m (cs.set j u)).P (w.setCell ⟨gb, j, none⟩ u) O := by
  obtain ⟨⟨hl, hh⟩, hin, hlt⟩ := h
  refine ⟨⟨by rw [List.length_set]; exact hl, ?_⟩, hin, fun k hk => by have := hlt k hk; simpa [World.setCell] using this⟩
  rcases hh with ⟨hv, _⟩ | ⟨g, cp, cur, hv, hg, hh, hn, hc, hs, ht⟩
  · cases hv
  · cases hv
    refine Or.inr ⟨gb, cb, (cur.toList.set j u).toArray, rfl, hg, (row_at hh).setCell j u, hn, hc, by simp; exact hs, ?_⟩
    rw [List.toList_toArray, List.take_set, ht]
/-- grown: what was there, and the longer one -/
def Part.gr (T : TypeId) (mk : Nat → Value) (e : HE) (l : Value) : Part where
  P w O := (∃ a' c', l = .slice a' (e.n + 40) c' ∧ Rd w e.a (List.replicate e.n (mk e.k)) ∧ Rd w a' (List.replicate (e.n + 40) (mk e.k)) ∧ (∀ g o, e.a = some ⟨g, o, none⟩ → 0 < e.n → O g) ∧ ∀ g o, a' = some ⟨g, o, none⟩ → O g) ∧ ∀ k, O k → k < w.heap.size
  stable := fun {F w w' O} ⟨⟨a', c', h1, h2, h3, h4, h5⟩, hl⟩ t hF => ⟨⟨a', c', h1, by
    by_cases hn : 0 < e.n
    · exact h2.touch t (fun b o he _ => hF b (h4 b o he hn))
    · rw [show e.n = 0 by omega]; exact Rd.nil _ _, h3.touch t (fun b o he _ => hF b (h5 b o he)), h4, h5⟩, fun k hk => Nat.lt_of_lt_of_le (hl k hk) t.size⟩
  lt := fun {w O} h => h.2
/-- one cell more, in the room that there is -/
theorem sl_push {w : World} {T : TypeId} {a : Option Addr} {n cap : Nat} {vs : List Value} {O : Nat → Prop} (h : (Part.sl T a n cap vs).P w O) (hn : n < cap) (v : Value) : ∃ g o, a = some ⟨g, o, none⟩ ∧ O g ∧ w.frozen? ⟨g, o + n, none⟩ = false ∧ (w.cell? ⟨g, o + n, none⟩).isSome = true ∧
    (Part.sl T a (n + 1) cap (vs ++ [v])).P (w.setCell ⟨g, o + n, none⟩ v) O ∧ Touch O w (w.setCell ⟨g, o + n, none⟩ v) := by
  obtain ⟨h1, h2, h3, h4, h5⟩ := h
  rcases h5 with h5 | ⟨g, o, cs, rfl, hg, hc, hO, hv⟩
  · omega
  · have hR := row_at hg
    have hR' := hR.setCell (o + n) v
    refine ⟨g, o, rfl, hO, hR.soft _, ?_, ?_, (Touch.refl O w).setCell (p := ⟨g, o + n, none⟩) (fun _ => hO) v⟩
    · rw [hR.cell]; simp [Array.getElem?_eq_getElem (show o + n < cs.size by omega)]
    · refine ⟨by rw [List.length_append, h1]; rfl, by omega, h3, fun k hk => by have := h4 k hk; simpa [World.setCell] using this, Or.inr ⟨g, o, (cs.toList.set (o + n) v).toArray, rfl, hR', by simp; exact hc, hO, fun j u hj => ?_⟩⟩
      simp only [List.getElem?_toArray, List.getElem?_set]
      by_cases e : o + n = o + j
      · rw [if_pos e, if_pos (by simp; omega)]
        have : j = n := by omega
        subst this
        rw [List.getElem?_append_right (by omega), h1, Nat.sub_self] at hj
        exact hj
      · rw [if_neg e]
        rcases Nat.lt_or_ge j vs.length with hj2 | hj2
        · rw [List.getElem?_append_left hj2] at hj
          simpa using hv j u hj
        · rw [List.getElem?_append_right hj2] at hj
          have : j - vs.length ≠ 0 := by omega
          rw [List.getElem?_eq_none (by simp; omega)] at hj
          cases hj
/-- 'append(x, u)', one cell, x a slice with its room -/
theorem wpList_append_sl {P : Program} {w : World} {ops : Array Oper} {rest : List Oper} {o : Oper} {act : Act} {Q : Exit → Act → World → Prop} (hgd : o.guard = none) (s x : Operand) (t : TypeId)
    (ho : o.op = .call { callee := .builtin .append, args := #[s, x], argTypes := #[t, t] })
    (T : TypeId) (i : TypeInfo) (z : Value) (bytes : Nat) (ht : P.underlying t = some (.slice T)) (hi : P.info? T = some i) (hz : i.zero = some z) (hsize : i.size = 1) (hby : i.bytes = bytes) (hzs : z.cells.size = 1)
    (a : Option Addr) (n cap : Nat) (vs : List Value) (O : Nat → Prop) (u : Value) (hsl : (Part.sl T a n cap vs).P w O) (hs : act.eval s = .slice a n cap) (hx : act.eval x = .slice (some ⟨w.heap.size, 0, none⟩) 1 1) (hu : u.oneCell' = true)
    (b1 : n + 1 ≤ maxLen) (b2 : (n + 1) * bytes ≤ 140737488355328)
    (h : ∀ a' c' w' O', (Part.sl T a' (n + 1) c' (vs ++ [u])).P w' O' → Touch O w w' → ((a' = a ∧ O' = O) ∨ (Touch No w w' ∧ ∀ k, O' k → w.heap.size ≤ k)) → wpList P ops Q rest (act.put o.dst (.slice a' (n + 1) c')) w') :
    wpList P ops Q (o :: rest) act (w.alloc (.cells #[u] T)) := by
  obtain ⟨w1, hw1⟩ : ∃ w1, w1 = w.alloc (.cells #[u] T) := ⟨_, rfl⟩
  have t1 : Touch No w w1 := by rw [hw1]; exact (Touch.refl No w).alloc _
  have hc1 : ∀ j v, [u][j]? = some v → w1.cell? ((⟨w.heap.size, 0, none⟩ : Addr).add j) = some v := fun j v hj => by
    match j, hj with
    | 0, hj =>
      have : u = v := by simpa using hj
      subst this
      rw [hw1, add_off, cell_new]; rfl
  have h1c : ∀ v ∈ [u], v.oneCell' = true := fun v hv => by
    have : v = u := by simpa using hv
    rw [this]; exact hu
  have hsl1 := (Part.sl T a n cap vs).stable hsl t1 (fun _ _ f => f)
  have hrd := sl_rd hsl1
  obtain ⟨l1, l2, l3⟩ := sl_len hsl
  rw [← hw1]
  by_cases hr : n < cap
  · obtain ⟨g, of, rfl, hO, hfz, hcs, hp, htc⟩ := sl_push hsl1 hr u
    refine wpList_append_arg w1 hgd s x t ho T i z 1 bytes ht hi hz hsize hby hzs (by decide) g of n cap vs hs (by omega) (fun j v hj => ?_) ⟨w.heap.size, 0, none⟩ 1 1 [u] hx rfl hc1 h1c (fun _ j hj => ?_) b1 b2 (fun _ => ?_) (fun hlt => by omega)
    · obtain ⟨b, o', e, hc⟩ := hrd j v hj
      cases e; exact hc
    · have : j = 0 := by simpa using hj
      subst this
      rw [Nat.mul_one, Nat.add_zero]
      exact ⟨hcs, hfz⟩
    · rw [Nat.mul_one]
      exact h _ _ _ O hp ((t1.no : Touch O w w1).then htc (fun _ _ h => h)) (Or.inl ⟨rfl, rfl⟩)
  · refine wpList_append_grows w1 hgd s x t ho T i z 1 bytes ht hi hz hsize hby hzs (by decide) a n cap vs hs (fun e => ?_) (by omega) (fun b e j v hj => ?_) ⟨w.heap.size, 0, none⟩ 1 1 [u] hx rfl hc1 h1c (by omega) b1 b2 (fun v' w' hown hg => ?_)
    · rcases hsl.2.2.2.2 with h0 | ⟨g, of, cs, ha, _⟩
      · omega
      · rw [ha] at e; cases e
    · obtain ⟨b', o', e', hc⟩ := hrd j v hj
      rw [e] at e'; cases e'
      rw [add_off]; exact hc
    · have tg : Touch No w1 w' := (Touch.refl No w1).grown hg (fun k hk _ => by cases hk)
      have tw : Touch No w w' := t1.trans tg
      obtain ⟨a', c', rfl, hca, hcm⟩ := rowSlice hown
      have hown' : Own w' w1.heap.size T (.slice a' (n + 1) c') (vs ++ [u]) := by
        rw [Own, List.length_append, l1]; exact hown
      obtain ⟨_, O', hO', hge⟩ := born_sl (w := w) (w' := w') (cap := c') tw t1.size hown' hca (Nat.le_refl _)
      exact h a' c' w' O' hO' tw.no (Or.inr ⟨tw, hge⟩)
end Go.Proofs.YtpmkegbgbldpnaaGreatDoor
namespace Go.Proofs.YtpmkegbgbldpnaaGreatDoor
open Go Go.RowKit
set_option linter.unusedVariables false

theorem perm_mid {α : Type} (a b : α) (T : List α) (x : α) (D : List α) : (a :: b :: (T ++ x :: D)).Perm (x :: a :: b :: (T ++ D)) := by
  have h : (a :: b :: (T ++ x :: D)).Perm (a :: b :: x :: (T ++ D)) := (List.perm_middle.cons b).cons a
  exact h.trans (((List.Perm.swap x b _).cons a).trans (List.Perm.swap x a _))
/-- what the arr part says of the i-th element -/
theorem arr_at {w : World} {T : TypeId} {v : Value} {B : List HE} {O : Nat → Prop} (h : (Part.arr T v B.length (heNew B)).P w O) {i : Nat} (hi : i < B.length) :
    ∃ gb cb, v = .slice (some ⟨gb, 0, none⟩) B.length cb ∧ O gb ∧ w.cell? ⟨gb, i * 3, none⟩ = some (.slice B[i].a B[i].n B[i].c) ∧ w.cell? ⟨gb, i * 3 + 1, none⟩ = some nilSl ∧ w.cell? ⟨gb, i * 3 + 2, none⟩ = some (.int .i64 (B[i].k : Nat)) := by
  obtain ⟨⟨hl, hh⟩, hin, _⟩ := h
  rcases hh with ⟨_, h0⟩ | ⟨gb, cb, cur, hv, _, hh, hn, hc, hs, ht⟩
  · omega
  · have hc : ∀ j, j < 3 → w.cell? ⟨gb, i * 3 + j, none⟩ = (B[i].cells nilSl)[j]? := fun j hj => by
      have h1 : (heNew B)[i * 3 + j]? = (B[i].cells nilSl)[j]? := by
        have hd : B = B.take i ++ B[i] :: B.drop (i + 1) := by rw [← List.drop_eq_getElem_cons hi, List.take_append_drop]
        have h2 : heNew B = heNew (B.take i) ++ (B[i].cells nilSl ++ heNew (B.drop (i + 1))) := by
          have h3 : heNew (B.take i ++ B[i] :: B.drop (i + 1)) = heNew (B.take i) ++ (B[i].cells nilSl ++ heNew (B.drop (i + 1))) := by rw [heNew, List.flatMap_append, List.flatMap_cons]; rfl
          rw [← hd] at h3; exact h3
        rw [h2, List.getElem?_append_right (by rw [heNew_length, List.length_take]; omega), heNew_length, List.length_take, show i * 3 + j - min i B.length * 3 = j by omega, List.getElem?_append_left (by rw [HE.cells_length]; exact hj)]
      rw [← h1, ← ht, List.getElem?_take, if_pos (by omega)]
      simp only [World.cell?, hh]
      simp
    exact ⟨gb, cb, hv, hin gb (by rw [hv]; rfl), hc 0 (by decide), hc 1 (by decide), hc 2 (by decide)⟩
theorem TurnsL.comp {w w1 w2 : World} {O O' : Nat → Prop} {l : List Part} (t : Touch O w w1) (hin : ∀ k, O' k → O k ∨ w.heap.size ≤ k) (h : TurnsL w1 O' l w2) : TurnsL w O l w2 := by
  obtain ⟨t2, O2, h3, h4⟩ := h
  refine ⟨t.then t2 (fun i hi hO => (hin i hO).elim id (fun h => absurd hi (Nat.not_lt.2 h))), O2, h3, fun i hi => ?_⟩
  rcases h4 i hi with h | h
  · exact hin i h
  · exact Or.inr (Nat.le_trans t.size h)
theorem take_next {vs : List Value} {k : Nat} {x : Value} (h : vs.take k = List.replicate k x) (hk : k < vs.length) : (vs.set k x).take (k + 1) = List.replicate (k + 1) x := by
  rw [List.take_succ_eq_append_getElem (by rw [List.length_set]; exact hk), List.take_set_of_le (Nat.le_refl _), h, List.getElem_set_self, List.replicate_succ']
theorem perm_mid3 {α : Type} (a b : α) (T : List α) (x : α) (D : List α) : (a :: b :: (T ++ x :: D)).Perm (a :: b :: x :: (T ++ D)) := (List.perm_middle.cons b).cons a
theorem zip_snoc {α β γ : Type} (f : α → β → γ) {xs : List α} {ys : List β} (h : xs.length = ys.length) (a : α) (b : β) : List.zipWith f (xs ++ [a]) (ys ++ [b]) = List.zipWith f xs ys ++ [f a b] := by
  rw [List.zipWith_append h]; rfl
theorem zip_get {α β γ : Type} (f : α → β → γ) {xs : List α} {ys : List β} {i : Nat} {a : α} {b : β} (ha : xs[i]? = some a) (hb : ys[i]? = some b) : f a b ∈ List.zipWith f xs ys := by
  apply List.mem_of_getElem? (i := i)
  rw [List.getElem?_zipWith, ha, hb]
end Go.Proofs.YtpmkegbgbldpnaaGreatDoor
namespace Go.Proofs.YtpmkegbgbldpnaaGreatDoor
open Go Go.RowKit
set_option linter.unusedSimpArgs false

def mkB (k : Nat) : Value := .int .u8 ((k % 256 : Nat) : Int)
theorem markByte_any (w : World) (k : Nat) (hk : k ≤ 1000000) : Calls Tryz.prog 189 #[.int .i64 (k : Nat)] w fun e w' => e = .returned (mkB k) ∧ w' = w := by
  have hk' : (k : Int) ≤ 1000000 := by omega
  go_enter Tryz.func189, Tryz.ntmps189
  go_wp2
  go_ret
  exact ⟨rfl, rfl⟩
set_option maxRecDepth 100000 in
set_option maxHeartbeats 4000000 in
theorem fillByte_any (w : World) (g n : Nat) (vB vI vN vD : Value) (B : List HE) (O : Nat → Prop) (h : Al w (Part.row g 88 (bookCells n vB vI vN vD) :: Part.arr 253 vB B.length (heNew B) :: B.map (Part.room 5)) O) (hO : ∀ k, O k → k < w.heap.size) (hm : B.length ≤ 100000) (hk : ∀ e ∈ B, e.k ≤ 1000000) :
    Calls Tryz.prog 98 #[.pointer (some ⟨g, 0, none⟩)] w fun e w' => e = .returned (.tuple #[]) ∧ TurnsL w O (Part.row g 88 (bookCells n vB vI vN vD) :: Part.arr 253 vB B.length (heNew B) :: B.map (Part.full 5 mkB)) w' := by
  obtain ⟨m, hmB⟩ : ∃ m, B.length = m := ⟨_, rfl⟩
  have hm' : (m : Int) ≤ 100000 := by omega
  have H0 := Lib.hid h
  have HO := Lib.hid hO
  have HK := Lib.hid hk
  have HM := Lib.hid hmB
  clear h hO hk hmB
  go_enter Tryz.func98, Tryz.ntmps98
  go_wp2
  go_loopg [2] m (fun gk s2 wr => ∃ i : Nat, i + gk = m ∧ s2 = .int .i64 ((i : Nat) : Int) ∧ Hid (TurnsL w O (Part.row g 88 (bookCells n vB vI vN vD) :: Part.arr 253 vB B.length (heNew B) :: ((B.take i).map (Part.full 5 mkB) ++ (B.drop i).map (Part.room 5))) wr))
  case atStart =>
    exact ⟨0, by omega, rfl, TurnsL.same H0.out⟩
  case round =>
    obtain ⟨i, hi, rfl, hT⟩ := hrel
    obtain ⟨ht, O', hA, hin⟩ := hT.out
    obtain ⟨A1, hrow, hA1⟩ := hA.head
    obtain ⟨A2, harr, hA2⟩ := hA.tail.head
    obtain ⟨ab, cb, hvB, hcb, _⟩ := rowSlice harr.1
    have c1 : wr.cell? ⟨g, 1, none⟩ = some (.slice ab m cb) := by
      rw [hrow.1.cell 1, ← HM.out, ← hvB]; rfl
    cases gk with
    | zero =>
      obtain rfl : i = m := by omega
      have HT := hT
      clear hA hrow harr hin ht hT
      go_wp2
      go_end0
      refine ⟨rfl, ?_⟩
      have := HT.out
      rw [List.take_of_length_le (by rw [HM.out]; exact Nat.le_refl _), List.drop_of_length_le (by rw [HM.out]; exact Nat.le_refl _), List.map_nil, List.append_nil] at this
      exact this
    | succ gk =>
      obtain ⟨wo, rfl⟩ : ∃ wo : World, wo = wr := ⟨_, rfl⟩
      have hil : i < B.length := by rw [HM.out]; omega
      have hlt : (i : Int) < (m : Nat) := by omega
      obtain ⟨gb, cb2, hv2, hOb, k0, k1, k2⟩ := arr_at harr hil
      have hBd : B.drop i = B[i] :: B.drop (i + 1) := List.drop_eq_getElem_cons hil
      have hBt : B.take (i + 1) = B.take i ++ [B[i]] := List.take_succ_eq_append_getElem hil
      have hek : B[i].k ≤ 1000000 := HK.out _ (List.getElem_mem hil)
      obtain ⟨e, he⟩ : ∃ e, B[i] = e := ⟨_, rfl⟩
      rw [he] at k0 k2 hBd hBt hek
      clear he
      rw [hBd, List.map_cons] at hA
      have hA' := hA.perm (perm_mid _ _ _ _ _)
      obtain ⟨F, hF, hFO, hfr⟩ := Al.frame (l := [Part.room 5 e]) hA'
      obtain ⟨X, ⟨vs, hsl⟩, hX⟩ := hF.head
      obtain ⟨ea, en, ec, ek⟩ := e
      dsimp only at k0 k2 hek hsl
      replace k1 : wo.cell? ⟨gb, i * 3 + 1, none⟩ = some (.slice none 0 0) := k1
      have hab : ab = some ⟨gb, 0, none⟩ := by
        rw [hvB] at hv2; cases hv2; rfl
      subst hab
      obtain ⟨hvl, hnc, hcm⟩ := sl_len hsl
      have hen : (en : Int) ≤ 9223372036854775807 := by unfold maxLen at hcm; omega
      have hXs : ∀ k, X k → k < wo.heap.size := fun k hk => (Part.sl 5 ea en ec vs).lt hsl k hk
      have HA := Lib.hid hfr
      have HT := Lib.hid (And.intro ht hin)
      have HBt := Lib.hid hBt
      have HX := Lib.hid hX
      have HXs := Lib.hid hXs
      have Hsl := Lib.hid hsl
      have Hvl := Lib.hid hvl
      have HV := Lib.hid hvB
      clear hA hA' hrow harr hin ht hT hfr hF hFO hX hXs hBd hBt hvB hv2 hA1 hA2 hOb hsl hvl hnc hcm
      go_wp2
      obtain ⟨w1, hw1⟩ : ∃ w1, w1 = wo.alloc (.cells #[.slice ea en ec, .slice none 0 0, .int .i64 (ek : Nat)] 253) := ⟨_, rfl⟩
      have t1 : Touch No wo w1 := by rw [hw1]; exact (Touch.refl No wo).alloc _
      have b0 : w1.cell? ⟨wo.heap.size, 0, none⟩ = some (.slice ea en ec) := by rw [hw1, cell_new]; rfl
      have b2 : w1.cell? ⟨wo.heap.size, 2, none⟩ = some (.int .i64 (ek : Nat)) := by rw [hw1, cell_new]; rfl
      have T1 := Lib.hid t1
      have B0 := Lib.hid b0
      have B2 := Lib.hid b2
      rw [← hw1]
      obtain ⟨hb, Hhb⟩ : ∃ hb, Hid (hb = wo.heap.size) := ⟨_, rfl⟩
      rw [← Hhb.out] at B0 B2 ⊢
      clear hw1 t1 b0 b2 k0 k1 k2 c1
      go_loopg [4] en (fun g' s4 wr => ∃ k : Nat, k + g' = en ∧ s4 = .int .i64 ((k : Nat) : Int) ∧ Hid (∃ us, (Part.sl 5 ea en ec us).P wr X ∧ us.take k = List.replicate k (mkB ek) ∧ Touch X w1 wr))
      case atStart => exact ⟨0, by omega, rfl, ⟨vs, (Part.sl 5 ea en ec vs).stable Hsl.out T1.out (fun _ _ f => f), rfl, Touch.refl _ _⟩⟩
      case round =>
        obtain ⟨k, hk, rfl, hU⟩ := hrel
        obtain ⟨us, hus, htk, htX⟩ := hU.out
        have nh : ¬ X hb := fun h => by have := HXs.out hb h; have := Hhb.out; omega
        have b0 := htX.cell nh B0.out
        have b2 := htX.cell nh B2.out
        cases gk with
        | zero =>
          obtain rfl : k = en := by omega
          have hful : us = List.replicate k (mkB ek) := by rw [← htk, List.take_of_length_le (by rw [hus.1]; exact Nat.le_refl _)]
          have hT3 : TurnsL wo F [Part.full 5 mkB ⟨ea, k, ec, ek⟩] wr := by
            refine ⟨((T1.out.no : Touch F wo w1).then htX (fun k hk h => HX.out k h)), X, ⟨X, fun _ => False, ?_, trivial, fun _ _ f => f, fun _ h => h, fun _ f => f.elim⟩, fun k hk => Or.inl (HX.out k hk)⟩
            show (Part.sl 5 ea k ec (List.replicate k (mkB ek))).P wr X
            rw [← hful]; exact hus
          have hT4 := (TurnsL.comp HT.out.1 HT.out.2 (HA.out wr _ hT3)).perm (perm_mid _ _ _ _ _).symm
          have HN : Hid (TurnsL w O (Part.row g 88 (bookCells n vB vI vN vD) :: Part.arr 253 vB B.length (heNew B) :: ((B.take (i + 1)).map (Part.full 5 mkB) ++ (B.drop (i + 1)).map (Part.room 5))) wr) := by
            show TurnsL _ _ _ _
            rw [HBt.out, List.map_append, List.append_assoc]
            exact hT4
          clear hful hT3 hT4 hus htk htX hU nh
          go_wp2
          go_roundg gk
          case measure => omega
          case rel => exact ⟨i + 1, by omega, by go_num, HN⟩
        | succ g' =>
          have hkn : (k : Int) < (en : Nat) := by omega
          obtain ⟨gg, o, rfl, hXg, hfz, ⟨u, hcu⟩, hset, htset⟩ := sl_set hus (show k < en by omega) (mkB ek)
          have hkl : k < us.length := by rw [hus.1]; omega
          have HN : Hid (∃ us', (Part.sl 5 (some ⟨gg, o, none⟩) en ec us').P ((wr.setCell ⟨gg, o + k, none⟩ (mkB ek)).drew) X ∧ us'.take (k + 1) = List.replicate (k + 1) (mkB ek) ∧ Touch X w1 ((wr.setCell ⟨gg, o + k, none⟩ (mkB ek)).drew)) :=
            ⟨_, (Part.sl 5 (some ⟨gg, o, none⟩) en ec _).stable hset ((Touch.refl No _).drew) (fun _ _ f => f), take_next htk hkl, (htX.trans htset).drew⟩
          clear hus htk htX hset htset hU nh
          go_wp2_with fail
          go_still_tail 7, (by kernel_rfl)
          still_call (show Calls _ _ _ _ (fun e w' => e = .returned (.int .u8 ((ek % 256 : Nat) : Int)) ∧ w' = _) from markByte_any _ ek hek)
          repeat still_step
          refine wpStill_nil ?_
          go_wp2
          go_roundg g'
          case measure => omega
          case rel => exact ⟨k + 1, by omega, by go_num, HN⟩
end Go.Proofs.YtpmkegbgbldpnaaGreatDoor
namespace Go.Proofs.YtpmkegbgbldpnaaGreatDoor
open Go Go.RowKit
namespace Rt

/-! ### four bytes -/
def four (n : Nat) : List Nat := [n % 256, n / 256 % 256, n / 65536 % 256, n / 16777216 % 256]
def unfour (b : List Nat) : Nat := b.getD 0 0 + 256 * b.getD 1 0 + 65536 * b.getD 2 0 + 16777216 * b.getD 3 0
theorem four_length (n : Nat) : (four n).length = 4 := rfl
theorem four_lt (n : Nat) : ∀ x ∈ four n, x < 256 := by
  intro x hx
  simp only [four, List.mem_cons, List.not_mem_nil, or_false] at hx
  omega
theorem unfour_four {n : Nat} (h : n < 4294967296) : unfour (four n) = n := by
  simp [unfour, four]; omega
theorem unfour_lt {b : List Nat} (h : ∀ x ∈ b, x < 256) : unfour b < 4294967296 := by
  have hb : ∀ i, b.getD i 0 < 256 := fun i => by
    rw [List.getD_eq_getElem?_getD]
    cases hq : b[i]? with
    | none => simp
    | some z => exact h z (List.mem_of_getElem? hq)
  have h0 := hb 0
  have h1 := hb 1
  have h2 := hb 2
  have h3 := hb 3
  unfold unfour; omega

/-! ### sums -/
def half1 (r : Nat) : Nat := if r % 2 = 1 then r / 2 ^^^ 3988292384 else r / 2
def halves : Nat → Nat → Nat
  | 0, r => r
  | k + 1, r => halves k (half1 r)
theorem halves_succ : ∀ (k r : Nat), halves (k + 1) r = half1 (halves k r)
  | 0, _ => rfl
  | k + 1, r => by rw [halves, halves_succ k, halves]
def tab (n : Nat) : Nat := halves 8 n
theorem half1_lt {r : Nat} (h : r < 4294967296) : half1 r < 4294967296 := by
  unfold half1
  split
  · exact Nat.xor_lt_two_pow (n := 32) (by omega) (by decide)
  · omega
theorem halves_lt : ∀ (k : Nat) {r : Nat}, r < 4294967296 → halves k r < 4294967296
  | 0, _, h => h
  | k + 1, _, h => halves_lt k (half1_lt h)
theorem tab_lt {n : Nat} (h : n < 256) : tab n < 4294967296 := halves_lt 8 (by omega)
def step (r c : Nat) : Nat := tab (r % 256 ^^^ c) ^^^ r / 256
def neg (r : Nat) : Nat := 4294967295 - r
def run (r : Nat) : List Nat → Nat
  | [] => r
  | c :: b => run (step r c) b
def on (sum : Nat) (b : List Nat) : Nat := neg (run (neg sum) b)
def of (b : List Nat) : Nat := on 0 b
theorem run_append : ∀ (a b : List Nat) (r : Nat), run r (a ++ b) = run (run r a) b
  | [], _, _ => rfl
  | c :: a, b, r => run_append a b (step r c)
theorem idx_lt {r c : Nat} (h : c < 256) : r % 256 ^^^ c < 256 := Nat.xor_lt_two_pow (n := 8) (by omega) h
theorem step_lt {r c : Nat} (hr : r < 4294967296) (hc : c < 256) : step r c < 4294967296 :=
  Nat.xor_lt_two_pow (n := 32) (tab_lt (idx_lt hc)) (by omega)
theorem run_lt : ∀ (b : List Nat) {r : Nat}, r < 4294967296 → (∀ x ∈ b, x < 256) → run r b < 4294967296
  | [], _, h, _ => h
  | c :: b, _, h, hb => run_lt b (step_lt h (hb c (by simp))) (fun x hx => hb x (by simp [hx]))
theorem neg_lt (r : Nat) : neg r < 4294967296 := by unfold neg; omega
theorem on_lt {sum : Nat} {b : List Nat} : on sum b < 4294967296 := neg_lt _
theorem of_lt {b : List Nat} : of b < 4294967296 := neg_lt _

/-- the highest bytes of the table are all unlike -/
def tops : List Nat := (List.range 256).map (fun i => tab i / 16777216)
theorem tops_nodup : tops.Nodup := of_decide_eq_true (by kernel_rfl)
theorem tops_inj {i j : Nat} (hi : i < 256) (hj : j < 256) (h : tab i / 16777216 = tab j / 16777216) : i = j := by
  have li : i < tops.length := by simp [tops]; exact hi
  have lj : j < tops.length := by simp [tops]; exact hj
  refine (List.getElem_inj (h₀ := li) (h₁ := lj) tops_nodup).1 ?_
  simpa [tops] using h
theorem xor_top {a b : Nat} (hb : b < 16777216) : (a ^^^ b) / 16777216 = a / 16777216 := by
  have e : (16777216 : Nat) = 2 ^ 24 := rfl
  rw [e] at hb ⊢
  rw [← Nat.shiftRight_eq_div_pow, ← Nat.shiftRight_eq_div_pow, Nat.shiftRight_xor_distrib, Nat.shiftRight_eq_div_pow b, Nat.div_eq_of_lt hb, Nat.xor_zero]
theorem xor_cancel {a b c : Nat} (h : a ^^^ b = a ^^^ c) : b = c := by
  have := congrArg (fun x => a ^^^ x) h
  simpa [← Nat.xor_assoc] using this
theorem step_idx {r r' c c' : Nat} (hr : r < 4294967296) (hr' : r' < 4294967296) (hc : c < 256) (hc' : c' < 256) (h : step r c = step r' c') : r % 256 ^^^ c = r' % 256 ^^^ c' := by
  refine tops_inj (idx_lt hc) (idx_lt hc') ?_
  have h1 := xor_top (a := tab (r % 256 ^^^ c)) (b := r / 256) (by omega)
  have h2 := xor_top (a := tab (r' % 256 ^^^ c')) (b := r' / 256) (by omega)
  rw [← h1, ← h2]
  exact congrArg (fun x => x / 16777216) h
theorem step_inj {r r' c : Nat} (hr : r < 4294967296) (hr' : r' < 4294967296) (hc : c < 256) (h : step r c = step r' c) : r = r' := by
  have hi := step_idx hr hr' hc hc h
  have h1 : r % 256 = r' % 256 := by
    rw [Nat.xor_comm, Nat.xor_comm (r' % 256)] at hi
    exact xor_cancel hi
  unfold step at h
  rw [hi] at h
  have h2 := xor_cancel h
  omega
theorem run_inj : ∀ (b : List Nat) {r r' : Nat}, r < 4294967296 → r' < 4294967296 → (∀ x ∈ b, x < 256) → run r b = run r' b → r = r'
  | [], _, _, _, _, _, h => h
  | c :: b, _, _, hr, hr', hb, h => by
    have hc := hb c (by simp)
    exact step_inj hr hr' hc (run_inj b (step_lt hr hc) (step_lt hr' hc) (fun x hx => hb x (by simp [hx])) h)
theorem neg_inj {a b : Nat} (ha : a < 4294967296) (hb : b < 4294967296) (h : neg a = neg b) : a = b := by unfold neg at h; omega
theorem on_append (sum : Nat) (a b : List Nat) (_hs : sum < 4294967296) (ha : ∀ x ∈ a, x < 256) : on (on sum a) b = on sum (a ++ b) := by
  have hr := run_lt a (neg_lt sum) ha
  unfold on
  rw [run_append]
  congr 2
  unfold neg at hr ⊢; omega

/-! ### a root's bytes -/
structure Root where
  epoch : Nat
  first : Nat
  bytes : Nat
structure Root.Ok (r : Root) : Prop where
  epoch : r.epoch < 4294967296
  first : r.first < 4294967296
  bytes : r.bytes < 4294967296
def mark : List Nat := [82, 79, 79, 84]
def head (r : Root) : List Nat := mark ++ four r.epoch ++ four r.first ++ four r.bytes
def put (r : Root) : List Nat := head r ++ four (of (head r)) ++ List.replicate 44 0
theorem head_length (r : Root) : (head r).length = 16 := rfl
theorem put_length (r : Root) : (put r).length = 64 := rfl
theorem head_lt (r : Root) : ∀ x ∈ head r, x < 256 := by
  intro x hx
  simp only [head, List.mem_append] at hx
  rcases hx with ((h | h) | h) | h
  · simp only [mark, List.mem_cons, List.not_mem_nil, or_false] at h; omega
  · exact four_lt _ x h
  · exact four_lt _ x h
  · exact four_lt _ x h
theorem put_lt (r : Root) : ∀ x ∈ put r, x < 256 := by
  intro x hx
  simp only [put, List.mem_append] at hx
  rcases hx with (h | h) | h
  · exact head_lt r x h
  · exact four_lt _ x h
  · have := (List.mem_replicate.1 h).2; omega

/-- what Get says of bytes: 0 and the root, or an error: 4 (form), 11 (sum) -/
def nought (b : List Nat) : Bool := b.all (· == 0)
def errOf (b : List Nat) : Nat := if b.length = 64 ∧ b.take 4 = mark ∧ nought (b.drop 20) = true then (if of (b.take 16) = unfour ((b.drop 16).take 4) then 0 else 11) else 4
def rootOf (b : List Nat) : Root := if errOf b = 0 then ⟨unfour ((b.drop 4).take 4), unfour ((b.drop 8).take 4), unfour ((b.drop 12).take 4)⟩ else ⟨0, 0, 0⟩
theorem put_err (r : Root) : errOf (put r) = 0 := by
  have h1 : (put r).take 4 = mark := rfl
  have h2 : nought ((put r).drop 20) = true := rfl
  have h3 : (put r).take 16 = head r := rfl
  have h4 : ((put r).drop 16).take 4 = four (of (head r)) := rfl
  rw [errOf, if_pos ⟨put_length r, h1, h2⟩, h3, h4, unfour_four of_lt, if_pos rfl]
theorem put_root {r : Root} (h : r.Ok) : rootOf (put r) = r := by
  rw [rootOf, if_pos (put_err r)]
  have h1 : ((put r).drop 4).take 4 = four r.epoch := rfl
  have h2 : ((put r).drop 8).take 4 = four r.first := rfl
  have h3 : ((put r).drop 12).take 4 = four r.bytes := rfl
  rw [h1, h2, h3, unfour_four h.epoch, unfour_four h.first, unfour_four h.bytes]

/-! ### one byte turned -/
end Rt
end Go.Proofs.YtpmkegbgbldpnaaGreatDoor
