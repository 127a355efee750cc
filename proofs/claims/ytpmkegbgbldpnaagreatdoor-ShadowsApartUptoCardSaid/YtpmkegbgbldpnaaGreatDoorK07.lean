/-
  Package drydocklaw01 by its own text: a book is told of bytes.
  Package drydocklaw01 by its own text: a book is told of bytes.
  Package drydocklaw01 by its own text: Book.Numbers, Book.Ids.
  A book's lists, grown: what lies behind; append to a slice with its room. No program in sight.
-/
import Derived.Test.YtpmkegbgbldpnaaGreatDoorK06
import Derived.Test.YtpmkegbgbldpnaaGreatDoorK04
import Derived.Test.YtpmkegbgbldpnaaGreatDoorK03
namespace Go.Proofs.YtpmkegbgbldpnaaGreatDoor
open Go Go.RowKit
set_option linter.unusedSimpArgs false

theorem heldNumber_is : ∃ i z, TypeIs 258 i z 3 56 [nilSl, nilSl, .int .i64 0] := type_is (by kernel_rfl)
set_option maxRecDepth 100000 in
set_option maxHeartbeats 4000000 in
theorem keepNumber_any (w : World) (g n : Nat) (vB vI vN vD : Value) (a : Option Addr) (len cap m : Nat) (cs : List Value) (hR : Row w g 88 (bookCells n vB vI vN vD)) (hown : w.ownsRow 0 258 3 vN m cs) (hne : ¬ InBlock vN g) (hm : m ≤ 100000) (hn : n ≤ 1000000) :
    Calls Tryz.prog 185 #[.pointer (some ⟨g, 0, none⟩), .slice a len cap] w fun e w' => e = .returned (.tuple #[]) ∧ ∃ v', w'.ownsRow 0 258 3 v' (m + 1) (cs ++ [.slice a len cap, nilSl, .int .i64 ((n + 1 : Nat) : Int)]) ∧
      Row w' g 88 (bookCells (n + 1) vB vI v' vD) ∧ Touch (fun k => k = g ∨ InBlock vN k) w w' ∧ ∀ k, InBlock v' k → InBlock vN k ∨ w.heap.size ≤ k := by
  obtain ⟨ab, cb, rfl, hcb, _⟩ := rowSlice hown
  obtain ⟨I, z, hI⟩ := heldNumber_is
  have c0 : w.cell? ⟨g, 0, none⟩ = some (.int .i64 (n : Nat)) := hR.cell 0
  have c1 : w.cell? ⟨g, 3, none⟩ = some (.slice ab m cb) := hR.cell 3
  have f0 : w.frozen? ⟨g, 0, none⟩ = false := hR.soft 0
  have f1 : w.frozen? ⟨g, 3, none⟩ = false := hR.soft 3
  have hn1 : (n : Int) ≤ 1000000 := by omega
  have HR := Lib.hid hR
  have HO := Lib.hid hown
  have HNe := Lib.hid hne
  have HI := Lib.hid hI
  clear hR hown hne hI
  go_enter Tryz.func185, Tryz.ntmps185
  go_wp2_with fail
  obtain ⟨W1, hW1⟩ : ∃ W1, W1 = w.setCell ⟨g, 0, none⟩ (.int .i64 ((n : Int) + 1)) := ⟨_, rfl⟩
  have R1 : Row W1 g 88 (bookCells (n + 1) vB vI (.slice ab m cb) vD) := by
    rw [hW1]
    have := HR.out.setCell 0 (.int .i64 ((n : Int) + 1))
    exact this
  have t1 : Touch (One g) w W1 := by rw [hW1]; exact (Touch.refl (One g) w).setCell (p := ⟨g, 0, none⟩) (fun _ => rfl) _
  have hs1 : W1.heap.size = w.heap.size := by rw [hW1]; simp [World.setCell]
  rw [← hW1]
  have k0 : W1.cell? ⟨g, 0, none⟩ = some (.int .i64 ((n : Int) + 1)) := R1.cell 0
  have k1 : W1.cell? ⟨g, 3, none⟩ = some (.slice ab m cb) := R1.cell 3
  have q1 : W1.frozen? ⟨g, 3, none⟩ = false := R1.soft 3
  have hgs := R1.lt
  have hO1 := rowTouch HO.out t1 (fun k hk e => HNe.out (by have e2 : k = g := e; subst e2; exact hk))
  have HO1 := Lib.hid hO1
  have HR1 := Lib.hid R1
  have Ht1 := Lib.hid t1
  have Hs1 := Lib.hid hs1
  clear R1 t1 hs1 hW1 c0 c1 f0 f1 hO1
  have k0a : ∀ o : Obj, (W1.alloc o).cell? ⟨g, 0, none⟩ = some (.int .i64 ((n : Int) + 1)) := fun o => (cell_old W1 o hgs).trans k0
  have k1a : ∀ o : Obj, (W1.alloc o).cell? ⟨g, 3, none⟩ = some (.slice ab m cb) := fun o => (cell_old W1 o hgs).trans k1
  go_region_law ((refine step_append_row rfl _ _ _ rfl 258 I z 3 56 Tryz.underlying74 HI.out.info HI.out.zero HI.out.size HI.out.bytes (by rw [HI.out.cells]; rfl) (by decide) _ m cs (rowTouch HO1.out (((Touch.refl No W1).drew).alloc _) (fun _ _ f => f)) rfl W1.heap.size [.slice a len cap, .slice none 0 0, .int .i64 ((n : Int) + 1)] (Row.new W1.drew _ _) rfl rfl (by intro u hu; simp only [List.mem_cons, List.not_mem_nil, or_false] at hu; rcases hu with rfl | rfl | rfl <;> rfl) (by unfold maxLen; omega) (by omega) ?_; intro a' c' w' hown' ht' hin'; have k0' : w'.cell? ⟨g, 0, none⟩ = some (.int .i64 ((n : Int) + 1)) := ht'.cell HNe.out (k0a _); have k2 : w'.cell? ⟨g, 3, none⟩ = some (.slice ab m cb) := ht'.cell HNe.out (k1a _); have q2 : w'.frozen? ⟨g, 3, none⟩ = false := (ht'.frozen (lt_of_cell (k1a _)) HNe.out 3).trans ((frozen_old W1 _ hgs).trans q1)))
  all_goals
    go_wp2
    go_end0
    have hlow : ∀ k, InBlock (.slice a' (m + 1) c') k → InBlock (.slice ab m cb) k ∨ w.heap.size ≤ k := fun k hk => (hin' k hk).imp id (fun h => by
      have h2 : (W1.alloc (Obj.cells #[.slice a len cap, .slice none 0 0, .int .i64 ((n : Int) + 1)] 258)).heap.size ≤ k := h
      rw [size_alloc] at h2
      have := Hs1.out
      omega)
    have hgw : g < w.heap.size := HR.out.lt
    have tB : Touch (One g) w' (w'.setCell ⟨g, 3, none⟩ (.slice a' (m + 1) c')) := (Touch.refl (One g) w').setCell (p := ⟨g, 3, none⟩) (fun _ => rfl) _
    refine ⟨rfl, .slice a' (m + 1) c', rowTouch hown' tB (fun k hk e => ?_), ?_, ?_, hlow⟩
    · have e2 : k = g := e
      subst e2
      rcases hlow k hk with h | h
      · exact HNe.out h
      · omega
    · have h1 := ((HR1.out.touch (((Touch.refl No W1).alloc (Obj.cells #[.slice a len cap, .slice none 0 0, .int .i64 ((n : Int) + 1)] 258)).drew) id).touch ht' HNe.out).setCell 3 (.slice a' (m + 1) c')
      exact h1
    · refine (((Ht1.out.mono (fun k _ e => Or.inl e)).then ((Touch.refl No W1).alloc (Obj.cells #[.slice a len cap, .slice none 0 0, .int .i64 ((n : Int) + 1)] 258)).drew (fun _ _ f => f.elim)).then ht' (fun k _ hk => Or.inr hk)).then tB (fun k _ e => Or.inl e)
end Go.Proofs.YtpmkegbgbldpnaaGreatDoor
namespace Go.Proofs.YtpmkegbgbldpnaaGreatDoor
open Go Go.RowKit
set_option linter.unusedSimpArgs false

theorem heldId_is : ∃ i z, TypeIs 251 i z 3 56 [nilSl, nilSl, .int .i64 0] := type_is (by kernel_rfl)
set_option maxRecDepth 100000 in
set_option maxHeartbeats 4000000 in
theorem keepId_any (w : World) (g n : Nat) (vB vI vN vD : Value) (a : Option Addr) (len cap m : Nat) (cs : List Value) (hR : Row w g 88 (bookCells n vB vI vN vD)) (hown : w.ownsRow 0 251 3 vD m cs) (hne : ¬ InBlock vD g) (hm : m ≤ 100000) (hn : n ≤ 1000000) :
    Calls Tryz.prog 97 #[.pointer (some ⟨g, 0, none⟩), .slice a len cap] w fun e w' => e = .returned (.tuple #[]) ∧ ∃ v', w'.ownsRow 0 251 3 v' (m + 1) (cs ++ [.slice a len cap, nilSl, .int .i64 ((n + 1 : Nat) : Int)]) ∧
      Row w' g 88 (bookCells (n + 1) vB vI vN v') ∧ Touch (fun k => k = g ∨ InBlock vD k) w w' ∧ ∀ k, InBlock v' k → InBlock vD k ∨ w.heap.size ≤ k := by
  obtain ⟨ab, cb, rfl, hcb, _⟩ := rowSlice hown
  obtain ⟨I, z, hI⟩ := heldId_is
  have c0 : w.cell? ⟨g, 0, none⟩ = some (.int .i64 (n : Nat)) := hR.cell 0
  have c1 : w.cell? ⟨g, 4, none⟩ = some (.slice ab m cb) := hR.cell 4
  have f0 : w.frozen? ⟨g, 0, none⟩ = false := hR.soft 0
  have f1 : w.frozen? ⟨g, 4, none⟩ = false := hR.soft 4
  have hn1 : (n : Int) ≤ 1000000 := by omega
  have HR := Lib.hid hR
  have HO := Lib.hid hown
  have HNe := Lib.hid hne
  have HI := Lib.hid hI
  clear hR hown hne hI
  go_enter Tryz.func97, Tryz.ntmps97
  go_wp2_with fail
  obtain ⟨W1, hW1⟩ : ∃ W1, W1 = w.setCell ⟨g, 0, none⟩ (.int .i64 ((n : Int) + 1)) := ⟨_, rfl⟩
  have R1 : Row W1 g 88 (bookCells (n + 1) vB vI vN (.slice ab m cb)) := by
    rw [hW1]
    have := HR.out.setCell 0 (.int .i64 ((n : Int) + 1))
    exact this
  have t1 : Touch (One g) w W1 := by rw [hW1]; exact (Touch.refl (One g) w).setCell (p := ⟨g, 0, none⟩) (fun _ => rfl) _
  have hs1 : W1.heap.size = w.heap.size := by rw [hW1]; simp [World.setCell]
  rw [← hW1]
  have k0 : W1.cell? ⟨g, 0, none⟩ = some (.int .i64 ((n : Int) + 1)) := R1.cell 0
  have k1 : W1.cell? ⟨g, 4, none⟩ = some (.slice ab m cb) := R1.cell 4
  have q1 : W1.frozen? ⟨g, 4, none⟩ = false := R1.soft 4
  have hgs := R1.lt
  have hO1 := rowTouch HO.out t1 (fun k hk e => HNe.out (by have e2 : k = g := e; subst e2; exact hk))
  have HO1 := Lib.hid hO1
  have HR1 := Lib.hid R1
  have Ht1 := Lib.hid t1
  have Hs1 := Lib.hid hs1
  clear R1 t1 hs1 hW1 c0 c1 f0 f1 hO1
  have k0a : ∀ o : Obj, (W1.alloc o).cell? ⟨g, 0, none⟩ = some (.int .i64 ((n : Int) + 1)) := fun o => (cell_old W1 o hgs).trans k0
  have k1a : ∀ o : Obj, (W1.alloc o).cell? ⟨g, 4, none⟩ = some (.slice ab m cb) := fun o => (cell_old W1 o hgs).trans k1
  go_region_law ((refine step_append_row rfl _ _ _ rfl 251 I z 3 56 Tryz.underlying75 HI.out.info HI.out.zero HI.out.size HI.out.bytes (by rw [HI.out.cells]; rfl) (by decide) _ m cs (rowTouch HO1.out (((Touch.refl No W1).drew).alloc _) (fun _ _ f => f)) rfl W1.heap.size [.slice a len cap, .slice none 0 0, .int .i64 ((n : Int) + 1)] (Row.new W1.drew _ _) rfl rfl (by intro u hu; simp only [List.mem_cons, List.not_mem_nil, or_false] at hu; rcases hu with rfl | rfl | rfl <;> rfl) (by unfold maxLen; omega) (by omega) ?_; intro a' c' w' hown' ht' hin'; have k0' : w'.cell? ⟨g, 0, none⟩ = some (.int .i64 ((n : Int) + 1)) := ht'.cell HNe.out (k0a _); have k2 : w'.cell? ⟨g, 4, none⟩ = some (.slice ab m cb) := ht'.cell HNe.out (k1a _); have q2 : w'.frozen? ⟨g, 4, none⟩ = false := (ht'.frozen (lt_of_cell (k1a _)) HNe.out 4).trans ((frozen_old W1 _ hgs).trans q1)))
  all_goals
    go_wp2
    go_end0
    have hlow : ∀ k, InBlock (.slice a' (m + 1) c') k → InBlock (.slice ab m cb) k ∨ w.heap.size ≤ k := fun k hk => (hin' k hk).imp id (fun h => by
      have h2 : (W1.alloc (Obj.cells #[.slice a len cap, .slice none 0 0, .int .i64 ((n : Int) + 1)] 251)).heap.size ≤ k := h
      rw [size_alloc] at h2
      have := Hs1.out
      omega)
    have hgw : g < w.heap.size := HR.out.lt
    have tB : Touch (One g) w' (w'.setCell ⟨g, 4, none⟩ (.slice a' (m + 1) c')) := (Touch.refl (One g) w').setCell (p := ⟨g, 4, none⟩) (fun _ => rfl) _
    refine ⟨rfl, .slice a' (m + 1) c', rowTouch hown' tB (fun k hk e => ?_), ?_, ?_, hlow⟩
    · have e2 : k = g := e
      subst e2
      rcases hlow k hk with h | h
      · exact HNe.out h
      · omega
    · have h1 := ((HR1.out.touch (((Touch.refl No W1).alloc (Obj.cells #[.slice a len cap, .slice none 0 0, .int .i64 ((n : Int) + 1)] 251)).drew) id).touch ht' HNe.out).setCell 4 (.slice a' (m + 1) c')
      exact h1
    · refine (((Ht1.out.mono (fun k _ e => Or.inl e)).then ((Touch.refl No W1).alloc (Obj.cells #[.slice a len cap, .slice none 0 0, .int .i64 ((n : Int) + 1)] 251)).drew (fun _ _ f => f.elim)).then ht' (fun k _ hk => Or.inr hk)).then tB (fun k _ e => Or.inl e)
end Go.Proofs.YtpmkegbgbldpnaaGreatDoor
namespace Go.Proofs.YtpmkegbgbldpnaaGreatDoor
open Go Go.RowKit
set_option linter.unusedSimpArgs false

theorem permN {α : Type} (a b c d : α) (t : List α) : (a :: b :: c :: d :: t).Perm (a :: d :: b :: c :: t) := (((List.Perm.swap d c t).cons b).trans (List.Perm.swap d b _)).cons a
theorem permD {α : Type} (a b c d e : α) (t : List α) : (a :: b :: c :: d :: e :: t).Perm (a :: e :: b :: c :: d :: t) := ((permN b c d e t).trans (List.Perm.swap e b _)).cons a
theorem numbers_raw (w : World) (g n : Nat) (vB vI vN vD : Value) (a : Option Addr) (len cap m : Nat) (cs : List Value) (hR : Row w g 88 (bookCells n vB vI vN vD)) (hown : w.ownsRow 0 258 3 vN m cs) (hne : ¬ InBlock vN g) (hm : m ≤ 100000) (hn : n ≤ 1000000) :
    Calls Tryz.prog 90 #[.pointer (some ⟨g, 0, none⟩), .slice a len cap] w fun e w' => e = .returned (.tuple #[]) ∧ ∃ v', w'.ownsRow 0 258 3 v' (m + 1) (cs ++ [.slice a len cap, nilSl, .int .i64 ((n + 1 : Nat) : Int)]) ∧
      Row w' g 88 (bookCells (n + 1) vB vI v' vD) ∧ Touch (fun k => k = g ∨ InBlock vN k) w w' ∧ ∀ k, InBlock v' k → InBlock vN k ∨ w.heap.size ≤ k := by
  have C := Lib.hid (keepNumber_any w g n vB vI vN vD a len cap m cs hR hown hne hm hn)
  clear hR hown hne
  go_enter Tryz.func90, Tryz.ntmps90
  go_wp2_with fail
  refine C.out.mono ?_
  rintro e w' ⟨rfl, h⟩
  have H := Lib.hid h
  clear h
  go_wp2
  go_end0
  exact ⟨rfl, H.out⟩
theorem ids_raw (w : World) (g n : Nat) (vB vI vN vD : Value) (a : Option Addr) (len cap m : Nat) (cs : List Value) (hR : Row w g 88 (bookCells n vB vI vN vD)) (hown : w.ownsRow 0 251 3 vD m cs) (hne : ¬ InBlock vD g) (hm : m ≤ 100000) (hn : n ≤ 1000000) :
    Calls Tryz.prog 51 #[.pointer (some ⟨g, 0, none⟩), .slice a len cap] w fun e w' => e = .returned (.tuple #[]) ∧ ∃ v', w'.ownsRow 0 251 3 v' (m + 1) (cs ++ [.slice a len cap, nilSl, .int .i64 ((n + 1 : Nat) : Int)]) ∧
      Row w' g 88 (bookCells (n + 1) vB vI vN v') ∧ Touch (fun k => k = g ∨ InBlock vD k) w w' ∧ ∀ k, InBlock v' k → InBlock vD k ∨ w.heap.size ≤ k := by
  have C := Lib.hid (keepId_any w g n vB vI vN vD a len cap m cs hR hown hne hm hn)
  clear hR hown hne
  go_enter Tryz.func51, Tryz.ntmps51
  go_wp2_with fail
  refine C.out.mono ?_
  rintro e w' ⟨rfl, h⟩
  have H := Lib.hid h
  clear h
  go_wp2
  go_end0
  exact ⟨rfl, H.out⟩
/-- the row of a book and one of its arrays, one element longer -/
theorem two_turn {w w' : World} {F : Nat → Prop} {g : Nat} {TB TH : TypeId} {cs cs' : List Value} {v v' : Value} {m m' : Nat} {xs xs' : List Value} (hF : Al w [Part.row g TB cs, Part.arr TH v m xs] F)
    (hrow' : Row w' g TB cs') (hown : w'.ownsRow 0 TH 3 v' m' xs') (ht : Touch (fun k => k = g ∨ InBlock v k) w w') (hin' : ∀ k, InBlock v' k → InBlock v k ∨ w.heap.size ≤ k) : TurnsL w F [Part.row g TB cs', Part.arr TH v' m' xs'] w' := by
  obtain ⟨R1, R2, ⟨hrow, hg, _⟩, ⟨R3, _, ⟨harr, hin, _⟩, _, _, hR3, _⟩, hdR, hRF, hRF2⟩ := hF
  refine ⟨ht.mono (fun k _ hk => ?_), fun k => k = g ∨ InBlock v' k, ⟨fun k => k = g, InBlock v', ⟨hrow', rfl, fun k hk => by rw [hk]; exact hrow'.lt⟩, ⟨InBlock v', fun _ => False, ⟨hown, fun _ h => h, fun k hk => (rowBlock hown hk).2⟩, trivial, fun _ _ f => f, fun _ h => h, fun _ f => f.elim⟩, fun k hk hb => ?_, fun k hk => Or.inl hk, fun k hk => Or.inr hk⟩, fun k hk => ?_⟩
  · rcases hk with rfl | hk
    · exact hRF _ hg
    · exact hRF2 k (hR3 k (hin k hk))
  · rw [hk] at hb
    rcases hin' g hb with h | h
    · exact hdR g hg (hR3 g (hin g h))
    · have := hrow.lt; omega
  · rcases hk with rfl | hk
    · exact Or.inl (hRF _ hg)
    · exact (hin' k hk).imp (fun h => hRF2 k (hR3 k (hin k h))) id
theorem two_get {w : World} {F : Nat → Prop} {g : Nat} {TB TH : TypeId} {cs : List Value} {v : Value} {m : Nat} {xs : List Value} (hF : Al w [Part.row g TB cs, Part.arr TH v m xs] F) : Row w g TB cs ∧ w.ownsRow 0 TH 3 v m xs ∧ ¬ InBlock v g := by
  obtain ⟨R1, R2, ⟨hrow, hg, _⟩, ⟨R3, _, ⟨harr, hin, _⟩, _, _, hR3, _⟩, hdR, hRF, hRF2⟩ := hF
  exact ⟨hrow, harr, fun h => hdR g hg (hR3 g (hin g h))⟩
theorem book_numbers (w : World) (g n : Nat) (B I N D : List HE) (a : Option Addr) (len cap : Nat) (vs : List Value) (A : Nat → Prop) (h : Al w [Part.book g n B I N D, Part.sl 21 a len cap vs] A) (hm : N.length ≤ 100000) (hn : n ≤ 1000000) :
    Calls Tryz.prog 90 #[.pointer (some ⟨g, 0, none⟩), .slice a len cap] w fun e w' => e = .returned (.tuple #[]) ∧ TurnsL w A [Part.book g (n + 1) B I (N ++ [⟨a, len, cap, n + 1⟩]) D] w' := by
  obtain ⟨A1, A2, ⟨⟨vB, vI, vN, vD, h0, hb⟩, hl1⟩, ⟨A3, _, hs, _, _, h3, _⟩, hd, h1, h2⟩ := h
  have hs' : Al w [Part.room 21 ⟨a, len, cap, n + 1⟩] A2 := ⟨A3, fun _ => False, ⟨vs, hs⟩, trivial, fun _ _ f => f, h3, fun _ f => f.elim⟩
  have hall : Al w (bookParts g n vB vI vN vD B I N D ++ [Part.room 21 ⟨a, len, cap, n + 1⟩]) A := Al.join hb hs' hd h1 h2
  obtain ⟨F, hF, hFA, hf⟩ := Al.frame (l := [Part.row g 88 (bookCells n vB vI vN vD), Part.arr 258 vN N.length (heNew N)]) (m := _) (hall.perm (permN _ _ _ _ _))
  obtain ⟨g1, g2, g3⟩ := two_get hF
  refine (numbers_raw w g n vB vI vN vD a len cap N.length (heNew N) g1 g2 g3 hm hn).mono ?_
  rintro e w' ⟨he, v', hown, hrow', ht, hin'⟩
  refine ⟨he, ?_⟩
  have hT := two_turn hF hrow' (m' := (N ++ [(⟨a, len, cap, n + 1⟩ : HE)]).length) (xs' := heNew (N ++ [⟨a, len, cap, n + 1⟩])) (by rw [heNew_snoc, List.length_append]; exact hown) ht hin'
  refine TurnsL.wrap (l := bookParts g (n + 1) vB vI v' vD B I (N ++ [⟨a, len, cap, n + 1⟩]) D) (((hf w' _ hT).perm (permN _ _ _ _ _).symm).perm ?_) (fun O hO hlt => ⟨⟨vB, vI, v', vD, h0, hO⟩, hlt⟩)
  rw [bookParts, List.map_append]
  refine ((((List.Perm.cons _ ?_).cons _).cons _).cons _).cons _
  have hp := perm_in (B.map (Part.room 5) ++ I.map (Part.room 3)) (N.map (Part.room 21)) (D.map (Part.room 24)) (Part.room 21 ⟨a, len, cap, n + 1⟩)
  simpa [List.append_assoc] using hp
theorem book_ids (w : World) (g n : Nat) (B I N D : List HE) (a : Option Addr) (len cap : Nat) (vs : List Value) (A : Nat → Prop) (h : Al w [Part.book g n B I N D, Part.sl 24 a len cap vs] A) (hm : D.length ≤ 100000) (hn : n ≤ 1000000) :
    Calls Tryz.prog 51 #[.pointer (some ⟨g, 0, none⟩), .slice a len cap] w fun e w' => e = .returned (.tuple #[]) ∧ TurnsL w A [Part.book g (n + 1) B I N (D ++ [⟨a, len, cap, n + 1⟩])] w' := by
  obtain ⟨A1, A2, ⟨⟨vB, vI, vN, vD, h0, hb⟩, hl1⟩, ⟨A3, _, hs, _, _, h3, _⟩, hd, h1, h2⟩ := h
  have hs' : Al w [Part.room 24 ⟨a, len, cap, n + 1⟩] A2 := ⟨A3, fun _ => False, ⟨vs, hs⟩, trivial, fun _ _ f => f, h3, fun _ f => f.elim⟩
  have hall : Al w (bookParts g n vB vI vN vD B I N D ++ [Part.room 24 ⟨a, len, cap, n + 1⟩]) A := Al.join hb hs' hd h1 h2
  obtain ⟨F, hF, hFA, hf⟩ := Al.frame (l := [Part.row g 88 (bookCells n vB vI vN vD), Part.arr 251 vD D.length (heNew D)]) (m := _) (hall.perm (permD _ _ _ _ _ _))
  obtain ⟨g1, g2, g3⟩ := two_get hF
  refine (ids_raw w g n vB vI vN vD a len cap D.length (heNew D) g1 g2 g3 hm hn).mono ?_
  rintro e w' ⟨he, v', hown, hrow', ht, hin'⟩
  refine ⟨he, ?_⟩
  have hT := two_turn hF hrow' (m' := (D ++ [(⟨a, len, cap, n + 1⟩ : HE)]).length) (xs' := heNew (D ++ [⟨a, len, cap, n + 1⟩])) (by rw [heNew_snoc, List.length_append]; exact hown) ht hin'
  refine TurnsL.wrap (l := bookParts g (n + 1) vB vI vN v' B I N (D ++ [⟨a, len, cap, n + 1⟩])) (((hf w' _ hT).perm (permD _ _ _ _ _ _).symm).perm ?_) (fun O hO hlt => ⟨⟨vB, vI, vN, v', h0, hO⟩, hlt⟩)
  rw [bookParts, List.map_append]
  refine ((((List.Perm.cons _ ?_).cons _).cons _).cons _).cons _
  exact List.Perm.of_eq (by simp [List.append_assoc])
end Go.Proofs.YtpmkegbgbldpnaaGreatDoor
namespace Go.Proofs.YtpmkegbgbldpnaaGreatDoor
open Go Go.RowKit
set_option linter.unusedVariables false

theorem rd_lt {w : World} {g o : Nat} {vs : List Value} (h : Rd w (some ⟨g, o, none⟩) vs) (hv : 0 < vs.length) : g < w.heap.size := by
  obtain ⟨b, o', e, hc⟩ := h 0 vs[0] (List.getElem?_eq_getElem hv)
  cases e
  exact lt_of_cell hc
theorem sl_own {w : World} {T : TypeId} {n cap : Nat} {vs : List Value} {O : Nat → Prop} {g o : Nat} (h : (Part.sl T (some ⟨g, o, none⟩) n cap vs).P w O) (hc : 0 < cap) : O g := by
  rcases h.2.2.2.2 with h | ⟨g', o', cs, e, _, _, hO, _⟩
  · omega
  · cases e; exact hO
/-- the first ones' middle cells are these -/
def heMid : List HE → List Value → List Value
  | [], _ => []
  | e :: B, [] => e.cells nilSl ++ heMid B []
  | e :: B, l :: ls => e.cells l ++ heMid B ls
theorem heMid_nil : ∀ B, heMid B [] = heNew B
  | [] => rfl
  | e :: B => by rw [heMid, heMid_nil B]; simp [heNew]
theorem heMid_set : ∀ (B : List HE) (ls : List Value) (l : Value), ls.length < B.length → (heMid B ls).set (ls.length * 3 + 1) l = heMid B (ls ++ [l])
  | [], _, _, h => absurd h (Nat.not_lt_zero _)
  | e :: B, [], l, _ => by simp [heMid, HE.cells]
  | e :: B, x :: ls, l, h => by
    have ih := heMid_set B ls l (by simpa using h)
    rw [heMid, List.cons_append, heMid, ← ih, List.length_cons, show (ls.length + 1) * 3 + 1 = (e.cells x).length + (ls.length * 3 + 1) by rw [e.cells_length]; omega, List.set_append_right _ _ (by omega)]
    congr 2
    omega
theorem heMid_at : ∀ (B : List HE) (ls : List Value) (i j : Nat) (hi : i < B.length), j < 3 → (heMid B ls)[i * 3 + j]? = (B[i].cells (ls.getD i nilSl))[j]?
  | [], _, _, _, hi, _ => absurd hi (Nat.not_lt_zero _)
  | e :: B, [], 0, j, _, hj => by rw [heMid, Nat.zero_mul, Nat.zero_add, List.getElem?_append_left (by rw [e.cells_length]; exact hj)]; rfl
  | e :: B, l :: ls, 0, j, _, hj => by rw [heMid, Nat.zero_mul, Nat.zero_add, List.getElem?_append_left (by rw [e.cells_length]; exact hj)]; rfl
  | e :: B, [], i + 1, j, hi, hj => by
    rw [heMid, List.getElem?_append_right (by rw [e.cells_length]; omega), e.cells_length, show (i + 1) * 3 + j - 3 = i * 3 + j by omega, heMid_at B [] i j (by simpa using hi) hj]
    simp
  | e :: B, l :: ls, i + 1, j, hi, hj => by
    rw [heMid, List.getElem?_append_right (by rw [e.cells_length]; omega), e.cells_length, show (i + 1) * 3 + j - 3 = i * 3 + j by omega, heMid_at B ls i j (by simpa using hi) hj]
    simp
theorem mid_at {w : World} {T : TypeId} {v : Value} {B : List HE} {ls : List Value} {O : Nat → Prop} (h : (Part.arr T v B.length (heMid B ls)).P w O) {i : Nat} (hi : i < B.length) :
    ∃ gb cb, v = .slice (some ⟨gb, 0, none⟩) B.length cb ∧ O gb ∧ w.cell? ⟨gb, i * 3, none⟩ = some (.slice B[i].a B[i].n B[i].c) ∧ w.cell? ⟨gb, i * 3 + 1, none⟩ = some (ls.getD i nilSl) ∧ w.cell? ⟨gb, i * 3 + 2, none⟩ = some (.int .i64 (B[i].k : Nat)) ∧ w.frozen? ⟨gb, i * 3 + 1, none⟩ = false := by
  obtain ⟨⟨hl, hh⟩, hin, _⟩ := h
  rcases hh with ⟨_, h0⟩ | ⟨gb, cb, cur, hv, _, hh, hn, hc, hs, ht⟩
  · omega
  · have hc : ∀ j, j < 3 → w.cell? ⟨gb, i * 3 + j, none⟩ = (B[i].cells (ls.getD i nilSl))[j]? := fun j hj => by
      rw [← heMid_at B ls i j hi hj, ← ht, List.getElem?_take, if_pos (by omega)]
      simp only [World.cell?, hh]
      simp
    exact ⟨gb, cb, hv, hin gb (by rw [hv]; rfl), hc 0 (by decide), hc 1 (by decide), hc 2 (by decide), (row_at hh).soft _⟩
/-- one of its cells, written anew -/
theorem arr_set {w : World} {T : TypeId} {gb m cb : Nat} {cs : List Value} {O : Nat → Prop} (h : (Part.arr T (.slice (some ⟨gb, 0, none⟩) m cb) m cs).P w O) {j : Nat} (hj : j < m * 3) (u : Value) :
    (Part.arr T (.slice (some ⟨gb, 0, none⟩) m cb) m (cs.set j u)).P (w.setCell ⟨gb, j, none⟩ u) O := by
  obtain ⟨⟨hl, hh⟩, hin, hlt⟩ := h
  refine ⟨⟨by rw [List.length_set]; exact hl, ?_⟩, hin, fun k hk => by have := hlt k hk; simpa [World.setCell] using this⟩
  rcases hh with ⟨hv, _⟩ | ⟨g, cp, cur, hv, hg, hh, hn, hc, hs, ht⟩
  · cases hv
  · cases hv
    refine Or.inr ⟨gb, cb, (cur.toList.set j u).toArray, rfl, hg, (row_at hh).setCell j u, hn, hc, by simp; exact hs, ?_⟩
    rw [List.toList_toArray, List.take_set, ht]
/-- grown: what was there, and the longer one -/
def Part.gr (T : TypeId) (mk : Nat → Value) (e : HE) (l : Value) : Part where
  P w O := (∃ a' c', l = .slice a' (e.n + 40) c' ∧ Rd w e.a (List.replicate e.n (mk e.k)) ∧ Rd w a' (List.replicate (e.n + 40) (mk e.k)) ∧ (∀ g o, e.a = some ⟨g, o, none⟩ → 0 < e.n → O g) ∧ ∀ g o, a' = some ⟨g, o, none⟩ → O g) ∧ ∀ k, O k → k < w.heap.size
  stable := fun {F w w' O} ⟨⟨a', c', h1, h2, h3, h4, h5⟩, hl⟩ t hF => ⟨⟨a', c', h1, by
    by_cases hn : 0 < e.n
    · exact h2.touch t (fun b o he _ => hF b (h4 b o he hn))
    · rw [show e.n = 0 by omega]; exact Rd.nil _ _, h3.touch t (fun b o he _ => hF b (h5 b o he)), h4, h5⟩, fun k hk => Nat.lt_of_lt_of_le (hl k hk) t.size⟩
  lt := fun {w O} h => h.2
/-- one cell more, in the room that there is -/
theorem sl_push {w : World} {T : TypeId} {a : Option Addr} {n cap : Nat} {vs : List Value} {O : Nat → Prop} (h : (Part.sl T a n cap vs).P w O) (hn : n < cap) (v : Value) : ∃ g o, a = some ⟨g, o, none⟩ ∧ O g ∧ w.frozen? ⟨g, o + n, none⟩ = false ∧ (w.cell? ⟨g, o + n, none⟩).isSome = true ∧
    (Part.sl T a (n + 1) cap (vs ++ [v])).P (w.setCell ⟨g, o + n, none⟩ v) O ∧ Touch O w (w.setCell ⟨g, o + n, none⟩ v) := by
  obtain ⟨h1, h2, h3, h4, h5⟩ := h
  rcases h5 with h5 | ⟨g, o, cs, rfl, hg, hc, hO, hv⟩
  · omega
  · have hR := row_at hg
    have hR' := hR.setCell (o + n) v
    refine ⟨g, o, rfl, hO, hR.soft _, ?_, ?_, (Touch.refl O w).setCell (p := ⟨g, o + n, none⟩) (fun _ => hO) v⟩
    · rw [hR.cell]; simp [Array.getElem?_eq_getElem (show o + n < cs.size by omega)]
    · refine ⟨by rw [List.length_append, h1]; rfl, by omega, h3, fun k hk => by have := h4 k hk; simpa [World.setCell] using this, Or.inr ⟨g, o, (cs.toList.set (o + n) v).toArray, rfl, hR', by simp; exact hc, hO, fun j u hj => ?_⟩⟩
      simp only [List.getElem?_toArray, List.getElem?_set]
      by_cases e : o + n = o + j
      · rw [if_pos e, if_pos (by simp; omega)]
        have : j = n := by omega
        subst this
        rw [List.getElem?_append_right (by omega), h1, Nat.sub_self] at hj
        exact hj
      · rw [if_neg e]
        rcases Nat.lt_or_ge j vs.length with hj2 | hj2
        · rw [List.getElem?_append_left hj2] at hj
          simpa using hv j u hj
        · rw [List.getElem?_append_right hj2] at hj
          have : j - vs.length ≠ 0 := by omega
          rw [List.getElem?_eq_none (by simp; omega)] at hj
          cases hj
/-- 'append(x, u)', one cell, x a slice with its room -/
theorem wpList_append_sl {P : Program} {w : World} {ops : Array Oper} {rest : List Oper} {o : Oper} {act : Act} {Q : Exit → Act → World → Prop} (hgd : o.guard = none) (s x : Operand) (t : TypeId)
    (ho : o.op = .call { callee := .builtin .append, args := #[s, x], argTypes := #[t, t] })
    (T : TypeId) (i : TypeInfo) (z : Value) (bytes : Nat) (ht : P.underlying t = some (.slice T)) (hi : P.info? T = some i) (hz : i.zero = some z) (hsize : i.size = 1) (hby : i.bytes = bytes) (hzs : z.cells.size = 1)
    (a : Option Addr) (n cap : Nat) (vs : List Value) (O : Nat → Prop) (u : Value) (hsl : (Part.sl T a n cap vs).P w O) (hs : act.eval s = .slice a n cap) (hx : act.eval x = .slice (some ⟨w.heap.size, 0, none⟩) 1 1) (hu : u.oneCell' = true)
    (b1 : n + 1 ≤ maxLen) (b2 : (n + 1) * bytes ≤ 140737488355328)
    (h : ∀ a' c' w' O', (Part.sl T a' (n + 1) c' (vs ++ [u])).P w' O' → Touch O w w' → ((a' = a ∧ O' = O) ∨ (Touch No w w' ∧ ∀ k, O' k → w.heap.size ≤ k)) → wpList P ops Q rest (act.put o.dst (.slice a' (n + 1) c')) w') :
    wpList P ops Q (o :: rest) act (w.alloc (.cells #[u] T)) := by
  obtain ⟨w1, hw1⟩ : ∃ w1, w1 = w.alloc (.cells #[u] T) := ⟨_, rfl⟩
  have t1 : Touch No w w1 := by rw [hw1]; exact (Touch.refl No w).alloc _
  have hc1 : ∀ j v, [u][j]? = some v → w1.cell? ((⟨w.heap.size, 0, none⟩ : Addr).add j) = some v := fun j v hj => by
    match j, hj with
    | 0, hj =>
      have : u = v := by simpa using hj
      subst this
      rw [hw1, add_off, cell_new]; rfl
  have h1c : ∀ v ∈ [u], v.oneCell' = true := fun v hv => by
    have : v = u := by simpa using hv
    rw [this]; exact hu
  have hsl1 := (Part.sl T a n cap vs).stable hsl t1 (fun _ _ f => f)
  have hrd := sl_rd hsl1
  obtain ⟨l1, l2, l3⟩ := sl_len hsl
  rw [← hw1]
  by_cases hr : n < cap
  · obtain ⟨g, of, rfl, hO, hfz, hcs, hp, htc⟩ := sl_push hsl1 hr u
    refine wpList_append_arg w1 hgd s x t ho T i z 1 bytes ht hi hz hsize hby hzs (by decide) g of n cap vs hs (by omega) (fun j v hj => ?_) ⟨w.heap.size, 0, none⟩ 1 1 [u] hx rfl hc1 h1c (fun _ j hj => ?_) b1 b2 (fun _ => ?_) (fun hlt => by omega)
    · obtain ⟨b, o', e, hc⟩ := hrd j v hj
      cases e; exact hc
    · have : j = 0 := by simpa using hj
      subst this
      rw [Nat.mul_one, Nat.add_zero]
      exact ⟨hcs, hfz⟩
    · rw [Nat.mul_one]
      exact h _ _ _ O hp ((t1.no : Touch O w w1).then htc (fun _ _ h => h)) (Or.inl ⟨rfl, rfl⟩)
  · refine wpList_append_grows w1 hgd s x t ho T i z 1 bytes ht hi hz hsize hby hzs (by decide) a n cap vs hs (fun e => ?_) (by omega) (fun b e j v hj => ?_) ⟨w.heap.size, 0, none⟩ 1 1 [u] hx rfl hc1 h1c (by omega) b1 b2 (fun v' w' hown hg => ?_)
    · rcases hsl.2.2.2.2 with h0 | ⟨g, of, cs, ha, _⟩
      · omega
      · rw [ha] at e; cases e
    · obtain ⟨b', o', e', hc⟩ := hrd j v hj
      rw [e] at e'; cases e'
      rw [add_off]; exact hc
    · have tg : Touch No w1 w' := (Touch.refl No w1).grown hg (fun k hk _ => by cases hk)
      have tw : Touch No w w' := t1.trans tg
      obtain ⟨a', c', rfl, hca, hcm⟩ := rowSlice hown
      have hown' : Own w' w1.heap.size T (.slice a' (n + 1) c') (vs ++ [u]) := by
        rw [Own, List.length_append, l1]; exact hown
      obtain ⟨_, O', hO', hge⟩ := born_sl (w := w) (w' := w') (cap := c') tw t1.size hown' hca (Nat.le_refl _)
      exact h a' c' w' O' hO' tw.no (Or.inr ⟨tw, hge⟩)
end Go.Proofs.YtpmkegbgbldpnaaGreatDoor
