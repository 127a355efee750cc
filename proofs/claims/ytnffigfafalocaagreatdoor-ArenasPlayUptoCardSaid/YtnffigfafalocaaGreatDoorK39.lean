/-
  Package drydocklaw01 by its own text: a book is told of bytes.
  Package drydocklaw01 by its own text: Book.Bytes.
  Package drydocklaw01 by its own text: a book is told of bytes.
  Package drydocklaw01 by its own text: a book is told of bytes.
-/
import Derived.Test.YtnffigfafalocaaGreatDoorK27
import Derived.Test.YtnffigfafalocaaGreatDoorK28
namespace Go.Proofs.YtnffigfafalocaaGreatDoor
open Go Go.RowKit
set_option linter.unusedSimpArgs false

end Go.Proofs.YtnffigfafalocaaGreatDoor
namespace Go.Proofs.YtnffigfafalocaaGreatDoor
open Go Go.RowKit
set_option linter.unusedSimpArgs false

end Go.Proofs.YtnffigfafalocaaGreatDoor
namespace Go.Proofs.YtnffigfafalocaaGreatDoor
open Go Go.RowKit
set_option linter.unusedSimpArgs false

theorem heldNumber_is : ∃ i z, TypeIs 246 i z 3 56 [nilSl, nilSl, .int .i64 0] := type_is (by kernel_rfl)
set_option maxRecDepth 100000 in
set_option maxHeartbeats 4000000 in
theorem keepNumber_any (w : World) (g n : Nat) (vB vI vN vD : Value) (a : Option Addr) (len cap m : Nat) (cs : List Value) (hR : Row w g 71 (bookCells n vB vI vN vD)) (hown : w.ownsRow 0 246 3 vN m cs) (hne : ¬ InBlock vN g) (hm : m ≤ 100000) (hn : n ≤ 1000000) :
    Calls Tryz.prog 175 #[.pointer (some ⟨g, 0, none⟩), .slice a len cap] w fun e w' => e = .returned (.tuple #[]) ∧ ∃ v', w'.ownsRow 0 246 3 v' (m + 1) (cs ++ [.slice a len cap, nilSl, .int .i64 ((n + 1 : Nat) : Int)]) ∧
      Row w' g 71 (bookCells (n + 1) vB vI v' vD) ∧ Touch (fun k => k = g ∨ InBlock vN k) w w' ∧ ∀ k, InBlock v' k → InBlock vN k ∨ w.heap.size ≤ k := by
  obtain ⟨ab, cb, rfl, hcb, _⟩ := rowSlice hown
  obtain ⟨I, z, hI⟩ := heldNumber_is
  have c0 : w.cell? ⟨g, 0, none⟩ = some (.int .i64 (n : Nat)) := hR.cell 0
  have c1 : w.cell? ⟨g, 3, none⟩ = some (.slice ab m cb) := hR.cell 3
  have f0 : w.frozen? ⟨g, 0, none⟩ = false := hR.soft 0
  have f1 : w.frozen? ⟨g, 3, none⟩ = false := hR.soft 3
  have hn1 : (n : Int) ≤ 1000000 := by omega
  have HR := Lib.hid hR
  have HO := Lib.hid hown
  have HNe := Lib.hid hne
  have HI := Lib.hid hI
  clear hR hown hne hI
  go_enter Tryz.func175, Tryz.ntmps175
  go_wp2_with fail
  obtain ⟨W1, hW1⟩ : ∃ W1, W1 = w.setCell ⟨g, 0, none⟩ (.int .i64 ((n : Int) + 1)) := ⟨_, rfl⟩
  have R1 : Row W1 g 71 (bookCells (n + 1) vB vI (.slice ab m cb) vD) := by
    rw [hW1]
    have := HR.out.setCell 0 (.int .i64 ((n : Int) + 1))
    exact this
  have t1 : Touch (One g) w W1 := by rw [hW1]; exact (Touch.refl (One g) w).setCell (p := ⟨g, 0, none⟩) (fun _ => rfl) _
  have hs1 : W1.heap.size = w.heap.size := by rw [hW1]; simp [World.setCell]
  rw [← hW1]
  have k0 : W1.cell? ⟨g, 0, none⟩ = some (.int .i64 ((n : Int) + 1)) := R1.cell 0
  have k1 : W1.cell? ⟨g, 3, none⟩ = some (.slice ab m cb) := R1.cell 3
  have q1 : W1.frozen? ⟨g, 3, none⟩ = false := R1.soft 3
  have hgs := R1.lt
  have hO1 := rowTouch HO.out t1 (fun k hk e => HNe.out (by have e2 : k = g := e; subst e2; exact hk))
  have HO1 := Lib.hid hO1
  have HR1 := Lib.hid R1
  have Ht1 := Lib.hid t1
  have Hs1 := Lib.hid hs1
  clear R1 t1 hs1 hW1 c0 c1 f0 f1 hO1
  have k0a : ∀ o : Obj, (W1.alloc o).cell? ⟨g, 0, none⟩ = some (.int .i64 ((n : Int) + 1)) := fun o => (cell_old W1 o hgs).trans k0
  have k1a : ∀ o : Obj, (W1.alloc o).cell? ⟨g, 3, none⟩ = some (.slice ab m cb) := fun o => (cell_old W1 o hgs).trans k1
  go_region_law ((refine step_append_row rfl _ _ _ rfl 246 I z 3 56 Tryz.underlying57 HI.out.info HI.out.zero HI.out.size HI.out.bytes (by rw [HI.out.cells]; rfl) (by decide) _ m cs (rowTouch HO1.out (((Touch.refl No W1).drew).alloc _) (fun _ _ f => f)) rfl W1.heap.size [.slice a len cap, .slice none 0 0, .int .i64 ((n : Int) + 1)] (Row.new W1.drew _ _) rfl rfl (by intro u hu; simp only [List.mem_cons, List.not_mem_nil, or_false] at hu; rcases hu with rfl | rfl | rfl <;> rfl) (by unfold maxLen; omega) (by omega) ?_; intro a' c' w' hown' ht' hin'; have k0' : w'.cell? ⟨g, 0, none⟩ = some (.int .i64 ((n : Int) + 1)) := ht'.cell HNe.out (k0a _); have k2 : w'.cell? ⟨g, 3, none⟩ = some (.slice ab m cb) := ht'.cell HNe.out (k1a _); have q2 : w'.frozen? ⟨g, 3, none⟩ = false := (ht'.frozen (lt_of_cell (k1a _)) HNe.out 3).trans ((frozen_old W1 _ hgs).trans q1)))
  all_goals
    go_wp2
    go_end0
    have hlow : ∀ k, InBlock (.slice a' (m + 1) c') k → InBlock (.slice ab m cb) k ∨ w.heap.size ≤ k := fun k hk => (hin' k hk).imp id (fun h => by
      have h2 : (W1.alloc (Obj.cells #[.slice a len cap, .slice none 0 0, .int .i64 ((n : Int) + 1)] 246)).heap.size ≤ k := h
      rw [size_alloc] at h2
      have := Hs1.out
      omega)
    have hgw : g < w.heap.size := HR.out.lt
    have tB : Touch (One g) w' (w'.setCell ⟨g, 3, none⟩ (.slice a' (m + 1) c')) := (Touch.refl (One g) w').setCell (p := ⟨g, 3, none⟩) (fun _ => rfl) _
    refine ⟨rfl, .slice a' (m + 1) c', rowTouch hown' tB (fun k hk e => ?_), ?_, ?_, hlow⟩
    · have e2 : k = g := e
      subst e2
      rcases hlow k hk with h | h
      · exact HNe.out h
      · omega
    · have h1 := ((HR1.out.touch (((Touch.refl No W1).alloc (Obj.cells #[.slice a len cap, .slice none 0 0, .int .i64 ((n : Int) + 1)] 246)).drew) id).touch ht' HNe.out).setCell 3 (.slice a' (m + 1) c')
      exact h1
    · refine (((Ht1.out.mono (fun k _ e => Or.inl e)).then ((Touch.refl No W1).alloc (Obj.cells #[.slice a len cap, .slice none 0 0, .int .i64 ((n : Int) + 1)] 246)).drew (fun _ _ f => f.elim)).then ht' (fun k _ hk => Or.inr hk)).then tB (fun k _ e => Or.inl e)
end Go.Proofs.YtnffigfafalocaaGreatDoor
namespace Go.Proofs.YtnffigfafalocaaGreatDoor
open Go Go.RowKit
set_option linter.unusedSimpArgs false

theorem heldId_is : ∃ i z, TypeIs 239 i z 3 56 [nilSl, nilSl, .int .i64 0] := type_is (by kernel_rfl)
set_option maxRecDepth 100000 in
set_option maxHeartbeats 4000000 in
theorem keepId_any (w : World) (g n : Nat) (vB vI vN vD : Value) (a : Option Addr) (len cap m : Nat) (cs : List Value) (hR : Row w g 71 (bookCells n vB vI vN vD)) (hown : w.ownsRow 0 239 3 vD m cs) (hne : ¬ InBlock vD g) (hm : m ≤ 100000) (hn : n ≤ 1000000) :
    Calls Tryz.prog 82 #[.pointer (some ⟨g, 0, none⟩), .slice a len cap] w fun e w' => e = .returned (.tuple #[]) ∧ ∃ v', w'.ownsRow 0 239 3 v' (m + 1) (cs ++ [.slice a len cap, nilSl, .int .i64 ((n + 1 : Nat) : Int)]) ∧
      Row w' g 71 (bookCells (n + 1) vB vI vN v') ∧ Touch (fun k => k = g ∨ InBlock vD k) w w' ∧ ∀ k, InBlock v' k → InBlock vD k ∨ w.heap.size ≤ k := by
  obtain ⟨ab, cb, rfl, hcb, _⟩ := rowSlice hown
  obtain ⟨I, z, hI⟩ := heldId_is
  have c0 : w.cell? ⟨g, 0, none⟩ = some (.int .i64 (n : Nat)) := hR.cell 0
  have c1 : w.cell? ⟨g, 4, none⟩ = some (.slice ab m cb) := hR.cell 4
  have f0 : w.frozen? ⟨g, 0, none⟩ = false := hR.soft 0
  have f1 : w.frozen? ⟨g, 4, none⟩ = false := hR.soft 4
  have hn1 : (n : Int) ≤ 1000000 := by omega
  have HR := Lib.hid hR
  have HO := Lib.hid hown
  have HNe := Lib.hid hne
  have HI := Lib.hid hI
  clear hR hown hne hI
  go_enter Tryz.func82, Tryz.ntmps82
  go_wp2_with fail
  obtain ⟨W1, hW1⟩ : ∃ W1, W1 = w.setCell ⟨g, 0, none⟩ (.int .i64 ((n : Int) + 1)) := ⟨_, rfl⟩
  have R1 : Row W1 g 71 (bookCells (n + 1) vB vI vN (.slice ab m cb)) := by
    rw [hW1]
    have := HR.out.setCell 0 (.int .i64 ((n : Int) + 1))
    exact this
  have t1 : Touch (One g) w W1 := by rw [hW1]; exact (Touch.refl (One g) w).setCell (p := ⟨g, 0, none⟩) (fun _ => rfl) _
  have hs1 : W1.heap.size = w.heap.size := by rw [hW1]; simp [World.setCell]
  rw [← hW1]
  have k0 : W1.cell? ⟨g, 0, none⟩ = some (.int .i64 ((n : Int) + 1)) := R1.cell 0
  have k1 : W1.cell? ⟨g, 4, none⟩ = some (.slice ab m cb) := R1.cell 4
  have q1 : W1.frozen? ⟨g, 4, none⟩ = false := R1.soft 4
  have hgs := R1.lt
  have hO1 := rowTouch HO.out t1 (fun k hk e => HNe.out (by have e2 : k = g := e; subst e2; exact hk))
  have HO1 := Lib.hid hO1
  have HR1 := Lib.hid R1
  have Ht1 := Lib.hid t1
  have Hs1 := Lib.hid hs1
  clear R1 t1 hs1 hW1 c0 c1 f0 f1 hO1
  have k0a : ∀ o : Obj, (W1.alloc o).cell? ⟨g, 0, none⟩ = some (.int .i64 ((n : Int) + 1)) := fun o => (cell_old W1 o hgs).trans k0
  have k1a : ∀ o : Obj, (W1.alloc o).cell? ⟨g, 4, none⟩ = some (.slice ab m cb) := fun o => (cell_old W1 o hgs).trans k1
  go_region_law ((refine step_append_row rfl _ _ _ rfl 239 I z 3 56 Tryz.underlying58 HI.out.info HI.out.zero HI.out.size HI.out.bytes (by rw [HI.out.cells]; rfl) (by decide) _ m cs (rowTouch HO1.out (((Touch.refl No W1).drew).alloc _) (fun _ _ f => f)) rfl W1.heap.size [.slice a len cap, .slice none 0 0, .int .i64 ((n : Int) + 1)] (Row.new W1.drew _ _) rfl rfl (by intro u hu; simp only [List.mem_cons, List.not_mem_nil, or_false] at hu; rcases hu with rfl | rfl | rfl <;> rfl) (by unfold maxLen; omega) (by omega) ?_; intro a' c' w' hown' ht' hin'; have k0' : w'.cell? ⟨g, 0, none⟩ = some (.int .i64 ((n : Int) + 1)) := ht'.cell HNe.out (k0a _); have k2 : w'.cell? ⟨g, 4, none⟩ = some (.slice ab m cb) := ht'.cell HNe.out (k1a _); have q2 : w'.frozen? ⟨g, 4, none⟩ = false := (ht'.frozen (lt_of_cell (k1a _)) HNe.out 4).trans ((frozen_old W1 _ hgs).trans q1)))
  all_goals
    go_wp2
    go_end0
    have hlow : ∀ k, InBlock (.slice a' (m + 1) c') k → InBlock (.slice ab m cb) k ∨ w.heap.size ≤ k := fun k hk => (hin' k hk).imp id (fun h => by
      have h2 : (W1.alloc (Obj.cells #[.slice a len cap, .slice none 0 0, .int .i64 ((n : Int) + 1)] 239)).heap.size ≤ k := h
      rw [size_alloc] at h2
      have := Hs1.out
      omega)
    have hgw : g < w.heap.size := HR.out.lt
    have tB : Touch (One g) w' (w'.setCell ⟨g, 4, none⟩ (.slice a' (m + 1) c')) := (Touch.refl (One g) w').setCell (p := ⟨g, 4, none⟩) (fun _ => rfl) _
    refine ⟨rfl, .slice a' (m + 1) c', rowTouch hown' tB (fun k hk e => ?_), ?_, ?_, hlow⟩
    · have e2 : k = g := e
      subst e2
      rcases hlow k hk with h | h
      · exact HNe.out h
      · omega
    · have h1 := ((HR1.out.touch (((Touch.refl No W1).alloc (Obj.cells #[.slice a len cap, .slice none 0 0, .int .i64 ((n : Int) + 1)] 239)).drew) id).touch ht' HNe.out).setCell 4 (.slice a' (m + 1) c')
      exact h1
    · refine (((Ht1.out.mono (fun k _ e => Or.inl e)).then ((Touch.refl No W1).alloc (Obj.cells #[.slice a len cap, .slice none 0 0, .int .i64 ((n : Int) + 1)] 239)).drew (fun _ _ f => f.elim)).then ht' (fun k _ hk => Or.inr hk)).then tB (fun k _ e => Or.inl e)
end Go.Proofs.YtnffigfafalocaaGreatDoor
