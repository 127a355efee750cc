/-
  Package drydocklaw17 by its own text: lives.
-/
import Derived.Test.YtkiehoboeiengaaK45
namespace Go.Proofs.Ytkiehoboeiengaa
open Go Go.RowKit
set_option linter.unusedSimpArgs false

theorem St.rootRead {w0 wi : World} {d : Nat} {D : Dk.Disk} (h : St w0 wi d D) :
    Calls Try.prog 20 #[.pointer (some ⟨d, 0, none⟩)] wi (RootPost wi (Rt.findR D) (Rt.findE D)) := by
  obtain ⟨O, h, _⟩ := h
  exact rootRead_any wi d D O h.on
namespace Rt
def l0 : Dk.Disk := Dk.new 8
def l1 : Dk.Disk := wD l0 ⟨1, 9, 0⟩
def l2 : Dk.Disk := wD l1 ⟨2, 0, 7⟩
theorem live0 : findE l0 = 7 := by kernel_rfl
theorem live1 : wE l0 ⟨1, 9, 0⟩ = 0 := by kernel_rfl
theorem live2 : wE l1 ⟨1, 0, 0⟩ = 1 := by kernel_rfl
theorem live3 : wE l1 ⟨2, 0, 7⟩ = 0 := by kernel_rfl
theorem live4 : findE l2 = 0 := by kernel_rfl
theorem live5 : findR l2 = ⟨2, 0, 7⟩ := by kernel_rfl
theorem live2' : wD l1 ⟨1, 0, 0⟩ = l1 := by rw [wD, live2, if_neg (by decide)]
end Rt

set_option maxRecDepth 100000 in
set_option maxHeartbeats 4000000 in
theorem lives_is (w : World) : Calls Try.prog 7 #[] w fun e w' => e = .returned (.bool true) ∧ Touch No w w' := by
  have ok1 : Rt.Root.Ok ⟨1, 9, 0⟩ := ⟨by decide, by decide, by decide⟩
  have ok2 : Rt.Root.Ok ⟨1, 0, 0⟩ := ⟨by decide, by decide, by decide⟩
  have ok3 : Rt.Root.Ok ⟨2, 0, 7⟩ := ⟨by decide, by decide, by decide⟩
  go_enter Try.func7, Try.ntmps7
  go_wp2_with fail
  refine (new_k w 8 (by decide) (by decide)).mono ?_
  rintro e w1 ⟨d, rfl, h1⟩
  have s1 : St w w1 d Rt.l0 := St.made (Touch.refl _ _) h1
  clear h1
  go_wp2_with fail
  refine (s1.rootRead).mono ?_
  rw [Rt.live0]
  obtain ⟨⟨xe, xf, xb⟩, hx⟩ : ∃ r, Rt.findR Rt.l0 = r := ⟨_, rfl⟩
  rw [hx]
  clear hx
  rintro e w2 ⟨rfl, t2⟩
  have s2 := (s1.no t2).alloc (.cells #[.int .u32 (xe : Nat), .int .u32 (xf : Nat), .int .u32 (xb : Nat)] 33)
  clear s1 t2
  go_wp2_with fail
  refine (s2.rootWrite ⟨1, 9, 0⟩ ok1).mono ?_
  rw [Rt.live1]
  rintro e w3 ⟨rfl, s3⟩
  have s3 : St w w3 d Rt.l1 := s3
  clear s2
  go_wp2_with fail
  refine (s3.rootWrite ⟨1, 0, 0⟩ ok2).mono ?_
  rw [Rt.live2, Rt.live2']
  rintro e w4 ⟨rfl, s4⟩
  clear s3
  go_wp2_with fail
  refine (s4.rootWrite ⟨2, 0, 7⟩ ok3).mono ?_
  rw [Rt.live3]
  rintro e w5 ⟨rfl, s5⟩
  have s5 : St w w5 d Rt.l2 := s5
  clear s4
  go_wp2_with fail
  refine (s5.rootRead).mono ?_
  rw [Rt.live4, Rt.live5]
  rintro e w6 ⟨rfl, t6⟩
  have t6' := s5.end.trans t6
  have T6 := Lib.hid t6'
  clear s5 t6 t6'
  go_wp2_with fail
  refine (rootRead_nil _).mono ?_
  rintro e w7 ⟨rfl, t7⟩
  have hrow := (Row.new w6 33 #[.int .u32 2, .int .u32 0, .int .u32 7]).touch t7 id
  have q0 : w7.cell? ⟨w6.heap.size, 0, none⟩ = some (.int .u32 2) := hrow.cell 0
  have q1 : w7.cell? ⟨w6.heap.size, 1, none⟩ = some (.int .u32 0) := hrow.cell 1
  have q2 : w7.cell? ⟨w6.heap.size, 2, none⟩ = some (.int .u32 7) := hrow.cell 2
  have hlt : w6.heap.size < w7.heap.size := lt_of_cell q0
  have T7 := Lib.hid ((T6.out.alloc _).trans t7)
  clear hrow t7
  go_wp2
  go_ret
  exact ⟨rfl, T7.out.alloc _⟩
end Go.Proofs.Ytkiehoboeiengaa
