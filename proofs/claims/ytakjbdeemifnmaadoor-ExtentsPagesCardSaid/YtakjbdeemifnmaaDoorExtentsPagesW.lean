/-
  Package drydocklaw16 by its own text: the walk of ExtentsPages.
-/
import Derived.Test.YtakjbdeemifnmaaDoorExTop
namespace Go.Proofs.YtakjbdeemifnmaaDoor
open Go Go.RowKit
set_option linter.unusedSimpArgs false

theorem pages_law (a b : Nat) : (Ex.pages a + Ex.pages b ≤ Ex.pages (a + b) + 1 ∧ Ex.pages (a + b) ≤ Ex.pages a + Ex.pages b) ∧ ((a % 240 = 0 ∧ Ex.pages (a + 1) = Ex.pages a + 1) ∨ (a % 240 ≠ 0 ∧ Ex.pages (a + 1) = Ex.pages a)) := by
  unfold Ex.pages
  omega
set_option maxRecDepth 100000 in
set_option maxHeartbeats 8000000 in
theorem extentsPages_walk (w : World) (a b : Nat) (ha : a < 65536) (hb : b < 65536) :
    Calls Tryd.prog 4 #[.int .u16 (a : Nat), .int .u16 (b : Nat)] w (LawPost w) := by
  obtain ⟨⟨h1, h2⟩, h3⟩ := pages_law a b
  obtain ⟨X, hX⟩ : ∃ X, Ex.pages a = X := ⟨_, rfl⟩
  obtain ⟨Y, hY⟩ : ∃ Y, Ex.pages b = Y := ⟨_, rfl⟩
  obtain ⟨Z, hZ⟩ : ∃ Z, Ex.pages (a + b) = Z := ⟨_, rfl⟩
  obtain ⟨M, hM⟩ : ∃ M, Ex.pages (a + 1) = M := ⟨_, rfl⟩
  rw [hX, hY, hZ] at h1
  rw [hX, hY, hZ] at h2
  rw [hX, hM] at h3
  have hXl : X ≤ 300 := by have := Ex.pages_le a; omega
  have hYl : Y ≤ 300 := by have := Ex.pages_le b; omega
  have hZl : Z ≤ 600 := by omega
  have hMl : M ≤ 301 := by omega
  have C1 := fun w => Lib.hid (exPages_at w (a : Nat) X (by omega) hX)
  have C2 := fun w => Lib.hid (exPages_at w (b : Nat) Y (by omega) hY)
  have C3 := fun w => Lib.hid (exPages_at w ((a : Nat) + (b : Nat)) Z (by omega) (by rw [show ((a : Int) + (b : Int)).toNat = a + b by omega]; exact hZ))
  have C4 := fun w => Lib.hid (exPages_at w ((a : Nat) + 1) M (by omega) (by rw [show ((a : Int) + 1).toNat = a + 1 by omega]; exact hM))
  have C5 := fun w => Lib.hid (exPages_at w (-(a : Nat)) 0 (by omega) (by rw [show (-(a : Int)).toNat = 0 by omega]; rfl))
  have e1 : decide ((Z : Int) ≤ X + Y) = true := by simp; omega
  have e2 : decide ((X : Int) + Y - 1 ≤ Z) = true := by simp; omega
  clear hX hY hZ hM
  rcases h3 with ⟨h3, h4⟩ | ⟨h3, h4⟩
  · have f1 : ((M : Int) == (X : Int)) = false := by simp; omega
    have f2 : ((M : Int) == (X : Int) + 1) = true := by simp; omega
    have f3 : ((a : Int) % 240 == 0) = true := by simp; omega
    clear h3 h4 h1 h2
    go_enter Tryd.func4, Tryd.ntmps4
    go_wp2_with fail
    refine (C1 _).out.mono ?_
    rintro e w1 ⟨rfl, rfl⟩
    go_wp2_with fail
    refine (C2 _).out.mono ?_
    rintro e w1 ⟨rfl, rfl⟩
    go_wp2_with fail
    refine (C3 _).out.mono ?_
    rintro e w1 ⟨rfl, rfl⟩
    go_wp2_with fail
    refine (C4 _).out.mono ?_
    rintro e w1 ⟨rfl, rfl⟩
    go_wp2_with fail
    refine (C5 _).out.mono ?_
    rintro e w1 ⟨rfl, rfl⟩
    go_wp2_with fail
    refine (lives_is _).mono ?_
    rintro e w1 ⟨rfl, t1⟩
    go_wp2
    go_ret
    exact ⟨rfl, t1⟩
  · have f1 : ((M : Int) == (X : Int)) = true := by simp; omega
    have f2 : ((M : Int) == (X : Int) + 1) = false := by simp; omega
    have f3 : ((a : Int) % 240 == 0) = false := by simp; omega
    clear h3 h4 h1 h2
    go_enter Tryd.func4, Tryd.ntmps4
    go_wp2_with fail
    refine (C1 _).out.mono ?_
    rintro e w1 ⟨rfl, rfl⟩
    go_wp2_with fail
    refine (C2 _).out.mono ?_
    rintro e w1 ⟨rfl, rfl⟩
    go_wp2_with fail
    refine (C3 _).out.mono ?_
    rintro e w1 ⟨rfl, rfl⟩
    go_wp2_with fail
    refine (C4 _).out.mono ?_
    rintro e w1 ⟨rfl, rfl⟩
    go_wp2_with fail
    refine (C5 _).out.mono ?_
    rintro e w1 ⟨rfl, rfl⟩
    go_wp2_with fail
    refine (lives_is _).mono ?_
    rintro e w1 ⟨rfl, t1⟩
    go_wp2
    go_ret
    exact ⟨rfl, t1⟩
end Go.Proofs.YtakjbdeemifnmaaDoor
