/-
  Package drydocklaw01 by its own text: the walk of NumsUnlike.
-/
import Derived.Test.YtdafoaehldnjmaaAlive01
import Derived.Deep.RegionHeld3
namespace Go.Proofs.Ytdafoaehldnjmaa
open Go Go.RowKit
set_option linter.unusedSimpArgs false

theorem four_last {m n k : Nat} (hm : m < 4294967296) (hn : n < 4294967296) (hk : k ≤ 3) (h : ∀ j, k < j → j ≤ 3 → (Rt.four m).getD j 0 = (Rt.four n).getD j 0) (hx : k = 0 ∨ (Rt.four m).getD k 0 ≠ (Rt.four n).getD k 0) :
    (m < n ↔ (Rt.four m).getD k 0 < (Rt.four n).getD k 0) ∧ (m = n ↔ (Rt.four m).getD k 0 = (Rt.four n).getD k 0) := by
  have e0 : ∀ q, (Rt.four q).getD 0 0 = q % 256 := fun q => rfl
  have e1 : ∀ q, (Rt.four q).getD 1 0 = q / 256 % 256 := fun q => rfl
  have e2 : ∀ q, (Rt.four q).getD 2 0 = q / 65536 % 256 := fun q => rfl
  have e3 : ∀ q, (Rt.four q).getD 3 0 = q / 16777216 % 256 := fun q => rfl
  have h1 := h 1
  have h2 := h 2
  have h3 := h 3
  rw [e1, e1] at h1
  rw [e2, e2] at h2
  rw [e3, e3] at h3
  have hk' : k = 0 ∨ k = 1 ∨ k = 2 ∨ k = 3 := by omega
  rcases hk' with rfl | rfl | rfl | rfl
  · rw [e0, e0]; omega
  · rw [e1, e1] at hx ⊢; omega
  · rw [e2, e2] at hx ⊢; omega
  · rw [e3, e3] at hx ⊢; omega

theorem touch_rd {w w' : World} {g o : Nat} {v : Value} (t : Touch No w w') (h : w.cell? ⟨g, o, none⟩ = some v) : w'.cell? ⟨g, o, none⟩ = some v := t.cell id h

set_option maxRecDepth 100000 in
set_option maxHeartbeats 8000000 in
theorem numsUnlike_walk (w : World) (m n : Nat) (hm : m < 4294967296) (hn : n < 4294967296) :
    Calls Try.prog 5 #[.int .u32 (m : Nat), .int .u32 (n : Nat)] w (LawPost w) := by
  go_enter Try.func5, Try.ntmps5
  go_wp2_with fail
  refine (putFour_any _ none 0 0 [] rfl (Rd.nil _ _) m hm (by decide) 4 rfl).mono ?_
  rintro e w1 ⟨a1, c1, rfl, o1, t1⟩
  have HT1 := Lib.hid t1
  have HR1 := Lib.hid (show Rd w1 a1 (nums .u8 (Rt.four m)) from o1.rd)
  clear t1 o1
  go_wp2_with fail
  refine (putFour_any _ none 0 0 [] rfl (Rd.nil _ _) n hn (by decide) 4 rfl).mono ?_
  rintro e w2 ⟨a2, c2, rfl, o2, t2⟩
  have HT2 := Lib.hid (HT1.out.trans t2)
  have HRa := Lib.hid (HR1.out.no t2)
  have HRb := Lib.hid (show Rd w2 a2 (nums .u8 (Rt.four n)) from o2.rd)
  clear t2 o2 HR1 HT1
  go_wp2
  go_loopg [7] 3 (fun g s7 wr => g ≤ 3 ∧ s7 = .int .i64 ((g : Nat) : Int) ∧ Hid (∀ j, g < j → j ≤ 3 → (Rt.four m).getD j 0 = (Rt.four n).getD j 0) ∧ Hid (Touch No w2 wr))
  case atStart => exact ⟨Nat.le_refl _, rfl, fun j h1 h2 => absurd h1 (by omega), Touch.refl _ _⟩
  case round =>
    obtain ⟨hg, rfl, E, T⟩ := hrel
    obtain ⟨ga, oa, rfl, ha⟩ := (HRa.out.no T.out).num (i := gk) (by rw [Rt.four_length]; omega)
    obtain ⟨gb, ob, rfl, hb⟩ := (HRb.out.no T.out).num (i := gk) (by rw [Rt.four_length]; omega)
    have Fin := Lib.hid (four_last hm hn hg E.out)
    obtain ⟨x, hx⟩ : ∃ x, (Rt.four m).getD gk 0 = x := ⟨_, rfl⟩
    obtain ⟨y, hy⟩ : ∃ y, (Rt.four n).getD gk 0 = y := ⟨_, rfl⟩
    rw [hx] at ha Fin
    rw [hy] at hb Fin
    have HX := Lib.hid (hx.trans (show x = x from rfl))
    have HY := Lib.hid hy
    clear hx hy
    have Keep : Hid (∀ wx, Touch No wr wx → wx.cell? ⟨ga, oa + gk, none⟩ = some (.int .u8 (x : Nat)) ∧ wx.cell? ⟨gb, ob + gk, none⟩ = some (.int .u8 (y : Nat))) := fun wx t => ⟨touch_rd t ha, touch_rd t hb⟩
    have last : Hid (gk = 0 ∨ x ≠ y) → ∀ wx, Touch No wr wx → True := fun _ _ _ => trivial
    clear last
    have hg4 : (gk : Int) < 4 := by omega
    have hg0 : (0 : Int) ≤ (gk : Int) := by omega
    by_cases hgo : 0 < gk ∧ x = y
    · obtain ⟨hpos, rfl⟩ := hgo
      obtain ⟨g, rfl⟩ : ∃ g, gk = g + 1 := ⟨gk - 1, by omega⟩
      have hp : decide ((0 : Int) < ((g + 1 : Nat) : Int)) = true := decide_eq_true (by omega)
      have hp2 : (0 : Int) < ((g + 1 : Nat) : Int) := by omega
      have HE : Hid (∀ j, g < j → j ≤ 3 → (Rt.four m).getD j 0 = (Rt.four n).getD j 0) := fun j h1 h2 => by
        by_cases hj : j = g + 1
        · subst hj; rw [HX.out, HY.out]
        · exact E.out j (by omega) h2
      go_wp2_with fail
      go_quiet (fail)
      go_wp2
      go_roundg g
      case measure => omega
      case rel => exact ⟨by omega, by go_num, HE.out, T.out.drewN _⟩
    · have Last := Fin.out (by omega)
      have hcmp : (m < n ∧ x < y) ∨ (m = n ∧ x = y) ∨ (n < m ∧ y < x) := by omega
      have hparts : (gk = 0) ∨ (0 < gk ∧ x ≠ y) := by omega
      clear Fin Last hgo HX HY E
      rcases hparts with hz | ⟨hpos, hxy⟩
      · have hp : decide ((0 : Int) < (gk : Int)) = false := decide_eq_false (by omega)
        have hp' : decide (0 < gk) = false := decide_eq_false (by omega)
        have HZ := Lib.hid hz
        clear hz
        go_wp2_with fail
        go_quiet (fail)
        go_wp2_with fail
        all_goals
          obtain ⟨W, hW⟩ : ∃ W, W = wr.drewN nq := ⟨_, rfl⟩
          have hS : W.cell? ⟨ga, oa + gk, none⟩ = some (.int .u8 (x : Nat)) ∧ W.cell? ⟨gb, ob + gk, none⟩ = some (.int .u8 (y : Nat)) := by rw [hW]; exact Keep.out _ ((Touch.refl _ _).drewN _)
          have hK : ∀ w', Touch No W w' → w'.cell? ⟨ga, oa + gk, none⟩ = some (.int .u8 (x : Nat)) ∧ w'.cell? ⟨gb, ob + gk, none⟩ = some (.int .u8 (y : Nat)) := fun w' t => Keep.out _ (by rw [hW] at t; exact ((Touch.refl _ _).drewN nq).trans t)
          have HK := Lib.hid hK
          have HT := Lib.hid (show Touch No w W by rw [hW]; exact (HT2.out.trans T.out).drewN nq)
          rw [← hW]
          clear hW hK Keep T HT2 ha hb
          rcases hcmp with ⟨h1, h2⟩ | ⟨rfl, rfl⟩ | ⟨h1, h2⟩
          · have d1 : decide (m < n) = true := decide_eq_true h1
            have d2 : decide (x < y) = true := decide_eq_true h2
            have d3 : ((m : Int) == (n : Int)) = false := by simp; omega
            have d4 : ((x : Int) == (y : Int)) = false := by simp; omega
            clear h1 h2
            go_region_held3 (fun w' => w'.cell? ⟨ga, oa + gk, none⟩ = some (.int .u8 (x : Nat)) ∧ w'.cell? ⟨gb, ob + gk, none⟩ = some (.int .u8 (y : Nat))) (first | exact hS | exact HK.out _ ((Touch.refl _ _).drew) | exact HK.out _ (((Touch.refl _ _).drew).trans t9)) ((go_at_call 7; refine (alive_is _).mono ?_; rintro e w9 ⟨rfl, t9⟩))
            all_goals go_wp2
            all_goals go_ret
            all_goals exact ⟨rfl, HT.out.drew.trans t9⟩
          · go_region_held3 (fun w' => w'.cell? ⟨ga, oa + gk, none⟩ = some (.int .u8 (x : Nat)) ∧ w'.cell? ⟨gb, ob + gk, none⟩ = some (.int .u8 (x : Nat))) (first | exact hS | exact HK.out _ ((Touch.refl _ _).drew) | exact HK.out _ (((Touch.refl _ _).drew).trans t9)) ((go_at_call 7; refine (alive_is _).mono ?_; rintro e w9 ⟨rfl, t9⟩))
            all_goals go_wp2
            all_goals go_ret
            all_goals exact ⟨rfl, HT.out.drew.trans t9⟩
          · have d1 : decide (m < n) = false := decide_eq_false (by omega)
            have d2 : decide (x < y) = false := decide_eq_false (by omega)
            have d3 : ((m : Int) == (n : Int)) = false := by simp; omega
            have d4 : ((x : Int) == (y : Int)) = false := by simp; omega
            clear h1 h2
            go_region_held3 (fun w' => w'.cell? ⟨ga, oa + gk, none⟩ = some (.int .u8 (x : Nat)) ∧ w'.cell? ⟨gb, ob + gk, none⟩ = some (.int .u8 (y : Nat))) (first | exact hS | exact HK.out _ ((Touch.refl _ _).drew) | exact HK.out _ (((Touch.refl _ _).drew).trans t9)) ((go_at_call 7; refine (alive_is _).mono ?_; rintro e w9 ⟨rfl, t9⟩))
            all_goals go_wp2
            all_goals go_ret
            all_goals exact ⟨rfl, HT.out.drew.trans t9⟩
      · have hp : decide ((0 : Int) < (gk : Int)) = true := decide_eq_true (by omega)
        have hp2 : (0 : Int) < (gk : Int) := by omega
        have hq : ((x : Int) == (y : Int)) = false := by simp; omega
        go_wp2_with fail
        go_quiet (fail)
        go_wp2_with fail
        clear hq hp hp2
        all_goals
          obtain ⟨W, hW⟩ : ∃ W, W = wr.drewN nq := ⟨_, rfl⟩
          have hS : W.cell? ⟨ga, oa + gk, none⟩ = some (.int .u8 (x : Nat)) ∧ W.cell? ⟨gb, ob + gk, none⟩ = some (.int .u8 (y : Nat)) := by rw [hW]; exact Keep.out _ ((Touch.refl _ _).drewN _)
          have hK : ∀ w', Touch No W w' → w'.cell? ⟨ga, oa + gk, none⟩ = some (.int .u8 (x : Nat)) ∧ w'.cell? ⟨gb, ob + gk, none⟩ = some (.int .u8 (y : Nat)) := fun w' t => Keep.out _ (by rw [hW] at t; exact ((Touch.refl _ _).drewN nq).trans t)
          have HK := Lib.hid hK
          have HT := Lib.hid (show Touch No w W by rw [hW]; exact (HT2.out.trans T.out).drewN nq)
          rw [← hW]
          clear hW hK Keep T HT2 ha hb
          rcases hcmp with ⟨h1, h2⟩ | ⟨rfl, rfl⟩ | ⟨h1, h2⟩
          · have d1 : decide (m < n) = true := decide_eq_true h1
            have d2 : decide (x < y) = true := decide_eq_true h2
            have d3 : ((m : Int) == (n : Int)) = false := by simp; omega
            have d4 : ((x : Int) == (y : Int)) = false := by simp; omega
            clear h1 h2
            go_region_held3 (fun w' => w'.cell? ⟨ga, oa + gk, none⟩ = some (.int .u8 (x : Nat)) ∧ w'.cell? ⟨gb, ob + gk, none⟩ = some (.int .u8 (y : Nat))) (first | exact hS | exact HK.out _ ((Touch.refl _ _).drew) | exact HK.out _ (((Touch.refl _ _).drew).trans t9)) ((go_at_call 7; refine (alive_is _).mono ?_; rintro e w9 ⟨rfl, t9⟩))
            all_goals go_wp2
            all_goals go_ret
            all_goals exact ⟨rfl, HT.out.drew.trans t9⟩
          · go_region_held3 (fun w' => w'.cell? ⟨ga, oa + gk, none⟩ = some (.int .u8 (x : Nat)) ∧ w'.cell? ⟨gb, ob + gk, none⟩ = some (.int .u8 (x : Nat))) (first | exact hS | exact HK.out _ ((Touch.refl _ _).drew) | exact HK.out _ (((Touch.refl _ _).drew).trans t9)) ((go_at_call 7; refine (alive_is _).mono ?_; rintro e w9 ⟨rfl, t9⟩))
            all_goals go_wp2
            all_goals go_ret
            all_goals exact ⟨rfl, HT.out.drew.trans t9⟩
          · have d1 : decide (m < n) = false := decide_eq_false (by omega)
            have d2 : decide (x < y) = false := decide_eq_false (by omega)
            have d3 : ((m : Int) == (n : Int)) = false := by simp; omega
            have d4 : ((x : Int) == (y : Int)) = false := by simp; omega
            clear h1 h2
            go_region_held3 (fun w' => w'.cell? ⟨ga, oa + gk, none⟩ = some (.int .u8 (x : Nat)) ∧ w'.cell? ⟨gb, ob + gk, none⟩ = some (.int .u8 (y : Nat))) (first | exact hS | exact HK.out _ ((Touch.refl _ _).drew) | exact HK.out _ (((Touch.refl _ _).drew).trans t9)) ((go_at_call 7; refine (alive_is _).mono ?_; rintro e w9 ⟨rfl, t9⟩))
            all_goals go_wp2
            all_goals go_ret
            all_goals exact ⟨rfl, HT.out.drew.trans t9⟩
end Go.Proofs.Ytdafoaehldnjmaa
