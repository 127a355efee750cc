/-
  Package drydocklaw17 by its own text: the walk of RootsSwap.
-/
import Derived.Test.YtponmdacphapnaaRtD
import Derived.Test.YtponmdacphapnaaFam
namespace Go.Proofs.Ytponmdacphapnaa
open Go Go.RowKit
set_option linter.unusedSimpArgs false

set_option maxRecDepth 100000 in
set_option maxHeartbeats 8000000 in
theorem rootsSwap_walk (w : World) (ae af ab be bf bb : Nat) (ha : Rt.Root.Ok ⟨ae, af, ab⟩) (hb : Rt.Root.Ok ⟨be, bf, bb⟩) :
    Calls Try.prog 4 #[.agg #[.int .u32 (ae : Nat), .int .u32 (af : Nat), .int .u32 (ab : Nat)], .agg #[.int .u32 (be : Nat), .int .u32 (bf : Nat), .int .u32 (bb : Nat)]] w (LawPost w) := by
  have Ha := Lib.hid ha
  have Hb := Lib.hid hb
  clear ha hb
  go_enter Try.func4, Try.ntmps4
  by_cases he : ae = be
  · subst he
    go_wp2_with fail
    refine (lives_is _).mono ?_
    rintro e w1 ⟨rfl, t1⟩
    go_wp2
    go_ret
    exact ⟨rfl, (((Touch.refl No w).alloc _).alloc _).trans t1⟩
  have hne : ((ae : Int) == (be : Nat)) = false := by simp; omega
  have Hne := Lib.hid he
  clear he
  go_wp2_with fail
  have F0 := ((Fam.nil w w (Touch.refl No w)).lay 24 #[.int .u32 (ae : Nat), .int .u32 (af : Nat), .int .u32 (ab : Nat)]).lay 24 #[.int .u32 (be : Nat), .int .u32 (bf : Nat), .int .u32 (bb : Nat)]
  rw [size_alloc] at F0
  refine (F0.new 8 (by decide) (by decide)).mono ?_
  clear F0
  rintro e w1 ⟨d, rfl, F1⟩
  obtain ⟨B, hB⟩ : ∃ B, B = w.heap.size := ⟨_, rfl⟩
  rw [← hB] at F1 ⊢
  have hwB : w.heap.size ≤ B := by omega
  clear hB
  go_wp2_with fail
  refine (F1.new 8 (by decide) (by decide)).mono ?_
  clear F1
  rintro e w2 ⟨c, rfl, F2⟩
  have F2 : Fm w w2 [(d, Dk.new 8), (c, Dk.new 8)] [(B + 1, 24, [.int .u32 (be : Nat), .int .u32 (bf : Nat), .int .u32 (bb : Nat)]), (B, 24, [.int .u32 (ae : Nat), .int .u32 (af : Nat), .int .u32 (ab : Nat)])] := F2
  obtain ⟨k0, k1, k2, hl, _⟩ := F2.three 1 rfl
  go_wp2_with fail
  refine (rootPut_any w2 ⟨ae, af, ab⟩ Ha.out).mono ?_
  rintro e w3 ⟨a3, c3, rfl, o3, t3⟩
  have O3 := Lib.hid o3.rd
  have F3 := F2.no t3
  clear o3 t3 F2 k0 k1 k2 hl
  go_wp2_with fail
  refine (F3.put 0 rfl 0 a3 64 c3 (Rt.put ⟨ae, af, ab⟩) (by decide) (Rt.put_length _) (Nat.le_refl _) (Rt.put_lt _) O3.out (by decide)).mono ?_
  clear F3 O3
  rintro e w4 ⟨rfl, F4⟩
  have F4 : Fm w w4 [(d, Rt.sw0 ⟨ae, af, ab⟩), (c, Dk.new 8)] [(B + 1, 24, [.int .u32 (be : Nat), .int .u32 (bf : Nat), .int .u32 (bb : Nat)]), (B, 24, [.int .u32 (ae : Nat), .int .u32 (af : Nat), .int .u32 (ab : Nat)])] := F4
  go_wp2_with fail
  refine ((F4.st 0 rfl).rootRead).mono ?_
  rw [(Rt.sw0_find Ha.out).1, (Rt.sw0_find Ha.out).2]
  rintro e w5 ⟨rfl, t5⟩
  have F5 := F4.no t5
  clear F4 t5
  obtain ⟨k0, k1, k2, hl, _⟩ := F5.three 1 rfl
  obtain ⟨_, _, _, hl1, _⟩ := F5.three 0 rfl
  have HF6 := Lib.hid (F5.lay 24 #[.int .u32 (ae : Nat), .int .u32 (af : Nat), .int .u32 (ab : Nat)])
  clear F5
  have hBX : B < w5.heap.size := hl
  go_wp2_with fail
  refine (rootPut_any _ ⟨ae, af, ab⟩ Ha.out).mono ?_
  rintro e w6 ⟨a6, c6, rfl, o6, t6⟩
  have O6 := Lib.hid o6.rd
  obtain ⟨X, hX⟩ : ∃ X, X = w5.heap.size := ⟨_, rfl⟩
  have F6 : Fm w w6 [(d, Rt.sw0 ⟨ae, af, ab⟩), (c, Dk.new 8)] [(X, 24, [.int .u32 (ae : Nat), .int .u32 (af : Nat), .int .u32 (ab : Nat)]), (B + 1, 24, [.int .u32 (be : Nat), .int .u32 (bf : Nat), .int .u32 (bb : Nat)]), (B, 24, [.int .u32 (ae : Nat), .int .u32 (af : Nat), .int .u32 (ab : Nat)])] := by
    have := HF6.out.no t6
    rw [← hX] at this; exact this
  rw [← hX]
  have hXB : B + 1 < X := by omega
  clear o6 t6 HF6 hX k0 k1 k2 hl hl1 hBX
  go_wp2_with fail
  refine (F6.put 1 rfl 1 a6 64 c6 (Rt.put ⟨ae, af, ab⟩) (by decide) (Rt.put_length _) (Nat.le_refl _) (Rt.put_lt _) O6.out (by decide)).mono ?_
  clear F6 O6
  rintro e w7 ⟨rfl, F7⟩
  have F7 : Fm w w7 [(d, Rt.sw0 ⟨ae, af, ab⟩), (c, Rt.sw1 ⟨ae, af, ab⟩)] [(X, 24, [.int .u32 (ae : Nat), .int .u32 (af : Nat), .int .u32 (ab : Nat)]), (B + 1, 24, [.int .u32 (be : Nat), .int .u32 (bf : Nat), .int .u32 (bb : Nat)]), (B, 24, [.int .u32 (ae : Nat), .int .u32 (af : Nat), .int .u32 (ab : Nat)])] := F7
  go_wp2_with fail
  refine ((F7.st 1 rfl).rootRead).mono ?_
  rw [(Rt.sw1_find Ha.out).1, (Rt.sw1_find Ha.out).2]
  rintro e w8 ⟨rfl, t8⟩
  have F8 := F7.no t8
  clear F7 t8
  obtain ⟨k0, k1, k2, hl, _⟩ := F8.three 2 rfl
  obtain ⟨b0, b1, b2, hl1, _⟩ := F8.three 1 rfl
  obtain ⟨_, _, _, hlX, _⟩ := F8.three 0 rfl
  have HF9 := Lib.hid (F8.lay 24 #[.int .u32 (ae : Nat), .int .u32 (af : Nat), .int .u32 (ab : Nat)])
  clear F8
  go_wp2_with fail
  refine (rootPut_any _ ⟨be, bf, bb⟩ Hb.out).mono ?_
  rintro e w9 ⟨a9, c9, rfl, o9, t9⟩
  have O9 := Lib.hid o9.rd
  obtain ⟨Y, hY⟩ : ∃ Y, Y = w8.heap.size := ⟨_, rfl⟩
  have F9 : Fm w w9 [(d, Rt.sw0 ⟨ae, af, ab⟩), (c, Rt.sw1 ⟨ae, af, ab⟩)] [(Y, 24, [.int .u32 (ae : Nat), .int .u32 (af : Nat), .int .u32 (ab : Nat)]), (X, 24, [.int .u32 (ae : Nat), .int .u32 (af : Nat), .int .u32 (ab : Nat)]), (B + 1, 24, [.int .u32 (be : Nat), .int .u32 (bf : Nat), .int .u32 (bb : Nat)]), (B, 24, [.int .u32 (ae : Nat), .int .u32 (af : Nat), .int .u32 (ab : Nat)])] := by
    have := HF9.out.no t9
    rw [← hY] at this; exact this
  rw [← hY]
  have hYX : X < Y := by omega
  clear o9 t9 HF9 hY k0 k1 k2 b0 b1 b2 hl hl1 hlX
  go_wp2_with fail
  refine (F9.put 0 rfl 1 a9 64 c9 (Rt.put ⟨be, bf, bb⟩) (Nat.lt_of_lt_of_le (by decide) (Nat.le_refl 8)) (Rt.put_length _) (Nat.le_refl _) (Rt.put_lt _) O9.out (show 1 ≤ 1000000 by decide)).mono ?_
  clear F9 O9
  rintro e w10 ⟨rfl, F10⟩
  have F10 : Fm w w10 [(d, Dk.write (Rt.sw0 ⟨ae, af, ab⟩) 1 (Rt.put ⟨be, bf, bb⟩)), (c, Rt.sw1 ⟨ae, af, ab⟩)] [(Y, 24, [.int .u32 (ae : Nat), .int .u32 (af : Nat), .int .u32 (ab : Nat)]), (X, 24, [.int .u32 (ae : Nat), .int .u32 (af : Nat), .int .u32 (ab : Nat)]), (B + 1, 24, [.int .u32 (be : Nat), .int .u32 (bf : Nat), .int .u32 (bb : Nat)]), (B, 24, [.int .u32 (ae : Nat), .int .u32 (af : Nat), .int .u32 (ab : Nat)])] := F10
  obtain ⟨b0, b1, b2, hl1, _⟩ := F10.three 2 rfl
  go_wp2_with fail
  refine (rootPut_any w10 ⟨be, bf, bb⟩ Hb.out).mono ?_
  rintro e w11 ⟨a11, c11, rfl, o11, t11⟩
  have O11 := Lib.hid o11.rd
  have F11 := F10.no t11
  clear o11 t11 F10 b0 b1 b2 hl1
  go_wp2_with fail
  refine (F11.put 1 rfl 0 a11 64 c11 (Rt.put ⟨be, bf, bb⟩) (Nat.lt_of_lt_of_le (by decide) (Nat.le_refl 8)) (Rt.put_length _) (Nat.le_refl _) (Rt.put_lt _) O11.out (show 1 ≤ 1000000 by decide)).mono ?_
  clear F11 O11
  rintro e w12 ⟨rfl, F12⟩
  have F12 : Fm w w12 [(d, Dk.write (Rt.sw0 ⟨ae, af, ab⟩) 1 (Rt.put ⟨be, bf, bb⟩)), (c, Dk.write (Rt.sw1 ⟨ae, af, ab⟩) 0 (Rt.put ⟨be, bf, bb⟩))] [(Y, 24, [.int .u32 (ae : Nat), .int .u32 (af : Nat), .int .u32 (ab : Nat)]), (X, 24, [.int .u32 (ae : Nat), .int .u32 (af : Nat), .int .u32 (ab : Nat)]), (B + 1, 24, [.int .u32 (be : Nat), .int .u32 (bf : Nat), .int .u32 (bb : Nat)]), (B, 24, [.int .u32 (ae : Nat), .int .u32 (af : Nat), .int .u32 (ab : Nat)])] := F12
  obtain ⟨⟨ne, nf, nb⟩, hN⟩ : ∃ N : Rt.Root, N = if ae < be then ⟨be, bf, bb⟩ else ⟨ae, af, ab⟩ := ⟨_, rfl⟩
  have r1 := Rt.sw01_find Ha.out Hb.out
  have r2 := Rt.sw10_find Ha.out Hb.out Hne.out
  dsimp only at r1 r2
  rw [← hN] at r1 r2
  have R1 := Lib.hid r1
  have R2 := Lib.hid r2
  have HN := Lib.hid hN
  clear r1 r2 hN
  go_wp2_with fail
  refine ((F12.st 0 rfl).rootRead).mono ?_
  rw [R1.out.1, R1.out.2]
  rintro e w13 ⟨rfl, t13⟩
  have F13 := F12.no t13
  clear F12 t13
  obtain ⟨x0, x1, x2, hlX, fX⟩ := F13.three 1 rfl
  have fx0 := fX 0
  have fx1 := fX 1
  have fx2 := fX 2
  have HF14 := Lib.hid (F13.store3 1 (.int .u32 (ne : Nat)) (.int .u32 (nf : Nat)) (.int .u32 (nb : Nat)) rfl (by omega) [(Y, 24, [.int .u32 (ae : Nat), .int .u32 (af : Nat), .int .u32 (ab : Nat)]), (B + 1, 24, [.int .u32 (be : Nat), .int .u32 (bf : Nat), .int .u32 (bb : Nat)]), (B, 24, [.int .u32 (ae : Nat), .int .u32 (af : Nat), .int .u32 (ab : Nat)])] (by intro r hr; simp only [List.mem_cons, List.not_mem_nil, or_false] at hr; rcases hr with rfl | rfl | rfl <;> exact ⟨by simp, by dsimp only; omega⟩))
  clear F13 fX
  go_wp2_with fail
  refine ((HF14.out.st 1 rfl).rootRead).mono ?_
  rw [R2.out.1, R2.out.2]
  clear x0 x1 x2 hlX fx0 fx1 fx2 R1 R2
  rintro e w14 ⟨rfl, t14⟩
  have F14 := HF14.out.no t14
  clear HF14 t14
  obtain ⟨x0, x1, x2, hlX, _⟩ := F14.three 0 rfl
  obtain ⟨y0, y1, y2, hlY, fY⟩ := F14.three 1 rfl
  obtain ⟨b0, b1, b2, hl1, _⟩ := F14.three 2 rfl
  obtain ⟨k0, k1, k2, hl, _⟩ := F14.three 3 rfl
  have fy0 := fY 0
  have fy1 := fY 1
  have fy2 := fY 2
  have e1 : ¬ B = Y := by omega
  have e2 : ¬ B + 1 = Y := by omega
  have e3 : ¬ X = Y := by omega
  have e4 : ¬ Y = B := by omega
  have e5 : ¬ Y = B + 1 := by omega
  have e6 : ¬ Y = X := by omega
  have T14 := Lib.hid F14.end
  clear F14 fY
  have HwY : Hid (w.heap.size ≤ Y) := by show _ ≤ _; omega
  have hw14 : Hid (w.heap.size ≤ w14.heap.size) := T14.out.size
  by_cases hlt : ae < be
  · have hN := HN.out
    rw [if_pos hlt] at hN
    injection hN with h1 h2 h3
    subst h1 h2 h3
    have hlt' : (ae : Int) < (ne : Nat) := by omega
    clear HN
    go_wp2_with fail
    refine (lives_is _).mono ?_
    rintro e w15 ⟨rfl, t15⟩
    have T15 := Lib.hid (Touch.trans (by
      repeat' (first
        | exact T14.out
        | (refine Touch.alloc ?_ _)
        | (refine Touch.setCell ?_ (fun h => absurd h (Nat.not_lt.2 (by dsimp only; first | exact HwY.out | exact hw14.out))) _)) : Touch No w _) t15)
    clear t15
    go_wp2
    go_ret
    exact ⟨rfl, T15.out⟩
  · have hN := HN.out
    rw [if_neg hlt] at hN
    injection hN with h1 h2 h3
    subst h1 h2 h3
    have hlt' : ¬ (ne : Int) < (be : Nat) := by omega
    clear HN
    go_wp2_with fail
    refine (lives_is _).mono ?_
    rintro e w15 ⟨rfl, t15⟩
    have T15 := Lib.hid (Touch.trans (by
      repeat' (first
        | exact T14.out
        | (refine Touch.alloc ?_ _)
        | (refine Touch.setCell ?_ (fun h => absurd h (Nat.not_lt.2 (by dsimp only; first | exact HwY.out | exact hw14.out))) _)) : Touch No w _) t15)
    clear t15
    go_wp2
    go_ret
    exact ⟨rfl, T15.out⟩
end Go.Proofs.Ytponmdacphapnaa
