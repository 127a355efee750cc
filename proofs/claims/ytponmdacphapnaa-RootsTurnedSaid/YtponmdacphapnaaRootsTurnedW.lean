/-
  Package drydocklaw17 by its own text: the walk of RootsTurned.
-/
import Derived.Test.YtponmdacphapnaaRtT
namespace Go.Proofs.Ytponmdacphapnaa
open Go Go.RowKit
set_option linter.unusedSimpArgs false

set_option maxRecDepth 100000 in
set_option maxHeartbeats 8000000 in
theorem rootsTurned_walk (w : World) (many sector at' by' : Nat) (bad : Bool) (hm : many < 256) (hs : sector < 256) (ha : at' < 256) (hb : by' < 256) :
    Calls Try.prog 6 #[.agg #[.int .u8 (many : Nat), .int .u8 (sector : Nat), .int .u8 (at' : Nat), .int .u8 (by' : Nat), .bool bad]] w (LawPost w) := by
  obtain ⟨q, hq⟩ : ∃ q, many % 8 = q := ⟨_, rfl⟩
  obtain ⟨s, hs'⟩ : ∃ s, sector % 2 = s := ⟨_, rfl⟩
  obtain ⟨p, hp⟩ : ∃ p, at' % 64 = p := ⟨_, rfl⟩
  have hq1 : (many : Int) % 8 = (q : Nat) := by omega
  have hs1 : (sector : Int) % 2 = (s : Nat) := by omega
  have hp1 : (at' : Int) % 64 = (p : Nat) := by omega
  have hq8 : q < 8 := by omega
  have hs2 : s < 2 := by omega
  have hp64 : p < 64 := by omega
  clear hq hs' hp
  go_enter Try.func6, Try.ntmps6
  by_cases h0 : by' = 0
  · subst h0
    go_wp2_with fail
    refine (lives_is _).mono ?_
    rintro e w1 ⟨rfl, t1⟩
    go_wp2
    go_ret
    exact ⟨rfl, ((Touch.refl No w).alloc _).trans t1⟩
  have hb0 : ((by' : Int) == 0) = false := by simp; omega
  have H0 := Lib.hid h0
  clear h0
  go_wp2_with fail
  refine (new_k _ 16 (by decide) (by decide)).mono ?_
  rintro e w1 ⟨d, rfl, h1⟩
  have s1 : St w w1 d (Dk.new 16) := St.made ((Touch.refl No w).alloc _) h1
  clear h1
  go_wp2
  go_loopg [11] (q + 2) (fun g s11 wr => ∃ (i : Nat) (D : Dk.Disk), i + g = q + 2 ∧ s11 = .int .i64 ((i + 1 : Nat) : Int) ∧ Hid (Rt.Alt D i) ∧ Hid (D.waits = []) ∧ St w wr d D)
  case atStart => exact ⟨0, _, by omega, rfl, Rt.alt_new, rfl, s1⟩
  case round =>
    clear s1
    obtain ⟨i, D, hig, rfl, HA, HW, S⟩ := hrel
    cases gk with
    | zero =>
      obtain rfl : i = q + 2 := by omega
      have hl : Hid (s < D.seen.length) := by show _ < _; rw [HA.out.len]; omega
      have hw6 : Hid (D.waits.length ≤ 1000000) := by show _ ≤ _; rw [HW.out]; exact Nat.zero_le _
      cases bad with
      | true =>
        have HF := Lib.hid (Rt.bad_find HA.out (by omega) (by omega) hs2)
        go_wp2_with fail
        refine (S.bad s hl.out hw6.out).mono ?_
        rintro e w2 ⟨rfl, S2⟩
        clear S
        go_wp2_with fail
        refine (S2.rootRead).mono ?_
        rw [HF.out]
        obtain ⟨⟨xe, xf, xb⟩, hx⟩ : ∃ r, Rt.findR (Dk.bad D s) = r := ⟨_, rfl⟩
        rw [hx]
        clear hx
        rintro e w3 ⟨rfl, t3⟩
        have S3 := (S2.no t3).alloc (.cells #[.int .u32 (xe : Nat), .int .u32 (xf : Nat), .int .u32 (xb : Nat)] 24)
        clear S2 t3
        go_wp2_with fail
        refine (S3.rootWrite ⟨99, 0, 0⟩ (Rt.ep_ok (by decide))).mono ?_
        rw [Rt.wE_err HF.out (by decide) (by decide)]
        rintro e w4 ⟨rfl, S4⟩
        clear S3
        go_wp2_with fail
        refine (lives_is _).mono ?_
        rintro e w5 ⟨rfl, t5⟩
        have T5 := Lib.hid (S4.end.trans t5)
        clear S4 t5
        go_wp2
        go_ret
        exact ⟨rfl, T5.out⟩
      | false =>
        have HF := Lib.hid (Rt.rot_find (x := by') HA.out (by omega) (by omega) hs2 hp64 hb H0.out)
        go_wp2_with fail
        refine (S.rot s p by' hl.out hp64 hb hw6.out).mono ?_
        rintro e w2 ⟨rfl, S2⟩
        clear S
        rcases HF.out with hfe | hfe
        all_goals
          have HG := Lib.hid hfe
          clear hfe
          go_wp2_with fail
          refine (S2.rootRead).mono ?_
          rw [HG.out]
          obtain ⟨⟨xe, xf, xb⟩, hx⟩ : ∃ r, Rt.findR (Dk.rot D s p by') = r := ⟨_, rfl⟩
          rw [hx]
          clear hx
          rintro e w3 ⟨rfl, t3⟩
          have S3 := (S2.no t3).alloc (.cells #[.int .u32 (xe : Nat), .int .u32 (xf : Nat), .int .u32 (xb : Nat)] 24)
          clear S2 t3
          go_wp2_with fail
          refine (S3.rootWrite ⟨99, 0, 0⟩ (Rt.ep_ok (by decide))).mono ?_
          rw [Rt.wE_err HG.out (by decide) (by decide)]
          rintro e w4 ⟨rfl, S4⟩
          clear S3
          go_wp2_with fail
          refine (lives_is _).mono ?_
          rintro e w5 ⟨rfl, t5⟩
          have T5 := Lib.hid (S4.end.trans t5)
          clear S4 t5
          go_wp2
          go_ret
          exact ⟨rfl, T5.out⟩
    | succ g =>
      have hle : ((i + 1 : Nat) : Int) ≤ 2 + (q : Nat) := by omega
      have hst := Lib.hid (Rt.alt_step HA.out (by omega))
      have hw1 : Hid ((Rt.wD D ⟨i + 1, 0, 0⟩).waits = []) := by
        show _ = _
        rw [Rt.wD, if_pos hst.out.1]; rfl
      go_wp2_with fail
      refine (S.rootWrite ⟨i + 1, 0, 0⟩ (Rt.ep_ok (by omega))).mono ?_
      rw [hst.out.1]
      rintro e w2 ⟨rfl, S2⟩
      clear S
      go_wp2
      go_roundg g
      case measure => omega
      case rel => exact ⟨i + 1, _, by omega, by go_num, hst.out.2, hw1.out, S2⟩
end Go.Proofs.Ytponmdacphapnaa
