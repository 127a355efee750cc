/-
  Package drydocklaw14 by its own text: the walk of PagesLast.
-/
import Derived.Test.YtbglbomnonkljaaDoorPgTop
import Derived.Test.YtbglbomnonkljaaDoorIn
namespace Go.Proofs.YtbglbomnonkljaaDoor
open Go Go.RowKit
set_option linter.unusedSimpArgs false

theorem last_plain {e0 e1 : Nat} {a b : List Nat} (he0 : e0 < 4294967296) (he1 : e1 < 4294967296) (ha : a.length ≤ 240) (hb : b.length ≤ 240) {D1 D3 : Dk.Disk} (h1 : D1 = Pg.wD (Dk.new 8) 1 e0 a) (h3 : D3 = Pg.wD (Dk.sync D1) 1 e1 b) :
    Pg.wE (Dk.new 8) 1 a = 0 ∧ Pg.wE (Dk.sync D1) 1 b = 0 ∧ D1.waits.length ≤ 100 ∧ D3.waits.length ≤ 100 ∧ (Pg.rE D3 1 = 0 ∧ Pg.rN D3 1 = e1 ∧ Pg.rB D3 1 = b) ∧
    (Pg.rE (Dk.fail D3 18446744073709551615 (-1)) 1 = 0 ∧ Pg.rN (Dk.fail D3 18446744073709551615 (-1)) 1 = e1 ∧ Pg.rB (Dk.fail D3 18446744073709551615 (-1)) 1 = b) ∧
    (Pg.rE (Dk.fail D3 0 (-1)) 1 = 0 ∧ Pg.rN (Dk.fail D3 0 (-1)) 1 = e0 ∧ Pg.rB (Dk.fail D3 0 (-1)) 1 = a) := by
  have w0 : Pg.wE (Dk.new 8) 1 a = 0 := Pg.wE_ok (by simp [Dk.new]) ha
  have l1 : D1.seen.length = 8 := by rw [h1, Pg.wD_len]; simp [Dk.new]
  have w1 : Pg.wE (Dk.sync D1) 1 b = 0 := Pg.wE_ok (by show _ ≤ D1.seen.length; omega) hb
  have r1 := Pg.w_read (e := e0) w0 (by decide) he0
  have r3 := Pg.w_read (e := e1) w1 (by decide) he1
  have k1 := (Pg.wD_ok (e := e0) w0).2.1
  have k3 := (Pg.wD_ok (e := e1) w1).2.1
  rw [← h1] at r1 k1
  rw [← h3] at r3 k3
  refine ⟨w0, w1, by rw [k1]; simp [Dk.new], by rw [k3]; simp [Dk.sync], r3, ?_, ?_⟩
  · have h := Pg.all_left (D := D3) (by rw [h3]; exact Pg.kept_wD (Dk.kept_sync D1) _ _ _) 1
    exact ⟨h.1.trans r3.1, h.2.1.trans r3.2.1, h.2.2.trans r3.2.2⟩
  · have h := Pg.none_left (D := D3) (D' := D1) (by rw [h3, Pg.wD_sure]; rfl) 1
    exact ⟨h.1.trans r1.1, h.2.1.trans r1.2.1, h.2.2.trans r1.2.2⟩

set_option maxRecDepth 100000 in
set_option maxHeartbeats 8000000 in
theorem pagesLast_walk (w : World) (pa : Option Addr) (na ca : Nat) (a : List Nat) (hA : Bytes w pa na ca a) (pb : Option Addr) (nb cb : Nat) (b : List Nat) (hB : Bytes w pb nb cb b) (e0 e1 : Nat) (he0 : e0 < 4294967296) (he1 : e1 < 4294967296) :
    Calls Tryd.prog 5 #[.slice pa na ca, .slice pb nb cb, .agg #[.int .u32 (e0 : Nat), .int .u32 (e1 : Nat)]] w (LawPost w) := by
  have HA := Lib.hid hA
  have HB := Lib.hid hB
  have HE0 := Lib.hid he0
  have HE1 := Lib.hid he1
  clear hA hB he0 he1
  have HF0 := Lib.hid ((Fam.nil w w (Touch.refl No w)).lay 36 #[.int .u32 (e0 : Nat), .int .u32 (e1 : Nat)])
  by_cases hlen : 240 < na ∨ 240 < nb
  · have hc : (240 : Int) < (na : Nat) ∨ ¬ (240 : Int) < (na : Nat) ∧ (240 : Int) < (nb : Nat) := by omega
    clear hlen
    rcases hc with h1 | ⟨h1, h2⟩
    all_goals
      go_enter Tryd.func5, Tryd.ntmps5
      go_wp2_with fail
      refine (alive_is _).mono ?_
      rintro e w1 ⟨rfl, t1⟩
      have T1 := Lib.hid (((Touch.refl No w).alloc (.cells #[.int .u32 (e0 : Nat), .int .u32 (e1 : Nat)] 36)).trans t1)
      clear t1
      go_wp2_with fail
      refine (alive_is _).mono ?_
      rintro e w2 ⟨rfl, t2⟩
      have T2 := Lib.hid (T1.out.trans t2)
      clear t2
      go_wp2
      go_ret
      exact ⟨rfl, T2.out⟩
  · have ha' : ¬ (240 : Int) < (na : Nat) := by omega
    have hb' : ¬ (240 : Int) < (nb : Nat) := by omega
    obtain ⟨D1, hD1⟩ : ∃ D1, D1 = Pg.wD (Dk.new 8) 1 e0 a := ⟨_, rfl⟩
    obtain ⟨D3, hD3⟩ : ∃ D3, D3 = Pg.wD (Dk.sync D1) 1 e1 b := ⟨_, rfl⟩
    have hp := Lib.hid (last_plain HE0.out HE1.out (by rw [HA.out.len]; omega) (by rw [HB.out.len]; omega) hD1 hD3)
    have HD1 := Lib.hid hD1
    have HD3 := Lib.hid hD3
    clear hD1 hD3 hlen
    obtain ⟨B, hB⟩ : ∃ B, B = w.heap.size := ⟨_, rfl⟩
    rw [← hB] at HF0
    go_enter Tryd.func5, Tryd.ntmps5
    go_wp2_with fail
    refine (alive_is _).mono ?_
    rintro e w1 ⟨rfl, t1⟩
    have HF1 := Lib.hid (HF0.out.no t1)
    clear t1 HF0
    go_wp2_with fail
    refine (HF1.out.new 8 (by decide) (by decide)).mono ?_
    rintro e w2 ⟨d, rfl, F2⟩
    obtain ⟨k0, k1⟩ := F2.two 0 rfl
    rw [hB] at k0 k1
    have HF2 := Lib.hid F2
    clear F2 HF1
    go_wp2_with fail
    refine (HF2.out.pgWrite 0 rfl 1 e0 (by decide) HE0.out pa na ca a HA.out.len (HA.out.rd.no HF2.out.end) HA.out.lt (by decide) 0 hp.out.1).mono ?_
    rw [← HD1.out]
    rintro e w3 ⟨rfl, F3⟩
    have HF3 := Lib.hid F3
    clear F3 HF2 k0 k1
    go_wp2_with fail
    refine (HF3.out.sync 0 rfl).mono ?_
    rintro e w4 ⟨rfl, F4⟩
    obtain ⟨k0, k1⟩ := F4.two 0 rfl
    rw [hB] at k0 k1
    have HF4 := Lib.hid F4
    clear F4 HF3
    go_wp2_with fail
    refine (HF4.out.pgWrite 0 rfl 1 e1 (by decide) HE1.out pb nb cb b HB.out.len (HB.out.rd.no HF4.out.end) HB.out.lt (Nat.zero_le _) 0 hp.out.2.1).mono ?_
    rw [← HD3.out]
    rintro e w5 ⟨rfl, F5⟩
    have HF5 : Hid (Fm w w5 [(d, D3)] [(B, 36, [.int .u32 (e0 : Nat), .int .u32 (e1 : Nat)])]) := F5
    clear F5 HF4 k0 k1
    go_wp2_with fail
    refine (HF5.out.fail 0 rfl 18446744073709551615 (-1) (by decide) (by have := hp.out.2.2.2.1; omega)).mono ?_
    rintro e w6 ⟨x, rfl, F6⟩
    have HF6 : Hid (Fm w w6 [(d, D3), (x, Dk.fail D3 18446744073709551615 (-1))] [(B, 36, [.int .u32 (e0 : Nat), .int .u32 (e1 : Nat)])]) := F6
    clear F6 HF5
    go_wp2_with fail
    refine (HF6.out.fail 0 rfl 0 (-1) (by decide) (by have := hp.out.2.2.2.1; omega)).mono ?_
    rintro e w7 ⟨y, rfl, F7⟩
    have HF7 : Hid (Fm w w7 [(d, D3), (x, Dk.fail D3 18446744073709551615 (-1)), (y, Dk.fail D3 0 (-1))] [(B, 36, [.int .u32 (e0 : Nat), .int .u32 (e1 : Nat)])]) := F7
    clear F7 HF6
    go_wp2_with fail
    refine (HF7.out.pgRead 0 rfl 1 (by decide) 0 e1 b hp.out.2.2.2.2.1 nb HB.out.len).mono ?_
    rintro e w8 ⟨a8, rfl, r8, t8⟩
    have HF8 := Lib.hid (HF7.out.no t8)
    have R8 := Lib.hid r8
    clear r8 t8 HF7
    go_wp2_with fail
    refine (HF8.out.pgRead 1 rfl 1 (by decide) 0 e1 b hp.out.2.2.2.2.2.1 nb HB.out.len).mono ?_
    rintro e w9 ⟨a9, rfl, r9, t9⟩
    have HF9 := Lib.hid (HF8.out.no t9)
    have R89 := Lib.hid (R8.out.no t9)
    have R9 := Lib.hid r9
    clear r9 t9 HF8 R8
    go_wp2_with fail
    refine (HF9.out.pgRead 2 rfl 1 (by decide) 0 e0 a hp.out.2.2.2.2.2.2 na HA.out.len).mono ?_
    rintro e w10 ⟨a10, rfl, r10, t10⟩
    have F10 := HF9.out.no t10
    obtain ⟨k0, k1⟩ := F10.two 0 rfl
    rw [hB] at k0 k1
    have S8 := Lib.hid (R89.out.no t10)
    have S9 := Lib.hid (R9.out.no t10)
    have S10 := Lib.hid r10
    have hcb := conv_str w10 pb nb cb b HB.out.len (HB.out.rd.no F10.end)
    have hca := conv_str w10 pa na ca a HA.out.len (HA.out.rd.no F10.end)
    have T10 := Lib.hid F10.end
    clear r10 t10 HF9 R89 R9 F10
    go_wp2_with fail
    refine (got_yes _ e1 a8 nb nb b HB.out.len S8.out).mono ?_
    rintro e w' ⟨rfl, rfl⟩
    go_wp2_with fail
    refine (got_yes _ e1 a9 nb nb b HB.out.len S9.out).mono ?_
    rintro e w' ⟨rfl, rfl⟩
    go_wp2_with fail
    refine (got_yes _ e0 a10 na na a HA.out.len S10.out).mono ?_
    rintro e w' ⟨rfl, rfl⟩
    go_wp2
    go_ret
    exact ⟨rfl, T10.out⟩
end Go.Proofs.YtbglbomnonkljaaDoor
