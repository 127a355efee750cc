/-
  Package drydocklaw14 by its own text: the walk of PagesDisk.
-/
import Derived.Test.YtbglbomnonkljaaDoorPgTop
import Derived.Test.YtbglbomnonkljaaDoorIn
namespace Go.Proofs.YtbglbomnonkljaaDoor
open Go Go.RowKit
set_option linter.unusedSimpArgs false

namespace Pg
theorem lost_bad {D : Dk.Disk} {p j : Nat} (hj : j < 4) (h : 4 * p + 4 ≤ D.seen.length) : rE (Dk.bad D (4 * p + j)) p = 12 := by
  have hl : (Dk.bad D (4 * p + j)).seen.length = D.seen.length := by simp [Dk.bad, Dk.upd_length]
  have hb : (Dk.at_ (Dk.bad D (4 * p + j)).seen (4 * p + j)).bad = 1 := by
    simp only [Dk.bad, Dk.upd, Dk.at_, List.getD_eq_getElem?_getD]
    rw [List.getElem?_set_self (by omega)]; rfl
  rw [rE, onD, hl, if_pos h, if_pos rfl, lost_yes (⟨j, hj⟩ : Fin 4) hb]; rfl
theorem other_bad {D : Dk.Disk} {p p' j : Nat} (hj : j < 4) (hne : p' ≠ p) : rE (Dk.bad D (4 * p + j)) p' = rE D p' ∧ rN (Dk.bad D (4 * p + j)) p' = rN D p' ∧ rB (Dk.bad D (4 * p + j)) p' = rB D p' := by
  refine r_same (by simp [Dk.bad, Dk.upd_length]) (fun i hi => ?_)
  simp only [Dk.bad, Dk.upd, Dk.at_, List.getD_eq_getElem?_getD]
  rw [List.getElem?_set_ne (by omega)]
end Pg
theorem disk_plain {p q e e1 : Nat} {a b : List Nat} (hp : p < 8) (hq : q < 8) (he : e < 4294967296) (he1 : e1 < 4294967296) (ha : a.length ≤ 240) (hb : b.length ≤ 240) {D1 D2 : Dk.Disk} (h1 : D1 = Pg.wD (Dk.new 35) p e a) (h2 : D2 = Pg.wD D1 q e1 b) :
    Pg.wE (Dk.new 35) p a = 0 ∧ Pg.wE D1 q b = 0 ∧ D1.waits.length ≤ 100 ∧ D2.waits.length = 8 ∧ Pg.wE D2 8 [] = 1 ∧ (Pg.rE D2 q = 0 ∧ Pg.rN D2 q = e1 ∧ Pg.rB D2 q = b) ∧
    (p ≠ q → (∀ j, j < 4 → 4 * q + j < D2.seen.length ∧ (Dk.bad D2 (4 * q + j)).waits.length = 8 ∧ (Pg.rE (Dk.bad D2 (4 * q + j)) q = 12 ∧ Pg.rN (Dk.bad D2 (4 * q + j)) q = 0 ∧ Pg.rB (Dk.bad D2 (4 * q + j)) q = []) ∧
      (Pg.rE (Dk.bad D2 (4 * q + j)) p = 0 ∧ Pg.rN (Dk.bad D2 (4 * q + j)) p = e ∧ Pg.rB (Dk.bad D2 (4 * q + j)) p = a) ∧ ∀ z : List Nat, z.length = 241 → Pg.wE (Dk.bad D2 (4 * q + j)) q z = 1)) := by
  have l0 : (Dk.new 35).seen.length = 35 := by simp [Dk.new]
  have l1 : D1.seen.length = 35 := by rw [h1, Pg.wD_len, l0]
  have l2 : D2.seen.length = 35 := by rw [h2, Pg.wD_len, l1]
  have w0 : Pg.wE (Dk.new 35) p a = 0 := Pg.wE_ok (by omega) ha
  have w1 : Pg.wE D1 q b = 0 := Pg.wE_ok (by omega) hb
  have k1 := (Pg.wD_ok (e := e) w0).2.1
  have k2 := (Pg.wD_ok (e := e1) w1).2.1
  rw [← h1] at k1
  rw [← h2] at k2
  have kn : (Dk.new 35).waits.length = 0 := rfl
  have r2 := Pg.w_read (e := e1) w1 (by omega) he1
  rw [← h2] at r2
  have o8 : onD D2 8 = 1 := by
    have h8 : ¬ 4 * 8 + 4 ≤ D2.seen.length := by omega
    rw [onD, if_neg h8]
  refine ⟨w0, w1, by omega, by omega, by rw [Pg.wE, o8, if_neg (fun h => by cases h.1)], r2, fun hne j hj => ?_⟩
  have hlb := Pg.lost_bad (D := D2) (p := q) hj (by omega)
  have ho := Pg.other_bad (D := D2) (p := q) (p' := p) hj hne
  have hr1 := Pg.w_read (e := e) w0 (by omega) he
  rw [← h1] at hr1
  have hr2 := Pg.w_other (e := e1) w1 hne
  rw [← h2] at hr2
  refine ⟨by omega, by simp [Dk.bad]; omega, ⟨hlb, by rw [Pg.rN, hlb]; rfl, by rw [Pg.rB, hlb]; rfl⟩, ⟨ho.1.trans (hr2.1.trans hr1.1), ho.2.1.trans (hr2.2.1.trans hr1.2.1), ho.2.2.trans (hr2.2.2.trans hr1.2.2)⟩, fun z hz => ?_⟩
  rw [Pg.wE, if_neg (fun h => by have := h.2; omega)]

theorem two_rows (w : World) (T1 T2 : TypeId) (x1 x2 : Array Value) : Fm w ((w.alloc (.cells x1 T1)).alloc (.cells x2 T2)) [] [(w.heap.size + 1, T2, x2.toList), (w.heap.size, T1, x1.toList)] := by
  have h := ((Fam.nil w w (Touch.refl No w)).lay T1 x1).lay T2 x2
  rw [size_alloc] at h
  exact h
theorem u32_add1 (e : Nat) : ∃ e1, e1 < 4294967296 ∧ ((e : Int) + 1) % 4294967296 = (e1 : Nat) := ⟨(e + 1) % 4294967296, by omega, by omega⟩

set_option maxRecDepth 100000 in
set_option maxHeartbeats 8000000 in
theorem pagesDisk_walk (w : World) (x0 x1 : Nat) (hx0 : x0 < 256) (hx1 : x1 < 256) (pa : Option Addr) (na ca : Nat) (a : List Nat) (hA : Bytes w pa na ca a) (pb : Option Addr) (nb cb : Nat) (b : List Nat) (hB : Bytes w pb nb cb b) (e : Nat) (he : e < 4294967296) :
    Calls Tryd.prog 6 #[.agg #[.int .u8 (x0 : Nat), .int .u8 (x1 : Nat)], .agg #[.slice pa na ca, .slice pb nb cb], .int .u32 (e : Nat)] w (LawPost w) := by
  have HA := Lib.hid hA
  have HB := Lib.hid hB
  have HE := Lib.hid he
  clear hA hB
  have HF0 := Lib.hid (two_rows w 46 47 #[.int .u8 (x0 : Nat), .int .u8 (x1 : Nat)] #[.slice pa na ca, .slice pb nb cb])
  by_cases hlen : 240 < na ∨ 240 < nb
  · have hc : (240 : Int) < (na : Nat) ∨ ¬ (240 : Int) < (na : Nat) ∧ (240 : Int) < (nb : Nat) := by omega
    clear hlen he
    rcases hc with h1 | ⟨h1, h2⟩
    all_goals
      go_enter Tryd.func6, Tryd.ntmps6
      go_wp2_with fail
      refine (alive_is _).mono ?_
      rintro e_ w1 ⟨rfl, t1⟩
      have HF1 := HF0.out.no t1
      obtain ⟨k0, k1⟩ := HF1.two 0 rfl
      have T1 := Lib.hid HF1.end
      clear t1 HF1
      go_wp2_with fail
      refine (alive_is _).mono ?_
      rintro e_ w2 ⟨rfl, t2⟩
      have T2 := Lib.hid (T1.out.trans t2)
      clear t2
      go_wp2
      go_ret
      exact ⟨rfl, T2.out⟩
  · have ha' : ¬ (240 : Int) < (na : Nat) := by omega
    have hb' : ¬ (240 : Int) < (nb : Nat) := by omega
    obtain ⟨e1, he1, hew⟩ := u32_add1 e
    obtain ⟨p, hp⟩ : ∃ p, x0 % 8 = p := ⟨_, rfl⟩
    obtain ⟨q, hq⟩ : ∃ q, x1 % 8 = q := ⟨_, rfl⟩
    have hp8 : p < 8 := by omega
    have hq8 : q < 8 := by omega
    have hpi : (x0 : Int) % 8 = (p : Nat) := by omega
    have hqi : (x1 : Int) % 8 = (q : Nat) := by omega
    obtain ⟨D1, hD1⟩ : ∃ D1, D1 = Pg.wD (Dk.new 35) p e a := ⟨_, rfl⟩
    obtain ⟨D2, hD2⟩ : ∃ D2, D2 = Pg.wD D1 q e1 b := ⟨_, rfl⟩
    have hpl := Lib.hid (disk_plain hp8 hq8 he he1 (by rw [HA.out.len]; omega) (by rw [HB.out.len]; omega) hD1 hD2)
    have HD1 := Lib.hid hD1
    have HD2 := Lib.hid hD2
    have HE1 := Lib.hid he1
    have Hew := Lib.hid hew
    clear hD1 hD2 hlen hp hq he he1 hew
    obtain ⟨B, hB⟩ : ∃ B, B = w.heap.size := ⟨_, rfl⟩
    rw [← hB] at HF0
    go_enter Tryd.func6, Tryd.ntmps6
    go_wp2_with fail
    refine (alive_is _).mono ?_
    rintro e_ w1 ⟨rfl, t1⟩
    have F1 := HF0.out.no t1
    obtain ⟨k0, k1⟩ := F1.two 0 rfl
    rw [hB] at k0 k1
    have HF1 := Lib.hid F1
    clear t1 HF0 F1
    go_wp2_with fail
    refine (HF1.out.new 35 (by decide) (by decide)).mono ?_
    rintro e_ w2 ⟨d, rfl, F2⟩
    obtain ⟨k0, k1⟩ := F2.two 0 rfl
    obtain ⟨j0, j1⟩ := F2.two 1 rfl
    rw [hB] at k0 k1 j0 j1
    have HF2 := Lib.hid F2
    clear F2 HF1
    go_wp2_with fail
    refine (HF2.out.pgWrite 0 rfl p e (by omega) HE.out pa na ca a HA.out.len (HA.out.rd.no HF2.out.end) HA.out.lt (Nat.zero_le _) 0 hpl.out.1).mono ?_
    rw [← HD1.out]
    rintro e_ w3 ⟨rfl, F3⟩
    have F3 : Fm w w3 [(d, D1)] [(B + 1, 47, [.slice pa na ca, .slice pb nb cb]), (B, 46, [.int .u8 (x0 : Nat), .int .u8 (x1 : Nat)])] := F3
    obtain ⟨k0, k1⟩ := F3.two 0 rfl
    rw [hB] at k0 k1
    have hew := Hew.out
    have hwr : IntKind.u32.wrap ((e : Int) + 1) = (e1 : Nat) := by rw [← hew]; rfl
    have HF3 := Lib.hid F3
    clear F3 HF2 j0 j1
    go_wp2_with fail
    refine (HF3.out.pgWrite 0 rfl q e1 (by omega) HE1.out pb nb cb b HB.out.len (HB.out.rd.no HF3.out.end) HB.out.lt (by have := hpl.out.2.2.1; omega) 0 hpl.out.2.1).mono ?_
    rw [← HD2.out]
    rintro e_ w4 ⟨rfl, F4⟩
    have HF4 : Hid (Fm w w4 [(d, D2)] [(B + 1, 47, [.slice pa na ca, .slice pb nb cb]), (B, 46, [.int .u8 (x0 : Nat), .int .u8 (x1 : Nat)])]) := F4
    clear F4 HF3 k0 k1
    go_wp2_with fail
    refine (HF4.out.pgWrite 0 rfl 8 0 (by decide) (by decide) none 0 0 [] rfl (Rd.nil _ _) (fun x hx => by cases hx) (by have := hpl.out.2.2.2.1; omega) 1 hpl.out.2.2.2.2.1).mono ?_
    rintro e_ w5 ⟨rfl, F5⟩
    have F5 : Fm w w5 [(d, D2)] [(B + 1, 47, [.slice pa na ca, .slice pb nb cb]), (B, 46, [.int .u8 (x0 : Nat), .int .u8 (x1 : Nat)])] := by
      have h : Pg.wD D2 8 0 [] = D2 := by rw [Pg.wD, hpl.out.2.2.2.2.1, if_neg (by decide)]
      have := F5
      rw [h] at this; exact this
    have HF5 := Lib.hid F5
    clear F5 HF4
    go_wp2_with fail
    refine ((HF5.out.st 0 rfl).waits 8 hpl.out.2.2.2.1).mono ?_
    rintro e_ w' ⟨rfl, rfl⟩
    go_wp2_with fail
    refine (HF5.out.pgRead 0 rfl q (by omega) 0 e1 b hpl.out.2.2.2.2.2.1 nb HB.out.len).mono ?_
    rintro e_ w6 ⟨a6, rfl, r6, t6⟩
    have F6 := HF5.out.no t6
    obtain ⟨k0, k1⟩ := F6.two 0 rfl
    rw [hB] at k0 k1
    have hcb := conv_str w6 pb nb cb b HB.out.len (HB.out.rd.no F6.end)
    have HF6 := Lib.hid F6
    have R6 := Lib.hid r6
    clear r6 t6 HF5 F6
    go_wp2_with fail
    refine (got_yes _ e1 a6 nb nb b HB.out.len R6.out).mono ?_
    rintro e_ w' ⟨rfl, rfl⟩
    clear R6 hcb k0 k1
    by_cases hpq : p = q
    · subst hpq
      go_wp2
      go_ret
      exact ⟨rfl, HF6.out.end⟩
    · have hpq' : ((p : Int) == (q : Nat)) = false := by simp; omega
      obtain ⟨j, hj⟩ : ∃ j, e % 4 = j := ⟨_, rfl⟩
      have hj4 : j < 4 := by omega
      have hji : (e : Int) % 4 = (j : Nat) := by omega
      have hpp := Lib.hid (hpl.out.2.2.2.2.2.2 hpq j hj4)
      have HP := Lib.hid hpl.out.2.2.2.1
      clear hpq hj hpl
      obtain ⟨n, hn⟩ : ∃ n, n = 4 * q + j := ⟨_, rfl⟩
      have hni : 4 * (q : Int) + (j : Int) = (n : Nat) := by omega
      rw [← hn] at hpp
      clear hn
      go_wp2_with fail
      refine (HF6.out.bad 0 rfl n hpp.out.1 (by have := HP.out; omega)).mono ?_
      rintro e_ w7 ⟨rfl, F7⟩
      have HF7 : Hid (Fm w w7 [(d, Dk.bad D2 n)] [(B + 1, 47, [.slice pa na ca, .slice pb nb cb]), (B, 46, [.int .u8 (x0 : Nat), .int .u8 (x1 : Nat)])]) := F7
      clear F7 HF6 hni
      go_wp2_with fail
      refine (HF7.out.pgRead 0 rfl q (by omega) 12 0 [] hpp.out.2.2.1 0 rfl).mono ?_
      rintro e_ w8 ⟨a8, rfl, -, t8⟩
      have HF8 := Lib.hid (HF7.out.no t8)
      clear t8 HF7
      go_wp2_with fail
      refine (HF8.out.pgRead 0 rfl p (by omega) 0 e a hpp.out.2.2.2.1 na HA.out.len).mono ?_
      rintro e_ w9 ⟨a9, rfl, r9, t9⟩
      have F9 := HF8.out.no t9
      obtain ⟨k0, k1⟩ := F9.two 0 rfl
      rw [hB] at k0 k1
      have hca := conv_str w9 pa na ca a HA.out.len (HA.out.rd.no F9.end)
      have R9 := Lib.hid r9
      have HF9 := Lib.hid F9
      clear r9 t9 HF8 F9
      go_wp2_with fail
      refine (got_yes _ e a9 na na a HA.out.len R9.out).mono ?_
      rintro e_ w' ⟨rfl, rfl⟩
      clear R9 hca k0 k1
      have hmk := made241
      go_wp2_with fail
      clear hmk
      have hz : Rd (w9.alloc (.cells z241 5)) (some ⟨w9.heap.size, 0, none⟩) (nums .u8 (List.replicate 241 0)) := by
        have := rd_new w9 5 z241 (0, 0)
        rw [z241, List.toList_toArray] at this
        rw [nums, List.map_replicate]; exact this
      have HF10 := Lib.hid (HF9.out.no ((Touch.refl No w9).alloc (.cells z241 5)))
      refine (HF10.out.pgWrite 0 rfl q 9 (by omega) (by decide) _ 241 241 (List.replicate 241 0) (by simp) hz (fun x hx => by rw [(List.mem_replicate.1 hx).2]; decide) (by have := hpp.out.2.1; omega) 1 (hpp.out.2.2.2.2 _ (by simp))).mono ?_
      rintro e_ w11 ⟨rfl, F11⟩
      have F11 : Fm w w11 [(d, Dk.bad D2 n)] [(B + 1, 47, [.slice pa na ca, .slice pb nb cb]), (B, 46, [.int .u8 (x0 : Nat), .int .u8 (x1 : Nat)])] := by
        have h : Pg.wD (Dk.bad D2 n) q 9 (List.replicate 241 0) = Dk.bad D2 n := by rw [Pg.wD, hpp.out.2.2.2.2 _ (by simp), if_neg (by decide)]
        have := F11
        rw [h] at this; exact this
      have HF11 := Lib.hid F11
      clear F11 HF10 HF9 hz
      go_wp2_with fail
      refine ((HF11.out.st 0 rfl).waits 8 hpp.out.2.1).mono ?_
      rintro e_ w' ⟨rfl, rfl⟩
      go_wp2
      go_ret
      exact ⟨rfl, HF11.out.end⟩
end Go.Proofs.YtbglbomnonkljaaDoor
