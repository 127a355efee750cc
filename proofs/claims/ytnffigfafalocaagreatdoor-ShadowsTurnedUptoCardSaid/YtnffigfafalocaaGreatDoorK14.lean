/-
  Package pages by its own text: Get.
  Package disks by its own text: what is no disk answers nothing; the walk of DisksNone.
  Package pages by its own text: ask, each.
  Package pages by its own text: each (an iterator over a page's sectors).
  A region that reads, then ends in a tail in the text's order: inside a round of a loop over a function. No program in sight.
-/
import Derived.Test.YtnffigfafalocaaGreatDoorK12
import Derived.Test.YtnffigfafalocaaGreatDoorK09
import Derived.Test.YtnffigfafalocaaGreatDoorK13
import Derived.Test.YtnffigfafalocaaGreatDoorK03
import Derived.Test.YtnffigfafalocaaGreatDoorK10
import Derived.Test.YtnffigfafalocaaGreatDoorK08
import Derived.RangeFuncNested
import Derived.RangeFuncBound
import Derived.RangeFuncCalls
import Derived.RangeFuncLeaves
import Derived.RangeFuncBox
import Derived.Shelf.Abstract
import Derived.Shelf.RegionOpen
import Derived.OwnWalkIn
import Derived.TacticsInMore
import Derived.LoopNIn
import Derived.LoopIn
import Derived.Maps.AppendAt
import Derived.Sort.QuietIn
import Derived.Test.YtnffigfafalocaaGreatDoorK01
import Derived.StillTailTactics
import Derived.OrdersIn
import Derived.TacticsIn
namespace Go.Proofs.YtnffigfafalocaaGreatDoor
open Go Go.RowKit
set_option linter.unusedSimpArgs false

def gotP (b : List Nat) (k : Nat) : List Nat := (List.range k).map (fun j => Rt.unfour (b.drop (4 * j))) ++ List.replicate (4 - k) 0
theorem gotP_length {b : List Nat} {k : Nat} (h : k ≤ 4) : (gotP b k).length = 4 := by simp [gotP]; omega
theorem gotP_next {b : List Nat} {k v : Nat} (h : k < 4) (hv : Rt.unfour (b.drop (4 * k)) = v) : (nums .u32 (gotP b k)).set k (.int .u32 (v : Nat)) = nums .u32 (gotP b (k + 1)) := by
  subst hv
  rw [nums, nums, ← List.map_set (f := fun (x : Nat) => Value.int .u32 (x : Int)) (a := Rt.unfour (b.drop (4 * k)))]
  congr 1
  rw [gotP, gotP, List.set_append_right _ _ (by simp), List.range_succ, List.map_append, List.append_assoc]
  congr 1
  simp only [List.length_map, List.length_range, Nat.sub_self]
  rw [show 4 - k = (4 - (k + 1)) + 1 by omega, List.replicate_succ]
  rfl
def zP4 : Array Value := (List.replicate 4 (Value.int .u32 0)).toArray
theorem zP4_zero (w : World) : (zeroValue 376).run Tryz.prog w = .ok (.agg zP4) w := by kernel_rfl
theorem zP4_size : zP4.size = 4 := by kernel_rfl
theorem zP4_ne : zP4 ≠ #[] := fun h => by have := zP4_size; rw [h] at this; cases this

theorem getFour_at (w : World) (a : Option Addr) (n c : Nat) (b : List Nat) (v : Nat) (hb : b.length = n) (h4 : 4 ≤ n) (hmax : (n : Int) ≤ 9223372036854775807) (hr : Rd w a (nums .u8 b)) (hlt : ∀ x ∈ b, x < 256) (hv : Rt.unfour b = v) :
    Calls Tryz.prog 225 #[.slice a n c] w fun e w' => e = .returned (.tuple #[.int .u32 (v : Nat), .int .i64 0]) ∧ Touch No w w' := by
  subst hv
  refine (getFour_any w a n c b hb hmax hr hlt).mono fun e w' ⟨he, t⟩ => ⟨?_, t⟩
  rw [if_neg (by omega), if_neg (by omega)] at he
  exact he

set_option maxHeartbeats 2000000 in
theorem cloneB_own (w : World) (a : Option Addr) (n c : Nat) (xs : List Nat) (ha : a ≠ none) (hr : Rd w a (nums .u8 xs)) (hl : xs.length = n) (hn : (n : Int) ≤ 1000000000000) :
    Calls Tryz.prog 249 #[.slice a n c] w fun e w' => ∃ a' c', e = .returned (.slice a' n c') ∧ Own w' w.heap.size 5 (.slice a' n c') (nums .u8 xs) ∧ n ≤ c' ∧ Touch No w w' := by
  obtain ⟨⟨g, o, sp⟩, rfl⟩ : ∃ ad, a = some ad := by cases a with | none => exact absurd rfl ha | some ad => exact ⟨ad, rfl⟩
  have hq := fun (w : World) (a : Option Addr) (n c n' c' : Nat) => Lib.run_eql_slice_nil (P := Tryz.prog) w 39 5 a n c n' c' Tryz.underlying39
  obtain ⟨I, hi0, hi1, hi2, hi3⟩ := u8_info
  have HI := Lib.hid (And.intro hi0 (And.intro hi1 (And.intro hi2 hi3)))
  have Hl := Lib.hid (show (nums .u8 xs).length = n by rw [nums_length]; exact hl)
  have Hn := Lib.hid hn
  have HR := Lib.hid (hr.no ((Touch.refl No w).alloc (.cells #[] 5)))
  have HO : Hid (Own (w.alloc (.cells #[] 5)) w.heap.size 5 (.slice (some ⟨w.heap.size, 0, none⟩) 0 0) []) := own_of_row (Row.new w 5 #[]) (Nat.le_refl _) rfl (Nat.zero_le _)
  clear hr hn hl hi0 hi1 hi2 hi3 ha
  go_enter Tryz.func249, Tryz.ntmps249
  go_wp2_with (refine wpList_append_rd rfl _ _ _ rfl w.heap.size 5 I (.int .u8 0) 1 Tryz.underlying39 HI.out.1 HI.out.2.1 HI.out.2.2.1 HI.out.2.2.2 rfl _ _ HO.out rfl (some ⟨g, o, sp⟩) n c (nums .u8 xs) rfl Hl.out HR.out (nums_one _ _) (by have := Hn.out; unfold maxLen; simp only [List.length_nil]; omega) (by have := Hn.out; simp only [List.length_nil]; omega) (by simp) ?_)
  rintro v w1 o1 t1
  have o1 : Own w1 w.heap.size 5 v (nums .u8 xs) := o1
  obtain ⟨a', c', rfl, hc, _⟩ := o1.form' (n := n) Hl.out
  have O1 := Lib.hid o1
  have T1 := Lib.hid (((Touch.refl No w).alloc (.cells #[] 5)).then t1 (fun i hi e => absurd (HO.out.block e).1 (Nat.not_le.2 hi)))
  have HC := Lib.hid hc
  clear o1 t1 hc
  go_wp2
  go_ret
  exact ⟨a', c', by simp, O1.out, HC.out, T1.out⟩
theorem clipB_any (w : World) (a : Option Addr) (n c : Nat) (h : n ≤ c) : Calls Tryz.prog 163 #[.slice a n c] w fun e w' => e = .returned (.slice a n n) ∧ w = w' := by
  have hnc : (n : Int) ≤ (c : Int) := by omega
  have h0 : (0 : Int) ≤ (n : Int) := Int.natCast_nonneg _
  go_enter Tryz.func163, Tryz.ntmps163
  go_wp2
  go_ret
  exact ⟨rfl, rfl⟩

def PgGetPost (w : World) (num : Nat) (b : List Nat) (e : Ending) (w' : World) : Prop :=
  ∃ a n, e = .returned (.tuple #[.int .u32 (Pg.epochOf num b : Nat), .slice a n n, .int .i64 (Pg.err num b : Nat)]) ∧ (Pg.bodyOf num b).length = n ∧ (∃ c, Own w' w.heap.size 5 (.slice a n c) (nums .u8 (Pg.bodyOf num b))) ∧ Touch No w w'
theorem pgGet_no {w w' : World} {num : Nat} {b : List Nat} {E : Nat} (h : Pg.err num b = E) (h0 : E ≠ 0) (t : Touch No w w') : PgGetPost w num b (.returned (.tuple #[.int .u32 0, .slice none 0 0, .int .i64 (E : Nat)])) w' := by
  obtain ⟨h1, h2⟩ := Pg.err_no (num := num) (b := b) (by rw [h]; exact h0)
  exact ⟨none, 0, by rw [h1, h]; rfl, by rw [h2]; rfl, ⟨0, by rw [h2]; exact Own.nil _ _ _⟩, t⟩

set_option maxRecDepth 100000 in
set_option maxHeartbeats 4000000 in
theorem pageGet_any (w : World) (num : Nat) (a : Option Addr) (n c : Nat) (b : List Nat) (hb : b.length = n) (hc : n ≤ c) (hmax : (c : Int) ≤ 9223372036854775807) (hr : Rd w a (nums .u8 b)) (hlt : ∀ x ∈ b, x < 256) :
    Calls Tryz.prog 224 #[.int .u32 (num : Nat), .slice a n c] w (PgGetPost w num b) := by
  by_cases h256 : n = 256
  · subst h256
    obtain ⟨I, hi0, hi1, hi2, hi3⟩ := u8_info
    have HI := Lib.hid (And.intro hi0 hi2)
    have Hb := Lib.hid hb
    have Hr := Lib.hid hr
    have Hlt := Lib.hid hlt
    have Hc := Lib.hid hc
    have hc256 : (256 : Int) ≤ (c : Nat) := by omega
    clear hb hr hlt hi0 hi1 hi2 hi3 hc
    have hz1 := zP4_zero
    have hz3 := zP4_size
    have hz5 := zP4_ne
    go_enter Tryz.func224, Tryz.ntmps224
    go_wp2
    obtain ⟨L, hL⟩ : ∃ L, L = w.heap.size := ⟨_, rfl⟩
    obtain ⟨W, hW⟩ : ∃ W, W = w.alloc (.cells zP4 376) := ⟨_, rfl⟩
    have tW : Touch No w W := by rw [hW]; exact (Touch.refl No w).alloc _
    have hrL : Row W L 376 (nums .u32 (gotP b 0)) := by
      rw [hW, hL]; exact Row.new _ _ zP4
    rw [← hW, ← hL]
    have HL := Lib.hid hrL
    have HT := Lib.hid tW
    have HLL := Lib.hid hL
    clear hL hW tW hrL hz1 hz3 hz5
    go_loopg [12] 4 (fun g s12 wr => ∃ k : Nat, k + g = 4 ∧ s12 = .int .i64 ((k : Nat) : Int) ∧ Hid (Row wr L 376 (nums .u32 (gotP b k))) ∧ Hid (Touch (One L) W wr))
    case atStart => exact ⟨0, rfl, rfl, HL.out, Touch.refl _ _⟩
    case round =>
      obtain ⟨k, hkg, rfl, LL, T⟩ := hrel
      have TW := Lib.hid (HT.out.then T.out (fun i hi e => by
        have h2 : i = L := e
        have h3 := HLL.out
        omega))
      cases gk with
      | zero =>
        obtain rfl : k = 4 := by omega
        have hcl : ∀ j, j < 4 → wr.cell? ⟨L, j, none⟩ = some (.int .u32 (Rt.unfour (b.drop (4 * j)) : Nat)) := fun j hj => by
          rw [LL.out.cell, nums_get (by rw [gotP_length (by decide)]; exact hj)]
          congr 3
          match j, hj with
          | 0, _ => rfl
          | 1, _ => rfl
          | 2, _ => rfl
          | 3, _ => rfl
        obtain ⟨x0, hx0⟩ : ∃ x0, Rt.unfour b = x0 := ⟨_, rfl⟩
        obtain ⟨x1, hx1⟩ : ∃ x1, Rt.unfour (b.drop 4) = x1 := ⟨_, rfl⟩
        obtain ⟨m, hm⟩ : ∃ m, Pg.many b = m := ⟨_, rfl⟩
        obtain ⟨td, htd⟩ : ∃ td, Pg.told b = td := ⟨_, rfl⟩
        have HK : Hid (∀ wx, Touch No wr wx → wx.cell? ⟨L, 0, none⟩ = some (.int .u32 (x0 : Nat)) ∧ wx.cell? ⟨L, 1, none⟩ = some (.int .u32 (x1 : Nat)) ∧ wx.cell? ⟨L, 2, none⟩ = some (.int .u32 (m : Nat)) ∧ wx.cell? ⟨L, 3, none⟩ = some (.int .u32 (td : Nat))) := fun wx t => by
          refine ⟨t.cell (id : No _ → False) ?_, t.cell (id : No _ → False) ?_, t.cell (id : No _ → False) ?_, t.cell (id : No _ → False) ?_⟩
          · rw [← hx0]; have := hcl 0 (by decide); exact this
          · rw [← hx1]; exact hcl 1 (by decide)
          · rw [← hm]; exact hcl 2 (by decide)
          · rw [← htd]; exact hcl 3 (by decide)
        obtain ⟨k0, k1, k2, k3⟩ := HK.out wr (Touch.refl _ _)
        have hm32 : m < 4294967296 := by rw [← hm]; exact Rt.unfour_lt (fun x hx => Hlt.out x (List.mem_of_mem_drop hx))
        have Hx0 := Lib.hid hx0
        have Hx1 := Lib.hid hx1
        have Hm := Lib.hid hm
        have Htd := Lib.hid htd
        clear hcl hx0 hx1 hm htd T LL HT HL
        by_cases hm1 : 240 < m
        · have hm1' : (240 : Int) < (m : Nat) := by omega
          have hF : Hid (Pg.err num b = 4) := by show _ = _; rw [Pg.err, if_neg (fun h => by have := h.2.1; rw [Hm.out] at this; omega)]
          clear hm1
          go_wp2
          go_ret3
          exact pgGet_no hF.out (by decide) TW.out
        have hm1' : ¬ (240 : Int) < (m : Nat) := by omega
        have hmw : (m : Int) ≤ 240 := by omega
        have hm0 : (0 : Int) ≤ (m : Nat) := by omega
        obtain ⟨r, hr⟩ : ∃ r, 256 - (16 + m) = r := ⟨_, rfl⟩
        have hcut : ∀ wx : World, (Instr.slice 39 (.slice a 256 c) (some (.int .u32 (16 + (m : Int)))) none none).run Tryz.prog wx = .ok (.slice (cutAddr a c (16 + m)) r (c - (16 + m))) wx := fun wx => by
          have := run_cut Tryz.underlying39 HI.out.1 HI.out.2 a 256 c (16 + m) .u32 (by omega) wx
          rw [hr, show ((16 + m : Nat) : Int) = 16 + (m : Int) by omega] at this; exact this
        have rk : Hid (Rd wr (cutAddr a c (16 + m)) (nums .u8 (b.drop (16 + m)))) := by
          have := (Hr.out.no TW.out).cut (cap := c) (l := 16 + m) (by rw [nums_length, Hb.out]; exact Hc.out)
          show Rd _ _ _
          rw [nums, List.map_drop]; exact this
        have lk : Hid ((b.drop (16 + m)).length = r) := by show _ = _; rw [List.length_drop, Hb.out, hr]
        have hrc : Hid (r ≤ c - (16 + m)) := by show _ ≤ _; have := Hc.out; omega
        have hmx : Hid (((c - (16 + m) : Nat) : Int) ≤ 9223372036854775807) := by show _ ≤ _; omega
        clear hr
        go_wp2_with fail
        refine (trim_any _ _ r _ (b.drop (16 + m)) lk.out hrc.out hmx.out rk.out).mono ?_
        rintro e w1 ⟨a1, z, c1, hz, rfl, hz0, t1⟩
        obtain ⟨q0, q1, q2, q3⟩ := HK.out w1 t1
        have T1 := Lib.hid (TW.out.trans t1)
        have Ht1 := Lib.hid t1
        clear t1 k0 k1 k2 k3 hcut lk rk hrc hmx
        cases hno : Rt.nought (b.drop (16 + m)) with
        | false =>
          have hz1 : (0 : Int) < (z : Nat) := by
            have : z ≠ 0 := fun h => by have := hz0.1 h; rw [hno] at this; cases this
            omega
          have hF : Hid (Pg.err num b = 4) := by show _ = _; rw [Pg.err, if_neg (fun h => by have := h.2.2; rw [Hm.out, hno] at this; cases this)]
          clear hz0 hno hz hm1
          go_wp2
          go_ret3
          exact pgGet_no hF.out (by decide) T1.out
        | true =>
          obtain rfl : z = 0 := hz0.2 hno
          have hform : Hid (Pg.form b) := ⟨Hb.out, by rw [Hm.out]; omega, by rw [Hm.out]; exact hno⟩
          clear hz0 hno hz
          obtain ⟨q, hq⟩ : ∃ q, Pg.body b = q := ⟨_, rfl⟩
          have hql : Hid (q.length = m) := by show _ = _; rw [← hq, Pg.body_len0 hform.out, Hm.out]
          have hcut2 : ∀ wx : World, (Instr.slice 39 (.slice a 256 c) (some (.int .i64 16)) (some (.int .u32 (16 + (m : Int)))) none).run Tryz.prog wx = .ok (.slice (cutAddr a c 16) m (c - 16)) wx := fun wx => by
            have := run_cut2 Tryz.underlying39 HI.out.1 HI.out.2 a 256 c 16 (16 + m) .i64 .u32 (by omega) (by have := Hc.out; omega) wx
            rw [show 16 + m - 16 = m by omega, show ((16 + m : Nat) : Int) = 16 + (m : Int) by omega] at this; exact this
          have hhead : ∀ wx : World, (Instr.slice 39 (.slice a 256 c) none (some (.int .i64 12)) none).run Tryz.prog wx = .ok (.slice a 12 c) wx := fun wx => run_head Tryz.underlying39 HI.out.1 HI.out.2 a 256 c 12 .i64 (by have := Hc.out; omega) wx
          have hne16 : Hid (cutAddr a c 16 ≠ none) := by
            obtain ⟨g, o, e, _⟩ := Hr.out.num (i := 0) (by rw [Hb.out]; decide)
            show _ ≠ _
            rw [cutAddr, if_neg (by have := Hc.out; omega), e]
            exact fun h => by cases h
          have rb : Hid (∀ wx, Touch No w wx → Rd wx (cutAddr a c 16) (nums .u8 q)) := fun wx t => by
            have := ((Hr.out.no t).cut (cap := c) (l := 16) (by rw [nums_length, Hb.out]; exact Hc.out)).take m
            rw [← hq, Pg.body, Hm.out, nums, List.map_take, List.map_drop]; exact this
          have rh : Hid (∀ wx, Touch No w wx → Rd wx a (nums .u8 (b.take 12))) := fun wx t => by
            have := (Hr.out.no t).take 12
            rw [nums, List.map_take]; exact this
          have lh : Hid ((b.take 12).length = 12) := by show _ = _; rw [List.length_take, Hb.out]; rfl
          obtain ⟨sm, hsm⟩ : ∃ sm, Rt.of (b.take 12) = sm := ⟨_, rfl⟩
          obtain ⟨x, hx⟩ : ∃ x, Rt.on sm q = x := ⟨_, rfl⟩
          have hright : Hid (Pg.right b = x) := by show _ = _; rw [Pg.right, hq, hsm, hx]
          have hsm32 : Hid (sm < 4294967296) := by show _ < _; rw [← hsm]; exact Rt.of_lt
          have CO : Hid (∀ wx, Touch No w wx → Calls Tryz.prog 214 #[.slice a 12 c] wx fun e w' => e = .returned (.int .u32 (sm : Nat)) ∧ Touch No wx w') := fun wx t => by
            rw [← hsm]; exact of_any wx a 12 c (b.take 12) lh.out (by decide) (rh.out wx t) (fun x hx => Hlt.out x (List.mem_of_mem_take hx))
          have CN : Hid (∀ wx, Touch No w wx → Calls Tryz.prog 213 #[.int .u32 (sm : Nat), .slice (cutAddr a c 16) m (c - 16)] wx fun e w' => e = .returned (.int .u32 (x : Nat)) ∧ Touch No wx w') := fun wx t => by
            rw [← hx]
            exact on_any wx sm hsm32.out _ m _ q hql.out (by omega) (rb.out wx t) (fun y hy => by rw [← hq] at hy; exact Hlt.out y (List.mem_of_mem_drop (List.mem_of_mem_take hy)))
          have Hq := Lib.hid hq
          clear hq hsm hx hm1
          have k3d : w1.drew.cell? ⟨L, 3, none⟩ = some (.int .u32 (td : Nat)) := q3
          have HK1 : Hid (∀ wx, Touch No w1 wx → wx.cell? ⟨L, 0, none⟩ = some (.int .u32 (x0 : Nat)) ∧ wx.cell? ⟨L, 1, none⟩ = some (.int .u32 (x1 : Nat)) ∧ wx.cell? ⟨L, 2, none⟩ = some (.int .u32 (m : Nat)) ∧ wx.cell? ⟨L, 3, none⟩ = some (.int .u32 (td : Nat))) := fun wx t => HK.out wx (Ht1.out.trans t)
          have T1d := Lib.hid ((Touch.refl No w1).drew)
          have cm := fun wx t => (CN.out wx t)
          clear cm Ht1 HK
          by_cases hst : x = td
          · subst hst
            go_wp2_with fail
            go_region_held3 (fun w' => w'.cell? ⟨L, 3, none⟩ = some (.int .u32 (x : Nat))) (first | exact q3 | exact k3d | exact (HK1.out _ (T1d.out.trans t2)).2.2.2 | exact (HK1.out _ ((T1d.out.trans t2).trans t3)).2.2.2) (first
              | (go_at_call 214; refine (CO.out _ (T1.out.trans T1d.out)).mono ?_; rintro e w2 ⟨rfl, t2⟩)
              | (go_at_call 213; refine (CN.out _ ((T1.out.trans T1d.out).trans t2)).mono ?_; rintro e w3 ⟨rfl, t3⟩))
            all_goals
              obtain ⟨q0, q1, q2, q3⟩ := HK1.out _ ((T1d.out.trans t2).trans t3)
              have T3 := Lib.hid (((T1.out.trans T1d.out).trans t2).trans t3)
              have HK3 : Hid (∀ wx, Touch No w3 wx → wx.cell? ⟨L, 1, none⟩ = some (.int .u32 (x1 : Nat))) := fun wx t => (HK1.out wx (((T1d.out.trans t2).trans t3).trans t)).2.1
              have T3d := Lib.hid ((Touch.refl No w3).drew)
              clear t2 t3 k3d
              by_cases hnum : x0 = num
              · subst hnum
                have hE : Hid (Pg.err x0 b = 0) := by show _ = _; rw [Pg.err, if_pos hform.out, hright.out, Htd.out, if_neg (fun h => h rfl), Hx0.out, if_neg (fun h => h rfl)]
                have k1d : w3.drew.cell? ⟨L, 1, none⟩ = some (.int .u32 (x1 : Nat)) := q1
                clear q2 q3
                go_wp2_with fail
                clear q0
                go_region_held3 (fun w' => w'.cell? ⟨L, 1, none⟩ = some (.int .u32 (x1 : Nat))) (first | exact q1 | exact k1d | exact HK3.out _ (T3d.out.trans t4)) (first
                  | (go_at_call 249; refine (cloneB_own _ (cutAddr a c 16) m (c - 16) q hne16.out (rb.out _ (T3.out.trans T3d.out)) hql.out (by omega)).mono ?_; rintro e w4 ⟨a4, c4, rfl, o4, hc4, t4⟩)
                  | (go_at_call 163; refine (clipB_any _ a4 m c4 hc4).mono ?_; rintro e w5 ⟨rfl, rfl⟩))
                all_goals
                  have T4 := Lib.hid ((T3.out.trans T3d.out).trans t4)
                  have O4 := Lib.hid (o4.mono (base' := w.heap.size) (T3.out.trans T3d.out).size)
                  clear t4 o4 q1 k1d hc4
                  go_wp2
                  go_ret3
                  exact ⟨a4, m, by rw [hE.out, Pg.epochOf, if_pos hE.out, Hx1.out]; rfl, by rw [Pg.bodyOf, if_pos hE.out, Hq.out]; exact hql.out, ⟨c4, by rw [Pg.bodyOf, if_pos hE.out, Hq.out]; exact O4.out⟩, T4.out⟩
              · have hneq : ((x0 : Int) != (num : Int)) = true := by simp; omega
                have hF : Hid (Pg.err num b = 4) := by show _ = _; rw [Pg.err, if_pos hform.out, hright.out, Htd.out, if_neg (fun h => h rfl), Hx0.out, if_pos hnum]
                clear hnum
                go_wp2
                go_ret3
                exact pgGet_no hF.out (by decide) T3.out
          · have hneq : ((x : Int) != (td : Int)) = true := by simp; omega
            have hF : Hid (Pg.err num b = 11) := by show _ = _; rw [Pg.err, if_pos hform.out, hright.out, Htd.out, if_pos hst]
            clear hst
            go_wp2_with fail
            go_region_held3 (fun w' => w'.cell? ⟨L, 3, none⟩ = some (.int .u32 (td : Nat))) (first | exact q3 | exact k3d | exact (HK1.out _ (T1d.out.trans t2)).2.2.2 | exact (HK1.out _ ((T1d.out.trans t2).trans t3)).2.2.2) (first
              | (go_at_call 214; refine (CO.out _ (T1.out.trans T1d.out)).mono ?_; rintro e w2 ⟨rfl, t2⟩)
              | (go_at_call 213; refine (CN.out _ ((T1.out.trans T1d.out).trans t2)).mono ?_; rintro e w3 ⟨rfl, t3⟩))
            all_goals
              have T3 := Lib.hid (((T1.out.trans T1d.out).trans t2).trans t3)
              clear t2 t3 q0 q1 q2 q3 k3d
              go_wp2
              go_ret3
              exact pgGet_no hF.out (by decide) T3.out
      | succ g' =>
        have hk4 : (k : Int) < 4 := by omega
        have hk0 : (0 : Int) ≤ (k : Nat) := by omega
        obtain ⟨r, hr⟩ : ∃ r, 256 - 4 * k = r := ⟨_, rfl⟩
        have hcut : ∀ wx : World, (Instr.slice 39 (.slice a 256 c) (some (.int .i64 (4 * (k : Int)))) none none).run Tryz.prog wx = .ok (.slice (cutAddr a c (4 * k)) r (c - 4 * k)) wx := fun wx => by
          have := run_cut Tryz.underlying39 HI.out.1 HI.out.2 a 256 c (4 * k) .i64 (by omega) wx
          rw [hr, show ((4 * k : Nat) : Int) = 4 * (k : Int) by omega] at this; exact this
        obtain ⟨v, hv⟩ : ∃ v, Rt.unfour (b.drop (4 * k)) = v := ⟨_, rfl⟩
        have rk : Hid (Rd wr (cutAddr a c (4 * k)) (nums .u8 (b.drop (4 * k)))) := by
          have := (Hr.out.no TW.out).cut (cap := c) (l := 4 * k) (by rw [nums_length, Hb.out]; exact Hc.out)
          show Rd _ _ _
          rw [nums, List.map_drop]; exact this
        have lk : Hid ((b.drop (4 * k)).length = r) := by show _ = _; rw [List.length_drop, Hb.out, hr]
        have hr4 : 4 ≤ r := by omega
        have hr9 : (r : Int) ≤ 9223372036854775807 := by omega
        have hce := LL.out.cell k
        rw [nums_get (by rw [gotP_length (by omega)]; omega)] at hce
        have hso := LL.out.soft k
        have Hce := Lib.hid hce
        have Hso := Lib.hid hso
        have Hv := Lib.hid hv
        clear hce hso hv hr
        go_wp2_with fail
        refine (getFour_at wr _ r (c - 4 * k) (b.drop (4 * k)) v lk.out hr4 hr9 rk.out (fun x hx => Hlt.out x (List.mem_of_mem_drop hx)) Hv.out).mono ?_
        rintro e w3 ⟨rfl, t3⟩
        have c3 := t3.cell (id : No L → False) Hce.out
        have f3 := (t3.frozen (lt_of_cell Hce.out) id k).trans Hso.out
        have TT := Lib.hid ((T.out.then t3 (fun _ _ f => f.elim)).setCell (p := ⟨L, k, none⟩) (fun _ => rfl) (.int .u32 (v : Nat)))
        have LN : Hid (Row (w3.setCell ⟨L, k, none⟩ (.int .u32 (v : Nat))) L 376 (nums .u32 (gotP b (k + 1)))) := by
          have h1 := (LL.out.touch t3 id).setCell k (.int .u32 (v : Nat))
          show Row _ _ _ _
          rw [← gotP_next (by omega) Hv.out]; exact h1
        clear t3 hcut
        go_wp2
        go_roundg g'
        case measure => omega
        case rel => exact ⟨k + 1, by omega, by go_num, LN.out, TT.out⟩
  · have hne : ((n : Int) != 256) = true := by simp; omega
    have hF := Lib.hid (Pg.err_length (num := num) (b := b) (by omega))
    clear h256 hb hr hlt
    go_enter Tryz.func224, Tryz.ntmps224
    go_wp2
    go_ret3
    exact pgGet_no hF.out (by decide) (Touch.refl _ _)
end Go.Proofs.YtnffigfafalocaaGreatDoor
namespace Go.Proofs.YtnffigfafalocaaGreatDoor
open Go Go.RowKit

set_option maxHeartbeats 400000 in
theorem read_not (w : World) (p : Value) (n : Int) (h : NotDisk w p) : Calls Tryz.prog 218 #[p, .int .i64 n] w fun e w' => e = .returned (.tuple #[.slice none 0 0, .int .i64 2]) ∧ w = w' := by
  go_enter Tryz.func218, Tryz.ntmps218
  go_wp2_with (go_at_call 56; refine (ask_not _ _ _ h).mono ?_; rintro e w' ⟨rfl, rfl⟩)
  go_ret2
  exact ⟨rfl, rfl⟩
end Go.Proofs.YtnffigfafalocaaGreatDoor
namespace Go.Proofs.YtnffigfafalocaaGreatDoor
open Go Go.RowKit
set_option linter.unusedSimpArgs false

abbrev dskV (d : Option Addr) : Value := .iface 26 (.pointer d)
theorem methRead (n : Nat) (p : Option Addr) (w : World) (hn : 0 < n) : (method n 26 (.pointer p) "Read").run Tryz.prog w = .ok (218, .pointer p) w := by
  obtain ⟨m, rfl⟩ : ∃ m, n = m + 1 := ⟨n - 1, by omega⟩
  kernel_rfl
theorem methWrite (n : Nat) (p : Option Addr) (w : World) (hn : 0 < n) : (method n 26 (.pointer p) "Write").run Tryz.prog w = .ok (147, .pointer p) w := by
  obtain ⟨m, rfl⟩ : ∃ m, n = m + 1 := ⟨n - 1, by omega⟩
  kernel_rfl
theorem methLen (n : Nat) (p : Option Addr) (w : World) (hn : 0 < n) : (method n 26 (.pointer p) "Len").run Tryz.prog w = .ok (58, .pointer p) w := by
  obtain ⟨m, rfl⟩ : ∃ m, n = m + 1 := ⟨n - 1, by omega⟩
  kernel_rfl
theorem nilWrite (n : Nat) (p : Option Addr) (w : World) (hn : 0 < n) : (nilAhead n 26 (.pointer p) "Write").run Tryz.prog w = .ok (some false) w := by
  obtain ⟨m, rfl⟩ : ∃ m, n = m + 1 := ⟨n - 1, by omega⟩
  kernel_rfl

set_option maxRecDepth 100000 in
theorem pgAsk_none (w : World) (num : Nat) : Calls Tryz.prog 140 #[dskV none, .int .u32 (num : Nat)] w fun e w' => e = .returned (.int .i64 2) ∧ w = w' := by
  have hm := methRead
  go_enter Tryz.func140, Tryz.ntmps140
  go_wp2_with fail
  refine (read_not _ _ _ (.inl rfl)).mono ?_
  rintro e w' ⟨rfl, rfl⟩
  go_wp2
  go_ret
  exact ⟨rfl, rfl⟩
set_option maxRecDepth 100000 in
theorem pgAsk_any {wi : World} {d : Nat} {D : Dk.Disk} {O : Nat → Prop} (h : DiskAt wi d D O) (num : Nat) (hn : num < 4294967296) : Calls Tryz.prog 140 #[dskV (some ⟨d, 0, none⟩), .int .u32 (num : Nat)] wi fun e w' => e = .returned (.int .i64 (onD D num : Nat)) ∧ Touch No wi w' := by
  have hm := methRead
  have hl := methLen
  have hpos := Lib.hid h.ok.pos
  have htop := h.ok.top
  have HH := Lib.hid h
  have hn' : (num : Int) < 4294967296 := by omega
  obtain ⟨N, hN⟩ : ∃ N, D.seen.length = N := ⟨_, rfl⟩
  have HN := Lib.hid hN
  have hN9 : (N : Int) ≤ 16384 := by omega
  obtain ⟨q, hq⟩ : ∃ q, onD D num = q := ⟨_, rfl⟩
  have Hq := Lib.hid hq
  rw [hq]
  clear h hN htop hq hn
  by_cases hc : 4 * num + 4 ≤ N
  all_goals
    first
      | (have hlt : ¬ (N : Int) < (num : Int) * 4 + 4 := by omega)
      | (have hlt : (N : Int) < (num : Int) * 4 + 4 := by omega)
    have HC : Hid (q = onD D num) := Hq.out.symm
    rw [onD, HN.out] at HC
    first
      | (have HC1 : Hid (q = 0) := by show _ = _; rw [HC.out, if_pos hc])
      | (have HC1 : Hid (q = 1) := by show _ = _; rw [HC.out, if_neg hc])
    clear hc HC Hq
    go_enter Tryz.func140, Tryz.ntmps140
    go_wp2_with fail
    refine (HH.out.read_any 0 hpos.out).mono ?_
    rintro e w1 ⟨a, l, r, rfl, hr, hl1, hre, t1⟩
    have hr2 : ((r : Int) == 2) = false := by
      have : r = 0 ∨ r = 12 := by rw [hre, Dk.errOf]; split <;> simp
      rcases this with rfl | rfl <;> rfl
    have T1 := Lib.hid t1
    clear t1 hr hl1 hre
    go_wp2_with fail
    refine (len_in _ d D O (HH.out.no T1.out)).mono ?_
    rw [HN.out]
    rintro e w2 ⟨rfl, rfl⟩
    clear hm hl hn' hN9 hr2
    go_wp2
    go_ret
    exact ⟨by rw [HC1.out]; rfl, T1.out⟩
end Go.Proofs.YtnffigfafalocaaGreatDoor
namespace Go.Proofs.YtnffigfafalocaaGreatDoor
open Go Go.RowKit Go.Shelf
set_option linter.unusedSimpArgs false
attribute [local go_sem] Oper.semAt_some

/-- the first places of four -/
def four4 (k : Nat) : List (Fin 4) := (List.finRange 4).take k
theorem four4_next {k : Nat} (h : k < 4) : four4 (k + 1) = four4 k ++ [⟨k, h⟩] := by
  match k, h with
  | 0, _ => rfl
  | 1, _ => rfl
  | 2, _ => rfl
  | 3, _ => rfl
theorem four4_length {k : Nat} (h : k ≤ 4) : (four4 k).length = k := by simp [four4]; omega

/-- a block that is kept -/
def KeepB (Bn : Nat) (W W' : World) : Prop := W'.heap[Bn]? = W.heap[Bn]?
theorem keepB_t {Bn : Nat} {A B C : World} (h : KeepB Bn A B) (k : KeepB Bn B C) : KeepB Bn A C := k.trans h
theorem keepB_b {Bn B : Nat} (hB : Bn < B) (W : World) (l : Nat) (o o' : Obj) (hl : B ≤ l) (_ : W.heap[l]? = some o) (_ : o.isCells = false) (_ : o.isWalk = false) : KeepB Bn W (W.putObj l o') :=
  World.putObj_heap_other (by omega)
theorem KeepB.cell {Bn : Nat} {W W' : World} (h : KeepB Bn W W') : W'.cell? ⟨Bn, 0, none⟩ = W.cell? ⟨Bn, 0, none⟩ := World.cell?_of_block (a := ⟨Bn, 0, none⟩) h

set_option maxRecDepth 100000 in
set_option maxHeartbeats 4000000 in
theorem each1_in (n : Nat) (hn : 1 ≤ n) (l Bn num : Nat) (hnum : num < 4294967296) (J Jx : List (Fin 4) → World → Prop)
    (hY : ∀ pre (x : Fin 4) W, J pre W → pre.length < 4 → YieldAt Fence.wide (n - 1) Tryz.prog l #[.int .i64 ((num : Int) * 4 + ((x.val : Nat) : Int)), .int .i64 (((x.val : Nat) : Int) * 64)] W fun e W' =>
      (e = .returned (.bool true) ∧ J (pre ++ [x]) W' ∧ KeepB Bn W W') ∨ (e = .returned (.bool false) ∧ Jx (pre ++ [x]) W'))
    (W : World) (hk : W.cell? ⟨Bn, 0, none⟩ = some (.int .u32 (num : Nat))) (h0 : J [] W) :
    CallsIn Fence.wide n Tryz.prog 216 #[.func (.yield l) #[] #[], .pointer (some ⟨Bn, 0, none⟩)] W fun e W' => (∃ v, e = .returned v) ∧
      ((∃ ys, ys = four4 4 ∧ J ys W') ∨ (∃ pre, True ∧ Jx pre W')) := by
  have HS := Lib.hid hk
  have hY' := Lib.hid hY
  have hnum9 : (num : Int) < 4294967296 := by omega
  clear hk hY
  refine callsIn_of_wp Tryz.func216 rfl trivial ?_ rfl
  simp only [Tryz.ntmps216, List.size_toArray, List.length_cons, List.length_nil, Nat.reduceAdd, Nat.reduceSub, Array.replicate_succ, Array.replicate_zero, List.push_toArray, List.append_toArray, List.nil_append, List.cons_append]
  gi_wp2
  gi_loopw [4] (fun i wr => ∃ k : Nat, k ≤ 4 ∧ i = .int .i64 ((k : Nat) : Int) ∧ J (four4 k) wr ∧ Hid (KeepB Bn W wr))
    (fun i _ => 4 - (intOf i).toNat)
  case atStart => exact ⟨0, Nat.zero_le _, rfl, h0, rfl⟩
  case round =>
    obtain ⟨k, hk4, rfl, hJ, hB⟩ := hrel
    have k2 := hB.out.cell.trans HS.out
    by_cases hlt : k < 4
    · have hlt' : (k : Int) < 4 := by omega
      have hk0 : (0 : Int) ≤ (k : Nat) := by omega
      obtain ⟨fn, tmps, assign, body, hy, hR⟩ := hY'.out (four4 k) ⟨k, hlt⟩ wr hJ (by rw [four4_length hk4]; exact hlt)
      dsimp only at hy
      clear hJ
      gi_wp2
      refine hR.mono ?_
      rintro e W3 (⟨rfl, hJ3, hk3⟩ | ⟨rfl, hJx3⟩)
      · have hB3 : Hid (KeepB Bn W W3) := keepB_t hB.out hk3
        have HJ3 := Lib.hid hJ3
        clear hk3 hJ3 k2 hy hR
        gi_wp2
        go_roundw
        case rel => exact ⟨k + 1, by omega, by go_num, by rw [four4_next hlt]; exact HJ3.out, hB3⟩
        case measure => simp [intOf]; omega
      · gi_wp2
        refine bodyPost_ret (results_none rfl _ _ _) rfl ?_
        exact ⟨⟨_, rfl⟩, .inr ⟨_, trivial, hJx3⟩⟩
    · obtain rfl : k = 4 := by omega
      gi_wp2
      go_end0
      exact ⟨⟨_, rfl⟩, .inl ⟨_, rfl, hJ⟩⟩

theorem each_stops (n : Nat) (hn : 1 ≤ n) (Bn num : Nat) (hnum : num < 4294967296) (w : World) (hBn : Bn < w.heap.size) (hk : w.cell? ⟨Bn, 0, none⟩ = some (.int .u32 (num : Nat))) :
    SeqStopsK Fence.wide n Tryz.prog 216 #[.pointer (some ⟨Bn, 0, none⟩)] (fun x : Fin 4 => #[.int .i64 ((num : Int) * 4 + ((x.val : Nat) : Int)), .int .i64 (((x.val : Nat) : Int) * 64)]) (KeepB Bn) (fun ys => ys = four4 4) (fun _ => True) 4 w := fun l J Jx W hW _ _ hY h0 =>
  each1_in n hn l Bn num hnum J Jx hY W ((hW.cell (p := ⟨Bn, 0, none⟩) hBn).trans hk) h0

theorem each_any (w : World) (num : Nat) : Calls Tryz.prog 142 #[.int .u32 (num : Nat)] w fun e w' =>
    e = .returned (.func (.func 216) #[] #[.pointer (some ⟨w.heap.size, 0, none⟩)]) ∧ w.alloc (.cells #[.int .u32 (num : Nat)] 38) = w' := by
  have hmf : ∀ (fn : Fn) (first cap : Array Value) (w : World), (Instr.makeFunc fn first cap).run Tryz.prog w = .ok (.func fn first cap) w := fun _ _ _ _ => rfl
  go_enter Tryz.func142, Tryz.ntmps142
  go_wp2
  go_ret
  exact ⟨rfl, rfl⟩
end Go.Proofs.YtnffigfafalocaaGreatDoor
namespace Go.Proofs.YtnffigfafalocaaGreatDoor
open Go Go.RowKit

section
variable {P : Program} {ops : Array Oper} {md : Region.Mode} {w : World} {l m : Nat} {Q' : Exit → Act → World → Prop}
def noDefer (ops : Array Oper) : Bool := ops.all fun o => match o.op with | .defer _ => false | _ => true
theorem noDefer_spec (h : noDefer ops = true) {i : Nat} {o : Oper} (hi : ops[i]? = some o) : ∀ c, o.op ≠ .defer c := by
  intro c e
  have := Array.all_eq_true.1 h i (Array.getElem?_eq_some_iff.1 hi).1
  rw [(Array.getElem?_eq_some_iff.1 hi).2, e] at this
  cases this
theorem wpIn_of_still {o : Oper} {a : Act} {K : Act → Prop} {K' : Act → World → Prop} (hd : ∀ c, o.op ≠ .defer c) (h : ∀ a, K a → K' a w) (hh : o.still P a w K) : o.wpIn (Fence.wide.inRound l) m P a w K' Q' := by
  unfold Oper.still at hh
  unfold Oper.wpIn
  refine ⟨fun _ _ => trivial, ?_⟩
  rw [Fence.inRound_round, Oper.semAt_some _ _ _ hd]
  generalize (execOp a.eval o).run P w = r at *
  cases r with
  | ok n w' =>
    cases n <;> simp only [Oper.stillUpon] at hh <;> simp only [Oper.uponIn]
    case enter f args =>
      obtain ⟨rfl, v, hc, hn⟩ := hh
      refine ⟨fun h => by simp [Fence.wide] at h, ?_⟩
      exact CallsIn.mono (CallsIn.inRound l (callsIn_wide.2 hc)) fun e w'' ⟨he, hw⟩ => by subst he; subst hw; exact h _ hn
    all_goals (obtain ⟨rfl, h2⟩ := hh; exact h _ h2)
  | halt x w' => simp only [Oper.stillUpon] at hh
theorem wpOpIn_of_stOp {i : Nat} {a : Act} {K : Act → Prop} {K' : Act → World → Prop} (hd : noDefer ops = true) (h : ∀ a, K a → K' a w) (hh : stOp P ops w i K a) : wpOpIn (Fence.wide.inRound l) m P ops Q' i K' a w := by
  unfold stOp at hh
  unfold wpOpIn
  split
  · rename_i ho; simp only [ho] at hh; exact h _ hh
  · rename_i o ho
    simp only [ho] at hh
    split
    · rename_i hw; simp only [hw, if_true] at hh; exact wpIn_of_still (noDefer_spec hd ho) h hh
    · rename_i hw; simp only [hw] at hh; exact ⟨fun _ _ => trivial, h _ hh⟩
theorem wpAnyIn_of_head {n g : Nat} {L : Array Bool → Act → Prop} (hd : noDefer ops = true) (hL : ∀ listed a, L listed a → wpAnyIn (Fence.wide.inRound l) m P md ops Q' g listed a w) :
    ∀ (f : Nat) (listed : Array Bool) (a : Act), wpAnyL P md ops w n L f listed a → wpAnyIn (Fence.wide.inRound l) m P md ops Q' (f + g) listed a w
  | 0, listed, a, h => by rw [Nat.zero_add]; exact hL _ _ h
  | f + 1, listed, a, h => by
    rw [show f + 1 + g = (f + g) + 1 by omega]
    exact ⟨fun h0 => absurd h0 h.1, fun i hi => wpOpIn_of_stOp hd (fun a' h' => wpAnyIn_of_head hd hL f _ a' h') (h.2 i hi).2⟩
theorem wpAnyIn_of_seq : ∀ (q : List Oper) (k : Nat) (listed : Array Bool) (a : Act) (w : World), (∀ j, q[j]? = ops[k + j]?) →
    Region.seqB md ops q.length k listed = true → wpListIn (Fence.wide.inRound l) m P ops Q' q a w → wpAnyIn (Fence.wide.inRound l) m P md ops Q' q.length listed a w
  | [], _, _, _, _, _, hB, h => ⟨by simpa [Region.seqB] using hB, h⟩
  | o :: q, k, listed, a, w, hl, hB, h => by
    have h0 : ops[k]? = some o := by simpa using (hl 0).symm
    simp only [List.length_cons, Region.seqB, Bool.and_eq_true, decide_eq_true_eq] at hB
    refine ⟨fun h1 => (by rw [hB.1] at h1; cases h1), fun i hi => ?_⟩
    rw [hB.1] at hi
    have hik : i = k := by simpa using hi
    subst hik
    have hw : wpOpIn (Fence.wide.inRound l) m P ops Q' i (wpListIn (Fence.wide.inRound l) m P ops Q' q) a w := by unfold wpOpIn; simp only [h0]; exact h
    exact wpOpIn_mono (fun a' w' h' => wpAnyIn_of_seq q (i + 1) _ a' w' (fun j => by have := hl (j + 1); simpa [Nat.add_assoc, Nat.add_comm 1 j] using this) hB.2 h') hw
theorem wpIn_region_still_tail {id : Nat} {a : Act} {q : List Oper} (n : Nat) (hm : P.follows .mixedOrders = true) (hB : (noDefer q.toArray && Region.lexTailB .any q.toArray n) = true)
    (h : wpStill P q.toArray { w with drawn := w.drawn + 1 } (fun a' => wpListIn (Fence.wide.inRound l) m P q.toArray Q' (q.drop n) a' { w with drawn := w.drawn + 1 }) (q.take n) a) : (Code.region id q.toArray true).wpIn (Fence.wide.inRound l) m P Q' a w := by
  simp only [Region.lexTailB, Bool.and_eq_true, decide_eq_true_eq] at hB
  obtain ⟨hdf, ⟨⟨⟨hsel, hn⟩, hs⟩, hc⟩, hlex⟩ := hB
  have htl : (q.take n).length = n := by simp; simp at hn; omega
  have hdl : (q.drop n).length = q.toArray.size - n := by simp
  have inv0 : HeadInv .any q.toArray n (Array.replicate q.toArray.size false) :=
    ⟨by simp, fun j oj _ hl => (by rw [getD_replicate_false] at hl; cases hl), fun t _ ht => getD_in (by simpa using ht) (getD_replicate_false _ _)⟩
  have H := wpAnyL_lex (md := .any) (g := q.toArray.size - n) hsel hs hc hn (q.take n) 0 _ a (fun j hj => by
    have hj' : j < n := by rw [htl] at hj; exact hj
    simp [hj']) (by simpa using htl) inv0 (by rw [htl]; exact hlex) h
  refine wpIn_region_any hm ?_
  have := wpAnyIn_of_head (Q' := Q') (g := q.toArray.size - n) (l := l) (m := m) hdf (fun listed a' hL => by
    have := wpAnyIn_of_seq (md := .any) (Q' := Q') (l := l) (m := m) (q.drop n) n listed a' { w with drawn := w.drawn + 1 } (fun j => by simp [List.getElem?_drop]) (by rw [hdl]; exact hL.1) hL.2
    rwa [hdl] at this) _ _ _ H
  rw [htl] at this
  have hn' : n + (q.toArray.size - n) = q.toArray.size := by simp at hn ⊢; omega
  rw [hn'] at this
  exact this
end
end Go.Proofs.YtnffigfafalocaaGreatDoor
