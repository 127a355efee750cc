/-
  Package pages by its own text: Get.
-/
import Derived.Test.YtpmkegbgbldpnaaGreatDoorK12
import Derived.Test.YtpmkegbgbldpnaaGreatDoorK08
import Derived.Test.YtpmkegbgbldpnaaGreatDoorK13
namespace Go.Proofs.YtpmkegbgbldpnaaGreatDoor
open Go Go.RowKit
set_option linter.unusedSimpArgs false

def gotP (b : List Nat) (k : Nat) : List Nat := (List.range k).map (fun j => Rt.unfour (b.drop (4 * j))) ++ List.replicate (4 - k) 0
theorem gotP_length {b : List Nat} {k : Nat} (h : k ≤ 4) : (gotP b k).length = 4 := by simp [gotP]; omega
theorem gotP_next {b : List Nat} {k v : Nat} (h : k < 4) (hv : Rt.unfour (b.drop (4 * k)) = v) : (nums .u32 (gotP b k)).set k (.int .u32 (v : Nat)) = nums .u32 (gotP b (k + 1)) := by
  subst hv
  rw [nums, nums, ← List.map_set (f := fun (x : Nat) => Value.int .u32 (x : Int)) (a := Rt.unfour (b.drop (4 * k)))]
  congr 1
  rw [gotP, gotP, List.set_append_right _ _ (by simp), List.range_succ, List.map_append, List.append_assoc]
  congr 1
  simp only [List.length_map, List.length_range, Nat.sub_self]
  rw [show 4 - k = (4 - (k + 1)) + 1 by omega, List.replicate_succ]
  rfl
def zP4 : Array Value := (List.replicate 4 (Value.int .u32 0)).toArray
theorem zP4_zero (w : World) : (zeroValue 374).run Tryz.prog w = .ok (.agg zP4) w := by kernel_rfl
theorem zP4_size : zP4.size = 4 := by kernel_rfl
theorem zP4_ne : zP4 ≠ #[] := fun h => by have := zP4_size; rw [h] at this; cases this

theorem getFour_at (w : World) (a : Option Addr) (n c : Nat) (b : List Nat) (v : Nat) (hb : b.length = n) (h4 : 4 ≤ n) (hmax : (n : Int) ≤ 9223372036854775807) (hr : Rd w a (nums .u8 b)) (hlt : ∀ x ∈ b, x < 256) (hv : Rt.unfour b = v) :
    Calls Tryz.prog 223 #[.slice a n c] w fun e w' => e = .returned (.tuple #[.int .u32 (v : Nat), .int .i64 0]) ∧ Touch No w w' := by
  subst hv
  refine (getFour_any w a n c b hb hmax hr hlt).mono fun e w' ⟨he, t⟩ => ⟨?_, t⟩
  rw [if_neg (by omega), if_neg (by omega)] at he
  exact he

set_option maxHeartbeats 2000000 in
theorem cloneB_own (w : World) (a : Option Addr) (n c : Nat) (xs : List Nat) (ha : a ≠ none) (hr : Rd w a (nums .u8 xs)) (hl : xs.length = n) (hn : (n : Int) ≤ 1000000000000) :
    Calls Tryz.prog 246 #[.slice a n c] w fun e w' => ∃ a' c', e = .returned (.slice a' n c') ∧ Own w' w.heap.size 5 (.slice a' n c') (nums .u8 xs) ∧ n ≤ c' ∧ Touch No w w' := by
  obtain ⟨⟨g, o, sp⟩, rfl⟩ : ∃ ad, a = some ad := by cases a with | none => exact absurd rfl ha | some ad => exact ⟨ad, rfl⟩
  have hq := fun (w : World) (a : Option Addr) (n c n' c' : Nat) => Lib.run_eql_slice_nil (P := Tryz.prog) w 22 5 a n c n' c' Tryz.underlying22
  obtain ⟨I, hi0, hi1, hi2, hi3⟩ := u8_info
  have HI := Lib.hid (And.intro hi0 (And.intro hi1 (And.intro hi2 hi3)))
  have Hl := Lib.hid (show (nums .u8 xs).length = n by rw [nums_length]; exact hl)
  have Hn := Lib.hid hn
  have HR := Lib.hid (hr.no ((Touch.refl No w).alloc (.cells #[] 5)))
  have HO : Hid (Own (w.alloc (.cells #[] 5)) w.heap.size 5 (.slice (some ⟨w.heap.size, 0, none⟩) 0 0) []) := own_of_row (Row.new w 5 #[]) (Nat.le_refl _) rfl (Nat.zero_le _)
  clear hr hn hl hi0 hi1 hi2 hi3 ha
  go_enter Tryz.func246, Tryz.ntmps246
  go_wp2_with (refine wpList_append_rd rfl _ _ _ rfl w.heap.size 5 I (.int .u8 0) 1 Tryz.underlying22 HI.out.1 HI.out.2.1 HI.out.2.2.1 HI.out.2.2.2 rfl _ _ HO.out rfl (some ⟨g, o, sp⟩) n c (nums .u8 xs) rfl Hl.out HR.out (nums_one _ _) (by have := Hn.out; unfold maxLen; simp only [List.length_nil]; omega) (by have := Hn.out; simp only [List.length_nil]; omega) (by simp) ?_)
  rintro v w1 o1 t1
  have o1 : Own w1 w.heap.size 5 v (nums .u8 xs) := o1
  obtain ⟨a', c', rfl, hc, _⟩ := o1.form' (n := n) Hl.out
  have O1 := Lib.hid o1
  have T1 := Lib.hid (((Touch.refl No w).alloc (.cells #[] 5)).then t1 (fun i hi e => absurd (HO.out.block e).1 (Nat.not_le.2 hi)))
  have HC := Lib.hid hc
  clear o1 t1 hc
  go_wp2
  go_ret
  exact ⟨a', c', by simp, O1.out, HC.out, T1.out⟩
theorem clipB_any (w : World) (a : Option Addr) (n c : Nat) (h : n ≤ c) : Calls Tryz.prog 162 #[.slice a n c] w fun e w' => e = .returned (.slice a n n) ∧ w = w' := by
  have hnc : (n : Int) ≤ (c : Int) := by omega
  have h0 : (0 : Int) ≤ (n : Int) := Int.natCast_nonneg _
  go_enter Tryz.func162, Tryz.ntmps162
  go_wp2
  go_ret
  exact ⟨rfl, rfl⟩

def PgGetPost (w : World) (num : Nat) (b : List Nat) (e : Ending) (w' : World) : Prop :=
  ∃ a n, e = .returned (.tuple #[.int .u32 (Pg.epochOf num b : Nat), .slice a n n, .int .i64 (Pg.err num b : Nat)]) ∧ (Pg.bodyOf num b).length = n ∧ (∃ c, Own w' w.heap.size 5 (.slice a n c) (nums .u8 (Pg.bodyOf num b))) ∧ Touch No w w'
theorem pgGet_no {w w' : World} {num : Nat} {b : List Nat} {E : Nat} (h : Pg.err num b = E) (h0 : E ≠ 0) (t : Touch No w w') : PgGetPost w num b (.returned (.tuple #[.int .u32 0, .slice none 0 0, .int .i64 (E : Nat)])) w' := by
  obtain ⟨h1, h2⟩ := Pg.err_no (num := num) (b := b) (by rw [h]; exact h0)
  exact ⟨none, 0, by rw [h1, h]; rfl, by rw [h2]; rfl, ⟨0, by rw [h2]; exact Own.nil _ _ _⟩, t⟩

set_option maxRecDepth 100000 in
set_option maxHeartbeats 4000000 in
theorem pageGet_any (w : World) (num : Nat) (a : Option Addr) (n c : Nat) (b : List Nat) (hb : b.length = n) (hc : n ≤ c) (hmax : (c : Int) ≤ 9223372036854775807) (hr : Rd w a (nums .u8 b)) (hlt : ∀ x ∈ b, x < 256) :
    Calls Tryz.prog 222 #[.int .u32 (num : Nat), .slice a n c] w (PgGetPost w num b) := by
  by_cases h256 : n = 256
  · subst h256
    obtain ⟨I, hi0, hi1, hi2, hi3⟩ := u8_info
    have HI := Lib.hid (And.intro hi0 hi2)
    have Hb := Lib.hid hb
    have Hr := Lib.hid hr
    have Hlt := Lib.hid hlt
    have Hc := Lib.hid hc
    have hc256 : (256 : Int) ≤ (c : Nat) := by omega
    clear hb hr hlt hi0 hi1 hi2 hi3 hc
    have hz1 := zP4_zero
    have hz3 := zP4_size
    have hz5 := zP4_ne
    go_enter Tryz.func222, Tryz.ntmps222
    go_wp2
    obtain ⟨L, hL⟩ : ∃ L, L = w.heap.size := ⟨_, rfl⟩
    obtain ⟨W, hW⟩ : ∃ W, W = w.alloc (.cells zP4 374) := ⟨_, rfl⟩
    have tW : Touch No w W := by rw [hW]; exact (Touch.refl No w).alloc _
    have hrL : Row W L 374 (nums .u32 (gotP b 0)) := by
      rw [hW, hL]; exact Row.new _ _ zP4
    rw [← hW, ← hL]
    have HL := Lib.hid hrL
    have HT := Lib.hid tW
    have HLL := Lib.hid hL
    clear hL hW tW hrL hz1 hz3 hz5
    go_loopg [12] 4 (fun g s12 wr => ∃ k : Nat, k + g = 4 ∧ s12 = .int .i64 ((k : Nat) : Int) ∧ Hid (Row wr L 374 (nums .u32 (gotP b k))) ∧ Hid (Touch (One L) W wr))
    case atStart => exact ⟨0, rfl, rfl, HL.out, Touch.refl _ _⟩
    case round =>
      obtain ⟨k, hkg, rfl, LL, T⟩ := hrel
      have TW := Lib.hid (HT.out.then T.out (fun i hi e => by
        have h2 : i = L := e
        have h3 := HLL.out
        omega))
      cases gk with
      | zero =>
        obtain rfl : k = 4 := by omega
        have hcl : ∀ j, j < 4 → wr.cell? ⟨L, j, none⟩ = some (.int .u32 (Rt.unfour (b.drop (4 * j)) : Nat)) := fun j hj => by
          rw [LL.out.cell, nums_get (by rw [gotP_length (by decide)]; exact hj)]
          congr 3
          match j, hj with
          | 0, _ => rfl
          | 1, _ => rfl
          | 2, _ => rfl
          | 3, _ => rfl
        obtain ⟨x0, hx0⟩ : ∃ x0, Rt.unfour b = x0 := ⟨_, rfl⟩
        obtain ⟨x1, hx1⟩ : ∃ x1, Rt.unfour (b.drop 4) = x1 := ⟨_, rfl⟩
        obtain ⟨m, hm⟩ : ∃ m, Pg.many b = m := ⟨_, rfl⟩
        obtain ⟨td, htd⟩ : ∃ td, Pg.told b = td := ⟨_, rfl⟩
        have HK : Hid (∀ wx, Touch No wr wx → wx.cell? ⟨L, 0, none⟩ = some (.int .u32 (x0 : Nat)) ∧ wx.cell? ⟨L, 1, none⟩ = some (.int .u32 (x1 : Nat)) ∧ wx.cell? ⟨L, 2, none⟩ = some (.int .u32 (m : Nat)) ∧ wx.cell? ⟨L, 3, none⟩ = some (.int .u32 (td : Nat))) := fun wx t => by
          refine ⟨t.cell (id : No _ → False) ?_, t.cell (id : No _ → False) ?_, t.cell (id : No _ → False) ?_, t.cell (id : No _ → False) ?_⟩
          · rw [← hx0]; have := hcl 0 (by decide); exact this
          · rw [← hx1]; exact hcl 1 (by decide)
          · rw [← hm]; exact hcl 2 (by decide)
          · rw [← htd]; exact hcl 3 (by decide)
        obtain ⟨k0, k1, k2, k3⟩ := HK.out wr (Touch.refl _ _)
        have hm32 : m < 4294967296 := by rw [← hm]; exact Rt.unfour_lt (fun x hx => Hlt.out x (List.mem_of_mem_drop hx))
        have Hx0 := Lib.hid hx0
        have Hx1 := Lib.hid hx1
        have Hm := Lib.hid hm
        have Htd := Lib.hid htd
        clear hcl hx0 hx1 hm htd T LL HT HL
        by_cases hm1 : 240 < m
        · have hm1' : (240 : Int) < (m : Nat) := by omega
          have hF : Hid (Pg.err num b = 4) := by show _ = _; rw [Pg.err, if_neg (fun h => by have := h.2.1; rw [Hm.out] at this; omega)]
          clear hm1
          go_wp2
          go_ret3
          exact pgGet_no hF.out (by decide) TW.out
        have hm1' : ¬ (240 : Int) < (m : Nat) := by omega
        have hmw : (m : Int) ≤ 240 := by omega
        have hm0 : (0 : Int) ≤ (m : Nat) := by omega
        obtain ⟨r, hr⟩ : ∃ r, 256 - (16 + m) = r := ⟨_, rfl⟩
        have hcut : ∀ wx : World, (Instr.slice 22 (.slice a 256 c) (some (.int .u32 (16 + (m : Int)))) none none).run Tryz.prog wx = .ok (.slice (cutAddr a c (16 + m)) r (c - (16 + m))) wx := fun wx => by
          have := run_cut Tryz.underlying22 HI.out.1 HI.out.2 a 256 c (16 + m) .u32 (by omega) wx
          rw [hr, show ((16 + m : Nat) : Int) = 16 + (m : Int) by omega] at this; exact this
        have rk : Hid (Rd wr (cutAddr a c (16 + m)) (nums .u8 (b.drop (16 + m)))) := by
          have := (Hr.out.no TW.out).cut (cap := c) (l := 16 + m) (by rw [nums_length, Hb.out]; exact Hc.out)
          show Rd _ _ _
          rw [nums, List.map_drop]; exact this
        have lk : Hid ((b.drop (16 + m)).length = r) := by show _ = _; rw [List.length_drop, Hb.out, hr]
        have hrc : Hid (r ≤ c - (16 + m)) := by show _ ≤ _; have := Hc.out; omega
        have hmx : Hid (((c - (16 + m) : Nat) : Int) ≤ 9223372036854775807) := by show _ ≤ _; omega
        clear hr
        go_wp2_with fail
        refine (trim_any _ _ r _ (b.drop (16 + m)) lk.out hrc.out hmx.out rk.out).mono ?_
        rintro e w1 ⟨a1, z, c1, hz, rfl, hz0, t1⟩
        obtain ⟨q0, q1, q2, q3⟩ := HK.out w1 t1
        have T1 := Lib.hid (TW.out.trans t1)
        have Ht1 := Lib.hid t1
        clear t1 k0 k1 k2 k3 hcut lk rk hrc hmx
        cases hno : Rt.nought (b.drop (16 + m)) with
        | false =>
          have hz1 : (0 : Int) < (z : Nat) := by
            have : z ≠ 0 := fun h => by have := hz0.1 h; rw [hno] at this; cases this
            omega
          have hF : Hid (Pg.err num b = 4) := by show _ = _; rw [Pg.err, if_neg (fun h => by have := h.2.2; rw [Hm.out, hno] at this; cases this)]
          clear hz0 hno hz hm1
          go_wp2
          go_ret3
          exact pgGet_no hF.out (by decide) T1.out
        | true =>
          obtain rfl : z = 0 := hz0.2 hno
          have hform : Hid (Pg.form b) := ⟨Hb.out, by rw [Hm.out]; omega, by rw [Hm.out]; exact hno⟩
          clear hz0 hno hz
          obtain ⟨q, hq⟩ : ∃ q, Pg.body b = q := ⟨_, rfl⟩
          have hql : Hid (q.length = m) := by show _ = _; rw [← hq, Pg.body_len0 hform.out, Hm.out]
          have hcut2 : ∀ wx : World, (Instr.slice 22 (.slice a 256 c) (some (.int .i64 16)) (some (.int .u32 (16 + (m : Int)))) none).run Tryz.prog wx = .ok (.slice (cutAddr a c 16) m (c - 16)) wx := fun wx => by
            have := run_cut2 Tryz.underlying22 HI.out.1 HI.out.2 a 256 c 16 (16 + m) .i64 .u32 (by omega) (by have := Hc.out; omega) wx
            rw [show 16 + m - 16 = m by omega, show ((16 + m : Nat) : Int) = 16 + (m : Int) by omega] at this; exact this
          have hhead : ∀ wx : World, (Instr.slice 22 (.slice a 256 c) none (some (.int .i64 12)) none).run Tryz.prog wx = .ok (.slice a 12 c) wx := fun wx => run_head Tryz.underlying22 HI.out.1 HI.out.2 a 256 c 12 .i64 (by have := Hc.out; omega) wx
          have hne16 : Hid (cutAddr a c 16 ≠ none) := by
            obtain ⟨g, o, e, _⟩ := Hr.out.num (i := 0) (by rw [Hb.out]; decide)
            show _ ≠ _
            rw [cutAddr, if_neg (by have := Hc.out; omega), e]
            exact fun h => by cases h
          have rb : Hid (∀ wx, Touch No w wx → Rd wx (cutAddr a c 16) (nums .u8 q)) := fun wx t => by
            have := ((Hr.out.no t).cut (cap := c) (l := 16) (by rw [nums_length, Hb.out]; exact Hc.out)).take m
            rw [← hq, Pg.body, Hm.out, nums, List.map_take, List.map_drop]; exact this
          have rh : Hid (∀ wx, Touch No w wx → Rd wx a (nums .u8 (b.take 12))) := fun wx t => by
            have := (Hr.out.no t).take 12
            rw [nums, List.map_take]; exact this
          have lh : Hid ((b.take 12).length = 12) := by show _ = _; rw [List.length_take, Hb.out]; rfl
          obtain ⟨sm, hsm⟩ : ∃ sm, Rt.of (b.take 12) = sm := ⟨_, rfl⟩
          obtain ⟨x, hx⟩ : ∃ x, Rt.on sm q = x := ⟨_, rfl⟩
          have hright : Hid (Pg.right b = x) := by show _ = _; rw [Pg.right, hq, hsm, hx]
          have hsm32 : Hid (sm < 4294967296) := by show _ < _; rw [← hsm]; exact Rt.of_lt
          have CO : Hid (∀ wx, Touch No w wx → Calls Tryz.prog 229 #[.slice a 12 c] wx fun e w' => e = .returned (.int .u32 (sm : Nat)) ∧ Touch No wx w') := fun wx t => by
            rw [← hsm]; exact of_any wx a 12 c (b.take 12) lh.out (by decide) (rh.out wx t) (fun x hx => Hlt.out x (List.mem_of_mem_take hx))
          have CN : Hid (∀ wx, Touch No w wx → Calls Tryz.prog 228 #[.int .u32 (sm : Nat), .slice (cutAddr a c 16) m (c - 16)] wx fun e w' => e = .returned (.int .u32 (x : Nat)) ∧ Touch No wx w') := fun wx t => by
            rw [← hx]
            exact on_any wx sm hsm32.out _ m _ q hql.out (by omega) (rb.out wx t) (fun y hy => by rw [← hq] at hy; exact Hlt.out y (List.mem_of_mem_drop (List.mem_of_mem_take hy)))
          have Hq := Lib.hid hq
          clear hq hsm hx hm1
          have k3d : w1.drew.cell? ⟨L, 3, none⟩ = some (.int .u32 (td : Nat)) := q3
          have HK1 : Hid (∀ wx, Touch No w1 wx → wx.cell? ⟨L, 0, none⟩ = some (.int .u32 (x0 : Nat)) ∧ wx.cell? ⟨L, 1, none⟩ = some (.int .u32 (x1 : Nat)) ∧ wx.cell? ⟨L, 2, none⟩ = some (.int .u32 (m : Nat)) ∧ wx.cell? ⟨L, 3, none⟩ = some (.int .u32 (td : Nat))) := fun wx t => HK.out wx (Ht1.out.trans t)
          have T1d := Lib.hid ((Touch.refl No w1).drew)
          have cm := fun wx t => (CN.out wx t)
          clear cm Ht1 HK
          by_cases hst : x = td
          · subst hst
            go_wp2_with fail
            go_region_held3 (fun w' => w'.cell? ⟨L, 3, none⟩ = some (.int .u32 (x : Nat))) (first | exact q3 | exact k3d | exact (HK1.out _ (T1d.out.trans t2)).2.2.2 | exact (HK1.out _ ((T1d.out.trans t2).trans t3)).2.2.2) (first
              | (go_at_call 229; refine (CO.out _ (T1.out.trans T1d.out)).mono ?_; rintro e w2 ⟨rfl, t2⟩)
              | (go_at_call 228; refine (CN.out _ ((T1.out.trans T1d.out).trans t2)).mono ?_; rintro e w3 ⟨rfl, t3⟩))
            all_goals
              obtain ⟨q0, q1, q2, q3⟩ := HK1.out _ ((T1d.out.trans t2).trans t3)
              have T3 := Lib.hid (((T1.out.trans T1d.out).trans t2).trans t3)
              have HK3 : Hid (∀ wx, Touch No w3 wx → wx.cell? ⟨L, 1, none⟩ = some (.int .u32 (x1 : Nat))) := fun wx t => (HK1.out wx (((T1d.out.trans t2).trans t3).trans t)).2.1
              have T3d := Lib.hid ((Touch.refl No w3).drew)
              clear t2 t3 k3d
              by_cases hnum : x0 = num
              · subst hnum
                have hE : Hid (Pg.err x0 b = 0) := by show _ = _; rw [Pg.err, if_pos hform.out, hright.out, Htd.out, if_neg (fun h => h rfl), Hx0.out, if_neg (fun h => h rfl)]
                have k1d : w3.drew.cell? ⟨L, 1, none⟩ = some (.int .u32 (x1 : Nat)) := q1
                clear q2 q3
                go_wp2_with fail
                clear q0
                go_region_held3 (fun w' => w'.cell? ⟨L, 1, none⟩ = some (.int .u32 (x1 : Nat))) (first | exact q1 | exact k1d | exact HK3.out _ (T3d.out.trans t4)) (first
                  | (go_at_call 246; refine (cloneB_own _ (cutAddr a c 16) m (c - 16) q hne16.out (rb.out _ (T3.out.trans T3d.out)) hql.out (by omega)).mono ?_; rintro e w4 ⟨a4, c4, rfl, o4, hc4, t4⟩)
                  | (go_at_call 162; refine (clipB_any _ a4 m c4 hc4).mono ?_; rintro e w5 ⟨rfl, rfl⟩))
                all_goals
                  have T4 := Lib.hid ((T3.out.trans T3d.out).trans t4)
                  have O4 := Lib.hid (o4.mono (base' := w.heap.size) (T3.out.trans T3d.out).size)
                  clear t4 o4 q1 k1d hc4
                  go_wp2
                  go_ret3
                  exact ⟨a4, m, by rw [hE.out, Pg.epochOf, if_pos hE.out, Hx1.out]; rfl, by rw [Pg.bodyOf, if_pos hE.out, Hq.out]; exact hql.out, ⟨c4, by rw [Pg.bodyOf, if_pos hE.out, Hq.out]; exact O4.out⟩, T4.out⟩
              · have hneq : ((x0 : Int) != (num : Int)) = true := by simp; omega
                have hF : Hid (Pg.err num b = 4) := by show _ = _; rw [Pg.err, if_pos hform.out, hright.out, Htd.out, if_neg (fun h => h rfl), Hx0.out, if_pos hnum]
                clear hnum
                go_wp2
                go_ret3
                exact pgGet_no hF.out (by decide) T3.out
          · have hneq : ((x : Int) != (td : Int)) = true := by simp; omega
            have hF : Hid (Pg.err num b = 11) := by show _ = _; rw [Pg.err, if_pos hform.out, hright.out, Htd.out, if_pos hst]
            clear hst
            go_wp2_with fail
            go_region_held3 (fun w' => w'.cell? ⟨L, 3, none⟩ = some (.int .u32 (td : Nat))) (first | exact q3 | exact k3d | exact (HK1.out _ (T1d.out.trans t2)).2.2.2 | exact (HK1.out _ ((T1d.out.trans t2).trans t3)).2.2.2) (first
              | (go_at_call 229; refine (CO.out _ (T1.out.trans T1d.out)).mono ?_; rintro e w2 ⟨rfl, t2⟩)
              | (go_at_call 228; refine (CN.out _ ((T1.out.trans T1d.out).trans t2)).mono ?_; rintro e w3 ⟨rfl, t3⟩))
            all_goals
              have T3 := Lib.hid (((T1.out.trans T1d.out).trans t2).trans t3)
              clear t2 t3 q0 q1 q2 q3 k3d
              go_wp2
              go_ret3
              exact pgGet_no hF.out (by decide) T3.out
      | succ g' =>
        have hk4 : (k : Int) < 4 := by omega
        have hk0 : (0 : Int) ≤ (k : Nat) := by omega
        obtain ⟨r, hr⟩ : ∃ r, 256 - 4 * k = r := ⟨_, rfl⟩
        have hcut : ∀ wx : World, (Instr.slice 22 (.slice a 256 c) (some (.int .i64 (4 * (k : Int)))) none none).run Tryz.prog wx = .ok (.slice (cutAddr a c (4 * k)) r (c - 4 * k)) wx := fun wx => by
          have := run_cut Tryz.underlying22 HI.out.1 HI.out.2 a 256 c (4 * k) .i64 (by omega) wx
          rw [hr, show ((4 * k : Nat) : Int) = 4 * (k : Int) by omega] at this; exact this
        obtain ⟨v, hv⟩ : ∃ v, Rt.unfour (b.drop (4 * k)) = v := ⟨_, rfl⟩
        have rk : Hid (Rd wr (cutAddr a c (4 * k)) (nums .u8 (b.drop (4 * k)))) := by
          have := (Hr.out.no TW.out).cut (cap := c) (l := 4 * k) (by rw [nums_length, Hb.out]; exact Hc.out)
          show Rd _ _ _
          rw [nums, List.map_drop]; exact this
        have lk : Hid ((b.drop (4 * k)).length = r) := by show _ = _; rw [List.length_drop, Hb.out, hr]
        have hr4 : 4 ≤ r := by omega
        have hr9 : (r : Int) ≤ 9223372036854775807 := by omega
        have hce := LL.out.cell k
        rw [nums_get (by rw [gotP_length (by omega)]; omega)] at hce
        have hso := LL.out.soft k
        have Hce := Lib.hid hce
        have Hso := Lib.hid hso
        have Hv := Lib.hid hv
        clear hce hso hv hr
        go_wp2_with fail
        refine (getFour_at wr _ r (c - 4 * k) (b.drop (4 * k)) v lk.out hr4 hr9 rk.out (fun x hx => Hlt.out x (List.mem_of_mem_drop hx)) Hv.out).mono ?_
        rintro e w3 ⟨rfl, t3⟩
        have c3 := t3.cell (id : No L → False) Hce.out
        have f3 := (t3.frozen (lt_of_cell Hce.out) id k).trans Hso.out
        have TT := Lib.hid ((T.out.then t3 (fun _ _ f => f.elim)).setCell (p := ⟨L, k, none⟩) (fun _ => rfl) (.int .u32 (v : Nat)))
        have LN : Hid (Row (w3.setCell ⟨L, k, none⟩ (.int .u32 (v : Nat))) L 374 (nums .u32 (gotP b (k + 1)))) := by
          have h1 := (LL.out.touch t3 id).setCell k (.int .u32 (v : Nat))
          show Row _ _ _ _
          rw [← gotP_next (by omega) Hv.out]; exact h1
        clear t3 hcut
        go_wp2
        go_roundg g'
        case measure => omega
        case rel => exact ⟨k + 1, by omega, by go_num, LN.out, TT.out⟩
  · have hne : ((n : Int) != 256) = true := by simp; omega
    have hF := Lib.hid (Pg.err_length (num := num) (b := b) (by omega))
    clear h256 hb hr hlt
    go_enter Tryz.func222, Tryz.ntmps222
    go_wp2
    go_ret3
    exact pgGet_no hF.out (by decide) (Touch.refl _ _)
end Go.Proofs.YtpmkegbgbldpnaaGreatDoor
