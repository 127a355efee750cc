/-
  Package drydockref01 by its own text: GetFour.
  Package drydockref14 by its own text: Get.
  The plain mathematics of pages on a disk (chapter 14). No program in sight.
-/
import Derived.Test.YtkiehoboeiengaaGreatDoorK35
import Derived.Test.YtkiehoboeiengaaGreatDoorK37
import Derived.Test.YtkiehoboeiengaaGreatDoorK33
import Derived.Test.YtkiehoboeiengaaGreatDoorK10
namespace Go.Proofs.YtkiehoboeiengaaGreatDoor
open Go Go.RowKit
set_option linter.unusedSimpArgs false

set_option maxRecDepth 100000 in
set_option maxHeartbeats 4000000 in
theorem refGetFour_yes (w : World) (g o n c : Nat) (x0 x1 x2 x3 : Nat) (hn : 4 ≤ n) (h0 : x0 < 256) (h1 : x1 < 256) (h2 : x2 < 256) (h3 : x3 < 256)
    (c0 : w.cell? ⟨g, o + 0, none⟩ = some (.int .u8 (x0 : Nat))) (c1 : w.cell? ⟨g, o + 1, none⟩ = some (.int .u8 (x1 : Nat))) (c2 : w.cell? ⟨g, o + 2, none⟩ = some (.int .u8 (x2 : Nat))) (c3 : w.cell? ⟨g, o + 3, none⟩ = some (.int .u8 (x3 : Nat))) :
    Calls Tryz.prog 154 #[.slice (some ⟨g, o, none⟩) n c] w fun e w' => e = .returned (.tuple #[.int .u32 ((x0 + 256 * x1 + 65536 * x2 + 16777216 * x3 : Nat) : Int), .int .i64 0]) ∧ w = w' := by
  have hn' : ¬ (n : Int) < 4 := by omega
  have hn0 : (0 : Int) < (n : Nat) := by omega
  have hn1 : (1 : Int) < (n : Nat) := by omega
  have hn2 : (2 : Int) < (n : Nat) := by omega
  have hn3 : (3 : Int) < (n : Nat) := by omega
  have hn4 : 0 < n := by omega
  have hn5 : 1 < n := by omega
  have hn6 : 2 < n := by omega
  have hn7 : 3 < n := by omega
  have C0 := Lib.hid c0
  have C1 := Lib.hid c1
  have C2 := Lib.hid c2
  have C3 := Lib.hid c3
  obtain ⟨y2, hy2⟩ : ∃ y2, y2 = x3 * 256 + x2 := ⟨_, rfl⟩
  obtain ⟨y1, hy1⟩ : ∃ y1, y1 = y2 * 256 + x1 := ⟨_, rfl⟩
  obtain ⟨y0, hy0⟩ : ∃ y0, y0 = y1 * 256 + x0 := ⟨_, rfl⟩
  have hY0 : Hid (y0 = x0 + 256 * x1 + 65536 * x2 + 16777216 * x3) := by show _ = _; omega
  have b2 : y2 < 65536 := by omega
  have b1 : y1 < 16777216 := by omega
  have b0 : y0 < 4294967296 := by omega
  have HY2 := Lib.hid hy2
  have HY1 := Lib.hid hy1
  have HY0 := Lib.hid hy0
  clear hy0 hy1 hy2 c0 c1 c2 c3 hn
  go_enter Tryz.func154, Tryz.ntmps154
  go_wp2
  go_loopg [4, 5] 4 (fun gk s4 s5 wr => Hid (wr = w) ∧ ((gk = 4 ∧ s5 = .int .i64 3 ∧ s4 = .int .u32 0) ∨ (gk = 3 ∧ s5 = .int .i64 2 ∧ s4 = .int .u32 (x3 : Nat)) ∨ (gk = 2 ∧ s5 = .int .i64 1 ∧ s4 = .int .u32 (y2 : Nat)) ∨ (gk = 1 ∧ s5 = .int .i64 0 ∧ s4 = .int .u32 (y1 : Nat)) ∨ (gk = 0 ∧ s5 = .int .i64 (-1) ∧ s4 = .int .u32 (y0 : Nat))))
  case atStart => exact ⟨rfl, Or.inl ⟨rfl, rfl, rfl⟩⟩
  case round =>
    obtain ⟨hw, hrel⟩ := hrel
    rcases hrel with ⟨rfl, rfl, rfl⟩ | ⟨rfl, rfl, rfl⟩ | ⟨rfl, rfl, rfl⟩ | ⟨rfl, rfl, rfl⟩ | ⟨rfl, rfl, rfl⟩
    · have cc : wr.cell? ⟨g, o + 3, none⟩ = some (.int .u8 (x3 : Nat)) := by rw [hw.out]; exact C3.out
      go_wp2
      go_roundg 3
      case measure => omega
      case rel => exact ⟨hw, Or.inr (Or.inl ⟨rfl, rfl, rfl⟩)⟩
    · have cc : wr.cell? ⟨g, o + 2, none⟩ = some (.int .u8 (x2 : Nat)) := by rw [hw.out]; exact C2.out
      go_wp2
      go_roundg 2
      case measure => omega
      case rel => exact ⟨hw, Or.inr (Or.inr (Or.inl ⟨rfl, rfl, by rw [HY2.out]; go_num⟩))⟩
    · have cc : wr.cell? ⟨g, o + 1, none⟩ = some (.int .u8 (x1 : Nat)) := by rw [hw.out]; exact C1.out
      go_wp2
      go_roundg 1
      case measure => omega
      case rel => exact ⟨hw, Or.inr (Or.inr (Or.inr (Or.inl ⟨rfl, rfl, by rw [HY1.out]; go_num⟩)))⟩
    · have cc : wr.cell? ⟨g, o + 0, none⟩ = some (.int .u8 (x0 : Nat)) := by rw [hw.out]; exact C0.out
      rw [Nat.add_zero] at cc
      go_wp2
      go_roundg 0
      case measure => omega
      case rel => exact ⟨hw, Or.inr (Or.inr (Or.inr (Or.inr ⟨rfl, rfl, by rw [HY0.out]; go_num⟩)))⟩
    · have hww := Lib.hid hw.out.symm
      go_wp2
      go_ret2
      exact ⟨by rw [← hY0.out]; rfl, hww.out⟩
theorem refGetFour_any (w : World) (a : Option Addr) (n c : Nat) (b : List Nat) (hb : b.length = n) (hr : Rd w a (nums .u8 b)) (hlt : ∀ x ∈ b, x < 256) :
    Calls Tryz.prog 154 #[.slice a n c] w fun e w' => e = .returned (.tuple #[.int .u32 ((if n < 4 then 0 else Rt.unfour b : Nat) : Int), .int .i64 ((if n < 4 then 5 else 0 : Nat) : Int)]) ∧ w = w' := by
  by_cases hn : n < 4
  · rw [if_pos hn, if_pos hn]
    have hn' : (n : Int) < 4 := by omega
    clear hb hr hlt hn
    go_enter Tryz.func154, Tryz.ntmps154
    go_wp2
    go_ret2
    exact ⟨rfl, rfl⟩
  · rw [if_neg hn, if_neg hn]
    have hl : ∀ i, i < 4 → b.getD i 0 < 256 := fun i hi => hlt _ (by rw [List.getD_eq_getElem?_getD, List.getElem?_eq_getElem (by omega)]; exact List.getElem_mem _)
    obtain ⟨g, o, rfl, c0⟩ := hr.num (i := 0) (by omega)
    obtain ⟨_, _, e1, c1⟩ := hr.num (i := 1) (by omega)
    obtain ⟨_, _, e2, c2⟩ := hr.num (i := 2) (by omega)
    obtain ⟨_, _, e3, c3⟩ := hr.num (i := 3) (by omega)
    cases e1
    cases e2
    cases e3
    exact refGetFour_yes w g o n c _ _ _ _ (by omega) (hl 0 (by decide)) (hl 1 (by decide)) (hl 2 (by decide)) (hl 3 (by decide)) c0 c1 c2 c3
end Go.Proofs.YtkiehoboeiengaaGreatDoor
namespace Go.Proofs.YtkiehoboeiengaaGreatDoor
open Go Go.RowKit
set_option linter.unusedSimpArgs false

theorem refGetFour_at (w : World) (a : Option Addr) (n c : Nat) (b : List Nat) (v : Nat) (hb : b.length = n) (h4 : 4 ≤ n) (hr : Rd w a (nums .u8 b)) (hlt : ∀ x ∈ b, x < 256) (hv : Rt.unfour b = v) :
    Calls Tryz.prog 154 #[.slice a n c] w fun e w' => e = .returned (.tuple #[.int .u32 (v : Nat), .int .i64 0]) ∧ w = w' := by
  subst hv
  refine (refGetFour_any w a n c b hb hr hlt).mono fun e w' ⟨he, t⟩ => ⟨?_, t⟩
  rw [if_neg (by omega), if_neg (by omega)] at he
  exact he

def RefGetPost (w : World) (num : Nat) (b : List Nat) (e : Ending) (w' : World) : Prop :=
  ∃ a n c, e = .returned (.tuple #[.int .u32 (Pg.epochOf num b : Nat), .slice a n c, .int .i64 (Pg.err num b : Nat)]) ∧ (Pg.bodyOf num b).length = n ∧ Own w' w.heap.size 5 (.slice a n c) (nums .u8 (Pg.bodyOf num b)) ∧ Touch No w w'
theorem refGet_no {w w' : World} {num : Nat} {b : List Nat} {E : Nat} (h : Pg.err num b = E) (h0 : E ≠ 0) (t : Touch No w w') : RefGetPost w num b (.returned (.tuple #[.int .u32 0, .slice none 0 0, .int .i64 (E : Nat)])) w' := by
  obtain ⟨h1, h2⟩ := Pg.err_no (num := num) (b := b) (by rw [h]; exact h0)
  exact ⟨none, 0, 0, by rw [h1, h]; rfl, by rw [h2]; rfl, by rw [h2]; exact Own.nil _ _ _, t⟩

set_option maxRecDepth 100000 in
set_option maxHeartbeats 4000000 in
theorem refPageGet_any (w : World) (num : Nat) (a : Option Addr) (n c : Nat) (b : List Nat) (hb : b.length = n) (hc : n ≤ c) (hr : Rd w a (nums .u8 b)) (hlt : ∀ x ∈ b, x < 256) :
    Calls Tryz.prog 70 #[.int .u32 (num : Nat), .slice a n c] w (RefGetPost w num b) := by
  by_cases h256 : n = 256
  · subst h256
    obtain ⟨I, hi0, hi1, hi2, hi3⟩ := u8_info
    have HI := Lib.hid (And.intro hi0 (And.intro hi1 (And.intro hi2 hi3)))
    have Hb := Lib.hid hb
    have Hr := Lib.hid hr
    have Hlt := Lib.hid hlt
    have Hc := Lib.hid hc
    have cut : ∀ l : Nat, l ≤ 256 → ∀ wx : World, (Instr.slice 49 (.slice a 256 c) (some (.int .i64 (l : Nat))) none none).run Tryz.prog wx = .ok (.slice (cutAddr a c l) (256 - l) (c - l)) wx := fun l hl wx => run_cut Tryz.underlying49 HI.out.1 HI.out.2.2.1 a 256 c l .i64 hl wx
    have hcut4 : ∀ wx : World, (Instr.slice 49 (.slice a 256 c) (some (.int .i64 4)) none none).run Tryz.prog wx = .ok (.slice (cutAddr a c 4) 252 (c - 4)) wx := cut 4 (by decide)
    have hcut8 : ∀ wx : World, (Instr.slice 49 (.slice a 256 c) (some (.int .i64 8)) none none).run Tryz.prog wx = .ok (.slice (cutAddr a c 8) 248 (c - 8)) wx := cut 8 (by decide)
    have hcut12 : ∀ wx : World, (Instr.slice 49 (.slice a 256 c) (some (.int .i64 12)) none none).run Tryz.prog wx = .ok (.slice (cutAddr a c 12) 244 (c - 12)) wx := cut 12 (by decide)
    have rk : Hid (∀ l, Rd w (cutAddr a c l) (nums .u8 (b.drop l))) := fun l => by
      have := Hr.out.cut (cap := c) (l := l) (by rw [nums_length, Hb.out]; exact Hc.out)
      rw [nums, List.map_drop]; exact this
    have ld : Hid (∀ l, (b.drop l).length = 256 - l) := fun l => by rw [List.length_drop, Hb.out]
    have hd : Hid (∀ l, ∀ x ∈ b.drop l, x < 256) := fun l x hx => Hlt.out x (List.mem_of_mem_drop hx)
    obtain ⟨x0, hx0⟩ : ∃ x0, Rt.unfour b = x0 := ⟨_, rfl⟩
    obtain ⟨x1, hx1⟩ : ∃ x1, Rt.unfour (b.drop 4) = x1 := ⟨_, rfl⟩
    obtain ⟨m, hm⟩ : ∃ m, Pg.many b = m := ⟨_, rfl⟩
    obtain ⟨td, htd⟩ : ∃ td, Pg.told b = td := ⟨_, rfl⟩
    have hm32 : m < 4294967296 := by rw [← hm]; exact Rt.unfour_lt (fun x hx => hd.out 8 x hx)
    have Hx0 := Lib.hid hx0
    have Hx1 := Lib.hid hx1
    have Hm := Lib.hid hm
    have Htd := Lib.hid htd
    clear hb hr hlt hc hi0 hi1 hi2 hi3 cut hx0 hx1 hm htd
    go_enter Tryz.func70, Tryz.ntmps70
    go_wp2_with fail
    refine (refGetFour_at _ a 256 c b x0 Hb.out (by decide) Hr.out Hlt.out Hx0.out).mono ?_
    rintro e wz ⟨rfl, rfl⟩
    go_wp2_with fail
    refine (refGetFour_at _ (cutAddr a c 4) 252 (c - 4) (b.drop 4) x1 (ld.out 4) (by decide) (rk.out 4) (hd.out 4) Hx1.out).mono ?_
    rintro e wz ⟨rfl, rfl⟩
    go_wp2_with fail
    refine (refGetFour_at _ (cutAddr a c 8) 248 (c - 8) (b.drop 8) m (ld.out 8) (by decide) (rk.out 8) (hd.out 8) Hm.out).mono ?_
    rintro e wz ⟨rfl, rfl⟩
    go_wp2_with fail
    refine (refGetFour_at _ (cutAddr a c 12) 244 (c - 12) (b.drop 12) td (ld.out 12) (by decide) (rk.out 12) (hd.out 12) Htd.out).mono ?_
    rintro e wz ⟨rfl, rfl⟩
    clear hcut4 hcut8 hcut12
    by_cases hm1 : 240 < m
    · have hm1' : (240 : Int) < (m : Nat) := by omega
      have hF : Hid (Pg.err num b = 4) := by show _ = _; rw [Pg.err, if_neg (fun h => by have := h.2.1; rw [Hm.out] at this; omega)]
      clear hm1
      go_wp2
      go_ret3
      exact refGet_no hF.out (by decide) (Touch.refl _ _)
    have hm1' : ¬ (240 : Int) < (m : Nat) := by omega
    have hmw : (m : Int) ≤ 240 := by omega
    have hm0 : (0 : Int) ≤ (m : Nat) := by omega
    clear hm1
    go_wp2
    go_loopg [15] (256 - (16 + m)) (fun g s15 wr => ∃ k : Nat, k + g = 256 ∧ s15 = .int .i64 ((k : Nat) : Int) ∧ 16 + m ≤ k ∧ Hid (Rt.nought (b.drop (16 + m)) = Rt.nought (b.drop k)) ∧ Hid (wr = w))
    case atStart => exact ⟨16 + m, by omega, by go_num, Nat.le_refl _, rfl, rfl⟩
    case round =>
      obtain ⟨k, hkg, rfl, hmk, HN, hwr⟩ := hrel
      have hww : w = wr := hwr.out.symm
      clear hwr
      subst hww
      cases gk with
      | zero =>
        obtain rfl : k = 256 := by omega
        have hform : Hid (Pg.form b) := ⟨Hb.out, by rw [Hm.out]; omega, by rw [Hm.out, HN.out, List.drop_of_length_le (by rw [Hb.out]; exact Nat.le_refl _)]; rfl⟩
        obtain ⟨q, hq⟩ : ∃ q, Pg.body b = q := ⟨_, rfl⟩
        have hql : Hid (q.length = m) := by show _ = _; rw [← hq, Pg.body_len0 hform.out, Hm.out]
        have hcut2 : ∀ wx : World, (Instr.slice 49 (.slice a 256 c) (some (.int .i64 16)) (some (.int .i64 (16 + (m : Int)))) none).run Tryz.prog wx = .ok (.slice (cutAddr a c 16) m (c - 16)) wx := fun wx => by
          have := run_cut2 Tryz.underlying49 HI.out.1 HI.out.2.2.1 a 256 c 16 (16 + m) .i64 .i64 (by omega) (by have := Hc.out; omega) wx
          rw [show 16 + m - 16 = m by omega, show ((16 + m : Nat) : Int) = 16 + (m : Int) by omega] at this; exact this
        have hhead : ∀ wx : World, (Instr.slice 49 (.slice a 256 c) none (some (.int .i64 12)) none).run Tryz.prog wx = .ok (.slice a 12 c) wx := fun wx => run_head Tryz.underlying49 HI.out.1 HI.out.2.2.1 a 256 c 12 .i64 (by have := Hc.out; omega) wx
        have rb : Hid (Rd w (cutAddr a c 16) (nums .u8 q)) := by
          have := (rk.out 16).take m
          show Rd _ _ _
          rw [← hq, Pg.body, Hm.out, nums, List.map_take]; exact this
        have rh : Hid (Rd w a (nums .u8 (b.take 12))) := by
          have := Hr.out.take 12
          show Rd _ _ _
          rw [nums, List.map_take]; exact this
        have lh : Hid ((nums .u8 (b.take 12)).length = 12) := by show _ = _; rw [nums_length, List.length_take, Hb.out]; rfl
        obtain ⟨x, hx⟩ : ∃ x, Rt.of (b.take 12 ++ q) = x := ⟨_, rfl⟩
        have hlt2 : Hid (∀ y ∈ b.take 12 ++ q, y < 256) := fun y hy => by
          rcases List.mem_append.1 hy with h | h
          · exact Hlt.out y (List.mem_of_mem_take h)
          · rw [← hq] at h; exact Hlt.out y (List.mem_of_mem_drop (List.mem_of_mem_take h))
        have hright : Hid (Pg.right b = x) := by
          show _ = _
          rw [Pg.right, hq, ← hx]
          show Rt.on (Rt.on 0 _) _ = Rt.on 0 _
          rw [Rt.on_append _ _ _ (by decide) (fun y hy => Hlt.out y (List.mem_of_mem_take hy))]
        have Hq := Lib.hid hq
        have Hx := Lib.hid hx
        obtain ⟨L, hL⟩ : ∃ L, 12 + m = L := ⟨_, rfl⟩
        have L5 : Hid ((b.take 12 ++ q).length = L) := by show _ = _; rw [List.length_append, List.length_take, Hb.out, hql.out]; exact hL
        have hL9 : (L : Int) ≤ 252 := by omega
        clear hq hx hL HN
        go_wp2_with (first
          | (at_builtin; refine wpList_append_rd rfl _ _ 49 rfl w.heap.size 5 I (.int .u8 0) 1 Tryz.underlying49 HI.out.1 HI.out.2.1 HI.out.2.2.1 HI.out.2.2.2 rfl _ _ (Own.nil _ w.heap.size 5) rfl (cutAddr a c 16) m (c - 16) (nums .u8 q) rfl (by rw [nums_length]; exact hql.out) rb.out (nums_one _ _) (by simp; unfold maxLen; omega) (by simp; omega) (Nat.le_refl _) ?_; intro v3 w3 o3 t3; obtain ⟨a3, c3, rfl, _⟩ := o3.form' (n := m) (by rw [List.nil_append, nums_length]; exact hql.out); have O3 := Lib.hid (show Own w3 w.heap.size 5 (.slice a3 m c3) (nums .u8 q) from o3); have T3 := Lib.hid (show Touch No w w3 from t3.mono (fun k _ h => by cases h)); clear o3 t3)
          | (at_builtin; refine wpList_append_rd rfl _ _ 49 rfl w3.heap.size 5 I (.int .u8 0) 1 Tryz.underlying49 HI.out.1 HI.out.2.1 HI.out.2.2.1 HI.out.2.2.2 rfl _ _ (Own.nil _ w3.heap.size 5) rfl a 12 c (nums .u8 (b.take 12)) rfl lh.out (rh.out.no T3.out) (nums_one _ _) (by show 0 + 12 ≤ maxLen; unfold maxLen; decide) (by decide) (Nat.le_refl _) ?_; intro v4 w4 o4 t4; have O4 := Lib.hid (show Own w4 w3.heap.size 5 v4 (nums .u8 (b.take 12)) from o4); have T4 := Lib.hid (show Touch No w3 w4 from t4.mono (fun k _ h => by cases h)); clear o4 t4)
          | (at_builtin; refine wpList_append_rd rfl _ _ 49 rfl w3.heap.size 5 I (.int .u8 0) 1 Tryz.underlying49 HI.out.1 HI.out.2.1 HI.out.2.2.1 HI.out.2.2.2 rfl _ _ O4.out rfl a3 m c3 (nums .u8 q) rfl (by rw [nums_length]; exact hql.out) (O3.out.rd.no T4.out) (nums_one _ _) (by rw [lh.out]; unfold maxLen; omega) (by rw [lh.out]; omega) T4.out.size ?_; intro v5 w5 o5 t5; rw [← nums_append] at o5; obtain ⟨a5, c5, rfl, _⟩ := o5.form' (n := L) (by rw [nums_length]; exact L5.out); have O5 := Lib.hid o5; have T5 := Lib.hid (T4.out.then t5 (fun i hi e => absurd (O4.out.block e).1 (Nat.not_le.2 hi))); clear o5 t5 O4 T4))
        refine (refOf_any _ a5 L c5 (b.take 12 ++ q) L5.out (by omega) O5.out.rd hlt2.out).mono ?_
        rintro e w6 ⟨rfl, rfl⟩
        rw [Hx.out]
        have T35 := Lib.hid (T3.out.trans T5.out)
        have O35 := Lib.hid (O3.out.touch T5.out (fun _ _ _ f => f))
        clear T3 T5 O3 O5 hcut2 hhead
        by_cases hst : x = td
        · subst hst
          by_cases hnum : x0 = num
          · subst hnum
            have hE : Hid (Pg.err x0 b = 0) := by show _ = _; rw [Pg.err, if_pos hform.out, hright.out, Htd.out, if_neg (fun h => h rfl), Hx0.out, if_neg (fun h => h rfl)]
            go_wp2
            go_ret3
            exact ⟨a3, m, c3, by rw [hE.out, Pg.epochOf, if_pos hE.out, Hx1.out]; rfl, by rw [Pg.bodyOf, if_pos hE.out, Hq.out]; exact hql.out, by rw [Pg.bodyOf, if_pos hE.out, Hq.out]; exact O35.out, T35.out⟩
          · have hneq : ((x0 : Int) != (num : Int)) = true := by simp; omega
            have hF : Hid (Pg.err num b = 4) := by show _ = _; rw [Pg.err, if_pos hform.out, hright.out, Htd.out, if_neg (fun h => h rfl), Hx0.out, if_pos hnum]
            clear hnum
            go_wp2
            go_ret3
            exact refGet_no hF.out (by decide) T35.out
        · have hneq : ((x : Int) != (td : Int)) = true := by simp; omega
          have hF : Hid (Pg.err num b = 11) := by show _ = _; rw [Pg.err, if_pos hform.out, hright.out, Htd.out, if_pos hst]
          clear hst
          go_wp2
          go_ret3
          exact refGet_no hF.out (by decide) T35.out
      | succ g =>
        have hlt' : (k : Int) < 256 := by omega
        have hkb : k < b.length := by rw [Hb.out]; omega
        obtain ⟨gb, ob, hae, hcb⟩ := Hr.out.num hkb
        subst hae
        have Hnx := Lib.hid (nought_drop hkb)
        obtain ⟨y, hy⟩ : ∃ y, b.getD k 0 = y := ⟨_, rfl⟩
        rw [hy] at hcb Hnx
        clear hy hkb
        by_cases hy0 : y = 0
        · subst hy0
          have HN2 : Hid (Rt.nought (b.drop (16 + m)) = Rt.nought (b.drop (k + 1))) := by show _ = _; rw [HN.out, Hnx.out]; simp
          clear HN Hnx
          go_wp2
          go_roundg g
          case measure => omega
          case rel => exact ⟨k + 1, by omega, by go_num, by omega, HN2, rfl⟩
        · have hne : ((y : Int) != 0) = true := by simp; omega
          have hF : Hid (Pg.err num b = 4) := by
            show _ = _
            rw [Pg.err, if_neg (fun h => by
              have := h.2.2
              rw [Hm.out, HN.out, Hnx.out, beq_eq_false_iff_ne.2 hy0] at this
              cases this)]
          clear hy0 HN Hnx
          go_wp2
          go_ret3
          exact refGet_no hF.out (by decide) (Touch.refl _ _)
  · have hne : ((n : Int) != 256) = true := by simp; omega
    have hF := Lib.hid (Pg.err_length (num := num) (b := b) (by omega))
    clear h256 hb hr hlt
    go_enter Tryz.func70, Tryz.ntmps70
    go_wp2
    go_ret3
    exact refGet_no hF.out (by decide) (Touch.refl _ _)
end Go.Proofs.YtkiehoboeiengaaGreatDoor
namespace Go.Proofs.YtkiehoboeiengaaGreatDoor
open Go Go.RowKit
def onD (D : Dk.Disk) (p : Nat) : Nat := if 4 * p + 4 ≤ D.seen.length then 0 else 1
namespace Pg
def chunk (b : List Nat) (i : Nat) : List Nat := (b.drop (64 * i)).take 64
theorem chunk_length {b : List Nat} (hb : b.length = 256) {i : Nat} (hi : i < 4) : (chunk b i).length = 64 := by
  rw [chunk, List.length_take, List.length_drop]; omega
theorem chunk_lt {b : List Nat} (hb : ∀ x ∈ b, x < 256) (i : Nat) : ∀ x ∈ chunk b i, x < 256 := fun x hx => hb x (List.mem_of_mem_drop (List.mem_of_mem_take hx))
theorem chunks (b : List Nat) (hb : b.length = 256) : chunk b 0 ++ chunk b 1 ++ chunk b 2 ++ chunk b 3 = b := by
  simp only [chunk]
  have h3 : (b.drop (64 * 3)).take 64 = b.drop 192 := List.take_of_length_le (by rw [List.length_drop]; omega)
  rw [h3]
  have e : ∀ k, (b.drop k).take 64 ++ b.drop (k + 64) = b.drop k := fun k => by rw [← List.drop_drop, List.take_append_drop]
  rw [List.append_assoc, List.append_assoc, e 128, e 64]
  exact e 0
/-- the first sectors of a page, written -/
def wr (D : Dk.Disk) (p : Nat) (b : List Nat) : Nat → Dk.Disk
  | 0 => D
  | k + 1 => Dk.write (wr D p b k) (4 * p + k) (chunk b k)
def wE (D : Dk.Disk) (p : Nat) (q : List Nat) : Nat := if onD D p = 0 ∧ q.length ≤ 240 then 0 else 1
def wD (D : Dk.Disk) (p e : Nat) (q : List Nat) : Dk.Disk := if wE D p q = 0 then wr D p (put p e q) 4 else D
/-- what stands in the first sectors of a page -/
def rd (D : Dk.Disk) (p : Nat) : Nat → List Nat
  | 0 => []
  | k + 1 => rd D p k ++ Dk.bytesOf (Dk.at_ D.seen (4 * p + k))
def lost (D : Dk.Disk) (p : Nat) : Nat → Bool
  | 0 => false
  | k + 1 => lost D p k || (Dk.at_ D.seen (4 * p + k)).bad == 1
def rE (D : Dk.Disk) (p : Nat) : Nat := if onD D p = 0 then (if lost D p 4 then 12 else err p (rd D p 4)) else 1
def rN (D : Dk.Disk) (p : Nat) : Nat := if rE D p = 0 then epochOf p (rd D p 4) else 0
def rB (D : Dk.Disk) (p : Nat) : List Nat := if rE D p = 0 then bodyOf p (rd D p 4) else []
theorem wr_len (D : Dk.Disk) (p : Nat) (b : List Nat) : ∀ k, (wr D p b k).seen.length = D.seen.length
  | 0 => rfl
  | k + 1 => by rw [wr]; simp only [Dk.write, List.length_set]; exact wr_len D p b k
theorem wr_waits (D : Dk.Disk) (p : Nat) (b : List Nat) : ∀ k, (wr D p b k).waits.length = D.waits.length + k
  | 0 => rfl
  | k + 1 => by rw [wr]; simp only [Dk.write, List.length_append, List.length_singleton]; rw [wr_waits D p b k]; omega
theorem pad_full {b : List Nat} (h : b.length = 64) : Dk.pad b = b := by simp [Dk.pad, h]
theorem wr_at (D : Dk.Disk) (p : Nat) (b : List Nat) (hb : b.length = 256) : ∀ k, k ≤ 4 → 4 * p + 4 ≤ D.seen.length → ∀ n, Dk.at_ (wr D p b k).seen n = if 4 * p ≤ n ∧ n < 4 * p + k then ⟨chunk b (n - 4 * p), 0⟩ else Dk.at_ D.seen n
  | 0, _, _, n => by rw [if_neg (by omega)]; rfl
  | k + 1, hk, ho, n => by
    have ih := wr_at D p b hb k (by omega) ho n
    rw [wr]
    simp only [Dk.write, Dk.at_, List.getD_eq_getElem?_getD, List.getElem?_set]
    by_cases e : 4 * p + k = n
    · subst e
      rw [if_pos rfl, if_pos (by rw [wr_len]; omega), if_pos (by omega), Nat.add_sub_cancel_left, pad_full (chunk_length hb (by omega))]
      rfl
    · rw [if_neg e]
      simp only [Dk.at_, List.getD_eq_getElem?_getD] at ih
      rw [ih]
      by_cases h : 4 * p ≤ n ∧ n < 4 * p + k
      · rw [if_pos h, if_pos (by omega)]
      · rw [if_neg h, if_neg (by omega)]
theorem rd_same {D D' : Dk.Disk} {p : Nat} : ∀ k, (∀ i, i < k → Dk.at_ D'.seen (4 * p + i) = Dk.at_ D.seen (4 * p + i)) → rd D' p k = rd D p k ∧ lost D' p k = lost D p k
  | 0, _ => ⟨rfl, rfl⟩
  | k + 1, h => by
    have ih := rd_same (D := D) (D' := D') (p := p) k (fun i hi => h i (by omega))
    rw [rd, rd, lost, lost, ih.1, ih.2, h k (by omega)]
    exact ⟨rfl, rfl⟩
/-- pages whose sectors are as they were are read as they were -/
theorem r_same {D D' : Dk.Disk} {p : Nat} (hl : D'.seen.length = D.seen.length) (h : ∀ i, i < 4 → Dk.at_ D'.seen (4 * p + i) = Dk.at_ D.seen (4 * p + i)) : rE D' p = rE D p ∧ rN D' p = rN D p ∧ rB D' p = rB D p := by
  obtain ⟨h1, h2⟩ := rd_same (D := D) (D' := D') (p := p) 4 h
  have e : rE D' p = rE D p := by rw [rE, rE, onD, onD, hl, h1, h2]
  exact ⟨e, by rw [rN, rN, e, h1], by rw [rB, rB, e, h1]⟩
/-- sectors that hold a page's bytes -/
theorem r_holds {D : Dk.Disk} {p : Nat} {b : List Nat} (hb : b.length = 256) (h : ∀ i, i < 4 → Dk.at_ D.seen (4 * p + i) = ⟨chunk b i, 0⟩) : rd D p 4 = b ∧ lost D p 4 = false := by
  simp only [rd, lost, h 0 (by decide), h 1 (by decide), h 2 (by decide), h 3 (by decide), Dk.bytesOf]
  refine ⟨?_, by rfl⟩
  simp only [Nat.zero_ne_one, if_false, List.nil_append]
  exact chunks b hb
theorem r_put {D : Dk.Disk} {p e : Nat} {q : List Nat} (ho : onD D p = 0) (hp : p < 4294967296) (he : e < 4294967296) (hq : q.length ≤ 240) (h : ∀ i, i < 4 → Dk.at_ D.seen (4 * p + i) = ⟨chunk (put p e q) i, 0⟩) : rE D p = 0 ∧ rN D p = e ∧ rB D p = q := by
  obtain ⟨h1, h2⟩ := r_holds (put_length hq) h
  have e0 : rE D p = 0 := by rw [rE, if_pos ho, h2, h1, put_err hp he hq, if_pos rfl]; rfl
  have hg := put_get hp he hq
  exact ⟨e0, by rw [rN, if_pos e0, h1, hg.1], by rw [rB, if_pos e0, h1, hg.2]⟩
/-- what a write of a page leaves -/
theorem wD_ok {D : Dk.Disk} {p e : Nat} {q : List Nat} (h : wE D p q = 0) : (wD D p e q).seen.length = D.seen.length ∧ (wD D p e q).waits.length = D.waits.length + 4 ∧ ∀ n, Dk.at_ (wD D p e q).seen n = if 4 * p ≤ n ∧ n < 4 * p + 4 then ⟨chunk (put p e q) (n - 4 * p), 0⟩ else Dk.at_ D.seen n := by
  have hc : onD D p = 0 ∧ q.length ≤ 240 := by
    unfold wE at h
    split at h
    · assumption
    · cases h
  have ho : 4 * p + 4 ≤ D.seen.length := by
    have := hc.1
    unfold onD at this
    split at this
    · assumption
    · cases this
  rw [wD, if_pos h]
  exact ⟨wr_len _ _ _ 4, wr_waits _ _ _ 4, wr_at _ _ _ (put_length hc.2) 4 (Nat.le_refl _) ho⟩
theorem w_read {D : Dk.Disk} {p e : Nat} {q : List Nat} (h : wE D p q = 0) (hp : p < 4294967296) (he : e < 4294967296) : rE (wD D p e q) p = 0 ∧ rN (wD D p e q) p = e ∧ rB (wD D p e q) p = q := by
  obtain ⟨h1, h2, h3⟩ := wD_ok (e := e) h
  have hc : onD D p = 0 ∧ q.length ≤ 240 := by
    unfold wE at h
    split at h
    · assumption
    · cases h
  refine r_put (by rw [onD, h1]; exact hc.1) hp he hc.2 (fun i hi => ?_)
  rw [h3, if_pos (by omega), Nat.add_sub_cancel_left]
theorem w_other {D : Dk.Disk} {p p' e : Nat} {q : List Nat} (h : wE D p q = 0) (hne : p' ≠ p) : rE (wD D p e q) p' = rE D p' ∧ rN (wD D p e q) p' = rN D p' ∧ rB (wD D p e q) p' = rB D p' := by
  obtain ⟨h1, h2, h3⟩ := wD_ok (e := e) h
  refine r_same h1 (fun i hi => ?_)
  rw [h3, if_neg (by omega)]
theorem onD_wr (D : Dk.Disk) (p p' : Nat) (b : List Nat) (k : Nat) : onD (wr D p b k) p' = onD D p' := by rw [onD, onD, wr_len]
theorem onD_wD (D : Dk.Disk) (p e : Nat) (q : List Nat) (p' : Nat) : onD (wD D p e q) p' = onD D p' := by
  unfold wD
  split
  · exact onD_wr D p p' _ 4
  · rfl
theorem wD_len (D : Dk.Disk) (p e : Nat) (q : List Nat) : (wD D p e q).seen.length = D.seen.length := by
  unfold wD
  split
  · exact wr_len _ _ _ _
  · rfl
end Pg
end Go.Proofs.YtkiehoboeiengaaGreatDoor
