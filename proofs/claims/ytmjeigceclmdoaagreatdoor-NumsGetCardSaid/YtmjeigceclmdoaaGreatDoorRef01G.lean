/-
  Package drydockref01 by its own text: GetFour, GetList.
-/
import Derived.Test.YtmjeigceclmdoaaGreatDoorRef01
import Derived.Test.YtmjeigceclmdoaaGreatDoorGetList
namespace Go.Proofs.YtmjeigceclmdoaaGreatDoor
open Go Go.RowKit
set_option linter.unusedSimpArgs false

set_option maxRecDepth 100000 in
set_option maxHeartbeats 4000000 in
theorem refGetFour_yes (w : World) (g o n c : Nat) (x0 x1 x2 x3 : Nat) (hn : 4 ≤ n) (h0 : x0 < 256) (h1 : x1 < 256) (h2 : x2 < 256) (h3 : x3 < 256)
    (c0 : w.cell? ⟨g, o + 0, none⟩ = some (.int .u8 (x0 : Nat))) (c1 : w.cell? ⟨g, o + 1, none⟩ = some (.int .u8 (x1 : Nat))) (c2 : w.cell? ⟨g, o + 2, none⟩ = some (.int .u8 (x2 : Nat))) (c3 : w.cell? ⟨g, o + 3, none⟩ = some (.int .u8 (x3 : Nat))) :
    Calls Tryz.prog 25 #[.slice (some ⟨g, o, none⟩) n c] w fun e w' => e = .returned (.tuple #[.int .u32 ((x0 + 256 * x1 + 65536 * x2 + 16777216 * x3 : Nat) : Int), .int .i64 0]) ∧ w = w' := by
  have hn' : ¬ (n : Int) < 4 := by omega
  have hn0 : (0 : Int) < (n : Nat) := by omega
  have hn1 : (1 : Int) < (n : Nat) := by omega
  have hn2 : (2 : Int) < (n : Nat) := by omega
  have hn3 : (3 : Int) < (n : Nat) := by omega
  have hn4 : 0 < n := by omega
  have hn5 : 1 < n := by omega
  have hn6 : 2 < n := by omega
  have hn7 : 3 < n := by omega
  have C0 := Lib.hid c0
  have C1 := Lib.hid c1
  have C2 := Lib.hid c2
  have C3 := Lib.hid c3
  obtain ⟨y2, hy2⟩ : ∃ y2, y2 = x3 * 256 + x2 := ⟨_, rfl⟩
  obtain ⟨y1, hy1⟩ : ∃ y1, y1 = y2 * 256 + x1 := ⟨_, rfl⟩
  obtain ⟨y0, hy0⟩ : ∃ y0, y0 = y1 * 256 + x0 := ⟨_, rfl⟩
  have hY0 : Hid (y0 = x0 + 256 * x1 + 65536 * x2 + 16777216 * x3) := by show _ = _; omega
  have b2 : y2 < 65536 := by omega
  have b1 : y1 < 16777216 := by omega
  have b0 : y0 < 4294967296 := by omega
  have HY2 := Lib.hid hy2
  have HY1 := Lib.hid hy1
  have HY0 := Lib.hid hy0
  clear hy0 hy1 hy2 c0 c1 c2 c3 hn
  go_enter Tryz.func25, Tryz.ntmps25
  go_wp2
  go_loopg [4, 5] 4 (fun gk s4 s5 wr => Hid (wr = w) ∧ ((gk = 4 ∧ s5 = .int .i64 3 ∧ s4 = .int .u32 0) ∨ (gk = 3 ∧ s5 = .int .i64 2 ∧ s4 = .int .u32 (x3 : Nat)) ∨ (gk = 2 ∧ s5 = .int .i64 1 ∧ s4 = .int .u32 (y2 : Nat)) ∨ (gk = 1 ∧ s5 = .int .i64 0 ∧ s4 = .int .u32 (y1 : Nat)) ∨ (gk = 0 ∧ s5 = .int .i64 (-1) ∧ s4 = .int .u32 (y0 : Nat))))
  case atStart => exact ⟨rfl, Or.inl ⟨rfl, rfl, rfl⟩⟩
  case round =>
    obtain ⟨hw, hrel⟩ := hrel
    rcases hrel with ⟨rfl, rfl, rfl⟩ | ⟨rfl, rfl, rfl⟩ | ⟨rfl, rfl, rfl⟩ | ⟨rfl, rfl, rfl⟩ | ⟨rfl, rfl, rfl⟩
    · have cc : wr.cell? ⟨g, o + 3, none⟩ = some (.int .u8 (x3 : Nat)) := by rw [hw.out]; exact C3.out
      go_wp2
      go_roundg 3
      case measure => omega
      case rel => exact ⟨hw, Or.inr (Or.inl ⟨rfl, rfl, rfl⟩)⟩
    · have cc : wr.cell? ⟨g, o + 2, none⟩ = some (.int .u8 (x2 : Nat)) := by rw [hw.out]; exact C2.out
      go_wp2
      go_roundg 2
      case measure => omega
      case rel => exact ⟨hw, Or.inr (Or.inr (Or.inl ⟨rfl, rfl, by rw [HY2.out]; go_num⟩))⟩
    · have cc : wr.cell? ⟨g, o + 1, none⟩ = some (.int .u8 (x1 : Nat)) := by rw [hw.out]; exact C1.out
      go_wp2
      go_roundg 1
      case measure => omega
      case rel => exact ⟨hw, Or.inr (Or.inr (Or.inr (Or.inl ⟨rfl, rfl, by rw [HY1.out]; go_num⟩)))⟩
    · have cc : wr.cell? ⟨g, o + 0, none⟩ = some (.int .u8 (x0 : Nat)) := by rw [hw.out]; exact C0.out
      rw [Nat.add_zero] at cc
      go_wp2
      go_roundg 0
      case measure => omega
      case rel => exact ⟨hw, Or.inr (Or.inr (Or.inr (Or.inr ⟨rfl, rfl, by rw [HY0.out]; go_num⟩)))⟩
    · have hww := Lib.hid hw.out.symm
      go_wp2
      go_ret2
      exact ⟨by rw [← hY0.out]; rfl, hww.out⟩
theorem refGetFour_any (w : World) (a : Option Addr) (n c : Nat) (b : List Nat) (hb : b.length = n) (hr : Rd w a (nums .u8 b)) (hlt : ∀ x ∈ b, x < 256) :
    Calls Tryz.prog 25 #[.slice a n c] w fun e w' => e = .returned (.tuple #[.int .u32 ((if n < 4 then 0 else Rt.unfour b : Nat) : Int), .int .i64 ((if n < 4 then 5 else 0 : Nat) : Int)]) ∧ w = w' := by
  by_cases hn : n < 4
  · rw [if_pos hn, if_pos hn]
    have hn' : (n : Int) < 4 := by omega
    clear hb hr hlt hn
    go_enter Tryz.func25, Tryz.ntmps25
    go_wp2
    go_ret2
    exact ⟨rfl, rfl⟩
  · rw [if_neg hn, if_neg hn]
    have hl : ∀ i, i < 4 → b.getD i 0 < 256 := fun i hi => hlt _ (by rw [List.getD_eq_getElem?_getD, List.getElem?_eq_getElem (by omega)]; exact List.getElem_mem _)
    obtain ⟨g, o, rfl, c0⟩ := hr.num (i := 0) (by omega)
    obtain ⟨_, _, e1, c1⟩ := hr.num (i := 1) (by omega)
    obtain ⟨_, _, e2, c2⟩ := hr.num (i := 2) (by omega)
    obtain ⟨_, _, e3, c3⟩ := hr.num (i := 3) (by omega)
    cases e1
    cases e2
    cases e3
    exact refGetFour_yes w g o n c _ _ _ _ (by omega) (hl 0 (by decide)) (hl 1 (by decide)) (hl 2 (by decide)) (hl 3 (by decide)) c0 c1 c2 c3
theorem getNm_snoc {b : List Nat} {k : Nat} : ints .i32 ((List.range (k + 1)).map (Nm.nth b)) = ints .i32 ((List.range k).map (Nm.nth b)) ++ [.int .i32 (Nm.nth b k)] := by
  rw [List.range_succ, List.map_append, ints, List.map_append]; rfl
theorem wrap_i (m : Nat) (h : m < 4294967296) : wrap32 (m : Int) = Nm.i m := by unfold wrap32 Nm.i; split <;> omega
set_option maxRecDepth 100000 in
set_option maxHeartbeats 4000000 in
theorem refGetList_any (w : World) (a : Option Addr) (n c : Nat) (b : List Nat) (hb : b.length = n) (hnc : n ≤ c) (hmax : (n : Int) ≤ 9223372036854775807) (hr : Rd w a (nums .u8 b)) (hlt : ∀ x ∈ b, x < 256) :
    Calls Tryz.prog 27 #[.slice a n c] w (GetListPost w b) := by
  have Hc := Lib.hid (refGetFour_any w a n c b hb hr hlt)
  have Hb := Lib.hid hb
  have Hr := Lib.hid hr
  have Hlt := Lib.hid hlt
  by_cases h4 : n < 4
  · have hE : Nm.err b = 5 := by rw [Nm.err, if_pos (by omega)]
    have Fin := Lib.hid (fun w' t => getList_no (w := w) (w' := w') hE (by decide) t)
    rw [if_pos h4, if_pos h4] at Hc
    clear hb hr hlt hE h4
    go_enter Tryz.func27, Tryz.ntmps27
    go_wp2_with fail
    refine Hc.out.mono ?_
    rintro e w2 ⟨rfl, rfl⟩
    go_wp2
    go_ret3
    exact Fin.out _ (Touch.refl _ _)
  · rw [if_neg h4, if_neg h4] at Hc
    have hm32 := Rt.unfour_lt hlt
    obtain ⟨m, hm⟩ : ∃ m, Rt.unfour b = m := ⟨_, rfl⟩
    rw [hm] at Hc hm32
    by_cases hbig : 4096 < m
    · have hE : Nm.err b = 3 := by rw [Nm.err, if_neg (by omega), Nm.many, hm, if_pos hbig]
      have Fin := Lib.hid (fun w' t => getList_no (w := w) (w' := w') hE (by decide) t)
      have hbig' : (4096 : Int) < (m : Nat) := by omega
      clear hb hr hlt hE h4 hm hbig
      go_enter Tryz.func27, Tryz.ntmps27
      go_wp2_with fail
      refine Hc.out.mono ?_
      rintro e w2 ⟨rfl, rfl⟩
      go_wp2
      go_ret3
      exact Fin.out _ (Touch.refl _ _)
    · have hbig' : ¬ (4096 : Int) < (m : Nat) := by omega
      have hm4 : (m : Int) ≤ 4096 := by omega
      by_cases hsh : n < 4 + 4 * m
      · have hE : Nm.err b = 5 := by rw [Nm.err, if_neg (by omega), Nm.many, hm, if_neg hbig, if_pos (by omega)]
        have Fin := Lib.hid (fun w' t => getList_no (w := w) (w' := w') hE (by decide) t)
        have hsh' : (n : Int) < 4 + 4 * (m : Nat) := by omega
        clear hb hr hlt hE h4 hm hbig hsh
        go_enter Tryz.func27, Tryz.ntmps27
        go_wp2_with fail
        refine Hc.out.mono ?_
        rintro e w2 ⟨rfl, rfl⟩
        go_wp2
        go_ret3
        exact Fin.out _ (Touch.refl _ _)
      · have hE : Nm.err b = 0 := by rw [Nm.err, if_neg (by omega), Nm.many, hm, if_neg hbig, if_neg (by omega)]
        have hsh' : ¬ (n : Int) < 4 + 4 * (m : Nat) := by omega
        have HG : Hid (Nm.get b = (List.range m).map (Nm.nth b)) := by show _ = _; rw [Nm.get, if_pos hE, Nm.many, hm]
        have HTk : Hid (Nm.took b = 4 + 4 * m) := by show _ = _; rw [Nm.took, if_pos hE, Nm.many, hm]
        have HE := Lib.hid hE
        obtain ⟨I, hi0, hi1, hi2, hi3⟩ := i32_info
        obtain ⟨J, hj0, hj1, hj2, hj3⟩ := u8_info
        have HI := Lib.hid (And.intro hi0 (And.intro hi1 (And.intro hi2 hi3)))
        have HJ := Lib.hid (And.intro hj0 hj2)
        have Hsh := Lib.hid hsh
        clear hb hr hlt hE hm hbig hi0 hi1 hi2 hi3 hj0 hj1 hj2 hj3
        go_enter Tryz.func27, Tryz.ntmps27
        go_wp2_with fail
        refine Hc.out.mono ?_
        rintro e w2 ⟨rfl, rfl⟩
        clear h4 hsh
        go_wp2
        go_loopg [7, 8] m (fun g s7 s8 wr => ∃ (k : Nat) (v : Value), k + g = m ∧ s8 = .int .i64 ((k : Nat) : Int) ∧ s7 = v ∧ Hid (Own wr w.heap.size 21 v (ints .i32 ((List.range k).map (Nm.nth b)))) ∧ Hid (Touch No w wr))
        case atStart => exact ⟨0, _, by omega, rfl, rfl, Own.nil _ _ _, Touch.refl _ _⟩
        case round =>
          obtain ⟨k, v, hkg, rfl, rfl, O, T⟩ := hrel
          have hlk : (ints .i32 ((List.range k).map (Nm.nth b))).length = k := by rw [ints_length]; simp
          obtain ⟨al, cl, rfl, _⟩ := O.out.form' hlk
          cases gk with
          | zero =>
            obtain rfl : k = m := by omega
            have Fin : Hid (GetListPost w b (.returned (.tuple #[.slice al k cl, .int .i64 ((4 + 4 * k : Nat) : Int), .int .i64 0])) wr) :=
              ⟨al, cl, k, by rw [HG.out]; simp, by rw [HTk.out, HE.out]; rfl, by rw [HG.out]; exact O.out, T.out⟩
            clear O hlk
            go_wp2
            go_ret3
            exact Fin.out
          | succ g =>
            have hlt' : (k : Int) < (m : Nat) := by omega
            have hkn : 4 + 4 * k ≤ n := by have := Hsh.out; omega
            have hcut : ∀ wx : World, (Instr.slice 22 (.slice a n c) (some (.int .i64 (4 + 4 * (k : Int)))) none none).run Tryz.prog wx = .ok (.slice (cutAddr a c (4 + 4 * k)) (n - (4 + 4 * k)) (c - (4 + 4 * k))) wx := fun wx => by
              have := run_cut Tryz.underlying22 HJ.out.1 HJ.out.2 a n c (4 + 4 * k) .i64 hkn wx
              rw [show ((4 + 4 * k : Nat) : Int) = 4 + 4 * (k : Int) by omega] at this; exact this
            have hrk : Rd wr (cutAddr a c (4 + 4 * k)) (nums .u8 (b.drop (4 + 4 * k))) := by
              have := (Hr.out.no T.out).cut (cap := c) (l := 4 + 4 * k) (by rw [nums_length, Hb.out]; exact hnc)
              rw [nums, ← List.map_drop] at this
              exact this
            have hc2 := refGetFour_any wr (cutAddr a c (4 + 4 * k)) (n - (4 + 4 * k)) (c - (4 + 4 * k)) (b.drop (4 + 4 * k)) (by rw [List.length_drop, Hb.out]) hrk (fun y hy => Hlt.out y (List.mem_of_mem_drop hy))
            have hge : ¬ (n - (4 + 4 * k) < 4) := by have := Hsh.out; omega
            rw [if_neg hge, if_neg hge] at hc2
            have hx32 := Rt.unfour_lt (b := b.drop (4 + 4 * k)) (fun y hy => Hlt.out y (List.mem_of_mem_drop hy))
            have hnth : Nm.nth b k = Nm.i (Rt.unfour (b.drop (4 + 4 * k))) := rfl
            obtain ⟨x, hx⟩ : ∃ x, Rt.unfour (b.drop (4 + 4 * k)) = x := ⟨_, rfl⟩
            rw [hx] at hc2 hx32 hnth
            have HC2 := Lib.hid hc2
            have hx32' : (x : Int) < 4294967296 := by omega
            have HN : Hid (ints .i32 ((List.range (k + 1)).map (Nm.nth b)) = ints .i32 ((List.range k).map (Nm.nth b)) ++ [.int .i32 (wrap32 (x : Int))]) := by
              show _ = _
              rw [getNm_snoc, hnth, wrap_i x hx32]
            have Hlk := Lib.hid hlk
            clear hc2 hrk hx hnth hlk hkn hge
            go_wp2_with fail
            refine HC2.out.mono ?_
            rintro e w3 ⟨rfl, rfl⟩
            clear hcut HC2
            go_wp2_with (at_builtin; refine wpList_append1 rfl _ _ _ rfl w.heap.size _ I _ 4 Tryz.underlying24 HI.out.1 HI.out.2.1 HI.out.2.2.1 HI.out.2.2.2 rfl _ _ _ O.out rfl rfl rfl (by rw [Hlk.out]; unfold maxLen; omega) (by rw [Hlk.out]; omega) T.out.size ?_; intro v' w3 hown3 ht3)
            go_roundg g
            case measure => omega
            case rel => exact ⟨k + 1, v', by omega, by go_num, rfl, by rw [HN.out]; exact hown3, T.out.then ht3 (fun i hi e => absurd ((O.out.block e).1) (by omega))⟩
end Go.Proofs.YtmjeigceclmdoaaGreatDoor
