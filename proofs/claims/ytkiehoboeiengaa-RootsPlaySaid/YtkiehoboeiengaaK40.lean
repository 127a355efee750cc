/-
  Package drydockref01 by its own text: PutFour, PutList.
  Package drydockref01 by its own text: GetFour.
-/
import Derived.Test.YtkiehoboeiengaaK23
import Derived.Test.YtkiehoboeiengaaK24
namespace Go.Proofs.Ytkiehoboeiengaa
open Go Go.RowKit
set_option linter.unusedSimpArgs false

theorem four_next {x k : Nat} (hk : k < 4) : (Rt.four x).take (k + 1) = (Rt.four x).take k ++ [x / 256 ^ k % 256] := by
  match k, hk with
  | 0, _ => simp [Rt.four]
  | 1, _ => simp [Rt.four]
  | 2, _ => simp [Rt.four]
  | 3, _ => simp [Rt.four]
set_option maxRecDepth 100000 in
set_option maxHeartbeats 2000000 in
theorem refPutFour_any (w : World) (a : Option Addr) (n c : Nat) (b : List Nat) (hb : b.length = n) (hr : Rd w a (nums .u8 b)) (x : Nat) (hx : x < 4294967296) (hsz : (n : Int) ≤ 99999999999996) (N : Nat) (hN : n + 4 = N) :
    Calls Try.prog 69 #[.slice a n c, .int .u32 (x : Nat)] w (PutPost w (b ++ Rt.four x) N) := by
  have Hb := Lib.hid hb
  have Hr := Lib.hid hr
  have HN := Lib.hid hN
  obtain ⟨I, hi0, hi1, hi2, hi3⟩ := u8_info
  have HI := Lib.hid (And.intro hi0 (And.intro hi1 (And.intro hi2 hi3)))
  have hx' : (x : Int) < 4294967296 := by omega
  clear hb hr hi0 hi1 hi2 hi3 hN hx
  go_enter Try.func69, Try.ntmps69
  go_wp2_with (at_builtin; refine wpList_append_rd rfl _ _ 34 rfl w.heap.size 5 I (.int .u8 0) 1 Try.underlying34 HI.out.1 HI.out.2.1 HI.out.2.2.1 HI.out.2.2.2 rfl _ _ (Own.nil _ w.heap.size 5) rfl a n c (nums .u8 b) rfl (by rw [nums_length]; exact Hb.out) Hr.out (nums_one _ _) (by simp; unfold maxLen; omega) (by simp; omega) (Nat.le_refl _) ?_; intro v1 w1 o1 t1)
  have O1 : Hid (Own w1 w.heap.size 5 v1 (nums .u8 (b ++ (Rt.four x).take 0))) := by
    show Own _ _ _ _ _
    rw [List.take_zero, List.append_nil]; exact o1
  have T1 : Hid (Touch No w w1) := t1.mono (fun k _ h => by cases h)
  clear o1 t1
  try go_wp2
  go_loopg [1, 5, 6] 4 (fun g s1 s5 s6 wr => ∃ (k y : Nat) (v : Value), k + g = 4 ∧ s6 = .int .i64 ((k : Nat) : Int) ∧ s1 = .int .u32 ((y : Nat) : Int) ∧ y < 4294967296 ∧ s5 = v ∧ Hid (y = x / 256 ^ k) ∧ Hid (Own wr w.heap.size 5 v (nums .u8 (b ++ (Rt.four x).take k))) ∧ Hid (Touch No w wr))
  case atStart => exact ⟨0, x, _, by omega, rfl, rfl, by omega, rfl, by show x = _; simp, O1, T1⟩
  case round =>
    obtain ⟨k, y, v, hkg, rfl, rfl, hy, rfl, HY, O, T⟩ := hrel
    cases gk with
    | zero =>
      obtain rfl : k = 4 := by omega
      have hO := O.out
      rw [List.take_of_length_le (by rw [Rt.four_length]; exact Nat.le_refl _)] at hO
      obtain ⟨a', c', rfl, _⟩ := hO.form' (n := N) (by rw [nums_length, List.length_append, Hb.out, Rt.four_length]; exact HN.out)
      have HO := Lib.hid hO
      clear hO O HY
      go_wp2
      go_ret
      exact ⟨a', c', rfl, HO.out, T.out⟩
    | succ g =>
      have hlt : (k : Int) < 4 := by omega
      have hy' : (y : Int) < 4294967296 := by omega
      have hlk : (nums .u8 (b ++ (Rt.four x).take k)).length = n + k := by rw [nums_length, List.length_append, Hb.out, List.length_take, Rt.four_length]; omega
      obtain ⟨al, cl, rfl, _⟩ := O.out.form' hlk
      have HE : Hid (nums .u8 (b ++ (Rt.four x).take (k + 1)) = nums .u8 (b ++ (Rt.four x).take k) ++ [.int .u8 ((y : Int) % 256)]) := by
        show _ = _
        rw [four_next (by omega), ← HY.out, ← List.append_assoc, nums_append]
        simp [nums]
      have HY2 : Hid (y / 256 = x / 256 ^ (k + 1)) := by
        show _ = _
        rw [HY.out, Nat.div_div_eq_div_mul, Nat.pow_succ]
      have Hlk := Lib.hid hlk
      clear hlk HY
      go_wp2_with (at_builtin; refine wpList_append1 rfl _ _ _ rfl w.heap.size _ I _ 1 Try.underlying34 HI.out.1 HI.out.2.1 HI.out.2.2.1 HI.out.2.2.2 rfl _ _ _ O.out rfl rfl rfl (by rw [Hlk.out]; unfold maxLen; omega) (by rw [Hlk.out]; omega) T.out.size ?_; intro v' w3 hown3 ht3)
      go_roundg g
      case measure => omega
      case rel => exact ⟨k + 1, y / 256, v', by omega, by go_num, by go_num, by omega, rfl, HY2, by rw [HE.out]; exact hown3, T.out.then ht3 (fun i hi e => absurd ((O.out.block e).1) (by omega))⟩
end Go.Proofs.Ytkiehoboeiengaa
namespace Go.Proofs.Ytkiehoboeiengaa
open Go Go.RowKit
set_option linter.unusedSimpArgs false

set_option maxRecDepth 100000 in
set_option maxHeartbeats 4000000 in
theorem refGetFour_yes (w : World) (g o n c : Nat) (x0 x1 x2 x3 : Nat) (hn : 4 ≤ n) (h0 : x0 < 256) (h1 : x1 < 256) (h2 : x2 < 256) (h3 : x3 < 256)
    (c0 : w.cell? ⟨g, o + 0, none⟩ = some (.int .u8 (x0 : Nat))) (c1 : w.cell? ⟨g, o + 1, none⟩ = some (.int .u8 (x1 : Nat))) (c2 : w.cell? ⟨g, o + 2, none⟩ = some (.int .u8 (x2 : Nat))) (c3 : w.cell? ⟨g, o + 3, none⟩ = some (.int .u8 (x3 : Nat))) :
    Calls Try.prog 89 #[.slice (some ⟨g, o, none⟩) n c] w fun e w' => e = .returned (.tuple #[.int .u32 ((x0 + 256 * x1 + 65536 * x2 + 16777216 * x3 : Nat) : Int), .int .i64 0]) ∧ w = w' := by
  have hn' : ¬ (n : Int) < 4 := by omega
  have hn0 : (0 : Int) < (n : Nat) := by omega
  have hn1 : (1 : Int) < (n : Nat) := by omega
  have hn2 : (2 : Int) < (n : Nat) := by omega
  have hn3 : (3 : Int) < (n : Nat) := by omega
  have hn4 : 0 < n := by omega
  have hn5 : 1 < n := by omega
  have hn6 : 2 < n := by omega
  have hn7 : 3 < n := by omega
  have C0 := Lib.hid c0
  have C1 := Lib.hid c1
  have C2 := Lib.hid c2
  have C3 := Lib.hid c3
  obtain ⟨y2, hy2⟩ : ∃ y2, y2 = x3 * 256 + x2 := ⟨_, rfl⟩
  obtain ⟨y1, hy1⟩ : ∃ y1, y1 = y2 * 256 + x1 := ⟨_, rfl⟩
  obtain ⟨y0, hy0⟩ : ∃ y0, y0 = y1 * 256 + x0 := ⟨_, rfl⟩
  have hY0 : Hid (y0 = x0 + 256 * x1 + 65536 * x2 + 16777216 * x3) := by show _ = _; omega
  have b2 : y2 < 65536 := by omega
  have b1 : y1 < 16777216 := by omega
  have b0 : y0 < 4294967296 := by omega
  have HY2 := Lib.hid hy2
  have HY1 := Lib.hid hy1
  have HY0 := Lib.hid hy0
  clear hy0 hy1 hy2 c0 c1 c2 c3 hn
  go_enter Try.func89, Try.ntmps89
  go_wp2
  go_loopg [4, 5] 4 (fun gk s4 s5 wr => Hid (wr = w) ∧ ((gk = 4 ∧ s5 = .int .i64 3 ∧ s4 = .int .u32 0) ∨ (gk = 3 ∧ s5 = .int .i64 2 ∧ s4 = .int .u32 (x3 : Nat)) ∨ (gk = 2 ∧ s5 = .int .i64 1 ∧ s4 = .int .u32 (y2 : Nat)) ∨ (gk = 1 ∧ s5 = .int .i64 0 ∧ s4 = .int .u32 (y1 : Nat)) ∨ (gk = 0 ∧ s5 = .int .i64 (-1) ∧ s4 = .int .u32 (y0 : Nat))))
  case atStart => exact ⟨rfl, Or.inl ⟨rfl, rfl, rfl⟩⟩
  case round =>
    obtain ⟨hw, hrel⟩ := hrel
    rcases hrel with ⟨rfl, rfl, rfl⟩ | ⟨rfl, rfl, rfl⟩ | ⟨rfl, rfl, rfl⟩ | ⟨rfl, rfl, rfl⟩ | ⟨rfl, rfl, rfl⟩
    · have cc : wr.cell? ⟨g, o + 3, none⟩ = some (.int .u8 (x3 : Nat)) := by rw [hw.out]; exact C3.out
      go_wp2
      go_roundg 3
      case measure => omega
      case rel => exact ⟨hw, Or.inr (Or.inl ⟨rfl, rfl, rfl⟩)⟩
    · have cc : wr.cell? ⟨g, o + 2, none⟩ = some (.int .u8 (x2 : Nat)) := by rw [hw.out]; exact C2.out
      go_wp2
      go_roundg 2
      case measure => omega
      case rel => exact ⟨hw, Or.inr (Or.inr (Or.inl ⟨rfl, rfl, by rw [HY2.out]; go_num⟩))⟩
    · have cc : wr.cell? ⟨g, o + 1, none⟩ = some (.int .u8 (x1 : Nat)) := by rw [hw.out]; exact C1.out
      go_wp2
      go_roundg 1
      case measure => omega
      case rel => exact ⟨hw, Or.inr (Or.inr (Or.inr (Or.inl ⟨rfl, rfl, by rw [HY1.out]; go_num⟩)))⟩
    · have cc : wr.cell? ⟨g, o + 0, none⟩ = some (.int .u8 (x0 : Nat)) := by rw [hw.out]; exact C0.out
      rw [Nat.add_zero] at cc
      go_wp2
      go_roundg 0
      case measure => omega
      case rel => exact ⟨hw, Or.inr (Or.inr (Or.inr (Or.inr ⟨rfl, rfl, by rw [HY0.out]; go_num⟩)))⟩
    · have hww := Lib.hid hw.out.symm
      go_wp2
      go_ret2
      exact ⟨by rw [← hY0.out]; rfl, hww.out⟩
theorem refGetFour_any (w : World) (a : Option Addr) (n c : Nat) (b : List Nat) (hb : b.length = n) (hr : Rd w a (nums .u8 b)) (hlt : ∀ x ∈ b, x < 256) :
    Calls Try.prog 89 #[.slice a n c] w fun e w' => e = .returned (.tuple #[.int .u32 ((if n < 4 then 0 else Rt.unfour b : Nat) : Int), .int .i64 ((if n < 4 then 5 else 0 : Nat) : Int)]) ∧ w = w' := by
  by_cases hn : n < 4
  · rw [if_pos hn, if_pos hn]
    have hn' : (n : Int) < 4 := by omega
    clear hb hr hlt hn
    go_enter Try.func89, Try.ntmps89
    go_wp2
    go_ret2
    exact ⟨rfl, rfl⟩
  · rw [if_neg hn, if_neg hn]
    have hl : ∀ i, i < 4 → b.getD i 0 < 256 := fun i hi => hlt _ (by rw [List.getD_eq_getElem?_getD, List.getElem?_eq_getElem (by omega)]; exact List.getElem_mem _)
    obtain ⟨g, o, rfl, c0⟩ := hr.num (i := 0) (by omega)
    obtain ⟨_, _, e1, c1⟩ := hr.num (i := 1) (by omega)
    obtain ⟨_, _, e2, c2⟩ := hr.num (i := 2) (by omega)
    obtain ⟨_, _, e3, c3⟩ := hr.num (i := 3) (by omega)
    cases e1
    cases e2
    cases e3
    exact refGetFour_yes w g o n c _ _ _ _ (by omega) (hl 0 (by decide)) (hl 1 (by decide)) (hl 2 (by decide)) (hl 3 (by decide)) c0 c1 c2 c3
end Go.Proofs.Ytkiehoboeiengaa
