/-
  Package drydockref01 by its own text: PutFour, PutList.
-/
import Derived.Test.YtmjeigceclmdoaaGreatDoorNums
import Derived.Test.YtmjeigceclmdoaaGreatDoorNumA
import Derived.Test.YtmjeigceclmdoaaGreatDoorNm
namespace Go.Proofs.YtmjeigceclmdoaaGreatDoor
open Go Go.RowKit
set_option linter.unusedSimpArgs false

theorem four_next {x k : Nat} (hk : k < 4) : (Rt.four x).take (k + 1) = (Rt.four x).take k ++ [x / 256 ^ k % 256] := by
  match k, hk with
  | 0, _ => simp [Rt.four]
  | 1, _ => simp [Rt.four]
  | 2, _ => simp [Rt.four]
  | 3, _ => simp [Rt.four]
set_option maxRecDepth 100000 in
set_option maxHeartbeats 2000000 in
theorem refPutFour_any (w : World) (a : Option Addr) (n c : Nat) (b : List Nat) (hb : b.length = n) (hr : Rd w a (nums .u8 b)) (x : Nat) (hx : x < 4294967296) (hsz : (n : Int) ≤ 99999999999996) (N : Nat) (hN : n + 4 = N) :
    Calls Tryz.prog 17 #[.slice a n c, .int .u32 (x : Nat)] w (PutPost w (b ++ Rt.four x) N) := by
  have Hb := Lib.hid hb
  have Hr := Lib.hid hr
  have HN := Lib.hid hN
  obtain ⟨I, hi0, hi1, hi2, hi3⟩ := u8_info
  have HI := Lib.hid (And.intro hi0 (And.intro hi1 (And.intro hi2 hi3)))
  have hx' : (x : Int) < 4294967296 := by omega
  clear hb hr hi0 hi1 hi2 hi3 hN hx
  go_enter Tryz.func17, Tryz.ntmps17
  go_wp2_with (at_builtin; refine wpList_append_rd rfl _ _ 22 rfl w.heap.size 5 I (.int .u8 0) 1 Tryz.underlying22 HI.out.1 HI.out.2.1 HI.out.2.2.1 HI.out.2.2.2 rfl _ _ (Own.nil _ w.heap.size 5) rfl a n c (nums .u8 b) rfl (by rw [nums_length]; exact Hb.out) Hr.out (nums_one _ _) (by simp; unfold maxLen; omega) (by simp; omega) (Nat.le_refl _) ?_; intro v1 w1 o1 t1)
  have O1 : Hid (Own w1 w.heap.size 5 v1 (nums .u8 (b ++ (Rt.four x).take 0))) := by
    show Own _ _ _ _ _
    rw [List.take_zero, List.append_nil]; exact o1
  have T1 : Hid (Touch No w w1) := t1.mono (fun k _ h => by cases h)
  clear o1 t1
  try go_wp2
  go_loopg [1, 5, 6] 4 (fun g s1 s5 s6 wr => ∃ (k y : Nat) (v : Value), k + g = 4 ∧ s6 = .int .i64 ((k : Nat) : Int) ∧ s1 = .int .u32 ((y : Nat) : Int) ∧ y < 4294967296 ∧ s5 = v ∧ Hid (y = x / 256 ^ k) ∧ Hid (Own wr w.heap.size 5 v (nums .u8 (b ++ (Rt.four x).take k))) ∧ Hid (Touch No w wr))
  case atStart => exact ⟨0, x, _, by omega, rfl, rfl, by omega, rfl, by show x = _; simp, O1, T1⟩
  case round =>
    obtain ⟨k, y, v, hkg, rfl, rfl, hy, rfl, HY, O, T⟩ := hrel
    cases gk with
    | zero =>
      obtain rfl : k = 4 := by omega
      have hO := O.out
      rw [List.take_of_length_le (by rw [Rt.four_length]; exact Nat.le_refl _)] at hO
      obtain ⟨a', c', rfl, _⟩ := hO.form' (n := N) (by rw [nums_length, List.length_append, Hb.out, Rt.four_length]; exact HN.out)
      have HO := Lib.hid hO
      clear hO O HY
      go_wp2
      go_ret
      exact ⟨a', c', rfl, HO.out, T.out⟩
    | succ g =>
      have hlt : (k : Int) < 4 := by omega
      have hy' : (y : Int) < 4294967296 := by omega
      have hlk : (nums .u8 (b ++ (Rt.four x).take k)).length = n + k := by rw [nums_length, List.length_append, Hb.out, List.length_take, Rt.four_length]; omega
      obtain ⟨al, cl, rfl, _⟩ := O.out.form' hlk
      have HE : Hid (nums .u8 (b ++ (Rt.four x).take (k + 1)) = nums .u8 (b ++ (Rt.four x).take k) ++ [.int .u8 ((y : Int) % 256)]) := by
        show _ = _
        rw [four_next (by omega), ← HY.out, ← List.append_assoc, nums_append]
        simp [nums]
      have HY2 : Hid (y / 256 = x / 256 ^ (k + 1)) := by
        show _ = _
        rw [HY.out, Nat.div_div_eq_div_mul, Nat.pow_succ]
      have Hlk := Lib.hid hlk
      clear hlk HY
      go_wp2_with (at_builtin; refine wpList_append1 rfl _ _ _ rfl w.heap.size _ I _ 1 Tryz.underlying22 HI.out.1 HI.out.2.1 HI.out.2.2.1 HI.out.2.2.2 rfl _ _ _ O.out rfl rfl rfl (by rw [Hlk.out]; unfold maxLen; omega) (by rw [Hlk.out]; omega) T.out.size ?_; intro v' w3 hown3 ht3)
      go_roundg g
      case measure => omega
      case rel => exact ⟨k + 1, y / 256, v', by omega, by go_num, by go_num, by omega, rfl, HY2, by rw [HE.out]; exact hown3, T.out.then ht3 (fun i hi e => absurd ((O.out.block e).1) (by omega))⟩
set_option maxRecDepth 100000 in
set_option maxHeartbeats 2000000 in
theorem refPutList_any (w : World) (a : Option Addr) (n c : Nat) (b : List Nat) (hb : b.length = n) (hr : Rd w a (nums .u8 b)) (al : Option Addr) (m cl : Nat) (zs : List Int) (hz : zs.length = m) (hrz : Rd w al (ints .i32 zs)) (hm : m ≤ 16777216) (hsz : (n : Int) ≤ 10000000000000) (N : Nat) (hN : n + 4 + 4 * m = N) :
    Calls Tryz.prog 18 #[.slice a n c, .slice al m cl] w (PutPost w (b ++ Nm.put zs) N) := by
  have Hb := Lib.hid hb
  have Hr := Lib.hid hr
  have HN := Lib.hid hN
  have Hz := Lib.hid hz
  have Hrz := Lib.hid hrz
  have hm' : (m : Int) ≤ 16777216 := by omega
  clear hb hr hN hz hrz
  go_enter Tryz.func18, Tryz.ntmps18
  go_wp2_with fail
  refine (refPutFour_any _ a n c b Hb.out Hr.out m (by omega) (by omega) (n + 4) rfl).mono ?_
  rintro e w1 ⟨a1, c1, rfl, o1, t1⟩
  have O1 : Hid (Own w1 w.heap.size 5 (.slice a1 (n + 4 + 4 * 0) c1) (nums .u8 (b ++ (Rt.four (m % 4294967296) ++ (zs.take 0).flatMap (fun z => Rt.four (Nm.u z)))))) := by
    show Own _ _ _ _ _
    rw [List.take_zero, List.flatMap_nil, List.append_nil, Nat.mod_eq_of_lt (by omega)]; exact o1
  have T1 := Lib.hid t1
  clear o1 t1
  go_wp2
  go_loopg [5, 6] m (fun g s5 s6 wr => ∃ (k : Nat) (a' : Option Addr) (c' : Nat), k + g = m ∧ s6 = .int .i64 ((k : Nat) : Int) ∧ s5 = .slice a' (n + 4 + 4 * k) c' ∧ Hid (Own wr w.heap.size 5 (.slice a' (n + 4 + 4 * k) c') (nums .u8 (b ++ (Rt.four (m % 4294967296) ++ (zs.take k).flatMap (fun z => Rt.four (Nm.u z)))))) ∧ Hid (Touch No w wr))
  case atStart => exact ⟨0, a1, c1, by omega, rfl, rfl, O1, T1⟩
  case round =>
    obtain ⟨k, a', c', hkg, rfl, rfl, O, T⟩ := hrel
    cases gk with
    | zero =>
      obtain rfl : k = m := by omega
      have hO := O.out
      rw [List.take_of_length_le (by rw [Hz.out]; exact Nat.le_refl _)] at hO
      have HO : Hid (Own wr w.heap.size 5 (.slice a' N c') (nums .u8 (b ++ Nm.put zs))) := by
        show Own _ _ _ _ _
        rw [← HN.out, Nm.put, Hz.out, List.flatMap_map]; exact hO
      have hNN := HN.out
      clear hO O
      go_wp2
      go_ret
      exact ⟨a', c', by rw [← hNN]; rfl, HO.out, T.out⟩
    | succ g =>
      have hlt : (k : Int) < (m : Nat) := by omega
      have hkl : k < zs.length := by rw [Hz.out]; omega
      obtain ⟨ga, oa, rfl, hca⟩ := (Hrz.out.no T.out).int hkl
      have hbl : (b ++ (Rt.four (m % 4294967296) ++ (zs.take k).flatMap (fun z => Rt.four (Nm.u z)))).length = n + 4 + 4 * k := by
        have h4 : ∀ q : List Int, (q.flatMap (fun z => Rt.four (Nm.u z))).length = 4 * q.length := fun q => by
          induction q with
          | nil => rfl
          | cons y q ih => rw [List.flatMap_cons, List.length_append, ih, Rt.four_length, List.length_cons]; omega
        rw [List.length_append, List.length_append, h4, Hb.out, Rt.four_length, List.length_take]; omega
      have HE : Hid (b ++ (Rt.four (m % 4294967296) ++ (zs.take (k + 1)).flatMap (fun z => Rt.four (Nm.u z))) = (b ++ (Rt.four (m % 4294967296) ++ (zs.take k).flatMap (fun z => Rt.four (Nm.u z)))) ++ Rt.four (Nm.u (zs.getD k 0))) := by
        show _ = _
        rw [List.take_succ_eq_append_getElem hkl, List.flatMap_append, List.flatMap_cons, List.flatMap_nil, List.append_nil, List.getD_eq_getElem?_getD, List.getElem?_eq_getElem hkl]
        simp
      obtain ⟨z, hzz⟩ : ∃ z, zs.getD k 0 = z := ⟨_, rfl⟩
      rw [hzz] at hca HE
      have hu : z % 4294967296 = ((Nm.u z : Nat) : Int) := by unfold Nm.u; omega
      have HC := Lib.hid (refPutFour_any wr a' (n + 4 + 4 * k) c' _ hbl O.out.rd (Nm.u z) (Nm.u_lt z) (by omega) (n + 4 + 4 * (k + 1)) (by omega))
      clear hzz hbl hkl
      go_wp2_with fail
      try rw [hu]
      refine HC.out.mono ?_
      rintro e w2 ⟨a2, c2, rfl, o2, t2⟩
      have O2 : Hid (Own w2 w.heap.size 5 (.slice a2 (n + 4 + 4 * (k + 1)) c2) (nums .u8 (b ++ (Rt.four (m % 4294967296) ++ (zs.take (k + 1)).flatMap (fun z => Rt.four (Nm.u z)))))) := by
        show Own _ _ _ _ _
        rw [HE.out]; exact o2.mono T.out.size
      have T2 := Lib.hid (T.out.trans t2)
      clear o2 t2 HC O hu
      go_wp2
      go_roundg g
      case measure => omega
      case rel => exact ⟨k + 1, a2, c2, by omega, by go_num, rfl, O2, T2⟩
end Go.Proofs.YtmjeigceclmdoaaGreatDoor
