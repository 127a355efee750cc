/-
  Package pages by its own text: Put.
  Package drydockref01 by its own text: PutFour, PutList.
  Package drydockref02 by its own text: On, Of. The sum by halves is the sum by a table.
-/
import Derived.Test.YtkiehoboeiengaaGreatDoorK33
import Derived.Test.YtkiehoboeiengaaGreatDoorK34
import Derived.Test.YtkiehoboeiengaaGreatDoorK18
import Derived.Test.YtkiehoboeiengaaGreatDoorK20
namespace Go.Proofs.YtkiehoboeiengaaGreatDoor
open Go Go.RowKit
set_option linter.unusedSimpArgs false

def PagePut (w : World) (bs : List Nat) (e : Ending) (w' : World) : Prop :=
  ∃ a c, e = .returned (.tuple #[.slice a 256 c, .int .i64 0]) ∧ Own w' w.heap.size 5 (.slice a 256 c) (nums .u8 bs) ∧ Touch No w w'

set_option maxRecDepth 100000 in
theorem pagePut_no (w : World) (num epoch : Nat) (a : Option Addr) (n c : Nat) (hn : 240 < n) :
    Calls Tryz.prog 145 #[.int .u32 (num : Nat), .int .u32 (epoch : Nat), .slice a n c] w fun e w' => e = .returned (.tuple #[.slice none 0 0, .int .i64 1]) ∧ w = w' := by
  have hn' : (240 : Int) < (n : Nat) := by omega
  clear hn
  go_enter Tryz.func145, Tryz.ntmps145
  go_wp2
  go_ret2
  exact ⟨rfl, rfl⟩

set_option maxRecDepth 100000 in
set_option maxHeartbeats 8000000 in
theorem pagePut_any (w : World) (num epoch : Nat) (hnum : num < 4294967296) (hep : epoch < 4294967296) (a : Option Addr) (n c : Nat) (q : List Nat) (hq : q.length = n) (hn : n ≤ 240) (hr : Rd w a (nums .u8 q)) (hlt : ∀ x ∈ q, x < 256) :
    Calls Tryz.prog 145 #[.int .u32 (num : Nat), .int .u32 (epoch : Nat), .slice a n c] w (PagePut w (Pg.put num epoch q)) := by
  obtain ⟨I, hi0, hi1, hi2, hi3⟩ := u8_info
  have HI := Lib.hid (And.intro hi0 (And.intro hi1 (And.intro hi2 hi3)))
  obtain ⟨Z, hZ⟩ : ∃ Z, 240 - n = Z := ⟨_, rfl⟩
  have hmk : ∀ wx : World, (Instr.makeSlice 49 (.int .i64 (Z : Nat)) (.int .i64 (Z : Nat))).run Tryz.prog wx = .ok (.slice (some ⟨wx.heap.size, 0, none⟩) Z Z) (wx.alloc (.cells (List.replicate Z (Value.int .u8 0)).toArray 5)) := fun wx => by
    have := run_make (P := Tryz.prog) wx 49 5 I (.int .u8 0) Tryz.underlying49 hi0 hi1 .i64 .i64 (Z : Int) (Z : Int) (by omega) (by omega) (by rw [hi3]; omega) (by omega)
    rw [this, hi2, Int.toNat_natCast, Nat.mul_one]
    show Result.ok _ (wx.alloc (.cells (madeCells #[Value.int .u8 0] _) _)) = _
    rw [made_fill]
  have HMK := Lib.hid hmk
  have Hq := Lib.hid hq
  have Hr := Lib.hid hr
  have Hlt := Lib.hid hlt
  have hn' : ¬ (240 : Int) < (n : Nat) := by omega
  have hn9 : (n : Int) ≤ 240 := by omega
  have Hn := Lib.hid hn
  have HZ := Lib.hid hZ
  clear hmk hq hr hlt hi0 hi1 hi2 hi3 hn hZ
  go_enter Tryz.func145, Tryz.ntmps145
  go_wp2_with fail
  obtain ⟨W0, hW0⟩ : ∃ W0, W0 = w.alloc (.cells #[.int .u32 (num : Nat), .int .u32 (epoch : Nat), .int .u32 (n : Nat)] 48) := ⟨_, rfl⟩
  obtain ⟨G, hG⟩ : ∃ G, G = w.heap.size := ⟨_, rfl⟩
  have hrow : Row W0 G 48 [.int .u32 (num : Nat), .int .u32 (epoch : Nat), .int .u32 (n : Nat)] := by rw [hW0, hG]; exact Row.new w _ _
  have hT0 : Touch No w W0 := by rw [hW0]; exact (Touch.refl No w).alloc _
  have hW0s : G + 1 = W0.heap.size := by rw [hW0, hG]; simp
  have HRow := Lib.hid hrow
  have HT0 := Lib.hid hT0
  have HG := Lib.hid hG
  have HW0s := Lib.hid hW0s
  rw [← hW0, ← hG]
  clear hW0 hG hrow hT0 hW0s
  go_loopg [8, 21] 3 (fun g s8 s21 wr => ∃ (ab : Option Addr) (cb : Nat), Hid (Touch No W0 wr) ∧
    ((g = 3 ∧ s21 = .int .i64 0 ∧ s8 = .slice none 0 0) ∨ (g = 2 ∧ s21 = .int .i64 1 ∧ s8 = .slice ab 4 cb ∧ Hid (Own wr W0.heap.size 5 (.slice ab 4 cb) (nums .u8 (Rt.four num)))) ∨
     (g = 1 ∧ s21 = .int .i64 2 ∧ s8 = .slice ab 8 cb ∧ Hid (Own wr W0.heap.size 5 (.slice ab 8 cb) (nums .u8 (Rt.four num ++ Rt.four epoch)))) ∨ (g = 0 ∧ s21 = .int .i64 3 ∧ s8 = .slice ab 12 cb ∧ Hid (Own wr W0.heap.size 5 (.slice ab 12 cb) (nums .u8 (Pg.head num epoch q))))))
  case atStart => exact ⟨none, 0, Touch.refl _ _, .inl ⟨rfl, rfl, rfl⟩⟩
  case round =>
    obtain ⟨ab, cb, T, hrel⟩ := hrel
    have R := HRow.out.touch T.out id
    have k0 : wr.cell? ⟨G, 0, none⟩ = some (.int .u32 (num : Nat)) := R.cell 0
    have k1 : wr.cell? ⟨G, 1, none⟩ = some (.int .u32 (epoch : Nat)) := R.cell 1
    have k2 : wr.cell? ⟨G, 2, none⟩ = some (.int .u32 (n : Nat)) := R.cell 2
    clear R
    rcases hrel with ⟨rfl, rfl, rfl⟩ | ⟨rfl, rfl, rfl, O⟩ | ⟨rfl, rfl, rfl, O⟩ | ⟨rfl, rfl, rfl, O⟩
    · go_wp2_with fail
      refine (putFour_any _ none 0 0 [] rfl (Rd.nil _ _) num hnum (by decide) 4 rfl).mono ?_
      clear k0 k1 k2
      rintro e w1 ⟨a1, c1, rfl, o1, t1⟩
      have HO := Lib.hid (show Own w1 W0.heap.size 5 (.slice a1 4 c1) (nums .u8 (Rt.four num)) from o1.mono T.out.size)
      have HT := Lib.hid (T.out.trans t1)
      clear o1 t1
      go_wp2
      go_roundg 2
      case measure => omega
      case rel => exact ⟨a1, c1, HT.out, .inr (.inl ⟨rfl, rfl, rfl, HO.out⟩)⟩
    · go_wp2_with fail
      refine (putFour_any _ ab 4 cb (Rt.four num) rfl O.out.rd epoch hep (by decide) 8 rfl).mono ?_
      clear k0 k1 k2
      rintro e w1 ⟨a1, c1, rfl, o1, t1⟩
      have HO := Lib.hid (o1.mono (base' := W0.heap.size) T.out.size)
      have HT := Lib.hid (T.out.trans t1)
      clear o1 t1
      go_wp2
      go_roundg 1
      case measure => omega
      case rel => exact ⟨a1, c1, HT.out, .inr (.inr (.inl ⟨rfl, rfl, rfl, HO.out⟩))⟩
    · go_wp2_with fail
      refine (putFour_any _ ab 8 cb (Rt.four num ++ Rt.four epoch) rfl O.out.rd n (by omega) (by decide) 12 rfl).mono ?_
      clear k0 k1 k2
      rintro e w1 ⟨a1, c1, rfl, o1, t1⟩
      have e1 : Rt.four num ++ Rt.four epoch ++ Rt.four n = Pg.head num epoch q := by rw [Pg.head, Hq.out]
      rw [e1] at o1
      have HO := Lib.hid (o1.mono (base' := W0.heap.size) T.out.size)
      have HT := Lib.hid (T.out.trans t1)
      clear o1 t1 e1
      go_wp2
      go_roundg 0
      case measure => omega
      case rel => exact ⟨a1, c1, HT.out, .inr (.inr (.inr ⟨rfl, rfl, rfl, HO.out⟩))⟩
    · clear k0 k1 k2
      go_wp2_with fail
      refine (of_any _ ab 12 cb (Pg.head num epoch q) (Pg.head_length _ _ _) (by decide) O.out.rd (Pg.head_lt _ _ _)).mono ?_
      rintro e w1 ⟨rfl, t1⟩
      have HT1 := Lib.hid (T.out.trans t1)
      have HO1 := Lib.hid (O.out.touch t1 (fun _ _ _ f => f))
      clear t1 T O
      go_wp2_with fail
      refine (on_any _ (Rt.of (Pg.head num epoch q)) Rt.of_lt a n c q Hq.out (by omega) (Hr.out.no (HT0.out.trans HT1.out)) Hlt.out).mono ?_
      rintro e w2 ⟨rfl, t2⟩
      have HT2 := Lib.hid (HT1.out.trans t2)
      have HO2 := Lib.hid (HO1.out.touch t2 (fun _ _ _ f => f))
      clear t2 HT1 HO1
      go_wp2_with fail
      refine (putFour_any _ ab 12 cb (Pg.head num epoch q) (Pg.head_length _ _ _) HO2.out.rd (Rt.on (Rt.of (Pg.head num epoch q)) q) Rt.on_lt (by decide) 16 rfl).mono ?_
      rintro e w3 ⟨a3, c3, rfl, o3, t3⟩
      have HT3 := Lib.hid (HT2.out.trans t3)
      have HO3 := Lib.hid (o3.mono (base' := W0.heap.size) HT2.out.size)
      have hl16 : Hid ((nums .u8 (Pg.head num epoch q ++ Rt.four (Rt.on (Rt.of (Pg.head num epoch q)) q))).length = 16) := by show _ = _; rw [nums_length]; rfl
      clear t3 o3 HT2 HO2
      go_wp2_with (refine wpList_append_rd rfl _ _ _ rfl W0.heap.size 5 I (.int .u8 0) 1 Tryz.underlying49 HI.out.1 HI.out.2.1 HI.out.2.2.1 HI.out.2.2.2 rfl _ _ HO3.out rfl a n c (nums .u8 q) rfl (by rw [nums_length]; exact Hq.out) (Hr.out.no (HT0.out.trans HT3.out)) (nums_one _ _) (by rw [hl16.out]; unfold maxLen; omega) (by rw [hl16.out]; omega) HT3.out.size ?_)
      intro v4 w4 o4 t4
      obtain ⟨L, hL⟩ : ∃ L, 16 + n = L := ⟨_, rfl⟩
      have hlen4 : (nums .u8 (Pg.head num epoch q ++ Rt.four (Rt.on (Rt.of (Pg.head num epoch q)) q)) ++ nums .u8 q).length = L := by rw [List.length_append, hl16.out, nums_length, Hq.out]; exact hL
      obtain ⟨a4, c4, rfl, _⟩ := o4.form' (n := L) hlen4
      have HO4 := Lib.hid o4
      have HT4 := Lib.hid (HT3.out.then t4 (fun i hi e => absurd (HO3.out.block e).1 (Nat.not_le.2 hi)))
      have hZL : (256 : Int) - (L : Int) = (Z : Nat) := by have := HZ.out; have := Hn.out; omega
      have hZw : IntKind.i64.wrap ((256 : Int) - (L : Int)) = (Z : Nat) := by rw [hZL]; exact IntWalk.i64_in _ (by have := HZ.out; omega)
      have HL := Lib.hid hL
      have HLEN4 := Lib.hid hlen4
      have hmk := HMK.out
      have hL9 : (L : Int) ≤ 256 := by omega
      clear o4 t4 HO3 HT3 hl16 hL hlen4
      go_wp2_with fail
      clear hmk hZL hZw
      obtain ⟨W5, hW5⟩ : ∃ W5, W5 = w4.alloc (.cells (Array.replicate Z (Value.int .u8 0)) 5) := ⟨_, rfl⟩
      have hzero : Rd W5 (some ⟨w4.heap.size, 0, none⟩) (nums .u8 (List.replicate Z 0)) := by
        rw [hW5]
        have := rd_new w4 5 (Array.replicate Z (Value.int .u8 0)) (0, 0)
        rw [Array.toList_replicate] at this
        rw [nums, List.map_replicate]; exact this
      have hT5 : Touch No W0 W5 := by rw [hW5]; exact HT4.out.alloc _
      have hO5 : Rd W5 a4 (nums .u8 (Pg.head num epoch q ++ Rt.four (Rt.on (Rt.of (Pg.head num epoch q)) q) ++ q)) := by
        rw [hW5, nums_append]; exact HO4.out.rd.no ((Touch.refl No _).alloc _)
      have hs5 : w4.heap.size + 1 = W5.heap.size := by rw [hW5]; simp
      have HZ5 := Lib.hid hzero
      have HT5 := Lib.hid hT5
      have HO5 := Lib.hid hO5
      rw [← hW5]
      have hp1 : (W5.alloc (.cells #[.slice a4 L c4, .slice (some ⟨w4.heap.size, 0, none⟩) Z Z] 49)).cell? ⟨w4.heap.size + 1, 0, none⟩ = some (.slice a4 L c4) := by rw [hs5, cell_new]; rfl
      have hp2 : (W5.alloc (.cells #[.slice a4 L c4, .slice (some ⟨w4.heap.size, 0, none⟩) Z Z] 49)).cell? ⟨w4.heap.size + 1, 0 + 1, none⟩ = some (.slice (some ⟨w4.heap.size, 0, none⟩) Z Z) := by rw [hs5, cell_new]; rfl
      have HP := Lib.hid (And.intro hp1 hp2)
      clear hW5 hzero hT5 hO5 hs5 hp1 hp2
      refine (concatB_any _ (w4.heap.size + 1) 0 2 a4 L c4 _ (some ⟨w4.heap.size, 0, none⟩) Z Z _ HP.out.1 HP.out.2 (by rw [nums_append]; exact HLEN4.out) (by rw [nums_length, List.length_replicate]) (HO5.out.no ((Touch.refl No _).alloc _)) (HZ5.out.no ((Touch.refl No _).alloc _)) (nums_one _ _) (nums_one _ _) 256 (by have := HZ.out; have := HL.out; have := Hn.out; omega) (by decide)).mono ?_
      rintro e w6 ⟨a6, c6, rfl, o6, t6⟩
      have hT6 := HT0.out.trans ((HT5.out.alloc _).trans t6)
      have hv : nums .u8 (Pg.head num epoch q ++ Rt.four (Rt.on (Rt.of (Pg.head num epoch q)) q) ++ q) ++ nums .u8 (List.replicate Z 0) = nums .u8 (Pg.put num epoch q) := by
        rw [← nums_append, Pg.put, Pg.sum, Hq.out, HZ.out]
      rw [hv] at o6
      have HO6 := Lib.hid (o6.mono (base' := w.heap.size) (HT0.out.trans (HT5.out.alloc _)).size)
      have HT6 := Lib.hid hT6
      clear hT6 hv o6 t6 HO5 HZ5 HT5 HP HO4 HT4
      go_wp2
      go_ret2
      exact ⟨a6, c6, rfl, HO6.out, HT6.out⟩
end Go.Proofs.YtkiehoboeiengaaGreatDoor
namespace Go.Proofs.YtkiehoboeiengaaGreatDoor
open Go Go.RowKit
set_option linter.unusedSimpArgs false

theorem four_next {x k : Nat} (hk : k < 4) : (Rt.four x).take (k + 1) = (Rt.four x).take k ++ [x / 256 ^ k % 256] := by
  match k, hk with
  | 0, _ => simp [Rt.four]
  | 1, _ => simp [Rt.four]
  | 2, _ => simp [Rt.four]
  | 3, _ => simp [Rt.four]
set_option maxRecDepth 100000 in
set_option maxHeartbeats 2000000 in
theorem refPutFour_any (w : World) (a : Option Addr) (n c : Nat) (b : List Nat) (hb : b.length = n) (hr : Rd w a (nums .u8 b)) (x : Nat) (hx : x < 4294967296) (hsz : (n : Int) ≤ 99999999999996) (N : Nat) (hN : n + 4 = N) :
    Calls Tryz.prog 206 #[.slice a n c, .int .u32 (x : Nat)] w (PutPost w (b ++ Rt.four x) N) := by
  have Hb := Lib.hid hb
  have Hr := Lib.hid hr
  have HN := Lib.hid hN
  obtain ⟨I, hi0, hi1, hi2, hi3⟩ := u8_info
  have HI := Lib.hid (And.intro hi0 (And.intro hi1 (And.intro hi2 hi3)))
  have hx' : (x : Int) < 4294967296 := by omega
  clear hb hr hi0 hi1 hi2 hi3 hN hx
  go_enter Tryz.func206, Tryz.ntmps206
  go_wp2_with (at_builtin; refine wpList_append_rd rfl _ _ 49 rfl w.heap.size 5 I (.int .u8 0) 1 Tryz.underlying49 HI.out.1 HI.out.2.1 HI.out.2.2.1 HI.out.2.2.2 rfl _ _ (Own.nil _ w.heap.size 5) rfl a n c (nums .u8 b) rfl (by rw [nums_length]; exact Hb.out) Hr.out (nums_one _ _) (by simp; unfold maxLen; omega) (by simp; omega) (Nat.le_refl _) ?_; intro v1 w1 o1 t1)
  have O1 : Hid (Own w1 w.heap.size 5 v1 (nums .u8 (b ++ (Rt.four x).take 0))) := by
    show Own _ _ _ _ _
    rw [List.take_zero, List.append_nil]; exact o1
  have T1 : Hid (Touch No w w1) := t1.mono (fun k _ h => by cases h)
  clear o1 t1
  try go_wp2
  go_loopg [1, 5, 6] 4 (fun g s1 s5 s6 wr => ∃ (k y : Nat) (v : Value), k + g = 4 ∧ s6 = .int .i64 ((k : Nat) : Int) ∧ s1 = .int .u32 ((y : Nat) : Int) ∧ y < 4294967296 ∧ s5 = v ∧ Hid (y = x / 256 ^ k) ∧ Hid (Own wr w.heap.size 5 v (nums .u8 (b ++ (Rt.four x).take k))) ∧ Hid (Touch No w wr))
  case atStart => exact ⟨0, x, _, by omega, rfl, rfl, by omega, rfl, by show x = _; simp, O1, T1⟩
  case round =>
    obtain ⟨k, y, v, hkg, rfl, rfl, hy, rfl, HY, O, T⟩ := hrel
    cases gk with
    | zero =>
      obtain rfl : k = 4 := by omega
      have hO := O.out
      rw [List.take_of_length_le (by rw [Rt.four_length]; exact Nat.le_refl _)] at hO
      obtain ⟨a', c', rfl, _⟩ := hO.form' (n := N) (by rw [nums_length, List.length_append, Hb.out, Rt.four_length]; exact HN.out)
      have HO := Lib.hid hO
      clear hO O HY
      go_wp2
      go_ret
      exact ⟨a', c', rfl, HO.out, T.out⟩
    | succ g =>
      have hlt : (k : Int) < 4 := by omega
      have hy' : (y : Int) < 4294967296 := by omega
      have hlk : (nums .u8 (b ++ (Rt.four x).take k)).length = n + k := by rw [nums_length, List.length_append, Hb.out, List.length_take, Rt.four_length]; omega
      obtain ⟨al, cl, rfl, _⟩ := O.out.form' hlk
      have HE : Hid (nums .u8 (b ++ (Rt.four x).take (k + 1)) = nums .u8 (b ++ (Rt.four x).take k) ++ [.int .u8 ((y : Int) % 256)]) := by
        show _ = _
        rw [four_next (by omega), ← HY.out, ← List.append_assoc, nums_append]
        simp [nums]
      have HY2 : Hid (y / 256 = x / 256 ^ (k + 1)) := by
        show _ = _
        rw [HY.out, Nat.div_div_eq_div_mul, Nat.pow_succ]
      have Hlk := Lib.hid hlk
      clear hlk HY
      go_wp2_with (at_builtin; refine wpList_append1 rfl _ _ _ rfl w.heap.size _ I _ 1 Tryz.underlying49 HI.out.1 HI.out.2.1 HI.out.2.2.1 HI.out.2.2.2 rfl _ _ _ O.out rfl rfl rfl (by rw [Hlk.out]; unfold maxLen; omega) (by rw [Hlk.out]; omega) T.out.size ?_; intro v' w3 hown3 ht3)
      go_roundg g
      case measure => omega
      case rel => exact ⟨k + 1, y / 256, v', by omega, by go_num, by go_num, by omega, rfl, HY2, by rw [HE.out]; exact hown3, T.out.then ht3 (fun i hi e => absurd ((O.out.block e).1) (by omega))⟩
end Go.Proofs.YtkiehoboeiengaaGreatDoor
namespace Go.Proofs.YtkiehoboeiengaaGreatDoor
open Go Go.RowKit
set_option linter.unusedSimpArgs false

namespace Rt
theorem half1_xor (a b : Nat) : half1 (a ^^^ b) = half1 a ^^^ half1 b := by
  have hd : (a ^^^ b) / 2 = a / 2 ^^^ b / 2 := by
    have := Nat.shiftRight_xor_distrib (a := a) (b := b) (i := 1)
    simpa [Nat.shiftRight_eq_div_pow] using this
  have hp : (a ^^^ b) % 2 = (a + b) % 2 := by
    have h := Nat.xor_mod_two_pow (a := a) (b := b) (n := 1)
    rw [Nat.pow_one] at h
    rw [h]
    rcases Nat.mod_two_eq_zero_or_one a with ha | ha <;> rcases Nat.mod_two_eq_zero_or_one b with hb | hb <;> rw [ha, hb]
    · show 0 = _; omega
    · show 1 = _; omega
    · show 1 = _; omega
    · show 0 = _; omega
  unfold half1
  by_cases h1 : a % 2 = 1
  · by_cases h2 : b % 2 = 1
    · rw [if_neg (by omega), if_pos h1, if_pos h2, hd]
      rw [Nat.xor_assoc, Nat.xor_comm 3988292384 (b / 2 ^^^ 3988292384), Nat.xor_assoc, Nat.xor_self, Nat.xor_zero]
    · rw [if_pos (by omega), if_pos h1, if_neg h2, hd]
      rw [Nat.xor_assoc, Nat.xor_assoc, Nat.xor_comm (b / 2)]
  · by_cases h2 : b % 2 = 1
    · rw [if_pos (by omega), if_neg h1, if_pos h2, hd, Nat.xor_assoc]
    · rw [if_neg (by omega), if_neg h1, if_neg h2, hd]
theorem halves_xor : ∀ (k a b : Nat), halves k (a ^^^ b) = halves k a ^^^ halves k b
  | 0, _, _ => rfl
  | k + 1, a, b => by rw [halves, half1_xor, halves_xor k]; rfl
theorem half1_even (m : Nat) : half1 (2 * m) = m := by unfold half1; rw [if_neg (by omega)]; omega
theorem halves_pow : ∀ (k m : Nat), halves k (2 ^ k * m) = m
  | 0, m => by simp [halves]
  | k + 1, m => by rw [halves, Nat.pow_succ, Nat.mul_comm (2 ^ k) 2, Nat.mul_assoc, half1_even, halves_pow k]
theorem low_high (r : Nat) : r = (r % 256) ^^^ (2 ^ 8 * (r / 256)) := by
  apply Nat.eq_of_testBit_eq
  intro i
  rw [Nat.testBit_xor, show (256 : Nat) = 2 ^ 8 from rfl, Nat.testBit_mod_two_pow, Nat.testBit_two_pow_mul]
  by_cases h : i < 8
  · simp [h, Nat.not_le.2 h]
  · have h8 : 8 ≤ i := by omega
    simp only [h, h8, decide_true, decide_false, Bool.false_and, Bool.true_and, Bool.false_xor]
    rw [Nat.testBit_div_two_pow, show i - 8 + 8 = i by omega]
theorem step_halves (r c : Nat) : halves 8 (r ^^^ c) = step r c := by
  have h : r ^^^ c = (r % 256 ^^^ c) ^^^ (2 ^ 8 * (r / 256)) := by
    have := low_high r
    calc r ^^^ c = ((r % 256) ^^^ (2 ^ 8 * (r / 256))) ^^^ c := by rw [← this]
      _ = _ := by rw [Nat.xor_assoc, Nat.xor_comm (2 ^ 8 * (r / 256)) c, Nat.xor_assoc]
  rw [h, halves_xor, halves_pow]; rfl
end Rt

set_option maxRecDepth 100000 in
set_option maxHeartbeats 4000000 in
theorem refOn_any (w : World) (sum : Nat) (hs : sum < 4294967296) (a : Option Addr) (n c : Nat) (b : List Nat) (hb : b.length = n) (hmax : (n : Int) ≤ 9223372036854775807) (hr : Rd w a (nums .u8 b)) (hlt : ∀ x ∈ b, x < 256) :
    Calls Tryz.prog 216 #[.int .u32 (sum : Nat), .slice a n c] w fun e w' => e = .returned (.int .u32 (Rt.on sum b : Nat)) ∧ w = w' := by
  have Hb := Lib.hid hb
  have Hr := Lib.hid hr
  have Hlt := Lib.hid hlt
  have hneg := xor_neg hs
  obtain ⟨ns, hns⟩ : ∃ ns, ns = Rt.neg sum := ⟨_, rfl⟩
  rw [← hns] at hneg
  have hn32 : ns < 4294967296 := by rw [hns]; exact Rt.neg_lt _
  have Hns := Lib.hid hns
  clear hns hb hr hlt
  go_enter Tryz.func216, Tryz.ntmps216
  go_wp2
  go_loopg [5, 6] n (fun g s5 s6 wr => ∃ (k r : Nat), k + g = n ∧ s6 = .int .i64 ((k : Nat) : Int) ∧ s5 = .int .u32 ((r : Nat) : Int) ∧ r < 4294967296 ∧ Hid (r = Rt.run ns (b.take k)) ∧ Hid (wr = w))
  case atStart => exact ⟨0, ns, by omega, rfl, rfl, hn32, rfl, rfl⟩
  case round =>
    obtain ⟨k, r, hkg, rfl, rfl, hr32, hr, hwr⟩ := hrel
    have hww : w = wr := hwr.out.symm
    clear hwr
    subst hww
    cases gk with
    | zero =>
      obtain rfl : k = n := by omega
      have hx := xor_neg hr32
      have hfin : Hid (Rt.neg r = Rt.on sum b) := by
        show _ = _
        rw [hr.out, Hns.out, List.take_of_length_le (by rw [Hb.out]; exact Nat.le_refl _)]; rfl
      obtain ⟨q, hq⟩ : ∃ q, Rt.neg r = q := ⟨_, rfl⟩
      rw [hq] at hx hfin
      clear hq hneg
      go_wp2
      go_ret
      exact ⟨by rw [← hfin.out]; rfl, rfl⟩
    | succ g =>
      have hlt : (k : Int) < (n : Nat) := by omega
      have hkb : k < b.length := by rw [Hb.out]; omega
      obtain ⟨gb, ob, rfl, hcb⟩ := Hr.out.num hkb
      have hc256 := Hlt.out (b.getD k 0) (by rw [List.getD_eq_getElem?_getD, List.getElem?_eq_getElem hkb]; exact List.getElem_mem hkb)
      have hnext : Hid (Rt.run ns (b.take (k + 1)) = Rt.step r (b.getD k 0)) := by
        show _ = _
        rw [List.take_succ_eq_append_getElem hkb, Rt.run_append, ← hr.out, List.getD_eq_getElem?_getD, List.getElem?_eq_getElem hkb]; rfl
      obtain ⟨x, hx⟩ : ∃ x, b.getD k 0 = x := ⟨_, rfl⟩
      rw [hx] at hcb hc256 hnext
      have hxx := u32_xor_nat r x hr32 (by omega)
      obtain ⟨z, hz⟩ : ∃ z, r ^^^ x = z := ⟨_, rfl⟩
      have hz32 : z < 4294967296 := by rw [← hz]; exact Nat.xor_lt_two_pow (n := 32) (by omega) (by omega)
      have Hz : Hid (Rt.halves 8 z = Rt.run ns (b.take (k + 1))) := by
        show _ = _
        rw [hnext.out, ← hz, Rt.step_halves]
      rw [hz] at hxx
      clear hx hkb hnext hz hneg
      go_wp2
      clear hxx hcb
      obtain ⟨wo, rfl⟩ : ∃ wo : World, wo = w := ⟨_, rfl⟩
      go_loopg [5, 7, 8] 8 (fun g' s5 s7 s8 wr => ∃ (i y : Nat), i + g' = 8 ∧ s7 = .int .i64 ((i : Nat) : Int) ∧ s5 = .int .u32 ((y : Nat) : Int) ∧ y < 4294967296 ∧ Hid (y = Rt.halves i z) ∧ Hid (wr = wo))
      case atStart => exact ⟨0, z, by omega, rfl, rfl, hz32, rfl, rfl⟩
      case round =>
        obtain ⟨i, y, hig, rfl, rfl, hy32, hy, hwr⟩ := hrel
        have hww : wo = wr := hwr.out.symm
        clear hwr
        subst hww
        cases gk with
        | zero =>
          obtain rfl : i = 8 := by omega
          have HN : Hid (y = Rt.run ns (b.take (k + 1))) := by show _ = _; rw [hy.out, Hz.out]
          go_wp2
          go_roundg g
          case measure => omega
          case rel => exact ⟨k + 1, y, by omega, by go_num, rfl, hy32, HN, rfl⟩
        | succ g' =>
          have hi8 : (i : Int) < 8 := by omega
          have hh32 := Rt.half1_lt hy32
          by_cases hp : y % 2 = 1
          · obtain ⟨q1, q2⟩ := half_one hy32 hp
            have HN : Hid (Rt.half1 y = Rt.halves (i + 1) z) := by show _ = _; rw [Rt.halves_succ, ← hy.out]
            obtain ⟨y', hy'⟩ : ∃ y', Rt.half1 y = y' := ⟨_, rfl⟩
            rw [hy'] at q2 HN hh32
            clear hp hy' hy
            go_wp2
            go_roundg g'
            case measure => omega
            case rel => exact ⟨i + 1, y', by omega, by go_num, rfl, hh32, HN, rfl⟩
          · obtain ⟨q1, _⟩ := half_nil hy32 (by omega)
            have HN : Hid (y / 2 = Rt.halves (i + 1) z) := by show _ = _; rw [Rt.halves_succ, ← hy.out, Rt.half1, if_neg hp]
            clear hp hy
            go_wp2
            go_roundg g'
            case measure => omega
            case rel => exact ⟨i + 1, y / 2, by omega, by go_num, by go_num, by omega, HN, rfl⟩
theorem refOf_any (w : World) (a : Option Addr) (n c : Nat) (b : List Nat) (hb : b.length = n) (hmax : (n : Int) ≤ 9223372036854775807) (hr : Rd w a (nums .u8 b)) (hlt : ∀ x ∈ b, x < 256) :
    Calls Tryz.prog 155 #[.slice a n c] w fun e w' => e = .returned (.int .u32 (Rt.of b : Nat)) ∧ w = w' := by
  have Hc := Lib.hid (refOn_any w 0 (by decide) a n c b hb hmax hr hlt)
  have hv : Hid (Rt.on 0 b = Rt.of b) := rfl
  clear hb hr hlt
  go_enter Tryz.func155, Tryz.ntmps155
  go_wp2_with fail
  refine Hc.out.mono ?_
  rintro e w2 ⟨rfl, rfl⟩
  rw [hv.out]
  go_wp2
  go_ret
  exact ⟨rfl, rfl⟩
end Go.Proofs.YtkiehoboeiengaaGreatDoor
