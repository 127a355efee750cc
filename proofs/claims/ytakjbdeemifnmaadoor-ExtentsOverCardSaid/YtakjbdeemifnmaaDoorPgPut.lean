/-
  Package pages by its own text: Put.
-/
import Derived.Test.YtakjbdeemifnmaaDoorPg
import Derived.Test.YtakjbdeemifnmaaDoorConcatB
import Derived.Test.YtakjbdeemifnmaaDoorSums
namespace Go.Proofs.YtakjbdeemifnmaaDoor
open Go Go.RowKit
set_option linter.unusedSimpArgs false

def PagePut (w : World) (bs : List Nat) (e : Ending) (w' : World) : Prop :=
  ∃ a c, e = .returned (.tuple #[.slice a 256 c, .int .i64 0]) ∧ Own w' w.heap.size 5 (.slice a 256 c) (nums .u8 bs) ∧ Touch No w w'

set_option maxRecDepth 100000 in
theorem pagePut_no (w : World) (num epoch : Nat) (a : Option Addr) (n c : Nat) (hn : 240 < n) :
    Calls Tryd.prog 26 #[.int .u32 (num : Nat), .int .u32 (epoch : Nat), .slice a n c] w fun e w' => e = .returned (.tuple #[.slice none 0 0, .int .i64 1]) ∧ w = w' := by
  have hn' : (240 : Int) < (n : Nat) := by omega
  clear hn
  go_enter Tryd.func26, Tryd.ntmps26
  go_wp2
  go_ret2
  exact ⟨rfl, rfl⟩

set_option maxRecDepth 100000 in
set_option maxHeartbeats 8000000 in
theorem pagePut_any (w : World) (num epoch : Nat) (hnum : num < 4294967296) (hep : epoch < 4294967296) (a : Option Addr) (n c : Nat) (q : List Nat) (hq : q.length = n) (hn : n ≤ 240) (hr : Rd w a (nums .u8 q)) (hlt : ∀ x ∈ q, x < 256) :
    Calls Tryd.prog 26 #[.int .u32 (num : Nat), .int .u32 (epoch : Nat), .slice a n c] w (PagePut w (Pg.put num epoch q)) := by
  obtain ⟨I, hi0, hi1, hi2, hi3⟩ := u8_info
  have HI := Lib.hid (And.intro hi0 (And.intro hi1 (And.intro hi2 hi3)))
  obtain ⟨Z, hZ⟩ : ∃ Z, 240 - n = Z := ⟨_, rfl⟩
  have hmk : ∀ wx : World, (Instr.makeSlice 22 (.int .i64 (Z : Nat)) (.int .i64 (Z : Nat))).run Tryd.prog wx = .ok (.slice (some ⟨wx.heap.size, 0, none⟩) Z Z) (wx.alloc (.cells (List.replicate Z (Value.int .u8 0)).toArray 5)) := fun wx => by
    have := run_make (P := Tryd.prog) wx 22 5 I (.int .u8 0) Tryd.underlying22 hi0 hi1 .i64 .i64 (Z : Int) (Z : Int) (by omega) (by omega) (by rw [hi3]; omega) (by omega)
    rw [this, hi2, Int.toNat_natCast, Nat.mul_one]
    show Result.ok _ (wx.alloc (.cells (madeCells #[Value.int .u8 0] _) _)) = _
    rw [made_fill]
  have HMK := Lib.hid hmk
  have Hq := Lib.hid hq
  have Hr := Lib.hid hr
  have Hlt := Lib.hid hlt
  have hn' : ¬ (240 : Int) < (n : Nat) := by omega
  have hn9 : (n : Int) ≤ 240 := by omega
  have Hn := Lib.hid hn
  have HZ := Lib.hid hZ
  clear hmk hq hr hlt hi0 hi1 hi2 hi3 hn hZ
  go_enter Tryd.func26, Tryd.ntmps26
  go_wp2_with fail
  obtain ⟨W0, hW0⟩ : ∃ W0, W0 = w.alloc (.cells #[.int .u32 (num : Nat), .int .u32 (epoch : Nat), .int .u32 (n : Nat)] 23) := ⟨_, rfl⟩
  obtain ⟨G, hG⟩ : ∃ G, G = w.heap.size := ⟨_, rfl⟩
  have hrow : Row W0 G 23 [.int .u32 (num : Nat), .int .u32 (epoch : Nat), .int .u32 (n : Nat)] := by rw [hW0, hG]; exact Row.new w _ _
  have hT0 : Touch No w W0 := by rw [hW0]; exact (Touch.refl No w).alloc _
  have hW0s : G + 1 = W0.heap.size := by rw [hW0, hG]; simp
  have HRow := Lib.hid hrow
  have HT0 := Lib.hid hT0
  have HG := Lib.hid hG
  have HW0s := Lib.hid hW0s
  rw [← hW0, ← hG]
  clear hW0 hG hrow hT0 hW0s
  go_loopg [8, 21] 3 (fun g s8 s21 wr => ∃ (ab : Option Addr) (cb : Nat), Hid (Touch No W0 wr) ∧
    ((g = 3 ∧ s21 = .int .i64 0 ∧ s8 = .slice none 0 0) ∨ (g = 2 ∧ s21 = .int .i64 1 ∧ s8 = .slice ab 4 cb ∧ Hid (Own wr W0.heap.size 5 (.slice ab 4 cb) (nums .u8 (Rt.four num)))) ∨
     (g = 1 ∧ s21 = .int .i64 2 ∧ s8 = .slice ab 8 cb ∧ Hid (Own wr W0.heap.size 5 (.slice ab 8 cb) (nums .u8 (Rt.four num ++ Rt.four epoch)))) ∨ (g = 0 ∧ s21 = .int .i64 3 ∧ s8 = .slice ab 12 cb ∧ Hid (Own wr W0.heap.size 5 (.slice ab 12 cb) (nums .u8 (Pg.head num epoch q))))))
  case atStart => exact ⟨none, 0, Touch.refl _ _, .inl ⟨rfl, rfl, rfl⟩⟩
  case round =>
    obtain ⟨ab, cb, T, hrel⟩ := hrel
    have R := HRow.out.touch T.out id
    have k0 : wr.cell? ⟨G, 0, none⟩ = some (.int .u32 (num : Nat)) := R.cell 0
    have k1 : wr.cell? ⟨G, 1, none⟩ = some (.int .u32 (epoch : Nat)) := R.cell 1
    have k2 : wr.cell? ⟨G, 2, none⟩ = some (.int .u32 (n : Nat)) := R.cell 2
    clear R
    rcases hrel with ⟨rfl, rfl, rfl⟩ | ⟨rfl, rfl, rfl, O⟩ | ⟨rfl, rfl, rfl, O⟩ | ⟨rfl, rfl, rfl, O⟩
    · go_wp2_with fail
      refine (putFour_any _ none 0 0 [] rfl (Rd.nil _ _) num hnum (by decide) 4 rfl).mono ?_
      clear k0 k1 k2
      rintro e w1 ⟨a1, c1, rfl, o1, t1⟩
      have HO := Lib.hid (show Own w1 W0.heap.size 5 (.slice a1 4 c1) (nums .u8 (Rt.four num)) from o1.mono T.out.size)
      have HT := Lib.hid (T.out.trans t1)
      clear o1 t1
      go_wp2
      go_roundg 2
      case measure => omega
      case rel => exact ⟨a1, c1, HT.out, .inr (.inl ⟨rfl, rfl, rfl, HO.out⟩)⟩
    · go_wp2_with fail
      refine (putFour_any _ ab 4 cb (Rt.four num) rfl O.out.rd epoch hep (by decide) 8 rfl).mono ?_
      clear k0 k1 k2
      rintro e w1 ⟨a1, c1, rfl, o1, t1⟩
      have HO := Lib.hid (o1.mono (base' := W0.heap.size) T.out.size)
      have HT := Lib.hid (T.out.trans t1)
      clear o1 t1
      go_wp2
      go_roundg 1
      case measure => omega
      case rel => exact ⟨a1, c1, HT.out, .inr (.inr (.inl ⟨rfl, rfl, rfl, HO.out⟩))⟩
    · go_wp2_with fail
      refine (putFour_any _ ab 8 cb (Rt.four num ++ Rt.four epoch) rfl O.out.rd n (by omega) (by decide) 12 rfl).mono ?_
      clear k0 k1 k2
      rintro e w1 ⟨a1, c1, rfl, o1, t1⟩
      have e1 : Rt.four num ++ Rt.four epoch ++ Rt.four n = Pg.head num epoch q := by rw [Pg.head, Hq.out]
      rw [e1] at o1
      have HO := Lib.hid (o1.mono (base' := W0.heap.size) T.out.size)
      have HT := Lib.hid (T.out.trans t1)
      clear o1 t1 e1
      go_wp2
      go_roundg 0
      case measure => omega
      case rel => exact ⟨a1, c1, HT.out, .inr (.inr (.inr ⟨rfl, rfl, rfl, HO.out⟩))⟩
    · clear k0 k1 k2
      go_wp2_with fail
      refine (of_any _ ab 12 cb (Pg.head num epoch q) (Pg.head_length _ _ _) (by decide) O.out.rd (Pg.head_lt _ _ _)).mono ?_
      rintro e w1 ⟨rfl, t1⟩
      have HT1 := Lib.hid (T.out.trans t1)
      have HO1 := Lib.hid (O.out.touch t1 (fun _ _ _ f => f))
      clear t1 T O
      go_wp2_with fail
      refine (on_any _ (Rt.of (Pg.head num epoch q)) Rt.of_lt a n c q Hq.out (by omega) (Hr.out.no (HT0.out.trans HT1.out)) Hlt.out).mono ?_
      rintro e w2 ⟨rfl, t2⟩
      have HT2 := Lib.hid (HT1.out.trans t2)
      have HO2 := Lib.hid (HO1.out.touch t2 (fun _ _ _ f => f))
      clear t2 HT1 HO1
      go_wp2_with fail
      refine (putFour_any _ ab 12 cb (Pg.head num epoch q) (Pg.head_length _ _ _) HO2.out.rd (Rt.on (Rt.of (Pg.head num epoch q)) q) Rt.on_lt (by decide) 16 rfl).mono ?_
      rintro e w3 ⟨a3, c3, rfl, o3, t3⟩
      have HT3 := Lib.hid (HT2.out.trans t3)
      have HO3 := Lib.hid (o3.mono (base' := W0.heap.size) HT2.out.size)
      have hl16 : Hid ((nums .u8 (Pg.head num epoch q ++ Rt.four (Rt.on (Rt.of (Pg.head num epoch q)) q))).length = 16) := by show _ = _; rw [nums_length]; rfl
      clear t3 o3 HT2 HO2
      go_wp2_with (refine wpList_append_rd rfl _ _ _ rfl W0.heap.size 5 I (.int .u8 0) 1 Tryd.underlying22 HI.out.1 HI.out.2.1 HI.out.2.2.1 HI.out.2.2.2 rfl _ _ HO3.out rfl a n c (nums .u8 q) rfl (by rw [nums_length]; exact Hq.out) (Hr.out.no (HT0.out.trans HT3.out)) (nums_one _ _) (by rw [hl16.out]; unfold maxLen; omega) (by rw [hl16.out]; omega) HT3.out.size ?_)
      intro v4 w4 o4 t4
      obtain ⟨L, hL⟩ : ∃ L, 16 + n = L := ⟨_, rfl⟩
      have hlen4 : (nums .u8 (Pg.head num epoch q ++ Rt.four (Rt.on (Rt.of (Pg.head num epoch q)) q)) ++ nums .u8 q).length = L := by rw [List.length_append, hl16.out, nums_length, Hq.out]; exact hL
      obtain ⟨a4, c4, rfl, _⟩ := o4.form' (n := L) hlen4
      have HO4 := Lib.hid o4
      have HT4 := Lib.hid (HT3.out.then t4 (fun i hi e => absurd (HO3.out.block e).1 (Nat.not_le.2 hi)))
      have hZL : (256 : Int) - (L : Int) = (Z : Nat) := by have := HZ.out; have := Hn.out; omega
      have hZw : IntKind.i64.wrap ((256 : Int) - (L : Int)) = (Z : Nat) := by rw [hZL]; exact IntWalk.i64_in _ (by have := HZ.out; omega)
      have HL := Lib.hid hL
      have HLEN4 := Lib.hid hlen4
      have hmk := HMK.out
      have hL9 : (L : Int) ≤ 256 := by omega
      clear o4 t4 HO3 HT3 hl16 hL hlen4
      go_wp2_with fail
      clear hmk hZL hZw
      obtain ⟨W5, hW5⟩ : ∃ W5, W5 = w4.alloc (.cells (Array.replicate Z (Value.int .u8 0)) 5) := ⟨_, rfl⟩
      have hzero : Rd W5 (some ⟨w4.heap.size, 0, none⟩) (nums .u8 (List.replicate Z 0)) := by
        rw [hW5]
        have := rd_new w4 5 (Array.replicate Z (Value.int .u8 0)) (0, 0)
        rw [Array.toList_replicate] at this
        rw [nums, List.map_replicate]; exact this
      have hT5 : Touch No W0 W5 := by rw [hW5]; exact HT4.out.alloc _
      have hO5 : Rd W5 a4 (nums .u8 (Pg.head num epoch q ++ Rt.four (Rt.on (Rt.of (Pg.head num epoch q)) q) ++ q)) := by
        rw [hW5, nums_append]; exact HO4.out.rd.no ((Touch.refl No _).alloc _)
      have hs5 : w4.heap.size + 1 = W5.heap.size := by rw [hW5]; simp
      have HZ5 := Lib.hid hzero
      have HT5 := Lib.hid hT5
      have HO5 := Lib.hid hO5
      rw [← hW5]
      have hp1 : (W5.alloc (.cells #[.slice a4 L c4, .slice (some ⟨w4.heap.size, 0, none⟩) Z Z] 22)).cell? ⟨w4.heap.size + 1, 0, none⟩ = some (.slice a4 L c4) := by rw [hs5, cell_new]; rfl
      have hp2 : (W5.alloc (.cells #[.slice a4 L c4, .slice (some ⟨w4.heap.size, 0, none⟩) Z Z] 22)).cell? ⟨w4.heap.size + 1, 0 + 1, none⟩ = some (.slice (some ⟨w4.heap.size, 0, none⟩) Z Z) := by rw [hs5, cell_new]; rfl
      have HP := Lib.hid (And.intro hp1 hp2)
      clear hW5 hzero hT5 hO5 hs5 hp1 hp2
      refine (concatB_any _ (w4.heap.size + 1) 0 2 a4 L c4 _ (some ⟨w4.heap.size, 0, none⟩) Z Z _ HP.out.1 HP.out.2 (by rw [nums_append]; exact HLEN4.out) (by rw [nums_length, List.length_replicate]) (HO5.out.no ((Touch.refl No _).alloc _)) (HZ5.out.no ((Touch.refl No _).alloc _)) (nums_one _ _) (nums_one _ _) 256 (by have := HZ.out; have := HL.out; have := Hn.out; omega) (by decide)).mono ?_
      rintro e w6 ⟨a6, c6, rfl, o6, t6⟩
      have hT6 := HT0.out.trans ((HT5.out.alloc _).trans t6)
      have hv : nums .u8 (Pg.head num epoch q ++ Rt.four (Rt.on (Rt.of (Pg.head num epoch q)) q) ++ q) ++ nums .u8 (List.replicate Z 0) = nums .u8 (Pg.put num epoch q) := by
        rw [← nums_append, Pg.put, Pg.sum, Hq.out, HZ.out]
      rw [hv] at o6
      have HO6 := Lib.hid (o6.mono (base' := w.heap.size) (HT0.out.trans (HT5.out.alloc _)).size)
      have HT6 := Lib.hid hT6
      clear hT6 hv o6 t6 HO5 HZ5 HT5 HP HO4 HT4
      go_wp2
      go_ret2
      exact ⟨a6, c6, rfl, HO6.out, HT6.out⟩
end Go.Proofs.YtakjbdeemifnmaaDoor
