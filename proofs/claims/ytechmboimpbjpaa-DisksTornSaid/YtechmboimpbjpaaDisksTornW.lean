/-
  Package drydocklaw03 by its own text: the walk of DisksTorn.
-/
import Derived.Test.YtechmboimpbjpaaDFam
import Derived.Test.YtechmboimpbjpaaDRead
import Derived.Test.YtechmboimpbjpaaApp
import Derived.Deep.RegionHeld3
namespace Go.Proofs.Ytechmboimpbjpaa
open Go Go.RowKit

namespace Dk
def torn3 (a b : List Nat) : Disk := ⟨[noughts, ⟨pad a, 0⟩, noughts], [noughts, ⟨pad b, 0⟩, noughts], [⟨1, pad b, 0⟩]⟩
theorem torn3_is (a b : List Nat) : write (sync (write (new 3) 1 a)) 1 b = torn3 a b := rfl
theorem torn3_torn (a b : List Nat) (k : Nat) : at_ (fail (torn3 a b) k 0).seen 1 = ⟨(pad b).take 32 ++ (pad a).drop 32, 0⟩ := rfl
theorem torn3_0 (a b : List Nat) : at_ (fail (torn3 a b) 0 (-1)).seen 1 = ⟨pad a, 0⟩ := rfl
theorem torn3_1 (a b : List Nat) : at_ (fail (torn3 a b) 1 (-1)).seen 1 = ⟨pad b, 0⟩ := by kernel_rfl
theorem pad_length {b : List Nat} (h : b.length ≤ 64) : (pad b).length = 64 := by
  rw [pad, List.length_append, List.length_replicate]; omega
theorem torn3_len (a b : List Nat) (k : Nat) (t : Int) : (fail (torn3 a b) k t).seen.length = 3 := by
  have h : ∀ (l : List Sec) (i : Nat) (y : Wr), (failStep k t l i y).length = l.length := fun l i y => by
    unfold failStep; split
    · exact upd_length _ _ _
    · split
      · exact upd_length _ _ _
      · rfl
  exact h _ _ _
end Dk

set_option maxRecDepth 100000 in
set_option maxHeartbeats 8000000 in
theorem disksTorn_walk (w : World) (aa : Option Addr) (ma ca : Nat) (a : List Nat) (ha : a.length = ma) (hma : (ma : Int) ≤ 9223372036854775807) (hra : Rd w aa (nums .u8 a)) (hlta : ∀ x ∈ a, x < 256)
    (ab : Option Addr) (mb cb : Nat) (b : List Nat) (hb : b.length = mb) (hmb : (mb : Int) ≤ 9223372036854775807) (hrb : Rd w ab (nums .u8 b)) (hltb : ∀ x ∈ b, x < 256) :
    Calls Try.prog 4 #[.slice aa ma ca, .slice ab mb cb] w (LawPost w) := by
  have Ha := Lib.hid ha; clear ha
  have Hb := Lib.hid hb; clear hb
  have Hra := Lib.hid hra; clear hra
  have Hrb := Lib.hid hrb; clear hrb
  have Hlta := Lib.hid hlta; clear hlta
  have Hltb := Lib.hid hltb; clear hltb
  go_enter Try.func4, Try.ntmps4
  go_wp2_with fail
  refine (alive_is w).mono ?_
  rintro e w1 ⟨rfl, T1⟩
  by_cases hma64 : 64 < ma
  · have hm64' : (64 : Int) < (ma : Nat) := by omega
    clear hma64
    go_wp2_with fail
    refine (alive_is w1).mono ?_
    rintro e w2 ⟨rfl, t2⟩
    go_wp2
    go_ret
    exact ⟨rfl, T1.trans t2⟩
  have hma64' : ¬ (64 : Int) < (ma : Nat) := by omega
  by_cases hmb64 : 64 < mb
  · have hm64' : (64 : Int) < (mb : Nat) := by omega
    clear hmb64
    go_wp2_with fail
    refine (alive_is w1).mono ?_
    rintro e w2 ⟨rfl, t2⟩
    go_wp2
    go_ret
    exact ⟨rfl, T1.trans t2⟩
  have hmb64' : ¬ (64 : Int) < (mb : Nat) := by omega
  have h3 : Hid (∀ D : Dk.Disk, D.seen.length = 3 → 1 < D.seen.length) := fun D h => by rw [h]; decide
  go_wp2_with fail
  refine (new_k w1 3 (by decide) (by decide)).mono ?_
  rintro e w2 ⟨d, rfl, m2⟩
  have S2 : St w w2 d (Dk.new 3) := St.made T1 m2
  clear m2 T1
  go_wp2_with fail
  refine (S2.write 1 aa ma ca a (h3.out _ rfl) Ha.out (by omega) Hlta.out (Hra.out.no S2.end) (Nat.zero_le _)).mono ?_
  rintro e w3 ⟨rfl, S3⟩
  clear S2
  go_wp2_with fail
  refine (S3.sync).mono ?_
  rintro e w4 ⟨rfl, S4⟩
  clear S3
  go_wp2_with fail
  refine (S4.write 1 ab mb cb b (h3.out _ rfl) Hb.out (by omega) Hltb.out (Hrb.out.no S4.end) (Nat.zero_le _)).mono ?_
  rintro e w5 ⟨rfl, S5⟩
  have S5 : St w w5 d (Dk.torn3 a b) := S5
  clear S4
  obtain ⟨I, z, hI⟩ := byte_is
  have HI := Lib.hid hI
  clear hI
  have hsubA : IntKind.i64.wrap (64 - (ma : Int)) = ((64 - ma : Nat) : Int) := by rw [IntWalk.i64_in _ (by omega)]; omega
  have hsubB : IntKind.i64.wrap (64 - (mb : Int)) = ((64 - mb : Nat) : Int) := by rw [IntWalk.i64_in _ (by omega)]; omega
  have HsubA : Hid ((64 : Int) - (ma : Int) = ((64 - ma : Nat) : Int)) := by show _ = _; omega
  have HsubB : Hid ((64 : Int) - (mb : Int) = ((64 - mb : Nat) : Int)) := by show _ = _; omega
  have HrA := Lib.hid (Hra.out.no S5.end)
  have tokA : True := trivial
  go_wp2_with (first
    | (have _t := tokA; refine wpList_append_rd rfl _ _ _ rfl w5.heap.size 5 I z 1 Try.underlying28 HI.out.info HI.out.zero HI.out.size HI.out.bytes (by rw [HI.out.cells]; rfl) _ [] (Own.nil _ _ _) rfl aa ma ca (nums .u8 a) rfl (by rw [nums_length, Ha.out]) HrA.out (nums_one _ _) (by simp; unfold maxLen; omega) (by simp; omega) (Nat.le_refl _) ?_; intro v7 w7 own7 t7; have O7 := Lib.hid own7; have T7 := Lib.hid t7; clear own7 t7 tokA _t)
    | ((try rw [HsubA.out]); refine wpList_append_zeros rfl _ _ _ _ rfl w5.heap.size 5 I z (.int .u8 0) 1 Try.underlying28 Try.underlying3 HI.out.info HI.out.zero HI.out.size HI.out.bytes (by rw [HI.out.cells]) rfl _ _ O7.out rfl (64 - ma) rfl (by rw [List.nil_append, nums_length, Ha.out]; unfold maxLen; omega) (by rw [List.nil_append, nums_length, Ha.out]; omega) T7.out.size ?_; intro v8 w8 own8 t8; have O8 := Lib.hid own8; have T8 := Lib.hid t8; clear own8 t8; have t58 := Lib.hid ((T7.out.mono (G := No) (fun k _ e => by cases e)).then T8.out (fun i hi e => by have := (O7.out.block e).1; omega)); have HrB := Lib.hid (Hrb.out.no (S5.end.trans t58.out)))
    | (refine wpList_append_rd rfl _ _ _ rfl w8.heap.size 5 I z 1 Try.underlying28 HI.out.info HI.out.zero HI.out.size HI.out.bytes (by rw [HI.out.cells]; rfl) _ [] (Own.nil _ _ _) rfl ab mb cb (nums .u8 b) rfl (by rw [nums_length, Hb.out]) HrB.out (nums_one _ _) (by simp; unfold maxLen; omega) (by simp; omega) (Nat.le_refl _) ?_; intro v9 w9 own9 t9; have O9 := Lib.hid own9; have T9 := Lib.hid t9; clear own9 t9)
    | ((try rw [HsubB.out]); refine wpList_append_zeros rfl _ _ _ _ rfl w8.heap.size 5 I z (.int .u8 0) 1 Try.underlying28 Try.underlying3 HI.out.info HI.out.zero HI.out.size HI.out.bytes (by rw [HI.out.cells]) rfl _ _ O9.out rfl (64 - mb) rfl (by rw [List.nil_append, nums_length, Hb.out]; unfold maxLen; omega) (by rw [List.nil_append, nums_length, Hb.out]; omega) T9.out.size ?_; intro v10 w10 own10 t10; have O10 := Lib.hid own10; have T10 := Lib.hid t10; clear own10 t10))
  have hlenA : ([] ++ nums .u8 a ++ List.replicate (64 - ma) (Value.int .u8 0)).length = 64 := by
    rw [List.nil_append, List.length_append, nums_length, List.length_replicate, Ha.out]; omega
  have hpdA : [] ++ nums .u8 a ++ List.replicate (64 - ma) (Value.int .u8 0) = nums .u8 (Dk.pad a) := by
    rw [List.nil_append, Dk.pad, nums_append, Ha.out]; simp [nums]
  have hlenB : ([] ++ nums .u8 b ++ List.replicate (64 - mb) (Value.int .u8 0)).length = 64 := by
    rw [List.nil_append, List.length_append, nums_length, List.length_replicate, Hb.out]; omega
  have hpdB : [] ++ nums .u8 b ++ List.replicate (64 - mb) (Value.int .u8 0) = nums .u8 (Dk.pad b) := by
    rw [List.nil_append, Dk.pad, nums_append, Hb.out]; simp [nums]
  have t8x : Touch No w8 w10 := (T9.out.mono (G := No) (fun k _ e => by cases e)).then T10.out (fun i hi e => by
    have := (O9.out.block e).1; omega)
  obtain ⟨a8, c8, rfl, hc8, R8, _, _⟩ := O8.out.form' (n := 64) hlenA
  obtain ⟨a10, c10, rfl, hc10, R10, _, _⟩ := O10.out.form' (n := 64) hlenB
  rw [hpdA] at R8
  rw [hpdB] at R10
  have lA : Hid ((Dk.pad a).length = 64) := Dk.pad_length (by rw [Ha.out]; omega)
  have lB : Hid ((Dk.pad b).length = 64) := Dk.pad_length (by rw [Hb.out]; omega)
  obtain ⟨g8, o8, rfl, _⟩ := R8.num (i := 0) (by rw [lA.out]; decide)
  obtain ⟨g10, o10, rfl, _⟩ := R10.num (i := 0) (by rw [lB.out]; decide)
  have S10 := (S5.no t58.out).no t8x
  have HR8 := Lib.hid (R8.no t8x)
  have HR10 := Lib.hid R10
  clear hlenA hpdA hlenB hpdB t8x R8 R10 O8 O10 T7 T8 T9 T10 O7 O9 hsubA hsubB S5
  go_loopg [10] 2 (fun g s10 wr => ∃ (k : Nat), k + g = 2 ∧ s10 = .int .u64 ((k : Nat) : Int) ∧ St w wr d (Dk.torn3 a b) ∧ Hid (Touch No w10 wr))
  case atStart => exact ⟨0, by omega, rfl, S10, Touch.refl _ _⟩
  case round =>
    clear S10
    obtain ⟨k, hkg, rfl, S, TT⟩ := hrel
    cases gk with
    | zero =>
      obtain rfl : k = 2 := by omega
      go_wp2
      go_ret
      exact ⟨rfl, S.end⟩
    | succ g =>
      have hk2 : k = 0 ∨ k = 1 := by omega
      have hk1 : Hid (1 < (Dk.fail (Dk.torn3 a b) k 0).seen.length) := h3.out _ (Dk.torn3_len a b k 0)
      have hk1' : Hid (1 < (Dk.fail (Dk.torn3 a b) k (-1)).seen.length) := h3.out _ (Dk.torn3_len a b k (-1))
      have hk64 : Hid (k < 18446744073709551616) := by show _ < _; omega
      obtain ⟨wt, hwt⟩ : ∃ wt, wt = if k = 1 then Dk.pad b else Dk.pad a := ⟨_, rfl⟩
      have Hk' : Hid (Dk.at_ (Dk.fail (Dk.torn3 a b) k (-1)).seen 1 = ⟨wt, 0⟩) := by
        show _ = _
        rcases hk2 with rfl | rfl
        · rw [Dk.torn3_0, hwt, if_neg (by decide)]
        · rw [Dk.torn3_1, hwt, if_pos rfl]
      have Hwt := Lib.hid hwt
      have lW : Hid (wt.length = 64) := by
        show _ = _
        rw [hwt]; split
        · exact lB.out
        · exact lA.out
      have hlt : (k : Int) < 2 := by omega
      clear hwt
      go_wp2_with fail
      refine (S.left2 k 0 hk64.out (show 1 ≤ 1000000 by decide)).mono ?_
      rintro e w11 ⟨x, rfl, X11, t11⟩
      have S11 := S.no t11
      have TT11 := Lib.hid (TT.out.trans t11)
      clear S TT t11
      go_wp2_with fail
      refine (X11.read 1 ((Dk.pad b).take 32 ++ (Dk.pad a).drop 32) hk1.out (by rw [Dk.torn3_torn]) (by rw [Dk.torn3_torn])).mono ?_
      rintro e w12 ⟨g12, rfl, R12, t12⟩
      have S12 := S11.no t12
      have HR12 := Lib.hid R12
      have TT12 := Lib.hid (TT11.out.trans t12)
      clear S11 X11 R12 t12 TT11
      go_wp2_with fail
      refine (S12.left2 k (-1) hk64.out (show 1 ≤ 1000000 by decide)).mono ?_
      rintro e w13 ⟨y, rfl, X13, t13⟩
      have S13 := S12.no t13
      have HR13 := Lib.hid (HR12.out.no t13)
      have TT13 := Lib.hid (TT12.out.trans t13)
      clear S12 HR12 TT12 t13
      go_wp2_with fail
      refine (X13.read 1 wt hk1'.out (by rw [Hk'.out]) (by rw [Hk'.out])).mono ?_
      rintro e w14 ⟨g14, rfl, R14, t14⟩
      have S14 := S13.no t14
      have HR14 := Lib.hid (HR13.out.no t14)
      have HRy := Lib.hid R14
      have TT14 := Lib.hid (TT13.out.trans t14)
      clear S13 HR13 TT13 t14 X13 R14
      have hsb1 : sameBytes wt wt = true := by simp [sameBytes]
      have Hsb2 : Hid (sameBytes ((Dk.pad b).take 32 ++ (Dk.pad a).drop 32) ((Dk.pad b).take 32 ++ (Dk.pad a).drop 32) = true) := by show _ = _; simp [sameBytes]
      have l12 : Hid (((Dk.pad b).take 32 ++ (Dk.pad a).drop 32).length = 64) := by
        show _ = _
        rw [List.length_append, List.length_take, List.length_drop, lA.out, lB.out]; rfl
      have hc8i : (64 : Int) ≤ (c8 : Int) := by omega
      have hc10i : (64 : Int) ≤ (c10 : Int) := by omega
      have hc8n : ¬ c8 = 32 := by omega
      have HA14 := Lib.hid ((HR8.out.no TT14.out).no (Touch.refl No w14).drew)
      have HB14 := Lib.hid ((HR10.out.no TT14.out).no (Touch.refl No w14).drew)
      have HBt : Hid (Rd w14 (some ⟨g10, o10, none⟩) (nums .u8 ((Dk.pad b).take 32))) := by
        have := (HR10.out.no TT14.out).take 32
        rw [nums, ← List.map_take] at this; exact this
      have HAd : Hid (Rd w14 (some ⟨g8, o8 + 32, none⟩) (nums .u8 ((Dk.pad a).drop 32))) := by
        have := (HR8.out.no TT14.out).cut (cap := c8) (l := 32) (by rw [nums_length, lA.out]; exact hc8)
        rw [cutAddr, if_neg hc8n, Option.map_some, Go.WideShapes.add_plain] at this
        show Rd _ _ _
        rw [nums, List.map_drop]
        exact this
      have lt32 : Hid ((nums .u8 ((Dk.pad b).take 32)).length = 32) := by show _ = _; rw [nums_length, List.length_take, lB.out]; rfl
      have ld32 : Hid ((nums .u8 ((Dk.pad a).drop 32)).length = 32) := by show _ = _; rw [nums_length, List.length_drop, lA.out]
      have hg12 : Hid (g12 < w14.heap.size) := by
        obtain ⟨b', o', e', hc'⟩ := HR14.out.num (i := 0) (by rw [l12.out]; decide)
        cases e'; exact lt_of_cell hc'
      have tok1 : True := trivial
      have tok2 : True := trivial
      have h32a : (32 : Int) ≤ (c10 : Int) := by omega
      have h32b : (32 : Int) ≤ (c8 : Int) := by omega
      rcases hk2 with rfl | rfl
      · have ew : Hid (wt = Dk.pad a) := Hwt.out
        go_wp2
        go_region_held3 (fun _ => True) (trivial) (first
          | (go_at_call 20; have _t := tok1; refine (sameBytes_eq _ _ _ 64 64 c8 _ _ lW.out lW.out (by decide) (HRy.out.no (Touch.refl No w14).drew) (by rw [ew.out]; exact HA14.out)).mono ?_; rintro e w15 ⟨rfl, t15⟩; rw [hsb1]; clear tok1)
          | (have _t := tok2; refine step_append_rds ?_ _ _ _ rfl w14.heap.size 5 I z 1 Try.underlying28 HI.out.info HI.out.zero HI.out.size HI.out.bytes (by rw [HI.out.cells]; rfl) _ [] (Own.nil _ _ _) rfl (some ⟨g10, o10, none⟩) 32 c10 32 (nums .u8 ((Dk.pad b).take 32)) rfl lt32.out ((HBt.out.no (Touch.refl No w14).drew).no t15) (nums_one _ _) rfl (by unfold maxLen; omega) (by omega) t15.size ?_; rfl; intro a16 c16 w16 own16 t16; clear tok2 _t)
          | (refine step_append_rds ?_ _ _ _ rfl w14.heap.size 5 I z 1 Try.underlying28 HI.out.info HI.out.zero HI.out.size HI.out.bytes (by rw [HI.out.cells]; rfl) _ _ own16 rfl (some ⟨g8, o8 + 32, none⟩) 32 (c8 - 32) 64 (nums .u8 ((Dk.pad a).drop 32)) rfl ld32.out (((HAd.out.no (Touch.refl No w14).drew).no t15).touch t16 (by intro c o _ _ e; cases e)) (nums_one _ _) (by rw [List.nil_append, lt32.out]) (by unfold maxLen; omega) (by omega) (Nat.le_trans t15.size t16.size) ?_; rfl; intro a17 c17 w17 own17 t17)
          | (go_at_call 20; refine (sameBytes_eq _ (some ⟨g12, 0, none⟩) a17 64 64 c17 ((Dk.pad b).take 32 ++ (Dk.pad a).drop 32) ((Dk.pad b).take 32 ++ (Dk.pad a).drop 32) l12.out l12.out (by decide) ((((HR14.out.no (Touch.refl No w14).drew).no t15).touch t16 (by intro c o _ _ e; cases e)).touch t17 (by intro c o e1 _ e2; cases e1; have h1 := (own16.block e2).1; have h2 := hg12.out; omega)) (by have h3 := own17.rd; rw [List.nil_append, ← nums_append] at h3; exact h3)).mono ?_; rintro e w18 ⟨rfl, t18⟩; rw [Hsb2.out]))
        have tt : Touch No w14 w18 := (((((Touch.refl No w14).drew).trans t15).then t16 (by intro i _ e; cases e)).then t17 (fun i hi e => by have := (own16.block e).1; omega)).trans t18
        have S18 := S14.no tt
        have TT18 := Lib.hid (TT14.out.trans tt)
        clear tt t15 t16 t17 t18 own16 own17
        go_wp2
        go_roundg g
        case measure => omega
        case rel => exact ⟨0 + 1, by omega, by go_num, S18, TT18.out⟩
      · have ew : Hid (wt = Dk.pad b) := Hwt.out
        go_wp2
        go_region_held3 (fun _ => True) (trivial) (first
          | (go_at_call 20; have _t := tok1; refine (sameBytes_eq _ _ _ 64 64 c10 _ _ lW.out lW.out (by decide) (HRy.out.no (Touch.refl No w14).drew) (by rw [ew.out]; exact HB14.out)).mono ?_; rintro e w15 ⟨rfl, t15⟩; rw [hsb1]; clear tok1)
          | (have _t := tok2; refine step_append_rds ?_ _ _ _ rfl w14.heap.size 5 I z 1 Try.underlying28 HI.out.info HI.out.zero HI.out.size HI.out.bytes (by rw [HI.out.cells]; rfl) _ [] (Own.nil _ _ _) rfl (some ⟨g10, o10, none⟩) 32 c10 32 (nums .u8 ((Dk.pad b).take 32)) rfl lt32.out ((HBt.out.no (Touch.refl No w14).drew).no t15) (nums_one _ _) rfl (by unfold maxLen; omega) (by omega) t15.size ?_; rfl; intro a16 c16 w16 own16 t16; clear tok2 _t)
          | (refine step_append_rds ?_ _ _ _ rfl w14.heap.size 5 I z 1 Try.underlying28 HI.out.info HI.out.zero HI.out.size HI.out.bytes (by rw [HI.out.cells]; rfl) _ _ own16 rfl (some ⟨g8, o8 + 32, none⟩) 32 (c8 - 32) 64 (nums .u8 ((Dk.pad a).drop 32)) rfl ld32.out (((HAd.out.no (Touch.refl No w14).drew).no t15).touch t16 (by intro c o _ _ e; cases e)) (nums_one _ _) (by rw [List.nil_append, lt32.out]) (by unfold maxLen; omega) (by omega) (Nat.le_trans t15.size t16.size) ?_; rfl; intro a17 c17 w17 own17 t17)
          | (go_at_call 20; refine (sameBytes_eq _ (some ⟨g12, 0, none⟩) a17 64 64 c17 ((Dk.pad b).take 32 ++ (Dk.pad a).drop 32) ((Dk.pad b).take 32 ++ (Dk.pad a).drop 32) l12.out l12.out (by decide) ((((HR14.out.no (Touch.refl No w14).drew).no t15).touch t16 (by intro c o _ _ e; cases e)).touch t17 (by intro c o e1 _ e2; cases e1; have h1 := (own16.block e2).1; have h2 := hg12.out; omega)) (by have h3 := own17.rd; rw [List.nil_append, ← nums_append] at h3; exact h3)).mono ?_; rintro e w18 ⟨rfl, t18⟩; rw [Hsb2.out]))
        have tt : Touch No w14 w18 := (((((Touch.refl No w14).drew).trans t15).then t16 (by intro i _ e; cases e)).then t17 (fun i hi e => by have := (own16.block e).1; omega)).trans t18
        have S18 := S14.no tt
        have TT18 := Lib.hid (TT14.out.trans tt)
        clear tt t15 t16 t17 t18 own16 own17
        go_wp2
        go_roundg g
        case measure => omega
        case rel => exact ⟨1 + 1, by omega, by go_num, S18, TT18.out⟩
end Go.Proofs.Ytechmboimpbjpaa
