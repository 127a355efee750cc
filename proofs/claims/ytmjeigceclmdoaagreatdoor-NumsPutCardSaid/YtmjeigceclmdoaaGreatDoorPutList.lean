/-
  Package nums by its own text: PutList.
-/
import Derived.Test.YtmjeigceclmdoaaGreatDoorConcatU
namespace Go.Proofs.YtmjeigceclmdoaaGreatDoor
open Go Go.RowKit
set_option linter.unusedSimpArgs false

set_option maxRecDepth 100000 in
set_option maxHeartbeats 2000000 in
theorem putList_any (w : World) (a : Option Addr) (n c : Nat) (b : List Nat) (hb : b.length = n) (hr : Rd w a (nums .u8 b)) (al : Option Addr) (m cl : Nat) (zs : List Int) (hz : zs.length = m) (hrz : Rd w al (ints .i32 zs)) (hm : m ≤ 16777216) (hsz : (n : Int) ≤ 10000000000000) (N : Nat) (hN : n + 4 + 4 * m = N) :
    Calls Tryz.prog 15 #[.slice a n c, .slice al m cl] w (PutPost w (b ++ Nm.put zs) N) := by
  have Hb := Lib.hid hb
  have Hr := Lib.hid hr
  have Hz := Lib.hid hz
  have Hrz := Lib.hid hrz
  have HN := Lib.hid hN
  have hm' : (m : Int) ≤ 16777216 := by omega
  clear hb hr hz hrz hN
  go_enter Tryz.func15, Tryz.ntmps15
  go_wp2_with fail
  refine (asU_any _ al m cl zs Hz.out (Hrz.out.no ((Touch.refl No w).alloc _)) (by omega)).mono ?_
  rintro e w1 ⟨a1, c1, rfl, O1, T1⟩
  have hT1 := ((Touch.refl No w).alloc _).trans T1
  have hrd := (rd_new w 23 #[.int .u32 (m : Nat)] _).no T1
  have HT1 := Lib.hid hT1
  have HR1 := Lib.hid hrd
  have HO1 := Lib.hid O1.rd
  clear O1 T1 hT1 hrd
  go_wp2_with fail
  refine (concatU_any _ w1.heap.size 0 2 (some ⟨w.heap.size, 0, none⟩) 1 1 [.int .u32 (m : Nat)] a1 m c1 (nums .u32 (zs.map Nm.u)) ?_ ?_ rfl (by rw [nums_length, List.length_map]; exact Hz.out) (HR1.out.no ((Touch.refl No w1).alloc _)) (HO1.out.no ((Touch.refl No w1).alloc _)) (by simp [Value.oneCell']) (nums_one _ _) (1 + m) rfl (by omega)).mono ?_
  · rw [cell_new]; rfl
  · rw [cell_new]; rfl
  rintro e w2 ⟨a2, c2, rfl, O2, T2⟩
  have HT2 := Lib.hid ((HT1.out.alloc _).trans T2)
  have HO2 := Lib.hid O2.rd
  clear O2 T2 HT1 HR1 HO1
  go_wp2_with fail
  have e1 : [Value.int .u32 (m : Nat)] ++ nums .u32 (zs.map Nm.u) = nums .u32 (m :: zs.map Nm.u) := rfl
  refine (put_any w2 a n c b Hb.out (Hr.out.no HT2.out) a2 (1 + m) c2 (m :: zs.map Nm.u) (by rw [List.length_cons, List.length_map, Hz.out]; omega) (by rw [← e1]; exact HO2.out) (fun x hx => by
    rcases List.mem_cons.1 hx with rfl | hx
    · omega
    · obtain ⟨z, _, rfl⟩ := List.mem_map.1 hx
      exact Nm.u_lt z) (by omega) N (by have := HN.out; omega)).mono ?_
  clear e1
  rintro e w3 ⟨a3, c3, rfl, O3, T3⟩
  have e2 : b ++ (m :: zs.map Nm.u).flatMap Rt.four = b ++ Nm.put zs := by
    rw [Nm.put, Hz.out, Nat.mod_eq_of_lt (by omega)]; rfl
  rw [e2] at O3
  have HO3 := Lib.hid (O3.mono (base' := w.heap.size) HT2.out.size)
  have HT3 := Lib.hid (HT2.out.trans T3)
  clear e2 O3 T3 HT2 HO2
  go_wp2
  go_ret
  exact ⟨_, _, rfl, HO3.out, HT3.out⟩
end Go.Proofs.YtmjeigceclmdoaaGreatDoor
