/-
  Package drydocklaw01 by its own text: the walk of NumsBack.
-/
import Derived.Test.YtdafoaehldnjmaaAlive01
import Derived.Test.YtdafoaehldnjmaaIn
import Derived.Test.YtdafoaehldnjmaaAppCut
import Derived.Deep.RegionHeld3
namespace Go.Proofs.Ytdafoaehldnjmaa
open Go Go.RowKit
set_option linter.unusedSimpArgs false

set_option maxRecDepth 100000 in
set_option maxHeartbeats 16000000 in
theorem numsBack_walk (w : World) (x : Nat) (hx : x < 4294967296) (za : Option Addr) (n cz : Nat) (zs : List Int) (hZ : Ints w za n cz zs) (pa : Option Addr) (k cp : Nat) (ps : List Nat) (hP : Bytes w pa k cp ps) (qa : Option Addr) (m cq : Nat) (qs : List Nat) (hQ : Bytes w qa m cq qs) :
    Calls Try.prog 3 #[.int .u32 (x : Nat), .slice za n cz, .agg #[.slice pa k cp, .slice qa m cq]] w (LawPost w) := by
  have HZ := Lib.hid hZ
  have HP := Lib.hid hP
  have HQ := Lib.hid hQ
  have hn9 := hZ.nmax
  have hk9 := hP.nmax
  have hm9 := hQ.nmax
  obtain ⟨W0, hW0⟩ : ∃ W0, W0 = w.alloc (.cells #[.slice pa k cp, .slice qa m cq] 25) := ⟨_, rfl⟩
  have hrow : Row W0 w.heap.size 25 [.slice pa k cp, .slice qa m cq] := by rw [hW0]; exact Row.new w _ _
  have ht0 : Touch No w W0 := by rw [hW0]; exact (Touch.refl No w).alloc _
  have HRow := Lib.hid hrow
  have HT0 := Lib.hid ht0
  have HB : Hid (∀ wx, Touch No W0 wx → wx.cell? ⟨w.heap.size, 0, none⟩ = some (.slice pa k cp) ∧ wx.cell? ⟨w.heap.size, 1, none⟩ = some (.slice qa m cq)) := fun wx t => by
    have r := HRow.out.touch t id
    exact ⟨r.cell 0, r.cell 1⟩
  obtain ⟨N1, hN1⟩ : ∃ N1, k + 4 = N1 := ⟨_, rfl⟩
  obtain ⟨N2, hN2⟩ : ∃ N2, k + 4 + 4 * n = N2 := ⟨_, rfl⟩
  have HN1 := Lib.hid hN1
  have HN2 := Lib.hid hN2
  obtain ⟨B, hB⟩ : ∃ B, B = w.heap.size := ⟨_, rfl⟩
  have HBw := Lib.hid hB
  have hWs : W0.heap.size = B + 1 := by rw [hW0, hB]; simp
  have HWs := Lib.hid hWs
  rw [← hB] at HRow HB
  have HW0 := Lib.hid hW0
  clear hZ hP hQ hW0 hrow ht0 hB hWs hN1 hN2
  by_cases hn : 4096 < n
  · have hn' : (4096 : Int) < (n : Nat) := by omega
    clear hn
    go_enter Try.func3, Try.ntmps3
    go_wp2_with fail
    rw [← HW0.out, ← HBw.out]
    refine (alive_is _).mono ?_
    rintro e w1 ⟨rfl, t1⟩
    have HT1 := Lib.hid (HT0.out.trans t1)
    clear t1
    go_wp2_with fail
    refine (alive_is _).mono ?_
    rintro e w2 ⟨rfl, t2⟩
    have HT2 := Lib.hid (HT1.out.trans t2)
    clear t2 HT1
    go_wp2
    go_ret
    exact ⟨rfl, HT2.out⟩
  have hn' : ¬ (4096 : Int) < (n : Nat) := by omega
  by_cases hbey : 1048576 < k + m
  · have hd : decide (1048576 < k + m) = true := decide_eq_true hbey
    go_enter Try.func3, Try.ntmps3
    go_wp2_with fail
    rw [← HW0.out, ← HBw.out]
    refine (alive_is _).mono ?_
    rintro e w1 ⟨rfl, t1⟩
    have HT1 := Lib.hid (HT0.out.trans t1)
    obtain ⟨k0, k1⟩ := HB.out _ t1
    clear t1
    go_wp2_with fail
    refine (beyond2 _ w1.heap.size 0 2 k m (by rw [cell_new]; rfl) (by rw [cell_new]; rfl) hk9 hm9).mono ?_
    rw [hd]
    rintro e w2 ⟨rfl, h2⟩
    have HT2 := Lib.hid (show Touch No w w2 by rw [← h2]; exact HT1.out.alloc _)
    clear h2 HT1 k0 k1
    go_wp2_with fail
    refine (alive_is _).mono ?_
    rintro e w3 ⟨rfl, t3⟩
    have HT3 := Lib.hid (HT2.out.trans t3)
    clear t3 HT2
    go_wp2
    go_ret
    exact ⟨rfl, HT3.out⟩
  have hd : decide (1048576 < k + m) = false := decide_eq_false hbey
  have hk6 : (k : Int) ≤ 1048576 := by omega
  have hm6 : (m : Int) ≤ 1048576 := by omega
  have Hbey := Lib.hid hbey
  clear hbey
  go_enter Try.func3, Try.ntmps3
  go_wp2_with fail
  rw [← HW0.out, ← HBw.out]
  refine (alive_is _).mono ?_
  rintro e w1 ⟨rfl, t1⟩
  have HT1 := Lib.hid t1
  obtain ⟨k0, k1⟩ := HB.out _ t1
  clear t1
  go_wp2_with fail
  refine (beyond2 _ w1.heap.size 0 2 k m (by rw [cell_new]; rfl) (by rw [cell_new]; rfl) hk9 hm9).mono ?_
  rw [hd]
  rintro e w2 ⟨rfl, h2⟩
  have ht2 : Touch No W0 w2 := by rw [← h2]; exact HT1.out.alloc _
  obtain ⟨q0, q1⟩ := HB.out _ ht2
  have HT2 := Lib.hid ht2
  clear h2 HT1 k0 k1 ht2 hd
  go_wp2_with fail
  refine (putFour_any _ pa k cp ps HP.out.len (HP.out.rd.no (HT0.out.trans HT2.out)) x hx (by omega) N1 HN1.out).mono ?_
  rintro e w3 ⟨a3, c3, rfl, o3, t3⟩
  have ht3 := HT2.out.trans t3
  obtain ⟨k0, k1⟩ := HB.out _ ht3
  have HT3 := Lib.hid ht3
  have hO3 := o3.mono (base' := B + 1) (by rw [← HWs.out]; exact HT2.out.size)
  have HO3 := Lib.hid hO3
  clear t3 o3 ht3 hO3 q0 q1 HT2
  go_wp2_with fail
  refine (putList_any _ pa k cp ps HP.out.len (HP.out.rd.no (HT0.out.trans HT3.out)) za n cz zs HZ.out.len (HZ.out.rd.no (HT0.out.trans HT3.out)) (by omega) (by omega) N2 HN2.out).mono ?_
  rintro e w4 ⟨a4, c4, rfl, o4, t4⟩
  have ht4 := HT3.out.trans t4
  obtain ⟨q0, q1⟩ := HB.out _ ht4
  have HT4 := Lib.hid ht4
  have HO4 := Lib.hid o4
  have HO34 := Lib.hid (HO3.out.touch t4 (fun _ _ _ f => f))
  have HS3 := Lib.hid (show ∀ b, InBlock (.slice a3 N1 c3) b → b < w3.heap.size from fun b hb => (HO3.out.block hb).2)
  have Hs3 := Lib.hid (show B + 1 ≤ w3.heap.size by rw [← HWs.out]; exact HT3.out.size)
  clear t4 o4 ht4 k0 k1 HT3 HO3
  obtain ⟨J, hi0, hi1, hi2, hi3⟩ := u8_info
  have HI := Lib.hid (And.intro hi0 (And.intro hi1 (And.intro hi2 hi3)))
  obtain ⟨hr3, hm3, _⟩ := HO34.out.room
  obtain ⟨hr4, hm4, _⟩ := HO4.out.room
  have hkN1 : k < N1 := by rw [← HN1.out]; omega
  have hkN2 : k < N2 := by rw [← HN2.out]; omega
  have hne1 : ((N1 : Int) != (k : Int) + 4) = false := by rw [← HN1.out]; simp
  have hne2 : ((N2 : Int) != (k : Int) + 4 + 4 * (n : Int)) = false := by rw [← HN2.out]; simp
  have hw1 : IntKind.i64.wrap ((k : Int) + 4) = (k : Int) + 4 := IntWalk.i64_in _ (by omega)
  have hw2 : IntKind.i64.wrap (4 * (n : Int)) = 4 * (n : Int) := IntWalk.i64_in _ (by omega)
  have hw3 : IntKind.i64.wrap ((k : Int) + 4 + 4 * (n : Int)) = (k : Int) + 4 + 4 * (n : Int) := IntWalk.i64_in _ (by omega)
  have hh1 : ∀ wx : World, (Instr.slice 24 (.slice a3 N1 c3) none (some (.int .i64 (k : Nat))) none).run Try.prog wx = .ok (.slice a3 k c3) wx := fun wx => run_head Try.underlying24 hi0 hi2 a3 N1 c3 k .i64 (by omega) wx
  have hh2 : ∀ wx : World, (Instr.slice 24 (.slice a4 N2 c4) none (some (.int .i64 (k : Nat))) none).run Try.prog wx = .ok (.slice a4 k c4) wx := fun wx => run_head Try.underlying24 hi0 hi2 a4 N2 c4 k .i64 (by omega) wx
  have tk1 : Hid (Rd w4 a3 (nums .u8 ps)) := by
    have := HO34.out.rd.take k
    rw [nums, ← List.map_take, ← HP.out.len, List.take_left] at this; exact this
  have tk2 : Hid (Rd w4 a4 (nums .u8 ps)) := by
    have := HO4.out.rd.take k
    rw [nums, ← List.map_take, ← HP.out.len, List.take_left] at this; exact this
  have tkp : Hid (Rd w4 pa (nums .u8 ps)) := HP.out.rd.no (HT0.out.trans HT4.out)
  have hkc1 : (k : Int) ≤ (c3 : Nat) := by omega
  have hkc2 : (k : Int) ≤ (c4 : Nat) := by omega
  have hk0 : (0 : Int) ≤ (k : Nat) := by omega
  clear hi0 hi1 hi2 hi3
  go_wp2_with fail
  have hb4 := HB.out _ HT4.out
  have tok1 : True := trivial
  go_region_held3 (fun w' => w'.cell? ⟨B, 0, none⟩ = some (.slice pa k cp)) (first | exact q0 | exact (HB.out _ HT4.out.drew).1 | exact (HB.out _ (HT4.out.drew.trans t5)).1 | exact (HB.out _ (HT4.out.drew.trans (t5.trans t6))).1) (first
    | (go_at_call 11; have _t := tok1; refine (sameB_any _ a3 pa k c3 cp ps HP.out.len (by omega) (tk1.out.no (Touch.refl No w4).drew) (tkp.out.no (Touch.refl No w4).drew)).mono ?_; rintro e w5 ⟨rfl, t5⟩; clear tok1)
    | (go_at_call 11; refine (sameB_any _ a4 pa k c4 cp ps HP.out.len (by omega) ((tk2.out.no (Touch.refl No w4).drew).no t5) ((tkp.out.no (Touch.refl No w4).drew).no t5)).mono ?_; rintro e w6 ⟨rfl, t6⟩))
  have ht6 := HT4.out.drew.trans (t5.trans t6)
  have hT46 : Touch No w4 w6 := ((Touch.refl No w4).drew.trans t5).trans t6
  have HT6 := Lib.hid ht6
  obtain ⟨k0, k1⟩ := HB.out _ ht6
  have HO36 := Lib.hid (HO34.out.touch hT46 (fun _ _ _ f => f))
  have HO46 := Lib.hid (HO4.out.touch hT46 (fun _ _ _ f => f))
  clear ht6 hT46 t5 t6 hb4 q0 q1 HT4 tk1 tk2 tkp hne1 hne2 hw1 hw2 hw3 hh1 hh2 HO34 HO4
  obtain ⟨M1, hM1⟩ : ∃ M1, 4 + m = M1 := ⟨_, rfl⟩
  have HM1 := Lib.hid hM1
  have hk41 : N1 - k = 4 := by rw [← HN1.out]; omega
  have hc1 : ∀ wx : World, (Instr.slice 24 (.slice a3 N1 c3) (some (.int .i64 (k : Nat))) none none).run Try.prog wx = .ok (.slice (cutAddr a3 c3 k) 4 (c3 - k)) wx := fun wx => by
    have := run_cut Try.underlying24 HI.out.1 HI.out.2.2.1 a3 N1 c3 k .i64 (by omega) wx
    rw [hk41] at this; exact this
  have HU : Hid (Rt.unfour (Rt.four x ++ qs) = x) := Nm.unfour_app hx qs
  have hd1 : (ps ++ Rt.four x).drop k = Rt.four x := by rw [← HP.out.len, List.drop_left]
  have hrd1 : (nums .u8 (ps ++ Rt.four x)).drop k ++ nums .u8 qs = nums .u8 (Rt.four x ++ qs) := by
    rw [nums_append .u8 (Rt.four x), nums, ← List.map_drop, hd1]; rfl
  have hlt1 : ∀ y ∈ Rt.four x ++ qs, y < 256 := fun y hy => by
    rcases List.mem_append.1 hy with h | h
    · exact Rt.four_lt _ y h
    · exact HQ.out.lt y h
  have hlen1 : (Rt.four x ++ qs).length = M1 := by rw [List.length_append, Rt.four_length, HQ.out.len]; exact hM1
  have HRD1 := Lib.hid hrd1
  have HLT1 := Lib.hid hlt1
  have HLEN1 := Lib.hid hlen1
  have Hqd : Hid (Rd w6.drew qa (nums .u8 qs)) := HQ.out.rd.no (HT0.out.trans HT6.out.drew)
  have HO3d : Hid (Own w6.drew (B + 1) 5 (.slice a3 N1 c3) (nums .u8 (ps ++ Rt.four x))) := HO36.out.touch ((Touch.refl No w6).drew) (fun _ _ _ f => f)
  have HK7 : Hid (∀ w7, Touch (InBlock (.slice a3 N1 c3)) w6.drew w7 → Touch No W0 w7) := fun w7 t7 => HT6.out.drew.then t7 (fun i hi e => by
    have h1 := (HO3d.out.block e).1
    have h2 := HWs.out
    omega)
  have hql : Hid ((nums .u8 qs).length = m) := by show _ = _; rw [nums_length]; exact HQ.out.len
  have hsz6 : Hid (B + 1 ≤ w6.heap.size) := by show _ ≤ _; rw [← HWs.out]; exact HT6.out.size
  have hb1 : Hid (N1 + m ≤ maxLen) := by show _ ≤ _; unfold maxLen; rw [← HN1.out]; omega
  have hb2 : Hid ((N1 + m) * 1 ≤ 140737488355328) := by show _ ≤ _; rw [← HN1.out]; omega
  have hNM1 : Hid (N1 - k + m = M1) := by show _ = _; rw [hk41]; exact hM1
  clear hd1 hrd1 hlt1 hlen1 hM1
  go_wp2_with fail
  go_region_held3 (fun w' => w'.cell? ⟨B, 1, none⟩ = some (.slice qa m cq)) (first | exact k1 | exact (HB.out _ HT6.out.drew).2 | exact (HB.out _ (HK7.out _ t7)).2 | exact (HB.out _ ((HK7.out _ t7).trans t8)).2) (first
    | (refine step_append_cut ?_ _ _ _ rfl (B + 1) 5 J (.int .u8 0) 1 Try.underlying24 HI.out.1 HI.out.2.1 HI.out.2.2.1 HI.out.2.2.2 rfl a3 N1 c3 _ HO3d.out k 4 hkN1 hk41 rfl qa m cq (nums .u8 qs) rfl hql.out Hqd.out (nums_one _ _) hb1.out hb2.out M1 hNM1.out ?_; rfl; intro a7 c7 w7 hnc7 hcm7 rd7 t7)
    | (go_at_call 12; refine (getFour_ok _ a7 M1 c7 (Rt.four x ++ qs) HLEN1.out (by omega) (by have := HM1.out; omega) (by rw [← HRD1.out]; exact rd7) HLT1.out).mono ?_; rw [HU.out]; rintro e w8 ⟨rfl, t8⟩))
  have ht8 := (HK7.out _ t7).trans t8
  have HT8 := Lib.hid ht8
  obtain ⟨q0, q1⟩ := HB.out _ ht8
  have ho4d : Own w6.drew w3.heap.size 5 (.slice a4 N2 c4) (nums .u8 (ps ++ Nm.put zs)) := HO46.out.touch ((Touch.refl No w6).drew) (fun _ _ _ f => f)
  have ho47 := ho4d.touch t7 (fun b hb _ f => by have := HS3.out b f; omega)
  have HO48 := Lib.hid (ho47.touch t8 (fun _ _ _ f => f))
  clear ht8 ho4d ho47 t7 t8 rd7 k0 k1 HT6 HO36 HO46 Hqd HO3d HK7 hc1 HRD1 HLT1 HLEN1 HU hb1 hb2 hNM1 hnc7 hcm7
  obtain ⟨V, hV⟩ : ∃ V, 4 + 4 * n = V := ⟨_, rfl⟩
  obtain ⟨M2, hM2⟩ : ∃ M2, V + m = M2 := ⟨_, rfl⟩
  have HV := Lib.hid hV
  have HM2 := Lib.hid hM2
  have hk42 : N2 - k = V := by rw [← HN2.out]; omega
  have hc2 : ∀ wx : World, (Instr.slice 24 (.slice a4 N2 c4) (some (.int .i64 (k : Nat))) none none).run Try.prog wx = .ok (.slice (cutAddr a4 c4 k) V (c4 - k)) wx := fun wx => by
    have := run_cut Try.underlying24 HI.out.1 HI.out.2.2.1 a4 N2 c4 k .i64 (by omega) wx
    rw [hk42] at this; exact this
  have hgp := Nm.get_put zs (by rw [HZ.out.len]; omega) HZ.out.lt qs
  have htk := Nm.took_put (l := zs) (by rw [HZ.out.len]; omega) HZ.out.lt qs
  rw [HZ.out.len, hV] at htk
  have HG := Lib.hid hgp
  have HTK := Lib.hid htk
  have hd2 : (ps ++ Nm.put zs).drop k = Nm.put zs := by rw [← HP.out.len, List.drop_left]
  have hrd2 : (nums .u8 (ps ++ Nm.put zs)).drop k ++ nums .u8 qs = nums .u8 (Nm.put zs ++ qs) := by
    rw [nums_append .u8 (Nm.put zs), nums, ← List.map_drop, hd2]; rfl
  have hlt2 : ∀ y ∈ Nm.put zs ++ qs, y < 256 := fun y hy => by
    rcases List.mem_append.1 hy with h | h
    · exact Nm.put_lt _ y h
    · exact HQ.out.lt y h
  have hlen2 : (Nm.put zs ++ qs).length = M2 := by rw [List.length_append, Nm.put_length, HZ.out.len, HQ.out.len, hV]; exact hM2
  have HRD2 := Lib.hid hrd2
  have HLT2 := Lib.hid hlt2
  have HLEN2 := Lib.hid hlen2
  have Hqd : Hid (Rd w8.drew qa (nums .u8 qs)) := HQ.out.rd.no (HT0.out.trans HT8.out.drew)
  have HO4d : Hid (Own w8.drew (B + 1) 5 (.slice a4 N2 c4) (nums .u8 (ps ++ Nm.put zs))) := (HO48.out.touch ((Touch.refl No w8).drew) (fun _ _ _ f => f)).mono Hs3.out
  have HK9 : Hid (∀ w9, Touch (InBlock (.slice a4 N2 c4)) w8.drew w9 → Touch No W0 w9) := fun w9 t9 => HT8.out.drew.then t9 (fun i hi e => by
    have h1 := (HO4d.out.block e).1
    have h2 := HWs.out
    omega)
  have hb1 : Hid (N2 + m ≤ maxLen) := by show _ ≤ _; unfold maxLen; rw [← HN2.out]; omega
  have hb2 : Hid ((N2 + m) * 1 ≤ 140737488355328) := by show _ ≤ _; rw [← HN2.out]; omega
  have hNM2 : Hid (N2 - k + m = M2) := by show _ = _; rw [hk42]; exact hM2
  have hsz8 : Hid (B + 1 ≤ w8.heap.size) := by show _ ≤ _; rw [← HWs.out]; exact HT8.out.size
  clear hgp htk hd2 hrd2 hlt2 hlen2 hM2 hV
  go_wp2_with fail
  go_region_held3 (fun w' => w'.cell? ⟨B, 1, none⟩ = some (.slice qa m cq)) (first | exact q1 | exact (HB.out _ HT8.out.drew).2 | exact (HB.out _ (HK9.out _ t9)).2 | exact (HB.out _ ((HK9.out _ t9).trans t10)).2) (first
    | (refine step_append_cut ?_ _ _ _ rfl (B + 1) 5 J (.int .u8 0) 1 Try.underlying24 HI.out.1 HI.out.2.1 HI.out.2.2.1 HI.out.2.2.2 rfl a4 N2 c4 _ HO4d.out k V hkN2 hk42 rfl qa m cq (nums .u8 qs) rfl hql.out Hqd.out (nums_one _ _) hb1.out hb2.out M2 hNM2.out ?_; rfl; intro a9 c9 w9 hnc9 hcm9 rd9 t9)
    | (go_at_call 13; refine (getList_at _ a9 M2 c9 (Nm.put zs ++ qs) HLEN2.out hnc9 hcm9 (by rw [← HRD2.out]; exact rd9) HLT2.out zs n V 0 HG.out.2.1 HZ.out.len HTK.out HG.out.1).mono ?_; rintro e w10 ⟨a10, c10, rfl, o10, t10⟩))
  have ht10 := (HK9.out _ t9).trans t10
  have HT10 := Lib.hid ht10
  have HR10 := Lib.hid o10.rd
  clear ht10 t9 t10 rd9 o10 q0 q1 HT8 HO48 Hqd HO4d HK9 hc2 HRD2 HLT2 HLEN2 HG hb1 hb2 hNM2 hnc9 hcm9
  have hbv : ((V : Int) == (N2 : Int) - (k : Int)) = true := by rw [beq_iff_eq]; omega
  go_wp2_with fail
  refine (sameN_any _ a10 za n c10 cz zs HZ.out.len (by omega) HR10.out (HZ.out.rd.no (HT0.out.trans HT10.out))).mono ?_
  rintro e w11 ⟨rfl, t11⟩
  have HT11 := Lib.hid (HT0.out.trans (HT10.out.trans t11))
  clear t11 HT10 HR10
  go_wp2
  go_ret
  exact ⟨rfl, HT11.out⟩
end Go.Proofs.Ytdafoaehldnjmaa
