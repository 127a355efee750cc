/-
  Package drydocklaw01 by its own text: the walk of NumsJoin.
-/
import Derived.Test.YtdafoaehldnjmaaAlive01
import Derived.Test.YtdafoaehldnjmaaIn
namespace Go.Proofs.Ytdafoaehldnjmaa
open Go Go.RowKit
set_option linter.unusedSimpArgs false

set_option maxRecDepth 100000 in
set_option maxHeartbeats 8000000 in
theorem numsJoin_walk (w : World) (xa : Option Addr) (n cx : Nat) (xs : List Int) (hX : Ints w xa n cx xs) (ya : Option Addr) (m cy : Nat) (ys : List Int) (hY : Ints w ya m cy ys) :
    Calls Try.prog 6 #[.slice xa n cx, .slice ya m cy] w (LawPost w) := by
  have HX := Lib.hid hX
  have HY := Lib.hid hY
  have hn9 := hX.nmax
  have hm9 := hY.nmax
  clear hX hY
  by_cases hn : 4096 < n
  · have hn' : (4096 : Int) < (n : Nat) := by omega
    clear hn
    go_enter Try.func6, Try.ntmps6
    go_wp2_with fail
    refine (alive_is _).mono ?_
    rintro e w1 ⟨rfl, t1⟩
    have HT1 := Lib.hid t1
    clear t1
    go_wp2_with fail
    refine (alive_is _).mono ?_
    rintro e w2 ⟨rfl, t2⟩
    have HT2 := Lib.hid (HT1.out.trans t2)
    clear t2 HT1
    go_wp2
    go_ret
    exact ⟨rfl, HT2.out⟩
  by_cases hm : 4096 < m
  · have hn' : ¬ (4096 : Int) < (n : Nat) := by omega
    have hm' : (4096 : Int) < (m : Nat) := by omega
    clear hn hm
    go_enter Try.func6, Try.ntmps6
    go_wp2_with fail
    refine (alive_is _).mono ?_
    rintro e w1 ⟨rfl, t1⟩
    have HT1 := Lib.hid t1
    clear t1
    go_wp2_with fail
    refine (alive_is _).mono ?_
    rintro e w2 ⟨rfl, t2⟩
    have HT2 := Lib.hid (HT1.out.trans t2)
    clear t2 HT1
    go_wp2
    go_ret
    exact ⟨rfl, HT2.out⟩
  have hn' : ¬ (4096 : Int) < (n : Nat) := by omega
  have hm' : ¬ (4096 : Int) < (m : Nat) := by omega
  obtain ⟨T, hT⟩ : ∃ T, T = 4 + 4 * n := ⟨_, rfl⟩
  obtain ⟨L, hL⟩ : ∃ L, L = T + 4 + 4 * m := ⟨_, rfl⟩
  obtain ⟨V, hV⟩ : ∃ V, V = 4 + 4 * m := ⟨_, rfl⟩
  have hgx := Nm.get_put xs (by rw [HX.out.len]; omega) HX.out.lt (Nm.put ys)
  have htx := Nm.took_put (l := xs) (by rw [HX.out.len]; omega) HX.out.lt (Nm.put ys)
  rw [HX.out.len, ← hT] at htx
  have hgy := Nm.get_put ys (by rw [HY.out.len]; omega) HY.out.lt []
  have hty := Nm.took_put (l := ys) (by rw [HY.out.len]; omega) HY.out.lt []
  rw [HY.out.len, ← hV] at hty
  rw [List.append_nil] at hgy hty
  have hlx : (Nm.put xs).length = T := by rw [Nm.put_length, HX.out.len]; exact hT.symm
  have hly : (Nm.put ys).length = V := by rw [Nm.put_length, HY.out.len]; exact hV.symm
  have hlen : (Nm.put xs ++ Nm.put ys).length = L := by rw [List.length_append, hlx, hly]; omega
  have hdrop : (Nm.put xs ++ Nm.put ys).drop T = Nm.put ys := by rw [← hlx, List.drop_left]
  have hlt : ∀ x ∈ Nm.put xs ++ Nm.put ys, x < 256 := fun x hx => by
    rcases List.mem_append.1 hx with h | h
    · exact Nm.put_lt _ x h
    · exact Nm.put_lt _ x h
  have huf : Rt.unfour (Nm.put xs ++ Nm.put ys) = n := by
    have := hgx.2.2
    rw [HX.out.len] at this; exact this
  have HGX := Lib.hid hgx
  have HTX := Lib.hid htx
  have HGY := Lib.hid hgy
  have HTY := Lib.hid hty
  have HLX := Lib.hid hlx
  have HLY := Lib.hid hly
  have HLEN := Lib.hid hlen
  have HDROP := Lib.hid hdrop
  have HLT := Lib.hid hlt
  have HUF := Lib.hid huf
  have hTL : T ≤ L := by omega
  have hLTV : L - T = V := by omega
  have HLTV := Lib.hid hLTV
  have hsum : (T : Int) + (V : Nat) = (L : Nat) := by omega
  have hTi : (T : Int) ≤ (L : Nat) := by omega
  have hL9 : (L : Int) ≤ 100000 := by omega
  have h4L : 4 ≤ L := by omega
  have HT := Lib.hid hT
  have HL := Lib.hid hL
  have HV := Lib.hid hV
  have Hn := Lib.hid hn
  have Hm := Lib.hid hm
  clear hgx htx hgy hty hlx hly hlen hdrop hlt huf hLTV hT hL hV hn hm
  go_enter Try.func6, Try.ntmps6
  go_wp2_with fail
  refine (alive_is _).mono ?_
  rintro e w1 ⟨rfl, t1⟩
  have HT1 := Lib.hid t1
  have HRX := Lib.hid (HX.out.rd.no t1)
  have HRY := Lib.hid (HY.out.rd.no t1)
  clear t1
  go_wp2_with fail
  refine (putList_any _ none 0 0 [] rfl (Rd.nil _ _) xa n cx xs HX.out.len HRX.out (by omega) (by decide) T (by have := HT.out; omega)).mono ?_
  rintro e w2 ⟨a2, c2, rfl, o2, t2⟩
  have ho2 : Rd w2 a2 (nums .u8 (Nm.put xs)) := o2.rd
  have HR2 := Lib.hid ho2
  have HT2 := Lib.hid (HT1.out.trans t2)
  have HRX2 := Lib.hid (HRX.out.no t2)
  have HRY2 := Lib.hid (HRY.out.no t2)
  clear o2 t2 ho2 HT1 HRX HRY
  go_wp2_with fail
  refine (putList_any _ a2 T c2 (Nm.put xs) HLX.out HR2.out ya m cy ys HY.out.len HRY2.out (by omega) (by omega) L (by have := HL.out; omega)).mono ?_
  rintro e w3 ⟨a3, c3, rfl, o3, t3⟩
  obtain ⟨hnc, hcm, _⟩ := o3.room
  have HR3 := Lib.hid o3.rd
  have HT3 := Lib.hid (HT2.out.trans t3)
  have HRX3 := Lib.hid (HRX2.out.no t3)
  have HRY3 := Lib.hid (HRY2.out.no t3)
  clear o3 t3 HT2 HRX2 HRY2 HR2
  go_wp2_with fail
  refine (getFour_ok _ a3 L c3 _ HLEN.out (by omega) h4L HR3.out HLT.out).mono ?_
  rw [HUF.out]
  rintro e w4 ⟨rfl, t4⟩
  have HT4 := Lib.hid (HT3.out.trans t4)
  have HR4 := Lib.hid (HR3.out.no t4)
  have HRX4 := Lib.hid (HRX3.out.no t4)
  have HRY4 := Lib.hid (HRY3.out.no t4)
  clear t4 HT3 HRX3 HRY3 HR3
  go_wp2_with fail
  refine (getList_at _ a3 L c3 _ HLEN.out hnc hcm HR4.out HLT.out xs n T 0 HGX.out.2.1 HX.out.len HTX.out HGX.out.1).mono ?_
  rintro e w5 ⟨a5, c5, rfl, o5, t5⟩
  have HT5 := Lib.hid (HT4.out.trans t5)
  have HR5 := Lib.hid (HR4.out.no t5)
  have HRX5 := Lib.hid (HRX4.out.no t5)
  have HRY5 := Lib.hid (HRY4.out.no t5)
  have HO5 := Lib.hid o5.rd
  clear o5 t5 HT4 HRX4 HRY4 HR4
  go_wp2_with fail
  refine (sameN_any _ a5 xa n c5 cx xs HX.out.len (by omega) HO5.out HRX5.out).mono ?_
  rintro e w6 ⟨rfl, t6⟩
  have HT6 := Lib.hid (HT5.out.trans t6)
  have HR6 := Lib.hid (HR5.out.no t6)
  have HRY6 := Lib.hid (HRY5.out.no t6)
  clear t6 HT5 HRX5 HRY5 HR5 HO5
  obtain ⟨J, hi0, hi1, hi2, hi3⟩ := u8_info
  have hcut : ∀ wx : World, (Instr.slice 24 (.slice a3 L c3) (some (.int .i64 (T : Nat))) none none).run Try.prog wx = .ok (.slice (cutAddr a3 c3 T) V (c3 - T)) wx := fun wx => by
    have := run_cut Try.underlying24 hi0 hi2 a3 L c3 T .i64 hTL wx
    rw [HLTV.out] at this; exact this
  clear hi0 hi1 hi2 hi3
  have hrc : Rd w6 (cutAddr a3 c3 T) (nums .u8 (Nm.put ys)) := by
    have := HR6.out.cut (cap := c3) (l := T) (by rw [nums_length, HLEN.out]; exact hnc)
    rw [nums, ← List.map_drop, HDROP.out] at this; exact this
  have HRC := Lib.hid hrc
  clear hrc
  go_wp2_with fail
  clear hcut
  refine (getList_at _ (cutAddr a3 c3 T) V (c3 - T) _ HLY.out (by have := HLTV.out; omega) (by omega) HRC.out (Nm.put_lt _) ys m V 0 HGY.out.2.1 HY.out.len HTY.out HGY.out.1).mono ?_
  rintro e w7 ⟨a7, c7, rfl, o7, t7⟩
  have HT7 := Lib.hid (HT6.out.trans t7)
  have HRY7 := Lib.hid (HRY6.out.no t7)
  have HO7 := Lib.hid o7.rd
  clear o7 t7 HT6 HRY6 HR6
  go_wp2_with fail
  refine (sameN_any _ a7 ya m c7 cy ys HY.out.len (by omega) HO7.out HRY7.out).mono ?_
  rintro e w8 ⟨rfl, t8⟩
  have HT8 := Lib.hid (HT7.out.trans t8)
  clear t8 HT7
  go_wp2
  go_ret
  exact ⟨rfl, HT8.out⟩
end Go.Proofs.Ytdafoaehldnjmaa
