/-
  Package drydocklaw01 by its own text: the walk of NumsPut.
-/
import Derived.Test.YtmjeigceclmdoaaGreatDoorBkLaw
import Derived.Test.YtmjeigceclmdoaaGreatDoorTwinB
import Derived.Test.YtmjeigceclmdoaaGreatDoorTwinN
import Derived.Test.YtmjeigceclmdoaaGreatDoorRef01
import Derived.Test.YtmjeigceclmdoaaGreatDoorPutList
import Derived.Test.YtmjeigceclmdoaaGreatDoorSameN
import Derived.Test.YtmjeigceclmdoaaGreatDoorIn
namespace Go.Proofs.YtmjeigceclmdoaaGreatDoor
open Go Go.RowKit
set_option linter.unusedSimpArgs false

set_option maxRecDepth 100000 in
set_option maxHeartbeats 16000000 in
theorem numsPut_walk (w : World) (pb : Option Addr) (n cb : Nat) (b : List Nat) (hB : Bytes w pb n cb b) (x : Nat) (hx : x < 4294967296) (pl : Option Addr) (m cl : Nat) (zs : List Int) (hL : Ints w pl m cl zs) :
    Calls Tryz.prog 3 #[.slice pb n cb, .int .u32 (x : Nat), .slice pl m cl] w (TruePost w) := by
  have HB := Lib.hid hB
  have HL := Lib.hid hL
  have hnm := hB.nmax
  have hmm := hL.nmax
  clear hB hL
  go_enter Tryz.func3, Tryz.ntmps3
  go_wp2_with fail
  refine (beyond2 _ w.heap.size 0 2 n m (by rw [cell_new]; rfl) (by rw [cell_new]; rfl) hnm hmm).mono ?_
  rintro e w1 ⟨rfl, hw1⟩
  have T1 : Hid (Touch No w w1) := by show Touch _ _ _; rw [← hw1]; exact (Touch.refl No w).alloc _
  clear hw1
  by_cases hbig : 1048576 < n + m
  · rw [decide_eq_true hbig]
    go_wp2
    go_ret
    exact ⟨rfl, T1.out⟩
  · rw [decide_eq_false hbig]
    have hn20 : (n : Int) ≤ 1048576 := by omega
    have hm20 : (m : Int) ≤ 1048576 := by omega
    clear hbig
    go_wp2_with fail
    have hrb : ∀ {wx : World}, Touch No w wx → Rd wx pb (ints .u8 (b.map fun (x : Nat) => (x : Int))) := fun t => by rw [nums_ints]; exact HB.out.rd.no t
    refine (twinBytes_any _ pb n cb _ (by rw [List.length_map]; exact HB.out.len) (by omega) (hrb T1.out)).mono ?_
    rintro e w2 ⟨at', ct, rfl, hct, ot, t2⟩
    rw [nums_ints] at ot
    have S2 := Lib.hid ((Sl.nil T1.out).push (born_own t2 ot))
    clear ot t2 T1
    go_wp2_with fail
    refine (twinNumbers_any _ pl m cl zs HL.out.len (by omega) (HL.out.rd.no S2.out.end)).mono ?_
    rintro e w3 ⟨au, cu, rfl, hcu, ou, t3⟩
    have S3 := Lib.hid (S2.out.push (born_own t3 ou))
    clear ou t3 S2
    go_wp2_with fail
    refine (putFour_any _ at' n ct b HB.out.len (rd_pre (S3.out.rd (List.mem_cons_of_mem _ List.mem_cons_self))) x hx (by omega) (n + 4) rfl).mono ?_
    rintro e w4 ⟨ax, cx, rfl, ox, t4⟩
    have S4 := Lib.hid (S3.out.push (born_own t4 ox))
    clear ox t4 S3
    go_wp2_with fail
    refine (putFour_any _ at' n ct b HB.out.len (rd_pre (S4.out.rd (List.mem_cons_of_mem _ (List.mem_cons_of_mem _ List.mem_cons_self)))) x hx (by omega) (n + 4) rfl).mono ?_
    rintro e w5 ⟨ay, cy, rfl, oy, t5⟩
    have S5 := Lib.hid (S4.out.push (born_own t5 oy))
    clear oy t5 S4
    go_wp2_with fail
    refine (putList_any _ at' n ct b HB.out.len (rd_pre (S5.out.rd (List.mem_cons_of_mem _ (List.mem_cons_of_mem _ (List.mem_cons_of_mem _ List.mem_cons_self))))) au m cu zs HL.out.len (rd_pre (S5.out.rd (List.mem_cons_of_mem _ (List.mem_cons_of_mem _ List.mem_cons_self)))) (by omega) (by omega) (n + 4 + 4 * m) rfl).mono ?_
    rintro e w6 ⟨az, cz, rfl, oz, t6⟩
    have S6 := Lib.hid (S5.out.push (born_own t6 oz))
    clear oz t6 S5
    go_wp2_with fail
    refine (putList_any _ at' n ct b HB.out.len (rd_pre (S6.out.rd (List.mem_cons_of_mem _ (List.mem_cons_of_mem _ (List.mem_cons_of_mem _ (List.mem_cons_of_mem _ List.mem_cons_self)))))) au m cu zs HL.out.len (rd_pre (S6.out.rd (List.mem_cons_of_mem _ (List.mem_cons_of_mem _ (List.mem_cons_of_mem _ List.mem_cons_self))))) (by omega) (by omega) (n + 4 + 4 * m) rfl).mono ?_
    rintro e w7 ⟨aw, cw, rfl, ow, t7⟩
    have S7 := Lib.hid (S6.out.push (born_own t7 ow))
    clear ow t7 S6
    have l4 : Hid ((b ++ Rt.four x).length = n + 4) := by show _ = _; rw [List.length_append, HB.out.len, Rt.four_length]
    have lN : Hid ((b ++ Nm.put zs).length = n + 4 + 4 * m) := by show _ = _; rw [List.length_append, HB.out.len, Nm.put_length, HL.out.len]; omega
    go_wp2_with fail
    refine (refPutFour_any _ pb n cb b HB.out.len (HB.out.rd.no S7.out.end) x hx (by omega) (n + 4) rfl).mono ?_
    rintro e w8 ⟨a8, c8, rfl, o8, t8⟩
    have S8 := Lib.hid (S7.out.no t8)
    have R8 := Lib.hid o8.rd
    clear o8 t8 S7
    go_wp2_with fail
    refine (sameB_any _ ax a8 (n + 4) cx c8 _ l4.out (by omega) (S8.out.rd (List.mem_cons_of_mem _ (List.mem_cons_of_mem _ (List.mem_cons_of_mem _ List.mem_cons_self)))) R8.out).mono ?_
    rintro e w9 ⟨rfl, t9⟩
    have S9 := Lib.hid (S8.out.no t9)
    clear t9 S8 R8
    go_wp2_with fail
    refine (sameB_any _ ay ax (n + 4) cy cx _ l4.out (by omega) (S9.out.rd (List.mem_cons_of_mem _ (List.mem_cons_of_mem _ List.mem_cons_self))) (S9.out.rd (List.mem_cons_of_mem _ (List.mem_cons_of_mem _ (List.mem_cons_of_mem _ List.mem_cons_self))))).mono ?_
    rintro e w10 ⟨rfl, t10⟩
    have S10 := Lib.hid (S9.out.no t10)
    clear t10 S9
    go_wp2_with fail
    refine (refPutList_any _ pb n cb b HB.out.len (HB.out.rd.no S10.out.end) pl m cl zs HL.out.len (HL.out.rd.no S10.out.end) (by omega) (by omega) (n + 4 + 4 * m) rfl).mono ?_
    rintro e w11 ⟨a11, c11, rfl, o11, t11⟩
    have S11 := Lib.hid (S10.out.no t11)
    have R11 := Lib.hid o11.rd
    clear o11 t11 S10
    go_wp2_with fail
    refine (sameB_any _ az a11 (n + 4 + 4 * m) cz c11 _ lN.out (by omega) (S11.out.rd (List.mem_cons_of_mem _ List.mem_cons_self)) R11.out).mono ?_
    rintro e w12 ⟨rfl, t12⟩
    have S12 := Lib.hid (S11.out.no t12)
    clear t12 S11 R11
    go_wp2_with fail
    refine (sameB_any _ aw az (n + 4 + 4 * m) cw cz _ lN.out (by omega) (S12.out.rd List.mem_cons_self) (S12.out.rd (List.mem_cons_of_mem _ List.mem_cons_self))).mono ?_
    rintro e w13 ⟨rfl, t13⟩
    have S13 := Lib.hid (S12.out.no t13)
    clear t13 S12
    go_wp2_with fail
    refine (leftBytes_any _ at' n ct pb cb _ (by rw [List.length_map]; exact HB.out.len) (by omega) hct (by rw [nums_ints]; exact S13.out.rd (List.mem_cons_of_mem _ (List.mem_cons_of_mem _ (List.mem_cons_of_mem _ (List.mem_cons_of_mem _ (List.mem_cons_of_mem _ List.mem_cons_self)))))) (hrb S13.out.end)).mono ?_
    rintro e w14 ⟨rfl, t14⟩
    have S14 := Lib.hid (S13.out.no t14)
    clear t14 S13
    go_wp2_with fail
    refine (leftNumbers_any _ au m cu pl cl zs HL.out.len (by omega) hcu (S14.out.rd (List.mem_cons_of_mem _ (List.mem_cons_of_mem _ (List.mem_cons_of_mem _ (List.mem_cons_of_mem _ List.mem_cons_self))))) (HL.out.rd.no S14.out.end)).mono ?_
    rintro e w15 ⟨rfl, t15⟩
    have S15 := Lib.hid (S14.out.no t15)
    clear t15 S14
    go_wp2_with fail
    have Sa : Sl w w15 [Part.sl 5 at' (n + 1) ct (nums .u8 b ++ [.int .u8 77]), Part.sl 21 au (m + 1) cu (ints .i32 zs ++ [.int .i32 77]), Part.sl 5 ax (n + 4) cx (nums .u8 (b ++ Rt.four x)), Part.sl 5 ay (n + 4) cy (nums .u8 (b ++ Rt.four x)), Part.sl 5 az (n + 4 + 4 * m) cz (nums .u8 (b ++ Nm.put zs)), Part.sl 5 aw (n + 4 + 4 * m) cw (nums .u8 (b ++ Nm.put zs))] := S15.out.perm (List.reverse_perm _).symm
    have Sb := (Sa.imp1 (fun A h => sl_twin h)).push (born_book w15 _ rfl)
    have HS := Lib.hid Sb
    obtain ⟨gk, hgk⟩ : ∃ gk, gk = w15.heap.size := ⟨_, rfl⟩
    rw [← hgk] at HS ⊢
    clear Sa Sb S15 hgk hrb
    refine (HS.out.bytes (by simp) (by simp)).mono ?_
    rintro e v1 ⟨rfl, h1⟩
    have H1 := Lib.hid (h1.imp2 (fun A h => sl_twin h))
    clear h1 HS
    go_wp2_with fail
    refine (H1.out.numbers (by simp) (by simp)).mono ?_
    rintro e v2 ⟨rfl, h2⟩
    have H2 := Lib.hid h2
    clear h2 H1
    go_wp2_with fail
    refine (H2.out.bytes (by simp) (by simp)).mono ?_
    rintro e v3 ⟨rfl, h3⟩
    have H3 := Lib.hid h3
    clear h3 H2
    go_wp2_with fail
    refine (H3.out.bytes (by simp) (by simp)).mono ?_
    rintro e v4 ⟨rfl, h4⟩
    have H4 := Lib.hid h4
    clear h4 H3
    go_wp2_with fail
    refine (H4.out.bytes (by simp) (by simp)).mono ?_
    rintro e v5 ⟨rfl, h5⟩
    have H5 := Lib.hid h5
    clear h5 H4
    go_wp2_with fail
    refine (H5.out.bytes (by simp) (by simp)).mono ?_
    rintro e v6 ⟨rfl, h6⟩
    have H6 := Lib.hid h6
    clear h6 H5
    go_wp2_with fail
    refine (H6.out.apart ?hB ?hN bkOk_nil).mono ?_
    case hB =>
      refine ⟨by simp, fun e he => ?_, fun e he => ?_⟩
      · simp only [List.nil_append, List.cons_append, List.mem_cons, List.not_mem_nil, or_false] at he
        rcases he with rfl | rfl | rfl | rfl | rfl <;> simp
      · simp only [List.nil_append, List.cons_append, List.mem_cons, List.not_mem_nil, or_false] at he
        rcases he with rfl | rfl | rfl | rfl | rfl <;> (dsimp only; omega)
    case hN =>
      refine ⟨by simp, fun e he => ?_, fun e he => ?_⟩
      · simp only [List.nil_append, List.mem_cons, List.not_mem_nil, or_false] at he
        rcases he with rfl
        simp
      · simp only [List.nil_append, List.mem_cons, List.not_mem_nil, or_false] at he
        rcases he with rfl
        dsimp only; omega
    rintro e v7 ⟨rfl, t7⟩
    have T7 := Lib.hid t7
    clear t7 H6
    go_wp2
    go_ret
    exact ⟨rfl, T7.out⟩
end Go.Proofs.YtmjeigceclmdoaaGreatDoor
