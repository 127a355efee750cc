/-
  Package drydocklaw01 by its own text: the walk of NumsGet.
-/
import Derived.Test.YtmjeigceclmdoaaGreatDoorBkLaw
import Derived.Test.YtmjeigceclmdoaaGreatDoorTwinB
import Derived.Test.YtmjeigceclmdoaaGreatDoorRef01G
import Derived.Test.YtmjeigceclmdoaaGreatDoorSameN
import Derived.Test.YtmjeigceclmdoaaGreatDoorIn
namespace Go.Proofs.YtmjeigceclmdoaaGreatDoor
open Go Go.RowKit
set_option linter.unusedSimpArgs false

set_option maxHeartbeats 1000000 in
/-- Beyond of one -/
theorem beyond1 (w : World) (g o c : Nat) (x : Nat) (h1 : w.cell? ⟨g, o, none⟩ = some (.int .i64 (x : Nat))) (hx : (x : Int) ≤ 140737488355328) :
    Calls Tryz.prog 11 #[.slice (some ⟨g, o, none⟩) 1 c] w fun e w' => e = .returned (.bool (decide (1048576 < x))) ∧ w = w' := by
  have H1 := Lib.hid h1
  clear h1
  by_cases hb : 1048576 < x
  · rw [decide_eq_true hb]
    have hb' : (1048576 : Int) < (x : Nat) := by omega
    clear hb
    go_enter Tryz.func11, Tryz.ntmps11
    go_wp2
    go_loopg [3, 4] 1 (fun gk s3 s4 wr => Hid (wr = w) ∧ gk = 1 ∧ s4 = .int .i64 0 ∧ s3 = .int .i64 0)
    case atStart => exact ⟨rfl, rfl, rfl, rfl⟩
    case round =>
      obtain ⟨hw, rfl, rfl, rfl⟩ := hrel
      have c1 : wr.cell? ⟨g, o, none⟩ = some (.int .i64 (x : Nat)) := by rw [hw.out]; exact H1.out
      have hww := Lib.hid hw.out.symm
      clear hw
      go_wp2
      go_ret
      exact ⟨rfl, hww.out⟩
  · rw [decide_eq_false hb]
    have hb' : ¬ (1048576 : Int) < (x : Nat) := by omega
    clear hb
    go_enter Tryz.func11, Tryz.ntmps11
    go_wp2
    go_loopg [3, 4] 1 (fun gk s3 s4 wr => Hid (wr = w) ∧ ((gk = 1 ∧ s4 = .int .i64 0 ∧ s3 = .int .i64 0) ∨ (gk = 0 ∧ s4 = .int .i64 1 ∧ s3 = .int .i64 (x : Nat))))
    case atStart => exact ⟨rfl, Or.inl ⟨rfl, rfl, rfl⟩⟩
    case round =>
      obtain ⟨hw, hrel⟩ := hrel
      rcases hrel with ⟨rfl, rfl, rfl⟩ | ⟨rfl, rfl, rfl⟩
      · have c1 : wr.cell? ⟨g, o, none⟩ = some (.int .i64 (x : Nat)) := by rw [hw.out]; exact H1.out
        go_wp2
        go_roundg 0
        case measure => omega
        case rel => exact ⟨hw, Or.inr ⟨rfl, rfl, rfl⟩⟩
      · have hww := Lib.hid hw.out.symm
        clear hw
        go_wp2
        go_ret
        exact ⟨rfl, hww.out⟩
set_option maxRecDepth 100000 in
set_option maxHeartbeats 16000000 in
theorem numsGet_walk (w : World) (pb : Option Addr) (n cb : Nat) (b : List Nat) (hB : Bytes w pb n cb b) :
    Calls Tryz.prog 4 #[.slice pb n cb] w (TruePost w) := by
  have HB := Lib.hid hB
  have hnm := hB.nmax
  clear hB
  go_enter Tryz.func4, Tryz.ntmps4
  go_wp2_with fail
  refine (beyond1 _ w.heap.size 0 1 n (by rw [cell_new]; rfl) hnm).mono ?_
  rintro e w1 ⟨rfl, hw1⟩
  have T1 : Hid (Touch No w w1) := by show Touch _ _ _; rw [← hw1]; exact (Touch.refl No w).alloc _
  clear hw1
  by_cases hbig : 1048576 < n
  · rw [decide_eq_true hbig]
    go_wp2
    go_ret
    exact ⟨rfl, T1.out⟩
  · rw [decide_eq_false hbig]
    have hn20 : (n : Int) ≤ 1048576 := by omega
    clear hbig
    go_wp2_with fail
    have hrb : ∀ {wx : World}, Touch No w wx → Rd wx pb (ints .u8 (b.map fun (x : Nat) => (x : Int))) := fun t => by rw [nums_ints]; exact HB.out.rd.no t
    refine (twinBytes_any _ pb n cb _ (by rw [List.length_map]; exact HB.out.len) (by omega) (hrb T1.out)).mono ?_
    rintro e w2 ⟨at', ct, rfl, hct, ot, t2⟩
    rw [nums_ints] at ot
    obtain ⟨_, _, e9, _, _, _, hcm⟩ := ot.form
    have S2 := Lib.hid ((Sl.nil T1.out).push (born_own t2 ot))
    have hcmax : Hid ((ct : Int) ≤ 9223372036854775807) := by
      have h := ot.room.2.1
      exact h
    clear ot t2 T1 e9 hcm
    go_wp2_with fail
    obtain ⟨y, hy⟩ : ∃ y, (if n < 4 then 0 else Rt.unfour b) = y := ⟨_, rfl⟩
    obtain ⟨er, her⟩ : ∃ er, (if n < 4 then 5 else 0) = er := ⟨_, rfl⟩
    have G1 := getFour_any w2 at' n ct b HB.out.len (by omega) (rd_pre (S2.out.rd List.mem_cons_self)) HB.out.lt
    unfold GetPost at G1
    rw [HB.out.len, hy, her] at G1
    refine G1.mono ?_
    rintro e w3 ⟨rfl, t3⟩
    have S3 := Lib.hid (S2.out.no t3)
    have G2 := refGetFour_any w3 pb n cb b HB.out.len (HB.out.rd.no S3.out.end) HB.out.lt
    rw [hy, her] at G2
    have HG2 := Lib.hid G2
    clear t3 S2 G1 G2 hy her
    go_wp2_with fail
    refine HG2.out.mono ?_
    rintro e w4 ⟨rfl, rfl⟩
    clear HG2
    obtain ⟨tk, htk⟩ : ∃ tk, Nm.took b = tk := ⟨_, rfl⟩
    obtain ⟨E, hE⟩ : ∃ E, Nm.err b = E := ⟨_, rfl⟩
    obtain ⟨xs, hxs⟩ : ∃ xs, Nm.get b = xs := ⟨_, rfl⟩
    have hgl : ∀ wx a' n' c', Calls Tryz.prog 26 #[.slice a' n' c'] wx (GetListPost wx b) → Calls Tryz.prog 26 #[.slice a' n' c'] wx fun e w' => ∃ a c q, q = xs.length ∧ e = .returned (.tuple #[.slice a q c, .int .i64 (tk : Nat), .int .i64 (E : Nat)]) ∧ Own w' wx.heap.size 21 (.slice a q c) (ints .i32 xs) ∧ Touch No wx w' := fun wx a' n' c' h => by
      unfold GetListPost at h; rw [htk, hE, hxs] at h; exact h
    have hrl : ∀ wx a' n' c', Calls Tryz.prog 27 #[.slice a' n' c'] wx (GetListPost wx b) → Calls Tryz.prog 27 #[.slice a' n' c'] wx fun e w' => ∃ a c q, q = xs.length ∧ e = .returned (.tuple #[.slice a q c, .int .i64 (tk : Nat), .int .i64 (E : Nat)]) ∧ Own w' wx.heap.size 21 (.slice a q c) (ints .i32 xs) ∧ Touch No wx w' := fun wx a' n' c' h => by
      unfold GetListPost at h; rw [htk, hE, hxs] at h; exact h
    have Hgl := Lib.hid hgl
    have Hrl := Lib.hid hrl
    obtain ⟨q, hq⟩ : ∃ q, xs.length = q := ⟨_, rfl⟩
    have Hq := Lib.hid hq
    have hq20 : (q : Int) ≤ 4096 := by
      have h1 : xs.length ≤ 4096 := by
        rw [← hxs, Nm.get]
        split
        · rename_i h0; have := (Nm.err_many h0).2.1; simp; omega
        · simp
      omega
    clear hgl hrl htk hE hxs hq
    go_wp2_with fail
    refine (Hgl.out _ _ _ _ (getList_any _ at' n ct b HB.out.len (by omega) hcmax.out (rd_pre (S3.out.rd List.mem_cons_self)) HB.out.lt)).mono ?_
    rintro e w5 ⟨ax, cx, qx, hqx, rfl, ox, t5⟩
    obtain rfl : qx = q := hqx.trans Hq.out
    have S5 := Lib.hid (S3.out.push (born_own t5 ox))
    clear ox t5 S3 hqx
    go_wp2_with fail
    refine (Hgl.out _ _ _ _ (getList_any _ at' n ct b HB.out.len (by omega) hcmax.out (rd_pre (S5.out.rd (List.mem_cons_of_mem _ List.mem_cons_self))) HB.out.lt)).mono ?_
    rintro e w6 ⟨ay, cy, qy, hqy, rfl, oy, t6⟩
    obtain rfl : qy = qx := hqy.trans Hq.out
    have S6 := Lib.hid (S5.out.push (born_own t6 oy))
    clear oy t6 S5 hqy
    go_wp2_with fail
    refine (Hrl.out _ _ _ _ (refGetList_any _ pb n cb b HB.out.len HB.out.cap (by omega) (HB.out.rd.no S6.out.end) HB.out.lt)).mono ?_
    rintro e w7 ⟨az, cz, qz, hqz, rfl, oz, t7⟩
    obtain rfl : qz = qy := hqz.trans Hq.out
    have S7 := Lib.hid (S6.out.no t7)
    have R7 := Lib.hid oz.rd
    clear oz t7 S6 hqz
    go_wp2_with fail
    refine (sameN_any _ ax az qz cx cz xs Hq.out (by omega) (S7.out.rd (List.mem_cons_of_mem _ List.mem_cons_self)) R7.out).mono ?_
    rintro e w8 ⟨rfl, t8⟩
    have S8 := Lib.hid (S7.out.no t8)
    have R8 := Lib.hid (R7.out.no t8)
    clear t8 S7 R7
    go_wp2_with fail
    refine (sameN_any _ ay az qz cy cz xs Hq.out (by omega) (S8.out.rd List.mem_cons_self) R8.out).mono ?_
    rintro e w9 ⟨rfl, t9⟩
    have S9 := Lib.hid (S8.out.no t9)
    clear t9 S8 R8
    go_wp2_with fail
    refine (leftBytes_any _ at' n ct pb cb _ (by rw [List.length_map]; exact HB.out.len) (by omega) hct (by rw [nums_ints]; exact S9.out.rd (List.mem_cons_of_mem _ (List.mem_cons_of_mem _ List.mem_cons_self))) (hrb S9.out.end)).mono ?_
    rintro e w14 ⟨rfl, t14⟩
    have S14 := Lib.hid (S9.out.no t14)
    clear t14 S9
    go_wp2_with fail
    have Sa : Sl w w14 [Part.sl 5 at' (n + 1) ct (nums .u8 b ++ [.int .u8 77]), Part.sl 21 ax qz cx (ints .i32 xs), Part.sl 21 ay qz cy (ints .i32 xs)] := S14.out.perm (List.reverse_perm _).symm
    have Sb := (Sa.imp1 (fun A h => sl_twin h)).push (born_book w14 _ rfl)
    have HS := Lib.hid Sb
    obtain ⟨gk, hgk⟩ : ∃ gk, gk = w14.heap.size := ⟨_, rfl⟩
    rw [← hgk] at HS ⊢
    clear Sa Sb S14 hgk hrb
    refine (HS.out.bytes (by simp) (by simp)).mono ?_
    rintro e v1 ⟨rfl, h1⟩
    have H1 := Lib.hid h1
    clear h1 HS
    go_wp2_with fail
    refine (H1.out.numbers (by simp) (by simp)).mono ?_
    rintro e v2 ⟨rfl, h2⟩
    have H2 := Lib.hid h2
    clear h2 H1
    go_wp2_with fail
    refine (H2.out.numbers (by simp) (by simp)).mono ?_
    rintro e v3 ⟨rfl, h3⟩
    have H3 := Lib.hid h3
    clear h3 H2
    go_wp2_with fail
    refine (H3.out.apart ?hB ?hN bkOk_nil).mono ?_
    case hB =>
      refine ⟨by simp, fun e he => ?_, fun e he => ?_⟩
      · simp only [List.nil_append, List.cons_append, List.mem_cons, List.not_mem_nil, or_false] at he
        rcases he with rfl
        simp
      · simp only [List.nil_append, List.cons_append, List.mem_cons, List.not_mem_nil, or_false] at he
        rcases he with rfl
        dsimp only; omega
    case hN =>
      refine ⟨by simp, fun e he => ?_, fun e he => ?_⟩
      · simp only [List.nil_append, List.cons_append, List.mem_cons, List.not_mem_nil, or_false] at he
        rcases he with rfl | rfl <;> simp
      · simp only [List.nil_append, List.cons_append, List.mem_cons, List.not_mem_nil, or_false] at he
        rcases he with rfl | rfl <;> (dsimp only; omega)
    rintro e v7 ⟨rfl, t7⟩
    have T7 := Lib.hid t7
    clear t7 H3
    go_wp2
    go_ret
    exact ⟨rfl, T7.out⟩
end Go.Proofs.YtmjeigceclmdoaaGreatDoor
