/-
  Package drydocklaw14 by its own text: the walk of PagesPut.
-/
import Derived.Test.YtmjeigceclmdoaaGreatDoorBkLaw
import Derived.Test.YtmjeigceclmdoaaGreatDoorTwinB
import Derived.Test.YtmjeigceclmdoaaGreatDoorPg14
import Derived.Test.YtmjeigceclmdoaaGreatDoorSameN
import Derived.Test.YtmjeigceclmdoaaGreatDoorIn
namespace Go.Proofs.YtmjeigceclmdoaaGreatDoor
open Go Go.RowKit
set_option linter.unusedSimpArgs false

namespace Pg
def putOf (num epoch : Nat) (q : List Nat) : List Nat := if 240 < q.length then [] else put num epoch q
def putErr (q : List Nat) : Nat := if 240 < q.length then 1 else 0
theorem putOf_length (num epoch : Nat) (q : List Nat) : (putOf num epoch q).length ≤ 256 := by
  unfold putOf
  split
  · simp
  · rw [put_length (by omega)]; exact Nat.le_refl _
end Pg
def PutAll (w : World) (x : List Nat) (N E : Nat) (e : Ending) (w' : World) : Prop :=
  ∃ a c, e = .returned (.tuple #[.slice a N c, .int .i64 (E : Nat)]) ∧ Own w' w.heap.size 5 (.slice a N c) (nums .u8 x) ∧ Touch No w w'
theorem putAll_no {w w' : World} {num epoch : Nat} {q x : List Nat} {N E : Nat} (hx : Pg.putOf num epoch q = x) (hN : x.length = N) (hE : Pg.putErr q = E) (hq : 240 < q.length) (t : Touch No w w') : PutAll w x N E (.returned (.tuple #[.slice none 0 0, .int .i64 1])) w' := by
  rw [Pg.putOf, if_pos hq] at hx
  subst hx
  subst hN
  rw [Pg.putErr, if_pos hq] at hE
  subst hE
  exact ⟨none, 0, rfl, Own.nil _ _ _, t⟩
theorem putAll_yes {w w' : World} {e : Ending} {num epoch : Nat} {q x : List Nat} {N E : Nat} (hx : Pg.putOf num epoch q = x) (hN : x.length = N) (hE : Pg.putErr q = E) (hq : ¬ 240 < q.length) (h : PagePut w (Pg.put num epoch q) e w') : PutAll w x N E e w' := by
  rw [Pg.putOf, if_neg hq] at hx
  subst hx
  rw [Pg.put_length (by omega)] at hN
  subst hN
  rw [Pg.putErr, if_neg hq] at hE
  subst hE
  exact h
theorem pagePut_all (w : World) (num epoch : Nat) (hnum : num < 4294967296) (hep : epoch < 4294967296) (a : Option Addr) (n c : Nat) (q : List Nat) (hq : q.length = n) (hr : Rd w a (nums .u8 q)) (hlt : ∀ x ∈ q, x < 256) {x : List Nat} {N E : Nat} (hx : Pg.putOf num epoch q = x) (hN : x.length = N) (hE : Pg.putErr q = E) :
    Calls Tryz.prog 70 #[.int .u32 (num : Nat), .int .u32 (epoch : Nat), .slice a n c] w (PutAll w x N E) := by
  by_cases h : 240 < n
  · refine (pagePut_no w num epoch a n c h).mono ?_
    rintro e w' ⟨rfl, rfl⟩
    exact putAll_no hx hN hE (by omega) (Touch.refl _ _)
  · exact (pagePut_any w num epoch hnum hep a n c q hq (by omega) hr hlt).mono fun e w' h' => putAll_yes hx hN hE (by omega) h'
theorem refPagePut_all (w : World) (num epoch : Nat) (hnum : num < 4294967296) (hep : epoch < 4294967296) (a : Option Addr) (n c : Nat) (q : List Nat) (hq : q.length = n) (hr : Rd w a (nums .u8 q)) (hlt : ∀ x ∈ q, x < 256) {x : List Nat} {N E : Nat} (hx : Pg.putOf num epoch q = x) (hN : x.length = N) (hE : Pg.putErr q = E) :
    Calls Tryz.prog 71 #[.int .u32 (num : Nat), .int .u32 (epoch : Nat), .slice a n c] w (PutAll w x N E) := by
  by_cases h : 240 < n
  · refine (refPagePut_no w num epoch a n c h).mono ?_
    rintro e w' ⟨rfl, rfl⟩
    exact putAll_no hx hN hE (by omega) (Touch.refl _ _)
  · exact (refPagePut_any w num epoch hnum hep a n c q hq (by omega) hr hlt).mono fun e w' h' => putAll_yes hx hN hE (by omega) h'
def GetAll (w : World) (p : Nat) (y : List Nat) (N E : Nat) (e : Ending) (w' : World) : Prop :=
  ∃ a c, N ≤ c ∧ e = .returned (.tuple #[.int .u32 (p : Nat), .slice a N c, .int .i64 (E : Nat)]) ∧ Born w (Part.sl 5 a N c (nums .u8 y)) w'
theorem pageGet_all (w : World) (num : Nat) (a : Option Addr) (n c : Nat) (b : List Nat) (hb : b.length = n) (hc : n ≤ c) (hmax : (c : Int) ≤ 9223372036854775807) (hr : Rd w a (nums .u8 b)) (hlt : ∀ x ∈ b, x < 256) {p : Nat} {y : List Nat} {N E : Nat} (hp : Pg.epochOf num b = p) (hy : Pg.bodyOf num b = y) (hN : y.length = N) (hE : Pg.err num b = E) :
    Calls Tryz.prog 72 #[.int .u32 (num : Nat), .slice a n c] w (GetAll w p y N E) := by
  refine (pageGet_any w num a n c b hb hc hmax hr hlt).mono ?_
  rintro e w' ⟨a', n', rfl, hn', ⟨c', ho⟩, t⟩
  subst hp hy hE hN
  subst hn'
  obtain ⟨_, _, e1, hcc, _⟩ := ho.form
  injection e1 with _ _ e1
  subst e1
  exact ⟨a', _, Nat.le_refl _, rfl, born_sl t (Nat.le_refl _) ho (Nat.le_refl _) (by rw [nums_length] at hcc; exact hcc)⟩
theorem refPageGet_all (w : World) (num : Nat) (a : Option Addr) (n c : Nat) (b : List Nat) (hb : b.length = n) (hc : n ≤ c) (hr : Rd w a (nums .u8 b)) (hlt : ∀ x ∈ b, x < 256) {p : Nat} {y : List Nat} {N E : Nat} (hp : Pg.epochOf num b = p) (hy : Pg.bodyOf num b = y) (hN : y.length = N) (hE : Pg.err num b = E) :
    Calls Tryz.prog 73 #[.int .u32 (num : Nat), .slice a n c] w (GetAll w p y N E) := by
  refine (refPageGet_any w num a n c b hb hc hr hlt).mono ?_
  rintro e w' ⟨a', n', c', rfl, hn', ho, t⟩
  subst hp hy hE hN
  subst hn'
  obtain ⟨_, _, e1, hcc, _⟩ := ho.form
  injection e1 with _ _ e1
  subst e1
  rw [nums_length] at hcc
  exact ⟨a', c', hcc, rfl, born_sl t (Nat.le_refl _) ho hcc (Nat.le_refl _)⟩

set_option maxRecDepth 100000 in
set_option maxHeartbeats 16000000 in
theorem pagesPut_walk (w : World) (num : Nat) (hnum : num < 4294967296) (epoch : Nat) (hep : epoch < 4294967296) (pb : Option Addr) (n cb : Nat) (b : List Nat) (hB : Bytes w pb n cb b) (pl : Option Addr) (m cl : Nat) (z : List Nat) (hL : Bytes w pl m cl z) :
    Calls Tryz.prog 8 #[.int .u32 (num : Nat), .int .u32 (epoch : Nat), .agg #[.slice pb n cb, .slice pl m cl]] w (TruePost w) := by
  have HB := Lib.hid hB
  have HL := Lib.hid hL
  have hnm := hB.nmax
  have hmm := hL.nmax
  clear hB hL
  go_enter Tryz.func8, Tryz.ntmps8
  go_wp2_with fail
  obtain ⟨W0, hW0⟩ : ∃ W0, W0 = w.alloc (.cells #[.slice pb n cb, .slice pl m cl] 106) := ⟨_, rfl⟩
  obtain ⟨G, hG⟩ : ∃ G, G = w.heap.size := ⟨_, rfl⟩
  have hrow : Row W0 G 106 [.slice pb n cb, .slice pl m cl] := by rw [hW0, hG]; exact Row.new w _ _
  have hT0 : Touch No w W0 := by rw [hW0]; exact (Touch.refl No w).alloc _
  have hW0s : G + 1 = W0.heap.size := by rw [hW0, hG]; simp
  have HT0 := Lib.hid hT0
  have HW0s := Lib.hid hW0s
  have HK : Hid (∀ wx, Touch No W0 wx → wx.cell? ⟨G, 0, none⟩ = some (.slice pb n cb) ∧ wx.cell? ⟨G, 1, none⟩ = some (.slice pl m cl)) := fun wx t => ⟨(hrow.touch t id).cell 0, (hrow.touch t id).cell 1⟩
  rw [← hW0, ← hG]
  clear hW0 hG hrow hT0 hW0s
  refine (beyond2 _ (G + 1) 0 2 n m (by rw [HW0s.out, cell_new]; rfl) (by rw [HW0s.out, cell_new]; rfl) hnm hmm).mono ?_
  rintro e w1 ⟨rfl, hw1⟩
  have T1 : Hid (Touch No W0 w1) := by show Touch _ _ _; rw [← hw1]; exact (Touch.refl No W0).alloc _
  clear hw1
  by_cases hbig : 1048576 < n + m
  · rw [decide_eq_true hbig]
    go_wp2
    go_ret
    exact ⟨rfl, HT0.out.trans T1.out⟩
  · rw [decide_eq_false hbig]
    have hn20 : (n : Int) ≤ 1048576 := by omega
    have hm20 : (m : Int) ≤ 1048576 := by omega
    clear hbig
    have hrb : Hid (∀ wx : World, Touch No W0 wx → Rd wx pb (nums .u8 b)) := fun wx t => HB.out.rd.no (HT0.out.trans t)
    have hrl : Hid (∀ wx : World, Touch No W0 wx → Rd wx pl (nums .u8 z)) := fun wx t => HL.out.rd.no (HT0.out.trans t)
    obtain ⟨k0, k1⟩ := HK.out _ T1.out
    go_wp2_with fail
    clear k0 k1
    refine (twinBytes_any _ pb n cb (b.map fun (x : Nat) => (x : Int)) (by rw [List.length_map]; exact HB.out.len) (by omega) (by rw [nums_ints]; exact hrb.out _ T1.out)).mono ?_
    rintro e w2 ⟨at', ct, rfl, hct, ot, t2⟩
    rw [nums_ints] at ot
    have S2 := Lib.hid ((Sl.nil T1.out).push (born_own t2 ot))
    clear ot t2 T1
    obtain ⟨k0, k1⟩ := HK.out _ S2.out.end
    go_wp2_with fail
    clear k0 k1
    refine (twinBytes_any _ pl m cl (z.map fun (x : Nat) => (x : Int)) (by rw [List.length_map]; exact HL.out.len) (by omega) (by rw [nums_ints]; exact hrl.out _ S2.out.end)).mono ?_
    rintro e w3 ⟨au, cu, rfl, hcu, ou, t3⟩
    rw [nums_ints] at ou
    have hcmax : Hid ((cu : Int) ≤ 9223372036854775807) := by
      have h := ou.room.2.1
      exact h
    have S3 := Lib.hid (S2.out.push (born_own t3 ou))
    clear ou t3 S2
    obtain ⟨X, hX⟩ : ∃ X, Pg.putOf num epoch b = X := ⟨_, rfl⟩
    obtain ⟨N, hN⟩ : ∃ N, X.length = N := ⟨_, rfl⟩
    obtain ⟨E, hE⟩ : ∃ E, Pg.putErr b = E := ⟨_, rfl⟩
    have hN256 : N ≤ 256 := by rw [← hN, ← hX]; exact Pg.putOf_length _ _ _
    have HX := Lib.hid hX
    have HN := Lib.hid hN
    have HE := Lib.hid hE
    clear hX hN hE
    go_wp2_with fail
    refine (pagePut_all _ num epoch hnum hep at' n ct b HB.out.len (rd_pre (S3.out.rd (List.mem_cons_of_mem _ List.mem_cons_self))) HB.out.lt HX.out HN.out HE.out).mono ?_
    rintro e w4 ⟨ax, cx, rfl, ox, t4⟩
    have S4 := Lib.hid (S3.out.push (born_own t4 ox))
    clear ox t4 S3
    go_wp2_with fail
    refine (pagePut_all _ num epoch hnum hep at' n ct b HB.out.len (rd_pre (S4.out.rd (List.mem_cons_of_mem _ (List.mem_cons_of_mem _ List.mem_cons_self)))) HB.out.lt HX.out HN.out HE.out).mono ?_
    rintro e w5 ⟨ay, cy, rfl, oy, t5⟩
    have S5 := Lib.hid (S4.out.push (born_own t5 oy))
    clear oy t5 S4
    obtain ⟨k0, k1⟩ := HK.out _ S5.out.end
    go_wp2_with fail
    clear k0 k1
    refine (refPagePut_all _ num epoch hnum hep pb n cb b HB.out.len (hrb.out _ S5.out.end) HB.out.lt HX.out HN.out HE.out).mono ?_
    rintro e w6 ⟨av, cv, rfl, ov, t6⟩
    have S6 := Lib.hid (S5.out.no t6)
    have V6 := Lib.hid ov.rd
    clear ov t6 S5
    obtain ⟨p, hp⟩ : ∃ p, Pg.epochOf num z = p := ⟨_, rfl⟩
    obtain ⟨Y, hY⟩ : ∃ Y, Pg.bodyOf num z = Y := ⟨_, rfl⟩
    obtain ⟨M, hM⟩ : ∃ M, Y.length = M := ⟨_, rfl⟩
    obtain ⟨F, hF⟩ : ∃ F, Pg.err num z = F := ⟨_, rfl⟩
    have hM240 : M ≤ 240 := by
      rw [← hM, ← hY, Pg.bodyOf]
      split
      · rename_i h0
        have hf : Pg.form z := by
          rw [Pg.err] at h0
          split at h0
          · assumption
          · cases h0
        rw [Pg.body_len0 hf]; exact hf.2.1
      · simp
    have Hp := Lib.hid hp
    have HY := Lib.hid hY
    have HM := Lib.hid hM
    have HF := Lib.hid hF
    clear hp hY hM hF
    go_wp2_with fail
    refine (pageGet_all _ num au m cu z HL.out.len (by omega) hcmax.out (rd_pre (S6.out.rd (List.mem_cons_of_mem _ (List.mem_cons_of_mem _ List.mem_cons_self)))) HL.out.lt Hp.out HY.out HM.out HF.out).mono ?_
    rintro e w7 ⟨aa, ca, hca, rfl, born7⟩
    have S7 := Lib.hid (S6.out.push born7)
    have V7 := Lib.hid (V6.out.no born7.1)
    clear born7 S6 V6
    obtain ⟨k0, k1⟩ := HK.out _ S7.out.end
    go_wp2_with fail
    clear k0 k1
    refine (refPageGet_all _ num pl m cl z HL.out.len HL.out.cap (hrl.out _ S7.out.end) HL.out.lt Hp.out HY.out HM.out HF.out).mono ?_
    rintro e w8 ⟨ab, cab, _, rfl, born8⟩
    have S8 := Lib.hid (S7.out.no born8.1)
    have V8 := Lib.hid (V7.out.no born8.1)
    have B8 := Lib.hid (((Sl.nil (Touch.refl No _)).push born8).rd List.mem_cons_self)
    clear born8 S7 V7
    obtain ⟨k0, k1⟩ := HK.out _ S8.out.end
    go_wp2_with fail
    refine (sameB_any _ ax av N cx cv X HN.out (by omega) (S8.out.rd (List.mem_cons_of_mem _ (List.mem_cons_of_mem _ List.mem_cons_self))) V8.out).mono ?_
    rintro e w9 ⟨rfl, t9⟩
    have S9 := Lib.hid (S8.out.no t9)
    have V9 := Lib.hid (V8.out.no t9)
    have B9 := Lib.hid (B8.out.no t9)
    clear t9 S8 V8 B8 k0 k1
    obtain ⟨k0, k1⟩ := HK.out _ S9.out.end
    go_wp2_with fail
    clear k0 k1
    refine (sameB_any _ ay av N cy cv X HN.out (by omega) (S9.out.rd (List.mem_cons_of_mem _ List.mem_cons_self)) V9.out).mono ?_
    rintro e w10 ⟨rfl, t10⟩
    have S10 := Lib.hid (S9.out.no t10)
    have B10 := Lib.hid (B9.out.no t10)
    clear t10 S9 V9 B9
    go_wp2_with fail
    refine (sameB_any _ aa ab M ca cab Y HM.out (by omega) (S10.out.rd List.mem_cons_self) B10.out).mono ?_
    rintro e w11 ⟨rfl, t11⟩
    have S11 := Lib.hid (S10.out.no t11)
    clear t11 S10 B10
    obtain ⟨k0, k1⟩ := HK.out _ S11.out.end
    go_wp2_with fail
    clear k0 k1
    refine (leftBytes_any _ at' n ct pb cb (b.map fun (x : Nat) => (x : Int)) (by rw [List.length_map]; exact HB.out.len) (by omega) hct (by rw [nums_ints]; exact S11.out.rd (List.mem_cons_of_mem _ (List.mem_cons_of_mem _ (List.mem_cons_of_mem _ (List.mem_cons_of_mem _ List.mem_cons_self))))) (by rw [nums_ints]; exact hrb.out _ S11.out.end)).mono ?_
    rintro e w12 ⟨rfl, t12⟩
    have S12 := Lib.hid (S11.out.no t12)
    clear t12 S11
    obtain ⟨k0, k1⟩ := HK.out _ S12.out.end
    go_wp2_with fail
    clear k0 k1
    refine (leftBytes_any _ au m cu pl cl (z.map fun (x : Nat) => (x : Int)) (by rw [List.length_map]; exact HL.out.len) (by omega) hcu (by rw [nums_ints]; exact S12.out.rd (List.mem_cons_of_mem _ (List.mem_cons_of_mem _ (List.mem_cons_of_mem _ List.mem_cons_self)))) (by rw [nums_ints]; exact hrl.out _ S12.out.end)).mono ?_
    rintro e w15 ⟨rfl, t15⟩
    have S15 := Lib.hid (S12.out.no t15)
    clear t15 S12
    go_wp2_with fail
    have Sa : Sl W0 w15 [Part.sl 5 at' (n + 1) ct (nums .u8 b ++ [.int .u8 77]), Part.sl 5 au (m + 1) cu (nums .u8 z ++ [.int .u8 77]), Part.sl 5 ax N cx (nums .u8 X), Part.sl 5 ay N cy (nums .u8 X), Part.sl 5 aa M ca (nums .u8 Y)] := S15.out.perm (List.reverse_perm _).symm
    have Sb := (Sa.imp1 (fun A h => sl_twin h)).push (born_book w15 _ rfl)
    have HS := Lib.hid Sb
    obtain ⟨gk, hgk⟩ : ∃ gk, gk = w15.heap.size := ⟨_, rfl⟩
    rw [← hgk] at HS ⊢
    clear Sa Sb S15 hgk hrb hrl HK
    refine (HS.out.bytes (by simp) (by simp)).mono ?_
    rintro e v1 ⟨rfl, h1⟩
    have H1 := Lib.hid (h1.imp2 (fun A h => sl_twin h))
    clear h1 HS
    go_wp2_with fail
    refine (H1.out.bytes (by simp) (by simp)).mono ?_
    rintro e v2 ⟨rfl, h2⟩
    have H2 := Lib.hid h2
    clear h2 H1
    go_wp2_with fail
    refine (H2.out.bytes (by simp) (by simp)).mono ?_
    rintro e v3 ⟨rfl, h3⟩
    have H3 := Lib.hid h3
    clear h3 H2
    go_wp2_with fail
    refine (H3.out.bytes (by simp) (by simp)).mono ?_
    rintro e v4 ⟨rfl, h4⟩
    have H4 := Lib.hid h4
    clear h4 H3
    go_wp2_with fail
    refine (H4.out.bytes (by simp) (by simp)).mono ?_
    rintro e v5 ⟨rfl, h5⟩
    have H5 := Lib.hid h5
    clear h5 H4
    go_wp2_with fail
    refine (H5.out.apart ?hB bkOk_nil bkOk_nil).mono ?_
    case hB =>
      refine ⟨by simp, fun e he => ?_, fun e he => ?_⟩
      · simp only [List.nil_append, List.cons_append, List.mem_cons, List.not_mem_nil, or_false] at he
        rcases he with rfl | rfl | rfl | rfl | rfl <;> simp
      · simp only [List.nil_append, List.cons_append, List.mem_cons, List.not_mem_nil, or_false] at he
        rcases he with rfl | rfl | rfl | rfl | rfl <;> (dsimp only; omega)
    rintro e v7 ⟨rfl, t7⟩
    have T7 := Lib.hid (HT0.out.trans t7)
    clear t7 H5
    go_wp2
    go_ret
    exact ⟨rfl, T7.out⟩
end Go.Proofs.YtmjeigceclmdoaaGreatDoor
