/-
  Package drydocklaw14 by its own text: got, refused.
  Package drydocklaw14 by its own text: alive.
  Pages on disks that stand beside each other; what a failure leaves of pages.
-/
import Derived.Test.YtbglbomnonkljaaDoorPgRead
import Derived.Test.YtbglbomnonkljaaDoorPgTurn
import Derived.Test.YtbglbomnonkljaaDoorStr
import Derived.Test.YtbglbomnonkljaaDoorRdSet
import Derived.Test.YtbglbomnonkljaaDoorDiskSt
import Derived.Lib.SlBytesConst
import Derived.Test.YtbglbomnonkljaaDoorFam
namespace Go.Proofs.YtbglbomnonkljaaDoor
open Go Go.RowKit
set_option linter.unusedSimpArgs false

theorem got_yes (w : World) (x : Nat) (a : Option Addr) (n c : Nat) (q : List Nat) (hq : q.length = n) (hr : Rd w a (nums .u8 q)) :
    Calls Tryd.prog 10 #[.int .u32 (x : Nat), .slice a n c, .int .i64 0, .int .u32 (x : Nat), .string (str q)] w fun e w' => e = .returned (.bool true) ∧ w = w' := by
  have hcv := conv_str w a n c q hq hr
  clear hr hq
  go_enter Tryd.func10, Tryd.ntmps10
  go_wp2
  go_ret
  exact ⟨rfl, rfl⟩
theorem refused_any (w : World) (num : Nat) (a : Option Addr) (n c : Nat) (b : List Nat) (hb : b.length = n) (hc : n ≤ c) (hmax : (c : Int) ≤ 9223372036854775807) (hr : Rd w a (nums .u8 b)) (hlt : ∀ x ∈ b, x < 256) (er : Nat) (her : Pg.err num b = er) :
    Calls Tryd.prog 11 #[.int .u32 (num : Nat), .slice a n c] w fun e w' => e = .returned (.int .i64 (er : Nat)) ∧ Touch No w w' := by
  have CG := Lib.hid (pageGet_any w num a n c b hb hc hmax hr hlt)
  have Her := Lib.hid her
  clear hb hc hmax hr hlt her
  go_enter Tryd.func11, Tryd.ntmps11
  go_wp2_with fail
  refine CG.out.mono ?_
  rintro e w1 ⟨a1, m, rfl, hm, _, t1⟩
  rw [Her.out]
  have T1 := Lib.hid t1
  have hz : (0 < m → er = 0) := fun h => by
    by_cases h0 : er = 0
    · exact h0
    · have := (Pg.err_no (num := num) (b := b) (by rw [Her.out]; exact h0)).2
      rw [this] at hm; simp at hm; omega
  clear t1 hm CG Her
  by_cases h0 : 0 < m
  · obtain rfl := hz h0
    have h0' : (0 : Int) < (m : Nat) := by omega
    clear hz h0
    go_wp2
    go_ret
    exact ⟨rfl, T1.out⟩
  · have h0' : ¬ (0 : Int) < (m : Nat) := by omega
    clear hz h0
    go_wp2
    go_ret
    exact ⟨rfl, T1.out⟩
end Go.Proofs.YtbglbomnonkljaaDoor
namespace Go.Proofs.YtbglbomnonkljaaDoor
open Go Go.RowKit
set_option linter.unusedSimpArgs false

namespace Pg
def a0 : List Nat := put 7 2 [97]
def ax : List Nat := a0.set 255 1
def ay : List Nat := a0.set 16 98
theorem a0_12 : str (a0.take 12) = ⟨#[7, 0, 0, 0, 2, 0, 0, 0, 1, 0, 0, 0]⟩ := by kernel_rfl
theorem ax_err : err 7 ax = 4 := by kernel_rfl
theorem ay_err : err 7 ay = 11 := by kernel_rfl
theorem a0_len : a0.length = 256 := by kernel_rfl
theorem ax_len : ax.length = 256 := by kernel_rfl
theorem ay_len : ay.length = 256 := by kernel_rfl
theorem a0_lt : ∀ x ∈ a0, x < 256 := put_lt (by decide)
theorem ax_lt : ∀ x ∈ ax, x < 256 := fun x hx => by
  rcases List.mem_or_eq_of_mem_set hx with h | h
  · exact a0_lt x h
  · rw [h]; decide
theorem ay_lt : ∀ x ∈ ay, x < 256 := fun x hx => by
  rcases List.mem_or_eq_of_mem_set hx with h | h
  · exact a0_lt x h
  · rw [h]; decide
theorem d4_0 : rE (Dk.new 4) 0 = 11 := by kernel_rfl
theorem d4_1 : rE (Dk.new 4) 1 = 1 := by kernel_rfl
end Pg
def z241 : Array Value := (List.replicate 241 (Value.int .u8 0)).toArray
theorem made241 (wx : World) : (Instr.makeSlice 23 (.int .i64 241) (.int .i64 241)).run Tryd.prog wx = .ok (.slice (some ⟨wx.heap.size, 0, none⟩) 241 241) (wx.alloc (.cells z241 5)) := by
  obtain ⟨I, hi0, hi1, hi2, hi3⟩ := u8_info
  have := run_make (P := Tryd.prog) wx 23 5 I (.int .u8 0) Tryd.underlying23 hi0 hi1 .i64 .i64 (241 : Int) (241 : Int) (by omega) (by omega) (by rw [hi3]; omega) (by omega)
  rw [this, hi2]
  show Result.ok _ (wx.alloc (.cells (madeCells #[Value.int .u8 0] (241 * 1)) _)) = _
  rw [made_fill]; rfl
theorem setCell_size (w : World) (a : Addr) (v : Value) : (w.setCell a v).heap.size = w.heap.size := by simp [World.setCell]
theorem Rd.store {w : World} {a : Option Addr} {vs : List Value} (h : Rd w a vs) {g : Nat} (hg : ∀ b o, a = some ⟨b, o, none⟩ → b ≠ g) (q : Nat) (v : Value) : Rd (w.setCell ⟨g, q, none⟩ v) a vs :=
  h.touch (F := One g) ((Touch.refl (One g) w).setCell (p := ⟨g, q, none⟩) (fun _ => rfl) v) (fun b o e _ => hg b o e)
theorem got_at (w : World) (x : Nat) (a : Option Addr) (n c : Nat) (q : List Nat) (S : ByteArray) (hS : str q = S) (hq : q.length = n) (hr : Rd w a (nums .u8 q)) :
    Calls Tryd.prog 10 #[.int .u32 (x : Nat), .slice a n c, .int .i64 0, .int .u32 (x : Nat), .string S] w fun e w' => e = .returned (.bool true) ∧ w = w' := by
  subst hS; exact got_yes w x a n c q hq hr
theorem page_at (w : World) (num : Nat) (a : Option Addr) (n c : Nat) (b : List Nat) (hb : b.length = n) (hc : n ≤ c) (hmax : (c : Int) ≤ 9223372036854775807) (hr : Rd w a (nums .u8 b)) (hlt : ∀ x ∈ b, x < 256) (er ep : Nat) (q : List Nat) (her : Pg.err num b = er) (hep : Pg.epochOf num b = ep) (hq : Pg.bodyOf num b = q) (m : Nat) (hm : q.length = m) :
    Calls Tryd.prog 9 #[.int .u32 (num : Nat), .slice a n c] w fun e w' => ∃ a', e = .returned (.tuple #[.int .u32 (ep : Nat), .slice a' m m, .int .i64 (er : Nat)]) ∧ Rd w' a' (nums .u8 q) ∧ Touch No w w' := by
  subst her hep hq hm
  exact (pageGet_any w num a n c b hb hc hmax hr hlt).mono fun e w' ⟨a', n', he, hn, ⟨c', o⟩, t⟩ => by
    subst hn
    exact ⟨a', he, o.rd, t⟩
theorem pread_at (w : World) (d : Nat) (D : Dk.Disk) (O : Nat → Prop) (num : Nat) (hnum : num < 4294967296) (h : DiskAt w d D O) (er ep : Nat) (q : List Nat) (her : Pg.rE D num = er) (hep : Pg.rN D num = ep) (hq : Pg.rB D num = q) (m : Nat) (hm : q.length = m) :
    Calls Tryd.prog 16 #[dskV (some ⟨d, 0, none⟩), .int .u32 (num : Nat)] w fun e w' => ∃ a', e = .returned (.tuple #[.int .u32 (ep : Nat), .slice a' m m, .int .i64 (er : Nat)]) ∧ Rd w' a' (nums .u8 q) ∧ Touch No w w' := by
  subst her hep hq hm
  exact (pgRead_any w d D O num hnum h).mono fun e w' ⟨a', n', he, hn, ⟨c', o⟩, t⟩ => by
    subst hn
    exact ⟨a', he, o.rd, t⟩
theorem refused_at (w : World) (num : Nat) (a : Option Addr) (c : Nat) (b : List Nat) (hb : b.length = 256) (hc : 256 ≤ c) (hmax : (c : Int) ≤ 9223372036854775807) (hr : Rd w a (nums .u8 b)) (hlt : ∀ x ∈ b, x < 256) (er : Nat) (her : Pg.err num b = er) :
    Calls Tryd.prog 11 #[.int .u32 (num : Nat), .slice a 256 c] w fun e w' => e = .returned (.int .i64 (er : Nat)) ∧ Touch No w w' := refused_any w num a 256 c b hb hc hmax hr hlt er her

set_option maxRecDepth 100000 in
set_option maxHeartbeats 8000000 in
theorem alive_is (w : World) : Calls Tryd.prog 7 #[] w (LawPost w) := by
  obtain ⟨I, hi0, hi1, hi2, hi3⟩ := u8_info
  have HI := Lib.hid (And.intro hi0 (And.intro hi1 (And.intro hi2 hi3)))
  have hhead := fun (wx : World) (a : Option Addr) (c : Nat) (hc : 12 ≤ c) => run_head (P := Tryd.prog) Tryd.underlying23 hi0 hi2 a 256 c 12 .i64 hc wx
  have HH := Lib.hid hhead
  clear hi0 hi1 hi2 hi3 hhead
  have kc := fun (w : World) (C : Array Value) (n c : Nat) => Lib.run_convert_bytes_const (P := Tryd.prog) w 23 5 C n c Tryd.underlying23 Tryd.underlying5
  go_enter Tryd.func7, Tryd.ntmps7
  go_wp2_with fail
  refine (pagePut_any _ 7 2 (by decide) (by decide) _ 1 1 [97] rfl (by decide) (rd_new w 5 #[.int .u8 97] _) (by decide)).mono ?_
  rintro e w1 ⟨a1, c1, rfl, o1, t1⟩
  replace o1 : Own w1 (w.alloc (.cells #[.int .u8 97] 5 (1, 2))).heap.size 5 (.slice a1 256 c1) (nums .u8 Pg.a0) := o1
  clear kc
  obtain ⟨hc1, hm1, -⟩ := o1.room
  obtain ⟨g1, p1, rfl, hk1⟩ := o1.rd.num (i := 0) (by have := Pg.a0_len; omega)
  have G1 := Lib.hid (lt_of_cell hk1)
  clear hk1
  have hcv : (convert 23 9 (.slice (some ⟨g1, p1, none⟩) 12 c1)).run Tryd.prog w1 = .ok (.string ⟨#[7, 0, 0, 0, 2, 0, 0, 0, 1, 0, 0, 0]⟩) w1 := by
    rw [conv_str w1 (some ⟨g1, p1, none⟩) 12 c1 (Pg.a0.take 12) (by rw [List.length_take, Pg.a0_len]; rfl) (by have := o1.rd.take 12; rw [nums, ← List.map_take] at this; exact this), Pg.a0_12]
  have hh := fun wx => HH.out wx (some ⟨g1, p1, none⟩) c1 (by omega)
  have T1 := Lib.hid (((Touch.refl No w).alloc (.cells #[.int .u8 97] 5 (1, 2))).trans t1)
  have R1 := Lib.hid o1.rd
  have hc12 : (12 : Int) ≤ (c1 : Nat) := by omega
  clear t1 o1
  go_wp2_with fail
  clear hcv hh hc12
  refine (page_at _ 7 (some ⟨g1, p1, none⟩) 256 c1 Pg.a0 Pg.a0_len hc1 hm1 R1.out Pg.a0_lt 0 2 [97] (by rw [Pg.a0, Pg.put_err (by decide) (by decide) (by decide)]; rfl) (Pg.put_get (by decide) (by decide) (by decide)).1 (Pg.put_get (by decide) (by decide) (by decide)).2 1 rfl).mono ?_
  rintro e w2 ⟨a2, rfl, r2, t2⟩
  have R2 := Lib.hid r2
  have T2 := Lib.hid (T1.out.trans t2)
  have P12 := Lib.hid t2.size
  have R12 := Lib.hid (R1.out.no t2)
  clear r2 t2 R1 T1
  go_wp2_with fail
  refine (got_at _ 2 a2 1 1 [97] _ (by kernel_rfl) rfl R2.out).mono ?_
  rintro e w3 ⟨rfl, rfl⟩
  clear R2
  go_wp2_with fail
  refine (refused_at _ 8 (some ⟨g1, p1, none⟩) c1 Pg.a0 Pg.a0_len hc1 hm1 R12.out Pg.a0_lt 4 (by rw [Pg.a0, Pg.put_err (by decide) (by decide) (by decide)]; rfl)).mono ?_
  rintro e w4 ⟨rfl, t4⟩
  have T4 := Lib.hid (T2.out.trans t4)
  have P14 := Lib.hid (show w1.heap.size ≤ w4.heap.size from Nat.le_trans P12.out t4.size)
  have R4 := Lib.hid (R12.out.no t4)
  clear t4 R12 T2
  have hmk := made241
  have tok1 : True := trivial
  have tok2 : True := trivial
  have G4 := Lib.hid (Nat.lt_of_lt_of_le G1.out (show w1.heap.size ≤ w4.heap.size from P14.out))
  go_wp2_with (first | (have _t := tok1; refine wpList_append_rd rfl _ _ 23 rfl w4.heap.size 5 I (.int .u8 0) 1 Tryd.underlying23 HI.out.1 HI.out.2.1 HI.out.2.2.1 HI.out.2.2.2 rfl _ _ (Own.nil _ w4.heap.size 5) rfl (some ⟨g1, p1, none⟩) 256 c1 (nums .u8 Pg.a0) rfl (by rw [nums_length]; exact Pg.a0_len) R4.out (nums_one _ _) (by decide) (by decide) (by first | exact Nat.le_refl _ | exact Nat.le_of_eq (setCell_size _ _ _).symm) ?_; intro v5 w5 o5 t5; clear _t tok1; obtain ⟨a5, c5, rfl, hc5, -⟩ := o5.form' (n := 256) (by rw [List.nil_append, nums_length]; exact Pg.a0_len); obtain ⟨g5, p5, rfl, k5⟩ := o5.rd.num (i := 255) (by have := Pg.a0_len; omega); have s5 := o5.soft (p5 + 255); have m5 := o5.room.2.1; have T5 := Lib.hid (show Touch No _ _ from t5.mono (fun _ _ h => by cases h)); have O5 := Lib.hid o5; have B5 := Lib.hid (o5.block (k := g5) rfl).1; clear o5 t5; have R5 := Lib.hid (Rd.store (R4.out.no T5.out) (g := g5) (fun b o e => by cases e; have h1 := G4.out; have h2 := B5.out; omega) (p5 + 255) (.int .u8 1)); have S5 := Lib.hid (show g5 < (w5.setCell ⟨g5, p5 + 255, none⟩ (.int .u8 1)).heap.size from by rw [setCell_size]; exact lt_of_cell k5); have X5 := Lib.hid (O5.out.rd.set (p := 255) (by rw [List.nil_append, nums_length, Pg.a0_len]; decide) (.int .u8 1))) | (have _t := tok2; refine wpList_append_rd rfl _ _ 23 rfl w5.heap.size 5 I (.int .u8 0) 1 Tryd.underlying23 HI.out.1 HI.out.2.1 HI.out.2.2.1 HI.out.2.2.2 rfl _ _ (Own.nil _ w5.heap.size 5) rfl (some ⟨g1, p1, none⟩) 256 c1 (nums .u8 Pg.a0) rfl (by rw [nums_length]; exact Pg.a0_len) R5.out (nums_one _ _) (by decide) (by decide) (by first | exact Nat.le_refl _ | exact Nat.le_of_eq (setCell_size _ _ _).symm) ?_; intro v6 w6 o6 t6; clear _t tok2; obtain ⟨a6, c6, rfl, hc6, -⟩ := o6.form' (n := 256) (by rw [List.nil_append, nums_length]; exact Pg.a0_len); obtain ⟨g6, p6, rfl, k6⟩ := o6.rd.num (i := 16) (by have := Pg.a0_len; omega); have s6 := o6.soft (p6 + 16); have m6 := o6.room.2.1; have T6 := Lib.hid (show Touch No _ _ from t6.mono (fun _ _ h => by cases h)); have O6 := Lib.hid o6; have B6 := Lib.hid (o6.block (k := g6) rfl).1; clear o6 t6; have z6 := trivial))
  have s54 : g5 < (w5.setCell ⟨g5, p5 + 255, none⟩ (.int .u8 1)).heap.size := S5.out
  rw [setCell_size] at s54
  have s65 := B6.out
  try rw [setCell_size] at s65
  have hne : g5 ≠ g6 := by omega
  have X6 := Lib.hid (Rd.store (X5.out.no T6.out) (g := g6) (fun b o e => by cases e; exact hne) (p6 + 16) (.int .u8 98))
  have Y6 := Lib.hid (O6.out.rd.set (p := 16) (by rw [List.nil_append, nums_length, Pg.a0_len]; decide) (.int .u8 98))
  have h5w : w.heap.size ≤ g5 := Nat.le_trans T4.out.size B5.out
  have h6w : w.heap.size ≤ g6 := by omega
  have TT := Lib.hid (((((T4.out.trans T5.out).setCell (p := ⟨g5, p5 + 255, none⟩) (fun h => absurd h (Nat.not_lt.2 h5w)) (.int .u8 1)).trans T6.out).setCell (p := ⟨g6, p6 + 16, none⟩) (fun h => absurd h (Nat.not_lt.2 h6w)) (.int .u8 98)))
  clear T4 T5 T6 O6 X5 R5 s54 s65 hne h5w h6w
  have X7 := Lib.hid (show Rd _ (some ⟨g5, p5, none⟩) (nums .u8 Pg.ax) from by have h := X6.out; rw [List.nil_append] at h; exact h)
  have Y7 := Lib.hid (show Rd _ (some ⟨g6, p6, none⟩) (nums .u8 Pg.ay) from by have h := Y6.out; rw [List.nil_append] at h; exact h)
  clear X6 Y6 k5 s5 k6 s6
  obtain ⟨W7, hW7⟩ : ∃ W7, W7 = (w6.setCell ⟨g6, p6 + 16, none⟩ (.int .u8 98)) := ⟨_, rfl⟩
  rw [← hW7] at X7 Y7 TT ⊢
  clear hW7
  refine (pagePut_no _ 1 1 _ 241 241 (by decide)).mono ?_
  rintro e w8 ⟨rfl, h8⟩
  have t8 : Touch No W7 w8 := by rw [← h8]; exact (Touch.refl No _).alloc _
  have X8 := Lib.hid (X7.out.no t8)
  have Y8 := Lib.hid (Y7.out.no t8)
  have T8 := Lib.hid (TT.out.trans t8)
  clear h8 t8 X7 Y7 TT
  go_wp2_with fail
  refine (new_k _ 4 (by decide) (by decide)).mono ?_
  rintro e w9 ⟨d, rfl, h9⟩
  have D9 : St w w9 d (Dk.new 4) := St.made T8.out h9
  have X9 := Lib.hid (X8.out.no h9.1)
  have Y9 := Lib.hid (Y8.out.no h9.1)
  clear h9 X8 Y8 T8
  go_wp2_with fail
  obtain ⟨O, hO, h0w⟩ := D9
  have HO := Lib.hid hO.on
  have T9 := Lib.hid (h0w.mono (G := No) (fun k hk h => absurd hk (Nat.not_lt.2 h)))
  clear hO h0w
  refine (pread_at _ d (Dk.new 4) O 0 (by decide) HO.out 11 0 [] Pg.d4_0 (by rw [Pg.rN, Pg.d4_0]; rfl) (by rw [Pg.rB, Pg.d4_0]; rfl) 0 rfl).mono ?_
  rintro e w10 ⟨a10, rfl, -, t10⟩
  have T10 := Lib.hid (T9.out.trans t10)
  have X10 := Lib.hid (X9.out.no t10)
  have Y10 := Lib.hid (Y9.out.no t10)
  have HO10 := Lib.hid (HO.out.no t10)
  clear t10 T9 X9 Y9 HO
  go_wp2_with fail
  refine (pread_at _ d (Dk.new 4) O 1 (by decide) HO10.out 1 0 [] Pg.d4_1 (by rw [Pg.rN, Pg.d4_1]; rfl) (by rw [Pg.rB, Pg.d4_1]; rfl) 0 rfl).mono ?_
  rintro e w11 ⟨a11, rfl, -, t11⟩
  have T11 := Lib.hid (T10.out.trans t11)
  have X11 := Lib.hid (X10.out.no t11)
  have Y11 := Lib.hid (Y10.out.no t11)
  clear t11 T10 X10 Y10 HO10
  go_wp2_with fail
  refine (pgRead_off _ .nilIface 1 2 (by decide) (fun wx _ => (pgAsk_nil wx 1).mono fun _ _ ⟨h, e⟩ => ⟨h, e ▸ Touch.refl _ _⟩) (Or.inl rfl)).mono ?_
  rintro e w12 ⟨rfl, t12⟩
  have T12 := Lib.hid (T11.out.trans t12)
  have X12 := Lib.hid (X11.out.no t12)
  have Y12 := Lib.hid (Y11.out.no t12)
  clear t12 T11 X11 Y11
  go_wp2_with fail
  refine (refused_at _ 7 _ c5 Pg.ax Pg.ax_len hc5 m5 X12.out Pg.ax_lt 4 Pg.ax_err).mono ?_
  rintro e w13 ⟨rfl, t13⟩
  have T13 := Lib.hid (T12.out.trans t13)
  have Y13 := Lib.hid (Y12.out.no t13)
  clear t13 T12 X12 Y12
  go_wp2_with fail
  refine (refused_at _ 7 _ c6 Pg.ay Pg.ay_len hc6 m6 Y13.out Pg.ay_lt 11 Pg.ay_err).mono ?_
  rintro e w14 ⟨rfl, t14⟩
  have T14 := Lib.hid (T13.out.trans t14)
  clear t14 T13 Y13
  go_wp2_with fail
  refine (pgWrite_off _ .nilIface 0 0 _ 2 (by decide) (fun wx _ => (pgAsk_nil wx 0).mono fun _ _ ⟨h, e⟩ => ⟨h, e ▸ Touch.refl _ _⟩) (Or.inl rfl)).mono ?_
  rintro e w15 ⟨rfl, t15⟩
  have T15 := Lib.hid (T14.out.trans t15)
  clear t15 T14
  go_wp2_with fail
  refine (pgWrite_off _ (dskV none) 0 0 _ 2 (by decide) (fun wx _ => (pgAsk_none wx 0).mono fun _ _ ⟨h, e⟩ => ⟨h, e ▸ Touch.refl _ _⟩) (Or.inr ⟨_, rfl⟩)).mono ?_
  rintro e w16 ⟨rfl, t16⟩
  have T16 := Lib.hid (T15.out.trans t16)
  clear t16 T15
  go_wp2
  go_ret
  exact ⟨rfl, T16.out⟩
end Go.Proofs.YtbglbomnonkljaaDoor
namespace Go.Proofs.YtbglbomnonkljaaDoor
open Go Go.RowKit

theorem Fm.pgWrite {w0 wi : World} {l : List (Nat × Dk.Disk)} {rs : List (Nat × TypeId × List Value)} (h : Fm w0 wi l rs) (i : Nat) {d : Nat} {D : Dk.Disk} (hi : l[i]? = some (d, D)) (num epoch : Nat) (hnum : num < 4294967296) (hep : epoch < 4294967296) (a : Option Addr) (n c : Nat) (q : List Nat) (hq : q.length = n) (hr : Rd wi a (nums .u8 q)) (hlt : ∀ x ∈ q, x < 256) (hw : D.waits.length ≤ 100000) (er : Nat) (her : Pg.wE D num q = er) :
    Calls Tryd.prog 13 #[dskV (some ⟨d, 0, none⟩), .int .u32 (num : Nat), .int .u32 (epoch : Nat), .slice a n c] wi fun e w' => e = .returned (.int .i64 (er : Nat)) ∧ Fm w0 w' (l.set i (d, Pg.wD D num epoch q)) rs := by
  subst her
  obtain ⟨O, hx, hs, hf⟩ := h.use i hi (Pg.wD D num epoch q)
  exact (pgWrite_k wi d D w0.heap.size O num epoch hnum hep a n c q hq hr hlt hs hx hw).mono fun _ _ ⟨he, m⟩ => ⟨he, hf _ m⟩
theorem Fm.pgRead {w0 wi : World} {l : List (Nat × Dk.Disk)} {rs : List (Nat × TypeId × List Value)} (h : Fm w0 wi l rs) (i : Nat) {d : Nat} {D : Dk.Disk} (hi : l[i]? = some (d, D)) (num : Nat) (hnum : num < 4294967296) (er ep : Nat) (q : List Nat) (he : Pg.rE D num = er ∧ Pg.rN D num = ep ∧ Pg.rB D num = q) (m : Nat) (hm : q.length = m) :
    Calls Tryd.prog 16 #[dskV (some ⟨d, 0, none⟩), .int .u32 (num : Nat)] wi fun e w' => ∃ a', e = .returned (.tuple #[.int .u32 (ep : Nat), .slice a' m m, .int .i64 (er : Nat)]) ∧ Rd w' a' (nums .u8 q) ∧ Touch No wi w' := by
  obtain ⟨O, hO, _⟩ := h.st i hi
  exact pread_at wi d D O num hnum hO.on er ep q he.1 he.2.1 he.2.2 m hm
theorem Fm.two {w0 wi : World} {l : List (Nat × Dk.Disk)} {rs : List (Nat × TypeId × List Value)} (h : Fm w0 wi l rs) (i : Nat) {g : Nat} {T : TypeId} {x y : Value} (hr : rs[i]? = some (g, T, [x, y])) :
    wi.cell? ⟨g, 0, none⟩ = some x ∧ wi.cell? ⟨g, 1, none⟩ = some y := by
  have R := h.row g T _ (List.mem_of_getElem? hr)
  exact ⟨R.cell 0, R.cell 1⟩

namespace Dk
def full64 : Nat := 18446744073709551615
theorem full64_bit (i : Nat) : full64.testBit (i % 64) = true := by
  have h : i % 64 < 64 := Nat.mod_lt _ (by decide)
  have e : full64 = 2 ^ 64 - 1 := rfl
  rw [e, Nat.testBit_two_pow_sub_one]; simpa using h
/-- with all kept there is left what is seen -/
def Kept (D : Disk) : Prop := failed full64 (-1) D.sure 0 D.waits = D.seen
theorem kept_sync (D : Disk) : Kept (sync D) := rfl
theorem kept_write {D : Disk} (h : Kept D) (n : Nat) (b : List Nat) : Kept (write D n b) := by
  show failed full64 (-1) D.sure 0 (D.waits ++ [⟨n, pad b, 0⟩]) = D.seen.set n ⟨pad b, 0⟩
  rw [failed_snoc, h, failStep, if_neg (by omega), if_pos (full64_bit _)]
  simp [upd, keptS]
theorem none_kept : ∀ (ws : List Wr) (l : List Sec) (i : Nat), failed 0 (-1) l i ws = l
  | [], _, _ => rfl
  | y :: r, l, i => by
    have e : failStep 0 (-1) l i y = l := by
      rw [failStep, if_neg (by omega), if_neg (by simp)]
    rw [failed, e]; exact none_kept r l (i + 1)
end Dk
namespace Pg
theorem kept_wr {D : Dk.Disk} (h : Dk.Kept D) (p : Nat) (b : List Nat) : ∀ k, Dk.Kept (wr D p b k)
  | 0 => h
  | k + 1 => Dk.kept_write (kept_wr h p b k) _ _
theorem kept_wD {D : Dk.Disk} (h : Dk.Kept D) (p e : Nat) (q : List Nat) : Dk.Kept (wD D p e q) := by
  unfold wD; split
  · exact kept_wr h p _ 4
  · exact h
theorem wr_sure (D : Dk.Disk) (p : Nat) (b : List Nat) : ∀ k, (wr D p b k).sure = D.sure
  | 0 => rfl
  | k + 1 => wr_sure D p b k
theorem wD_sure (D : Dk.Disk) (p e : Nat) (q : List Nat) : (wD D p e q).sure = D.sure := by
  unfold wD; split
  · exact wr_sure D p _ 4
  · rfl
/-- a failure that keeps all, a failure that keeps nothing -/
theorem all_left {D : Dk.Disk} (h : Dk.Kept D) (p : Nat) : rE (Dk.fail D Dk.full64 (-1)) p = rE D p ∧ rN (Dk.fail D Dk.full64 (-1)) p = rN D p ∧ rB (Dk.fail D Dk.full64 (-1)) p = rB D p := by
  have e : (Dk.fail D Dk.full64 (-1)).seen = D.seen := h
  exact r_same (by rw [e]) (fun i _ => by rw [e])
theorem none_left {D D' : Dk.Disk} (h : D.sure = D'.seen) (p : Nat) : rE (Dk.fail D 0 (-1)) p = rE D' p ∧ rN (Dk.fail D 0 (-1)) p = rN D' p ∧ rB (Dk.fail D 0 (-1)) p = rB D' p := by
  have e : (Dk.fail D 0 (-1)).seen = D'.seen := by
    show Dk.failed 0 (-1) D.sure 0 D.waits = _
    rw [Dk.none_kept, h]
  exact r_same (by rw [e]) (fun i _ => by rw [e])
theorem wE_ok {D : Dk.Disk} {p : Nat} {q : List Nat} (h1 : 4 * p + 4 ≤ D.seen.length) (h2 : q.length ≤ 240) : wE D p q = 0 := by
  rw [wE, onD, if_pos h1, if_pos ⟨rfl, h2⟩]
end Pg
end Go.Proofs.YtbglbomnonkljaaDoor
