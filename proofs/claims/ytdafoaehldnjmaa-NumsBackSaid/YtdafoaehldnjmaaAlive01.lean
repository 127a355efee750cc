/-
  Package drydocklaw01 by its own text: alive.
-/
import Derived.Test.YtdafoaehldnjmaaSameN
import Derived.Test.YtdafoaehldnjmaaPutList
namespace Go.Proofs.Ytdafoaehldnjmaa
open Go Go.RowKit
set_option linter.unusedSimpArgs false

def LawPost (w : World) (e : Ending) (w' : World) : Prop := e = .returned (.bool true) ∧ Touch No w w'
def GotList (w : World) (L : List Int) (N T E : Nat) (e : Ending) (w' : World) : Prop :=
  ∃ a c, e = .returned (.tuple #[.slice a N c, .int .i64 (T : Nat), .int .i64 (E : Nat)]) ∧ Own w' w.heap.size 21 (.slice a N c) (ints .i32 L) ∧ Touch No w w'
theorem getList_at (w : World) (a : Option Addr) (n c : Nat) (b : List Nat) (hb : b.length = n) (hnc : n ≤ c) (hmax : (c : Int) ≤ 9223372036854775807) (hr : Rd w a (nums .u8 b)) (hlt : ∀ x ∈ b, x < 256) (L : List Int) (N T E : Nat) (hL : Nm.get b = L) (hN : L.length = N) (hT : Nm.took b = T) (hE : Nm.err b = E) :
    Calls Try.prog 13 #[.slice a n c] w (GotList w L N T E) :=
  (getList_any w a n c b hb hnc hmax hr hlt).mono fun e w' ⟨a', c', n', h1, h2, h3, h4⟩ => by
    subst hL hN hT hE
    subst h1
    exact ⟨a', c', h2, h3, h4⟩

set_option maxRecDepth 100000 in
set_option maxHeartbeats 8000000 in
theorem alive_is (w : World) : Calls Try.prog 7 #[] w (LawPost w) := by
  go_enter Try.func7, Try.ntmps7
  go_wp2_with fail
  have HT0 := Lib.hid ((Touch.refl No w).alloc (.cells #[.int .u8 2, .int .u8 1, .int .u8 0, .int .u8 0, .int .u8 7] 5))
  refine (getFour_ok _ _ 5 5 [2, 1, 0, 0, 7] rfl (by decide) (by decide) (rd_new w 5 #[.int .u8 2, .int .u8 1, .int .u8 0, .int .u8 0, .int .u8 7] _) (by decide)).mono ?_
  rw [show Rt.unfour [2, 1, 0, 0, 7] = 258 from rfl]
  rintro e w1 ⟨rfl, t⟩
  have HT1 := Lib.hid (HT0.out.trans t)
  clear t HT0
  go_wp2_with fail
  refine (getFour_short _ _ 3 3 [1, 2, 3] rfl (by decide) (rd_new w1 5 #[.int .u8 1, .int .u8 2, .int .u8 3] _) (by decide)).mono ?_
  rintro e w2 ⟨rfl, t⟩
  have HT2 := Lib.hid ((HT1.out.alloc _).trans t)
  clear t HT1
  go_wp2_with fail
  refine (getList_at _ _ 9 9 [1, 0, 0, 0, 255, 255, 255, 255, 9] rfl (by decide) (by decide) (rd_new w2 5 #[.int .u8 1, .int .u8 0, .int .u8 0, .int .u8 0, .int .u8 255, .int .u8 255, .int .u8 255, .int .u8 255, .int .u8 9] _) (by decide) [-1] 1 8 0 (by decide) rfl (by decide) (by decide)).mono ?_
  rintro e w3 ⟨al, cl, rfl, ol, t⟩
  have HT3 := Lib.hid ((HT2.out.alloc _).trans t)
  have HL := Lib.hid ol.rd
  clear t HT2 ol
  go_wp2_with fail
  refine (getList_at _ _ 5 5 [1, 0, 0, 0, 5] rfl (by decide) (by decide) (rd_new w3 5 #[.int .u8 1, .int .u8 0, .int .u8 0, .int .u8 0, .int .u8 5] _) (by decide) [] 0 0 5 (by decide) rfl (by decide) (by decide)).mono ?_
  rintro e w4 ⟨a4, c4, rfl, _, t⟩
  have t4 := ((Touch.refl No w3).alloc _).trans t
  have HT4 := Lib.hid (HT3.out.trans t4)
  have HL4 := Lib.hid (HL.out.no t4)
  clear t t4 HT3 HL
  go_wp2_with fail
  refine (getList_at _ _ 4 4 [1, 16, 0, 0] rfl (by decide) (by decide) (rd_new w4 5 #[.int .u8 1, .int .u8 16, .int .u8 0, .int .u8 0] _) (by decide) [] 0 0 3 (by decide) rfl (by decide) (by decide)).mono ?_
  rintro e w5 ⟨a5, c5, rfl, _, t⟩
  have t5 := ((Touch.refl No w4).alloc _).trans t
  have HT5 := Lib.hid (HT4.out.trans t5)
  have HL5 := Lib.hid (HL4.out.no t5)
  clear t t5 HT4 HL4
  go_wp2_with fail
  refine (putFour_any _ _ 1 1 [9] rfl (rd_new w5 5 #[.int .u8 9] _) 258 (by decide) (by decide) 5 rfl).mono ?_
  rintro e w6 ⟨a6, c6, rfl, o6, t⟩
  have t6 := ((Touch.refl No w5).alloc _).trans t
  have HT6 := Lib.hid (HT5.out.trans t6)
  have HL6 := Lib.hid (HL5.out.no t6)
  have hcv : (convert 24 9 (.slice a6 5 c6)).run Try.prog w6 = .ok (.string ⟨#[9, 2, 1, 0, 0]⟩) w6 := conv_str w6 a6 5 c6 _ rfl o6.rd
  clear t t6 HT5 HL5 o6
  go_wp2_with fail
  clear hcv
  refine (putList_any _ none 0 0 [] rfl (Rd.nil _ _) _ 1 1 [-1] rfl (rd_new w6 21 #[.int .i32 (-1)] _) (by decide) (by decide) 8 rfl).mono ?_
  rintro e w7 ⟨a7, c7, rfl, o7, t⟩
  have t7 := ((Touch.refl No w6).alloc _).trans t
  have HT7 := Lib.hid (HT6.out.trans t7)
  have HL7 := Lib.hid (HL6.out.no t7)
  have hcv : (convert 24 9 (.slice a7 8 c7)).run Try.prog w7 = .ok (.string ⟨#[1, 0, 0, 0, 255, 255, 255, 255]⟩) w7 := conv_str w7 a7 8 c7 _ rfl o7.rd
  clear t t7 HT6 HL6 o7
  go_wp2_with fail
  clear hcv
  refine (sameN_any _ al _ 1 cl 1 [-1] rfl (by decide) (HL7.out.no ((Touch.refl No _).alloc _)) (rd_new w7 21 #[.int .i32 (-1)] _)).mono ?_
  rintro e w8 ⟨rfl, t⟩
  have HT8 := Lib.hid ((HT7.out.alloc _).trans t)
  clear t HT7 HL7
  go_wp2
  go_ret
  exact ⟨rfl, HT8.out⟩
end Go.Proofs.Ytdafoaehldnjmaa
