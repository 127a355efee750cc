/-
  Package drydocklaw16 by its own text: the walk of ExtentsTurned.
-/
import Derived.Test.YtakjbdeemifnmaaDoorExTop
import Derived.Test.YtakjbdeemifnmaaDoorSameB
import Derived.Test.YtakjbdeemifnmaaDoorIn
namespace Go.Proofs.YtakjbdeemifnmaaDoor
open Go Go.RowKit
set_option linter.unusedSimpArgs false

theorem same_at (w : World) (a b : Option Addr) (n c d : Nat) (xs : List Nat) (hx : xs.length = n) (hn : (n : Int) ≤ 9223372036854775807)
    (ha : Rd w a (nums .u8 xs)) (hb : Rd w b (nums .u8 xs)) :
    Calls Tryd.prog 12 #[.slice a n c, .slice b n d] w fun e w' => e = .returned (.bool true) ∧ Touch No w w' :=
  (sameBytes_eq w a b n c d xs xs hx hx hn ha hb).mono fun e w' ⟨he, t⟩ => ⟨by rw [he, sameBytes, decide_eq_true rfl], t⟩

set_option maxRecDepth 100000 in
set_option maxHeartbeats 8000000 in
theorem extentsTurned_walk (w : World) (q : Option Addr) (n c : Nat) (b : List Nat) (hB : Bytes w q n c b) (s t x : Nat) (hs : s < 256) (ht : t < 256) (hx : x < 256) :
    Calls Tryd.prog 6 #[.agg #[.slice q n c, .int .u8 (s : Nat), .int .u8 (t : Nat), .int .u8 (x : Nat)]] w (LawPost w) := by
  have HB := Lib.hid hB
  have hnm := hB.nmax
  clear hB
  by_cases hlive : 4000 < n ∨ x = 0
  · have hc : (4000 : Int) < (n : Nat) ∨ ¬ (4000 : Int) < (n : Nat) ∧ x = 0 := by omega
    clear hlive
    rcases hc with h1 | ⟨h1, rfl⟩
    all_goals
      go_enter Tryd.func6, Tryd.ntmps6
      go_wp2_with fail
      refine (lives_is _).mono ?_
      rintro e w2 ⟨rfl, t2⟩
      have T2 := Lib.hid (((Touch.refl No w).alloc _).trans t2)
      clear t2
      go_wp2
      go_ret
      exact ⟨rfl, T2.out⟩
  · have hn4 : ¬ (4000 : Int) < (n : Nat) := by omega
    have hx0 : ((x : Int) == 0) = false := by simp; omega
    obtain ⟨N, hN⟩ : ∃ N, Ex.pages n = N := ⟨_, rfl⟩
    obtain ⟨ids, hids⟩ : ∃ ids, Ex.line 5 1 N = ids := ⟨_, rfl⟩
    obtain ⟨D1, hD1⟩ : ∃ D1, Ex.wD (Dk.new 600) 3 ids b = D1 := ⟨_, rfl⟩
    obtain ⟨D2, hD2⟩ : ∃ D2, Dk.rot D1 s (t % 64) x = D2 := ⟨_, rfl⟩
    obtain ⟨D3, hD3⟩ : ∃ D3, Ex.wD D2 4 ids b = D3 := ⟨_, rfl⟩
    have hN17 : N ≤ 17 := by rw [← hN]; exact Ex.pages17 (by omega)
    obtain ⟨⟨p1, p2, p3, p4, p5, p6, p7⟩, pr⟩ := Ex.turned_plain HB.out.len hN (by omega) HB.out.lt hs (by omega) hx (by omega) hids hD1 hD2 hD3
    have PN := fun w => Lib.hid (exPages_at w (n : Nat) N (by omega) (by rw [show ((n : Nat) : Int).toNat = n by omega]; exact hN))
    have hidl : ids.length = N := by rw [← hids]; exact Ex.line_length _ _ _
    have hidm : ∀ y ∈ ids, y < 4294967296 := fun y hy => by
      rw [← hids] at hy
      obtain ⟨i, hi, rfl⟩ := Ex.line_mem hy
      omega
    have HP := Lib.hid (And.intro p1 (And.intro p2 (And.intro p3 (And.intro p4 (And.intro p5 (And.intro p6 p7))))))
    have HR := Lib.hid pr
    have HN := Lib.hid hN
    have Hids := Lib.hid hids
    have Hidl := Lib.hid hidl
    have Hidm := Lib.hid hidm
    have HD1 := Lib.hid hD1
    have HD2 := Lib.hid hD2
    have HD3 := Lib.hid hD3
    have Hs := Lib.hid hs
    have Hx := Lib.hid hx
    have ht64 : t % 64 < 64 := by omega
    obtain ⟨tm, htm⟩ : ∃ tm, t % 64 = tm := ⟨_, rfl⟩
    have htm2 : (t : Int) % 64 = (tm : Nat) := by omega
    rw [htm] at ht64
    rw [htm] at HD2
    have Htm := Lib.hid ht64
    clear p1 p2 p3 p4 p5 p6 p7 pr hlive hN hids hD1 hD2 hD3 hidl hidm ht64 htm
    obtain ⟨IU, iu0, iu1, iu2, iu3⟩ := u32_info
    have HIU := Lib.hid (And.intro iu0 (And.intro iu1 (And.intro iu2 iu3)))
    clear iu0 iu1 iu2 iu3
    go_enter Tryd.func6, Tryd.ntmps6
    go_wp2_with fail
    obtain ⟨w0, hw0⟩ : ∃ w0, w0 = (w.alloc (.cells #[.slice q n c, .int .u8 (s : Nat), .int .u8 (t : Nat), .int .u8 (x : Nat)] 43)) := ⟨_, rfl⟩
    have t0 : Touch No w w0 := by rw [hw0]; exact (Touch.refl No w).alloc _
    rw [← hw0]
    refine (new_k _ 600 (by decide) (by decide)).mono ?_
    rintro e w1 ⟨d, rfl, h1⟩
    have X1 := Lib.hid (Xt.made (ls := [(q, nums .u8 b)]) t0 (fun p hp => by
      have : p = (q, nums .u8 b) := by simpa using hp
      subst this; exact HB.out.rd.no t0) h1)
    clear h1 hw0 t0
    go_wp2_with fail
    go_loopg [9, 10] N (fun g s9 s10 wr => ∃ (k : Nat) (v : Value), k + g = N ∧ s10 = .int .i64 ((k : Nat) : Int) ∧ s9 = v ∧ Hid (Own wr w1.heap.size 23 v (nums .u32 (Ex.line 5 1 k))) ∧ Hid (Touch No w1 wr))
    case atStart => exact ⟨0, _, by omega, rfl, rfl, Own.nil _ _ _, Touch.refl _ _⟩
    case round =>
      obtain ⟨k, v, hkg, rfl, rfl, O, T⟩ := hrel
      cases gk with
      | zero =>
        obtain rfl : k = N := by omega
        have hlk : (nums .u32 (Ex.line 5 1 k)).length = k := by rw [nums_length, Ex.line_length]
        obtain ⟨al, cl, rfl, _⟩ := O.out.form' hlk
        have O1 := O.out
        rw [Hids.out] at O1
        have X2 := Lib.hid (X1.out.own T.out O1)
        clear O O1 X1 hlk
        have hk17 : k ≤ 17 := by omega
        have Hcap := Lib.hid HB.out.cap
        go_wp2_with fail
        refine (PN _).out.mono ?_
        rintro e w2 ⟨rfl, rfl⟩
        go_wp2_with fail
        refine (X2.out.exWrite 3 (by decide) al k cl ids Hidl.out (by omega) List.mem_cons_self Hidm.out q n c b HB.out.len Hcap.out (by omega) (List.mem_cons_of_mem _ List.mem_cons_self) HB.out.lt (by rw [HN.out]; show 0 + _ ≤ _; omega) 0 HP.out.1 D1 HD1.out).mono ?_
        rintro e w3 ⟨rfl, X3⟩
        have H3 := Lib.hid X3
        clear X3 X2
        go_wp2_with fail
        refine (H3.out.rot s tm x (by rw [HP.out.2.1]; have := Hs.out; omega) Htm.out Hx.out (by have := HP.out.2.2.1; omega)).mono ?_
        rw [HD2.out]
        rintro e w4 ⟨rfl, X4⟩
        have H4 := Lib.hid X4
        clear X4 H3
        rcases HR.out with ⟨h20, h4N, hE, hBy⟩ | ⟨hoff, hE, hBy⟩
        · have k20 : (20 : Int) ≤ (s : Nat) := by omega
          have k4N : (s : Int) < 20 + 4 * (k : Nat) := by omega
          clear h20 h4N
          have HBy := Lib.hid hBy
          clear hBy
          rcases hE with hE | hE
          all_goals
            have HE2 := Lib.hid hE
            clear hE
            go_wp2_with fail
            refine (H4.out.exRead 3 (by decide) al k cl ids Hidl.out (by omega) List.mem_cons_self Hidm.out n (by omega) _ HE2.out [] HBy.out 0 rfl).mono ?_
            rintro e w5 ⟨a5, rfl, X5⟩
            have H5 := Lib.hid (X5.sub (ls' := [(al, nums .u32 ids), (q, nums .u8 b)]) (fun p hp => List.mem_cons_of_mem _ hp))
            clear X5 H4
            go_wp2_with fail
            refine (H5.out.exWrite 4 (by decide) al k cl ids Hidl.out (by omega) List.mem_cons_self Hidm.out q n c b HB.out.len Hcap.out (by omega) (List.mem_cons_of_mem _ List.mem_cons_self) HB.out.lt (by rw [HN.out]; have := HP.out.2.2.2.1; omega) 0 HP.out.2.2.2.2.1 D3 HD3.out).mono ?_
            rintro e w6 ⟨rfl, X6⟩
            have H6 := Lib.hid X6
            clear X6 H5
            go_wp2_with fail
            refine (H6.out.exRead 4 (by decide) al k cl ids Hidl.out (by omega) List.mem_cons_self Hidm.out n (by omega) 0 HP.out.2.2.2.2.2.1 b HP.out.2.2.2.2.2.2 n HB.out.len).mono ?_
            rintro e w7 ⟨a7, rfl, X7⟩
            have H7 := Lib.hid X7
            clear X7 H6
            go_wp2_with fail
            refine (same_at _ a7 q n n c b HB.out.len (by omega) (H7.out.rd List.mem_cons_self) (H7.out.rd (List.mem_cons_of_mem _ (List.mem_cons_of_mem _ List.mem_cons_self)))).mono ?_
            rintro e w8 ⟨rfl, t8⟩
            have T8 := Lib.hid (H7.out.end.trans t8)
            clear t8 H7
            go_wp2_with fail
            refine (lives_is _).mono ?_
            rintro e w9 ⟨rfl, t9⟩
            have T9 := Lib.hid (T8.out.trans t9)
            clear t9 T8
            go_wp2
            go_ret
            exact ⟨rfl, T9.out⟩
        · have hc : (s : Int) < 20 ∨ ((20 : Int) ≤ (s : Nat) ∧ ¬ (s : Int) < 20 + 4 * (k : Nat)) := by omega
          clear hoff
          have HBy := Lib.hid hBy
          have HE2 := Lib.hid hE
          clear hBy hE
          rcases hc with hc | ⟨hc, hc2⟩
          all_goals
            go_wp2_with fail
            refine (H4.out.exRead 3 (by decide) al k cl ids Hidl.out (by omega) List.mem_cons_self Hidm.out n (by omega) 0 HE2.out b HBy.out n HB.out.len).mono ?_
            rintro e w5 ⟨a5, rfl, X5⟩
            have H5 := Lib.hid X5
            clear X5 H4
            go_wp2_with fail
            refine (same_at _ a5 q n n c b HB.out.len (by omega) (H5.out.rd List.mem_cons_self) (H5.out.rd (List.mem_cons_of_mem _ (List.mem_cons_of_mem _ List.mem_cons_self)))).mono ?_
            rintro e w6 ⟨rfl, t6⟩
            have H6 := Lib.hid ((H5.out.no t6).sub (ls' := [(al, nums .u32 ids), (q, nums .u8 b)]) (fun p hp => List.mem_cons_of_mem _ hp))
            clear H5 t6
            go_wp2_with fail
            refine (H6.out.exWrite 4 (by decide) al k cl ids Hidl.out (by omega) List.mem_cons_self Hidm.out q n c b HB.out.len Hcap.out (by omega) (List.mem_cons_of_mem _ List.mem_cons_self) HB.out.lt (by rw [HN.out]; have := HP.out.2.2.2.1; omega) 0 HP.out.2.2.2.2.1 D3 HD3.out).mono ?_
            rintro e w7 ⟨rfl, X7⟩
            have H7 := Lib.hid X7
            clear X7 H6
            go_wp2_with fail
            refine (H7.out.exRead 4 (by decide) al k cl ids Hidl.out (by omega) List.mem_cons_self Hidm.out n (by omega) 0 HP.out.2.2.2.2.2.1 b HP.out.2.2.2.2.2.2 n HB.out.len).mono ?_
            rintro e w8 ⟨a8, rfl, X8⟩
            have H8 := Lib.hid X8
            clear X8 H7
            go_wp2_with fail
            refine (same_at _ a8 q n n c b HB.out.len (by omega) (H8.out.rd List.mem_cons_self) (H8.out.rd (List.mem_cons_of_mem _ (List.mem_cons_of_mem _ List.mem_cons_self)))).mono ?_
            rintro e w9 ⟨rfl, t9⟩
            have T9 := Lib.hid (H8.out.end.trans t9)
            clear t9 H8
            go_wp2_with fail
            refine (lives_is _).mono ?_
            rintro e w10 ⟨rfl, t10⟩
            have T10 := Lib.hid (T9.out.trans t10)
            clear t10 T9
            go_wp2
            go_ret
            exact ⟨rfl, T10.out⟩
      | succ g =>
        have hlt : (k : Int) < (N : Nat) := by omega
        have hk17 : k ≤ 17 := by omega
        have hlk : (nums .u32 (Ex.line 5 1 k)).length = k := by rw [nums_length, Ex.line_length]
        obtain ⟨al, cl, rfl, _⟩ := O.out.form' hlk
        have Hlk := Lib.hid hlk
        have HE : Hid (nums .u32 (Ex.line 5 1 (k + 1)) = nums .u32 (Ex.line 5 1 k) ++ [.int .u32 (5 + (k : Nat))]) := by
          show _ = _
          rw [Ex.line_snoc, nums_append, Nat.one_mul]
          simp [nums]
        clear hlk
        go_wp2_with (first
          | (go_at_call 9; refine (PN _).out.mono ?_; rintro e w' ⟨rfl, rfl⟩)
          | (at_builtin; refine wpList_append1 rfl _ _ _ rfl w1.heap.size _ IU _ 4 Tryd.underlying32 HIU.out.1 HIU.out.2.1 HIU.out.2.2.1 HIU.out.2.2.2 rfl _ _ _ O.out rfl rfl rfl (by rw [Hlk.out]; unfold maxLen; omega) (by rw [Hlk.out]; omega) T.out.size ?_; intro v' w3 hown3 ht3))
        go_roundg g
        case measure => omega
        case rel => exact ⟨k + 1, v', by omega, by go_num, rfl, by rw [HE.out]; exact hown3, T.out.then ht3 (fun i hi e => absurd ((O.out.block e).1) (by omega))⟩
end Go.Proofs.YtakjbdeemifnmaaDoor
