/-
  Package drydocklaw17 by its own text: the walk of RootsPlay.
-/
import Derived.Test.YtkiehoboeiengaaK36
import Derived.Test.YtkiehoboeiengaaK47
import Derived.Test.YtkiehoboeiengaaK48
import Derived.Deep.DeepCutAuto
import Derived.Deep.CutBlock
import Derived.Lib.SmallJoins
namespace Go.Proofs.Ytkiehoboeiengaa
open Go Go.RowKit
set_option linter.unusedSimpArgs false
set_option linter.unusedVariables false

theorem Rt.wD_waits (D : Dk.Disk) (r : Rt.Root) : (Rt.wD D r).waits.length ≤ D.waits.length := by
  unfold Rt.wD; split <;> simp [Dk.sync]
set_option maxRecDepth 100000 in
set_option maxHeartbeats 16000000 in
theorem rootsPlay_walk (w : World) (size : Nat) (hsz : size < 256) (ad : Option Addr) (n cap : Nat) (acts : List RDeed)
    (hn : acts.length = n) (hmax : (n : Int) ≤ 9223372036854775807) (hd : IsRDeeds w ad acts) :
    Calls Try.prog 3 #[.int .u8 (size : Nat), .slice ad n cap] w fun e w' => e = .returned (.bool true) ∧ Touch No w w' := by
  have HN := Lib.hid hn
  have HD := Lib.hid hd
  clear hn hd
  by_cases hbig : 100 < n
  · have hbig' : (100 : Int) < (n : Nat) := by omega
    clear hbig
    go_enter Try.func3, Try.ntmps3
    go_wp2_with fail
    refine (lives_is w).mono ?_
    rintro e w1 ⟨rfl, t1⟩
    have T1 := Lib.hid t1
    clear t1
    go_wp2
    go_ret
    exact ⟨rfl, T1.out⟩
  · have hbig' : ¬ (100 : Int) < (n : Nat) := by omega
    have Hn100 : Hid (n ≤ 100) := by show _ ≤ _; omega
    clear hbig
    go_enter Try.func3, Try.ntmps3
    go_wp2_with fail
    have C1 := new_k w (1 + size) (by omega) (by omega)
    rw [show ((1 + size : Nat) : Int) = 1 + (size : Int) from by omega] at C1
    refine C1.mono ?_
    rintro e w1 ⟨d0, rfl, m1⟩
    have S1 := Lib.hid ((Sl.nil (Touch.refl No w)).push (born_disk m1))
    have C2 := refNew3_ok w1 (1 + size) (by omega) (by omega)
    rw [show ((1 + size : Nat) : Int) = 1 + (size : Int) from by omega] at C2
    have HC2 := Lib.hid C2
    clear m1 C1 C2
    go_wp2_with fail
    refine HC2.out.mono ?_
    rintro e w2 ⟨g0, rfl, born2⟩
    have S3 : Hid (Two w w2 d0 g0 (Dk.new (1 + size)) (Dk.new (1 + size)) []) := (S1.out.push born2).perm (List.Perm.swap _ _ _)
    clear born2 S1 HC2
    go_wp2_with fail
    go_loopg [5, 7, 9] n (fun gh s5 s7 s9 wr => ∃ (k d g : Nat) (D : Dk.Disk), k + gh = n ∧ s9 = .int .i64 ((k : Nat) : Int) ∧ s5 = .pointer (some ⟨d, 0, none⟩) ∧ s7 = .pointer (some ⟨g, 0, none⟩) ∧ Hid (Two w wr d g D D []) ∧ Hid (D.waits.length ≤ k))
    case atStart => exact ⟨0, d0, g0, _, by omega, rfl, rfl, rfl, S3.out, Nat.zero_le _⟩
    case round =>
      clear S3
      obtain ⟨k, d, g, D, hkg, rfl, rfl, rfl, HS, HW⟩ := hrel
      cases gk with
      | zero =>
        obtain rfl : k = n := by omega
        go_wp2_with fail
        refine (lives_is wr).mono ?_
        rintro e w7 ⟨rfl, t7⟩
        have T7 := Lib.hid (HS.out.end.trans t7)
        clear t7
        go_wp2
        go_ret
        exact ⟨rfl, T7.out⟩
      | succ g' =>
        have hlt : (k : Int) < (n : Nat) := by omega
        obtain ⟨x, hx⟩ : ∃ x, acts[k]? = some x := ⟨_, List.getElem?_eq_getElem (by have := HN.out; omega)⟩
        obtain ⟨c, o, rfl, ha⟩ := (HD.out.touch HS.out.end) k x hx
        have ha0 : ∃ c' o', RDeedAt w c' o' x := by obtain ⟨c', o', _, h⟩ := HD.out k x hx; exact ⟨c', _, h⟩
        obtain ⟨xk, ⟨re, rf, rb⟩, xn, xt, xy, xs, xa, xc, xp, xo⟩ := x
        obtain ⟨m, hm⟩ : ∃ m, xs.length = m := ⟨_, rfl⟩
        have c0 : wr.cell? ⟨c, o + k * 10, none⟩ = some (.int .u8 (xk : Nat)) := ha.cell 0 (by decide)
        have c1 : wr.cell? ⟨c, o + k * 10 + 1, none⟩ = some (.int .u32 (re : Nat)) := ha.cell 1 (by decide)
        have c2 : wr.cell? ⟨c, o + k * 10 + 2, none⟩ = some (.int .u32 (rf : Nat)) := ha.cell 2 (by decide)
        have c3 : wr.cell? ⟨c, o + k * 10 + 3, none⟩ = some (.int .u32 (rb : Nat)) := ha.cell 3 (by decide)
        have c4 : wr.cell? ⟨c, o + k * 10 + 4, none⟩ = some (.int .i64 xn) := ha.cell 4 (by decide)
        have c5 : wr.cell? ⟨c, o + k * 10 + 5, none⟩ = some (.int .i64 xt) := ha.cell 5 (by decide)
        have c6 : wr.cell? ⟨c, o + k * 10 + 6, none⟩ = some (.int .u8 (xy : Nat)) := ha.cell 6 (by decide)
        have c7 : wr.cell? ⟨c, o + k * 10 + 7, none⟩ = some (.slice xa m xc) := by rw [← hm]; exact ha.cell 7 (by decide)
        have c8 : wr.cell? ⟨c, o + k * 10 + 8, none⟩ = some (.int .u64 (xp : Nat)) := ha.cell 8 (by decide)
        have c9 : wr.cell? ⟨c, o + k * 10 + 9, none⟩ = some (.int .i64 xo) := ha.cell 9 (by decide)
        have Hlen := Lib.hid hm
        have Hk8 : Hid (xk < 256) := ha.kind_lt
        have Hy8 : Hid (xy < 256) := ha.by__lt
        have Hk64 : Hid (xp < 18446744073709551616) := ha.keep_lt
        have Hok : Hid (Rt.Root.Ok ⟨re, rf, rb⟩) := ⟨ha.r_epoch_lt, ha.r_first_lt, ha.r_bytes_lt⟩
        have Hx8 : Hid (∀ y ∈ xs, y < 256) := ha.b_each
        have Hrd : Hid (Rd w xa (nums .u8 xs)) := by
          obtain ⟨c', o', h⟩ := ha0
          exact h.b_rd
        clear ha ha0 hm hx
        go_upto_region 11 with fail
        obtain ⟨X, hX⟩ : ∃ X, X = wr.heap.size := ⟨_, rfl⟩
        obtain ⟨w2, hw2⟩ : ∃ w2, w2 = wr.alloc (.cells #[.int .u8 (xk : Nat), .int .u32 (re : Nat), .int .u32 (rf : Nat), .int .u32 (rb : Nat), .int .i64 xn, .int .i64 xt, .int .u8 (xy : Nat), .slice xa m xc, .int .u64 (xp : Nat), .int .i64 xo] 37) := ⟨_, rfl⟩
        have S2 : Hid (Two w w2 d g D D [Part.row X 37 [.int .u8 (xk : Nat), .int .u32 (re : Nat), .int .u32 (rf : Nat), .int .u32 (rb : Nat), .int .i64 xn, .int .i64 xt, .int .u8 (xy : Nat), .slice xa m xc, .int .u64 (xp : Nat), .int .i64 xo]]) := by
          show Two _ _ _ _ _ _ _
          rw [hw2, hX]
          exact HS.out.push (Born.row wr 37 #[.int .u8 (xk : Nat), .int .u32 (re : Nat), .int .u32 (rf : Nat), .int .u32 (rb : Nat), .int .i64 xn, .int .i64 xt, .int .u8 (xy : Nat), .slice xa m xc, .int .u64 (xp : Nat), .int .i64 xo])
        rw [← hw2, ← hX]
        clear hw2 hX HS c0 c1 c2 c3 c4 c5 c6 c7 c8 c9
        have HC : Hid (∀ (w' : World) (d' g' : Nat) (D' R' : Dk.Disk), Two w w' d' g' D' R' [Part.row X 37 [.int .u8 (xk : Nat), .int .u32 (re : Nat), .int .u32 (rf : Nat), .int .u32 (rb : Nat), .int .i64 xn, .int .i64 xt, .int .u8 (xy : Nat), .slice xa m xc, .int .u64 (xp : Nat), .int .i64 xo]] → w'.cell? ⟨X, 1, none⟩ = some (.int .u32 (re : Nat)) ∧ w'.cell? ⟨X, 2, none⟩ = some (.int .u32 (rf : Nat)) ∧ w'.cell? ⟨X, 3, none⟩ = some (.int .u32 (rb : Nat)) ∧ w'.cell? ⟨X, 4, none⟩ = some (.int .i64 xn) ∧ w'.cell? ⟨X, 5, none⟩ = some (.int .i64 xt) ∧ w'.cell? ⟨X, 6, none⟩ = some (.int .u8 (xy : Nat)) ∧ w'.cell? ⟨X, 7, none⟩ = some (.slice xa m xc) ∧ w'.cell? ⟨X, 8, none⟩ = some (.int .u64 (xp : Nat)) ∧ w'.cell? ⟨X, 9, none⟩ = some (.int .i64 xo)) := fun w' d' g' D' R' h => ⟨(h.row List.mem_cons_self).cell 1, (h.row List.mem_cons_self).cell 2, (h.row List.mem_cons_self).cell 3, (h.row List.mem_cons_self).cell 4, (h.row List.mem_cons_self).cell 5, (h.row List.mem_cons_self).cell 6, (h.row List.mem_cons_self).cell 7, (h.row List.mem_cons_self).cell 8, (h.row List.mem_cons_self).cell 9⟩
        have k0 : w2.cell? ⟨X, 0, none⟩ = some (.int .u8 (xk : Nat)) := (S2.out.row List.mem_cons_self).cell 0
        obtain ⟨q, hq⟩ : ∃ q, xk % 10 = q := ⟨_, rfl⟩
        have hq8 : q < 10 := by rw [← hq]; exact Nat.mod_lt _ (by decide)
        have hkq : ((xk : Nat) : Int) % 10 = (q : Nat) := by omega
        have hk100 : k < 100 := by have := Hn100.out; omega
        have Hw1 : Hid (D.waits.length ≤ 1000000) := by show _ ≤ _; have := HW.out; omega
        clear hq
        go_upto_block 2 with fail
        go_cut [5, 7, 11, 12, 13, 14, 55] (fun s5 s7 s11 s12 s13 s14 s55 wx => ∃ (d g : Nat) (D : Dk.Disk), s5 = .pointer (some ⟨d, 0, none⟩) ∧ s7 = .pointer (some ⟨g, 0, none⟩) ∧ Hid (Two w wx d g D D [Part.row X 37 [.int .u8 (xk : Nat), .int .u32 (re : Nat), .int .u32 (rf : Nat), .int .u32 (rb : Nat), .int .i64 xn, .int .i64 xt, .int .u8 (xy : Nat), .slice xa m xc, .int .u64 (xp : Nat), .int .i64 xo]]) ∧ Hid (D.waits.length ≤ k + 1))
        case first =>
          obtain ⟨wc, hwc⟩ : ∃ wc, wc = w2 := ⟨_, rfl⟩
          subst hwc
          have hcases : q = 0 ∨ q = 1 ∨ q = 2 ∨ q = 3 ∨ q = 4 ∨ q = 5 ∨ q = 6 ∨ q = 7 ∨ q = 8 ∨ q = 9 := by omega
          clear hq8
          rcases hcases with rfl | rfl | rfl | rfl | rfl | rfl | rfl | rfl | rfl | rfl
          · have hS : wc.cell? ⟨X, 1, none⟩ = some (.int .u32 (re : Nat)) ∧ wc.cell? ⟨X, 2, none⟩ = some (.int .u32 (rf : Nat)) ∧ wc.cell? ⟨X, 3, none⟩ = some (.int .u32 (rb : Nat)) := ⟨(HC.out _ _ _ _ _ S2.out).1, (HC.out _ _ _ _ _ S2.out).2.1, (HC.out _ _ _ _ _ S2.out).2.2.1⟩
            have S2d := S2.out.no (Touch.refl No wc).drew
            have S2D := Lib.hid S2d
            go_wp2_with fail
            go_region_held3 (fun w' => w'.cell? ⟨X, 1, none⟩ = some (.int .u32 (re : Nat)) ∧ w'.cell? ⟨X, 2, none⟩ = some (.int .u32 (rf : Nat)) ∧ w'.cell? ⟨X, 3, none⟩ = some (.int .u32 (rb : Nat))) (first | exact hS | exact ⟨(HC.out _ _ _ _ _ s10).1, (HC.out _ _ _ _ _ s10).2.1, (HC.out _ _ _ _ _ s10).2.2.1⟩ | exact ⟨(HC.out _ _ _ _ _ s9).1, (HC.out _ _ _ _ _ s9).2.1, (HC.out _ _ _ _ _ s9).2.2.1⟩ | exact ⟨(HC.out _ _ _ _ _ S2d).1, (HC.out _ _ _ _ _ S2d).2.1, (HC.out _ _ _ _ _ S2d).2.2.1⟩) (first
              | (go_at_call 18; refine (S2D.out.rootWriteD ⟨re, rf, rb⟩ Hok.out).mono ?_; rintro e w9 ⟨rfl, s9⟩)
              | (go_at_call 19; refine (s9.rootWriteR ⟨re, rf, rb⟩ Hok.out).mono ?_; rintro e w10 ⟨rfl, s10⟩))
            have S10 := Lib.hid s10
            clear s9 s10 S2d S2D hS
            have Hw4 : Hid ((Rt.wD D ⟨re, rf, rb⟩).waits.length ≤ k + 1) := by show _ ≤ _; have := Rt.wD_waits D ⟨re, rf, rb⟩; have := HW.out; omega
            go_wp2_with fail
            go_meet
            exact ⟨d, g, _, rfl, rfl, S10.out, Hw4.out⟩
          · have hS : wc.cell? ⟨X, 1, none⟩ = some (.int .u32 (re : Nat)) ∧ wc.cell? ⟨X, 2, none⟩ = some (.int .u32 (rf : Nat)) ∧ wc.cell? ⟨X, 3, none⟩ = some (.int .u32 (rb : Nat)) := ⟨(HC.out _ _ _ _ _ S2.out).1, (HC.out _ _ _ _ _ S2.out).2.1, (HC.out _ _ _ _ _ S2.out).2.2.1⟩
            have S2d := S2.out.no (Touch.refl No wc).drew
            have S2D := Lib.hid S2d
            go_wp2_with fail
            go_region_held3 (fun w' => w'.cell? ⟨X, 1, none⟩ = some (.int .u32 (re : Nat)) ∧ w'.cell? ⟨X, 2, none⟩ = some (.int .u32 (rf : Nat)) ∧ w'.cell? ⟨X, 3, none⟩ = some (.int .u32 (rb : Nat))) (first | exact hS | exact ⟨(HC.out _ _ _ _ _ s10).1, (HC.out _ _ _ _ _ s10).2.1, (HC.out _ _ _ _ _ s10).2.2.1⟩ | exact ⟨(HC.out _ _ _ _ _ s9).1, (HC.out _ _ _ _ _ s9).2.1, (HC.out _ _ _ _ _ s9).2.2.1⟩ | exact ⟨(HC.out _ _ _ _ _ S2d).1, (HC.out _ _ _ _ _ S2d).2.1, (HC.out _ _ _ _ _ S2d).2.2.1⟩) (first
              | (go_at_call 18; refine (S2D.out.rootWriteD ⟨re, rf, rb⟩ Hok.out).mono ?_; rintro e w9 ⟨rfl, s9⟩)
              | (go_at_call 19; refine (s9.rootWriteR ⟨re, rf, rb⟩ Hok.out).mono ?_; rintro e w10 ⟨rfl, s10⟩))
            have S10 := Lib.hid s10
            clear s9 s10 S2d S2D hS
            have Hw4 : Hid ((Rt.wD D ⟨re, rf, rb⟩).waits.length ≤ k + 1) := by show _ ≤ _; have := Rt.wD_waits D ⟨re, rf, rb⟩; have := HW.out; omega
            go_wp2_with fail
            go_meet
            exact ⟨d, g, _, rfl, rfl, S10.out, Hw4.out⟩
          · have hS : wc.cell? ⟨X, 1, none⟩ = some (.int .u32 (re : Nat)) ∧ wc.cell? ⟨X, 2, none⟩ = some (.int .u32 (rf : Nat)) ∧ wc.cell? ⟨X, 3, none⟩ = some (.int .u32 (rb : Nat)) := ⟨(HC.out _ _ _ _ _ S2.out).1, (HC.out _ _ _ _ _ S2.out).2.1, (HC.out _ _ _ _ _ S2.out).2.2.1⟩
            have S2d := S2.out.no (Touch.refl No wc).drew
            have S2D := Lib.hid S2d
            go_wp2_with fail
            go_region_held3 (fun w' => w'.cell? ⟨X, 1, none⟩ = some (.int .u32 (re : Nat)) ∧ w'.cell? ⟨X, 2, none⟩ = some (.int .u32 (rf : Nat)) ∧ w'.cell? ⟨X, 3, none⟩ = some (.int .u32 (rb : Nat))) (first | exact hS | exact ⟨(HC.out _ _ _ _ _ s10).1, (HC.out _ _ _ _ _ s10).2.1, (HC.out _ _ _ _ _ s10).2.2.1⟩ | exact ⟨(HC.out _ _ _ _ _ s9).1, (HC.out _ _ _ _ _ s9).2.1, (HC.out _ _ _ _ _ s9).2.2.1⟩ | exact ⟨(HC.out _ _ _ _ _ S2d).1, (HC.out _ _ _ _ _ S2d).2.1, (HC.out _ _ _ _ _ S2d).2.2.1⟩) (first
              | (go_at_call 18; refine (S2D.out.rootWriteD ⟨re, rf, rb⟩ Hok.out).mono ?_; rintro e w9 ⟨rfl, s9⟩)
              | (go_at_call 19; refine (s9.rootWriteR ⟨re, rf, rb⟩ Hok.out).mono ?_; rintro e w10 ⟨rfl, s10⟩))
            have S10 := Lib.hid s10
            clear s9 s10 S2d S2D hS
            have Hw4 : Hid ((Rt.wD D ⟨re, rf, rb⟩).waits.length ≤ k + 1) := by show _ ≤ _; have := Rt.wD_waits D ⟨re, rf, rb⟩; have := HW.out; omega
            go_wp2_with fail
            go_meet
            exact ⟨d, g, _, rfl, rfl, S10.out, Hw4.out⟩
          · have hS : wc.cell? ⟨X, 1, none⟩ = some (.int .u32 (re : Nat)) ∧ wc.cell? ⟨X, 2, none⟩ = some (.int .u32 (rf : Nat)) ∧ wc.cell? ⟨X, 3, none⟩ = some (.int .u32 (rb : Nat)) := ⟨(HC.out _ _ _ _ _ S2.out).1, (HC.out _ _ _ _ _ S2.out).2.1, (HC.out _ _ _ _ _ S2.out).2.2.1⟩
            have S2d := S2.out.no (Touch.refl No wc).drew
            have S2D := Lib.hid S2d
            go_wp2_with fail
            go_region_held3 (fun w' => w'.cell? ⟨X, 1, none⟩ = some (.int .u32 (re : Nat)) ∧ w'.cell? ⟨X, 2, none⟩ = some (.int .u32 (rf : Nat)) ∧ w'.cell? ⟨X, 3, none⟩ = some (.int .u32 (rb : Nat))) (first | exact hS | exact ⟨(HC.out _ _ _ _ _ s10).1, (HC.out _ _ _ _ _ s10).2.1, (HC.out _ _ _ _ _ s10).2.2.1⟩ | exact ⟨(HC.out _ _ _ _ _ s9).1, (HC.out _ _ _ _ _ s9).2.1, (HC.out _ _ _ _ _ s9).2.2.1⟩ | exact ⟨(HC.out _ _ _ _ _ S2d).1, (HC.out _ _ _ _ _ S2d).2.1, (HC.out _ _ _ _ _ S2d).2.2.1⟩) (first
              | (go_at_call 18; refine (S2D.out.rootWriteD ⟨re, rf, rb⟩ Hok.out).mono ?_; rintro e w9 ⟨rfl, s9⟩)
              | (go_at_call 19; refine (s9.rootWriteR ⟨re, rf, rb⟩ Hok.out).mono ?_; rintro e w10 ⟨rfl, s10⟩))
            have S10 := Lib.hid s10
            clear s9 s10 S2d S2D hS
            have Hw4 : Hid ((Rt.wD D ⟨re, rf, rb⟩).waits.length ≤ k + 1) := by show _ ≤ _; have := Rt.wD_waits D ⟨re, rf, rb⟩; have := HW.out; omega
            go_wp2_with fail
            go_meet
            exact ⟨d, g, _, rfl, rfl, S10.out, Hw4.out⟩
          · have hS : wc.cell? ⟨X, 1, none⟩ = some (.int .u32 (re : Nat)) ∧ wc.cell? ⟨X, 2, none⟩ = some (.int .u32 (rf : Nat)) ∧ wc.cell? ⟨X, 3, none⟩ = some (.int .u32 (rb : Nat)) := ⟨(HC.out _ _ _ _ _ S2.out).1, (HC.out _ _ _ _ _ S2.out).2.1, (HC.out _ _ _ _ _ S2.out).2.2.1⟩
            have S2d := S2.out.no (Touch.refl No wc).drew
            have S2D := Lib.hid S2d
            go_wp2_with fail
            go_region_held3 (fun w' => w'.cell? ⟨X, 1, none⟩ = some (.int .u32 (re : Nat)) ∧ w'.cell? ⟨X, 2, none⟩ = some (.int .u32 (rf : Nat)) ∧ w'.cell? ⟨X, 3, none⟩ = some (.int .u32 (rb : Nat))) (first | exact hS | exact ⟨(HC.out _ _ _ _ _ s10).1, (HC.out _ _ _ _ _ s10).2.1, (HC.out _ _ _ _ _ s10).2.2.1⟩ | exact ⟨(HC.out _ _ _ _ _ s9).1, (HC.out _ _ _ _ _ s9).2.1, (HC.out _ _ _ _ _ s9).2.2.1⟩ | exact ⟨(HC.out _ _ _ _ _ S2d).1, (HC.out _ _ _ _ _ S2d).2.1, (HC.out _ _ _ _ _ S2d).2.2.1⟩) (first
              | (go_at_call 18; refine (S2D.out.rootWriteD ⟨re, rf, rb⟩ Hok.out).mono ?_; rintro e w9 ⟨rfl, s9⟩)
              | (go_at_call 19; refine (s9.rootWriteR ⟨re, rf, rb⟩ Hok.out).mono ?_; rintro e w10 ⟨rfl, s10⟩))
            have S10 := Lib.hid s10
            clear s9 s10 S2d S2D hS
            have Hw4 : Hid ((Rt.wD D ⟨re, rf, rb⟩).waits.length ≤ k + 1) := by show _ ≤ _; have := Rt.wD_waits D ⟨re, rf, rb⟩; have := HW.out; omega
            go_wp2_with fail
            go_meet
            exact ⟨d, g, _, rfl, rfl, S10.out, Hw4.out⟩
          · have hS : wc.cell? ⟨X, 4, none⟩ = some (.int .i64 xn) ∧ wc.cell? ⟨X, 5, none⟩ = some (.int .i64 xt) ∧ wc.cell? ⟨X, 6, none⟩ = some (.int .u8 (xy : Nat)) := ⟨(HC.out _ _ _ _ _ S2.out).2.2.2.1, (HC.out _ _ _ _ _ S2.out).2.2.2.2.1, (HC.out _ _ _ _ _ S2.out).2.2.2.2.2.1⟩
            have S2d := S2.out.no (Touch.refl No wc).drew
            have S2D := Lib.hid S2d
            go_wp2_with fail
            go_region_held3 (fun w' => w'.cell? ⟨X, 4, none⟩ = some (.int .i64 xn) ∧ w'.cell? ⟨X, 5, none⟩ = some (.int .i64 xt) ∧ w'.cell? ⟨X, 6, none⟩ = some (.int .u8 (xy : Nat))) (first | exact hS | exact ⟨(HC.out _ _ _ _ _ s10).2.2.2.1, (HC.out _ _ _ _ _ s10).2.2.2.2.1, (HC.out _ _ _ _ _ s10).2.2.2.2.2.1⟩ | exact ⟨(HC.out _ _ _ _ _ s9).2.2.2.1, (HC.out _ _ _ _ _ s9).2.2.2.2.1, (HC.out _ _ _ _ _ s9).2.2.2.2.2.1⟩ | exact ⟨(HC.out _ _ _ _ _ S2d).2.2.2.1, (HC.out _ _ _ _ _ S2d).2.2.2.2.1, (HC.out _ _ _ _ _ S2d).2.2.2.2.2.1⟩) (first
              | (go_at_call 10; refine (S2D.out.rotD xn xt xy Hy8.out Hw1.out).mono ?_; rintro e w9 ⟨rfl, s9⟩)
              | (go_at_call 11; refine (s9.rotR xn xt xy Hy8.out Hw1.out).mono ?_; rintro e w10 ⟨rfl, s10⟩))
            have S10 := Lib.hid s10
            clear s9 s10 S2d S2D hS
            have Hw4 : Hid ((Dk.rotA D xn xt xy).waits.length ≤ k + 1) := by show _ ≤ _; have := Dk.rotA_waits D xn xt xy; have := HW.out; omega
            go_wp2_with fail
            go_meet
            exact ⟨d, g, _, rfl, rfl, S10.out, Hw4.out⟩
          · have hS : wc.cell? ⟨X, 4, none⟩ = some (.int .i64 xn) := (HC.out _ _ _ _ _ S2.out).2.2.2.1
            have S2d := S2.out.no (Touch.refl No wc).drew
            have S2D := Lib.hid S2d
            go_wp2_with fail
            go_region_held3 (fun w' => w'.cell? ⟨X, 4, none⟩ = some (.int .i64 xn)) (first | exact hS | exact (HC.out _ _ _ _ _ s10).2.2.2.1 | exact (HC.out _ _ _ _ _ s9).2.2.2.1 | exact (HC.out _ _ _ _ _ S2d).2.2.2.1) (first
              | (go_at_call 12; refine (S2D.out.badD xn Hw1.out).mono ?_; rintro e w9 ⟨rfl, s9⟩)
              | (go_at_call 13; refine (s9.badR xn Hw1.out).mono ?_; rintro e w10 ⟨rfl, s10⟩))
            have S10 := Lib.hid s10
            clear s9 s10 S2d S2D hS
            have Hw4 : Hid ((Dk.badA D xn).waits.length ≤ k + 1) := by show _ ≤ _; have := Dk.badA_waits D xn; have := HW.out; omega
            go_wp2_with fail
            go_meet
            exact ⟨d, g, _, rfl, rfl, S10.out, Hw4.out⟩
          · have hS : wc.cell? ⟨X, 4, none⟩ = some (.int .i64 xn) ∧ wc.cell? ⟨X, 7, none⟩ = some (.slice xa m xc) := ⟨(HC.out _ _ _ _ _ S2.out).2.2.2.1, (HC.out _ _ _ _ _ S2.out).2.2.2.2.2.2.1⟩
            have S2d := S2.out.no (Touch.refl No wc).drew
            have S2D := Lib.hid S2d
            go_wp2_with fail
            go_region_held3 (fun w' => w'.cell? ⟨X, 4, none⟩ = some (.int .i64 xn) ∧ w'.cell? ⟨X, 7, none⟩ = some (.slice xa m xc)) (first | exact hS | exact ⟨(HC.out _ _ _ _ _ s10).2.2.2.1, (HC.out _ _ _ _ _ s10).2.2.2.2.2.2.1⟩ | exact ⟨(HC.out _ _ _ _ _ s9).2.2.2.1, (HC.out _ _ _ _ _ s9).2.2.2.2.2.2.1⟩ | exact ⟨(HC.out _ _ _ _ _ S2d).2.2.2.1, (HC.out _ _ _ _ _ S2d).2.2.2.2.2.2.1⟩) (first
              | (go_at_call 14; refine (S2D.out.writeD xn xa m xc xs Hlen.out Hx8.out (Hrd.out.no S2D.out.end) Hw1.out).mono ?_; rintro e w9 ⟨rfl, s9⟩)
              | (go_at_call 15; refine (s9.writeR xn xa m xc xs Hlen.out Hx8.out (Hrd.out.no s9.end) Hw1.out).mono ?_; rintro e w10 ⟨rfl, s10⟩))
            have S10 := Lib.hid s10
            clear s9 s10 S2d S2D hS
            have Hw4 : Hid ((Dk.writeA D xn xs).waits.length ≤ k + 1) := by show _ ≤ _; have := Dk.writeA_waits D xn xs; have := HW.out; omega
            go_wp2_with fail
            go_meet
            exact ⟨d, g, _, rfl, rfl, S10.out, Hw4.out⟩
          · obtain ⟨_, _, _, _, _, _, _, k8, k9⟩ := HC.out _ _ _ _ _ S2.out
            go_wp2_with fail
            refine (S2.out.failD xp xo Hk64.out Hw1.out).mono ?_
            rintro e w3 ⟨d', rfl, s3⟩
            have S3 := Lib.hid (s3.perm (List.Perm.swap _ _ _))
            clear s3 k8 k9
            have r3 := S3.out.row List.mem_cons_self
            have k8 : w3.cell? ⟨X, 8, none⟩ = some (.int .u64 (xp : Nat)) := r3.cell 8
            have k9 : w3.cell? ⟨X, 9, none⟩ = some (.int .i64 xo) := r3.cell 9
            clear r3
            go_wp2_with fail
            refine (S3.out.failR xp xo Hk64.out Hw1.out).mono ?_
            rintro e w4 ⟨g', rfl, s4⟩
            have S4 := Lib.hid ((s4.perm (List.Perm.swap _ _ _)).drop)
            clear s4 k8 k9
            have Hw4 : Hid ((Dk.fail D xp xo).waits.length ≤ k + 1) := by show _ ≤ _; simp [Dk.fail]
            go_wp2_with fail
            go_meet
            exact ⟨d', g', _, rfl, rfl, S4.out, Hw4.out⟩
          · obtain ⟨_, _, _, _, _, _, _, k8, k9⟩ := HC.out _ _ _ _ _ S2.out
            go_wp2_with fail
            refine (S2.out.failD xp xo Hk64.out Hw1.out).mono ?_
            rintro e w3 ⟨d', rfl, s3⟩
            have S3 := Lib.hid (s3.perm (List.Perm.swap _ _ _))
            clear s3 k8 k9
            have r3 := S3.out.row List.mem_cons_self
            have k8 : w3.cell? ⟨X, 8, none⟩ = some (.int .u64 (xp : Nat)) := r3.cell 8
            have k9 : w3.cell? ⟨X, 9, none⟩ = some (.int .i64 xo) := r3.cell 9
            clear r3
            go_wp2_with fail
            refine (S3.out.failR xp xo Hk64.out Hw1.out).mono ?_
            rintro e w4 ⟨g', rfl, s4⟩
            have S4 := Lib.hid ((s4.perm (List.Perm.swap _ _ _)).drop)
            clear s4 k8 k9
            have Hw4 : Hid ((Dk.fail D xp xo).waits.length ≤ k + 1) := by show _ ≤ _; simp [Dk.fail]
            go_wp2_with fail
            go_meet
            exact ⟨d', g', _, rfl, rfl, S4.out, Hw4.out⟩
        case rest =>
          obtain ⟨d, g, D, rfl, rfl, S3, W3⟩ := hcut
          clear HW Hw1 S2 HC k0
          have R1 := Lib.hid S3.out.rootReadD
          obtain ⟨fr, hfr⟩ : ∃ fr, Rt.findR D = fr := ⟨_, rfl⟩
          obtain ⟨er, her⟩ : ∃ er, Rt.findE D = er := ⟨_, rfl⟩
          have R2 : Hid (∀ wx, Touch No wc wx → Calls Try.prog 21 #[.pointer (some ⟨g, 0, none⟩)] wx (RootPost wx fr er)) := fun wx t => by rw [← hfr, ← her]; exact (S3.out.no t).rootReadR
          rw [hfr, her] at R1
          obtain ⟨fe, ff, fb⟩ := fr
          clear hfr her
          go_wp2_with fail
          refine R1.out.mono ?_
          rintro e w4 ⟨rfl, t4⟩
          have T4 := Lib.hid t4
          clear t4 R1
          go_wp2_with fail
          refine (R2.out _ (T4.out.alloc _)).mono ?_
          rintro e w5 ⟨rfl, t5⟩
          have hold := (Row.new w4 33 #[.int .u32 (fe : Nat), .int .u32 (ff : Nat), .int .u32 (fb : Nat)]).touch t5 id
          obtain ⟨Y, hY⟩ : ∃ Y, Y = w4.heap.size := ⟨_, rfl⟩
          rw [← hY] at hold ⊢
          have q0 : w5.cell? ⟨Y, 0, none⟩ = some (.int .u32 (fe : Nat)) := hold.cell 0
          have q1 : w5.cell? ⟨Y, 1, none⟩ = some (.int .u32 (ff : Nat)) := hold.cell 1
          have q2 : w5.cell? ⟨Y, 2, none⟩ = some (.int .u32 (fb : Nat)) := hold.cell 2
          have hlt5 : Y < w5.heap.size := lt_of_cell q0
          have T5 := Lib.hid ((T4.out.alloc (.cells #[.int .u32 (fe : Nat), .int .u32 (ff : Nat), .int .u32 (fb : Nat)] 33)).trans t5)
          clear t5 hold hY R2
          obtain ⟨M, hM⟩ : ∃ M, D.waits.length = M := ⟨_, rfl⟩
          have HM1 : Hid (∀ wx, Touch No wc wx → Calls Try.prog 22 #[.pointer (some ⟨d, 0, none⟩)] wx fun e w' => e = .returned (.int .i64 (M : Nat)) ∧ wx = w') := fun wx t => by rw [← hM]; exact (S3.out.no t).waitsD
          have HM2 : Hid (∀ wx, Touch No wc wx → Calls Try.prog 23 #[.pointer (some ⟨g, 0, none⟩)] wx fun e w' => e = .returned (.int .i64 (M : Nat)) ∧ wx = w') := fun wx t => by rw [← hM]; exact (S3.out.no t).waitsR
          have hmm : ((M : Int) != (M : Int)) = false := by simp
          have hee : ((er : Int) != (er : Int)) = false := by simp
          clear hM
          go_wp2_with fail
          refine (HM1.out _ (T5.out.alloc _)).mono ?_
          rintro e w6 ⟨rfl, rfl⟩
          go_wp2_with fail
          refine (HM2.out _ (T5.out.alloc _)).mono ?_
          rintro e w6 ⟨rfl, rfl⟩
          have S6 := Lib.hid ((S3.out.no (T5.out.alloc (.cells #[.int .u32 (fe : Nat), .int .u32 (ff : Nat), .int .u32 (fb : Nat)] 33))).drop)
          go_wp2_with fail
          go_roundg g'
          case measure => omega
          case rel => exact ⟨k + 1, d, g, D, by omega, by go_num, rfl, rfl, S6.out, W3.out⟩
end Go.Proofs.Ytkiehoboeiengaa
