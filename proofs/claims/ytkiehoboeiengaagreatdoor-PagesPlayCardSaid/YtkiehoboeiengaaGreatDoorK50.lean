/-
  PagesPlay proved: whatever is written, and turns, on a disk, what its pages say is exactly as documented, or refused; answers are memory of their own: for every input, the given card. No condition of our own.
  How much a book holds behind so many lists. No program in sight.
  Package drydocklaw14 by its own text: the walk of PagesPlay.
-/
import Derived.Test.YtkiehoboeiengaaGreatDoorK27
import Derived.Test.YtkiehoboeiengaaGreatDoorK49
import Derived.Test.YtkiehoboeiengaaGreatDoorK02
import Derived.Test.YtkiehoboeiengaaGreatDoorK35
namespace Go.Proofs.YtkiehoboeiengaaGreatDoor
open Go Go.RowKit
set_option linter.unusedVariables false

/-- what a book may hold behind so many lists -/
def BkTo (K nb : Nat) (B : List HE) : Prop := nb ≤ K ∧ B.length ≤ K ∧ ∀ e ∈ B, e.k ≤ K ∧ e.n ≤ 40000
theorem BkTo.nil : BkTo 0 0 [] := ⟨Nat.le_refl _, Nat.le_refl _, fun e h => by cases h⟩
theorem BkTo.next {K nb : Nat} {B : List HE} (h : BkTo K nb B) {a : Option Addr} {m c : Nat} (hm : m ≤ 40000) : BkTo (K + 1) (nb + 1) (B ++ [(⟨a, m, c, nb + 1⟩ : HE)]) := by
  obtain ⟨h1, h2, h3⟩ := h
  refine ⟨by omega, by simp; omega, fun e he => ?_⟩
  rcases List.mem_append.1 he with he | he
  · have := h3 e he; omega
  · rw [List.mem_singleton.1 he]
    exact ⟨by show nb + 1 ≤ _; omega, hm⟩
theorem BkTo.more {K K' nb : Nat} {B : List HE} (h : BkTo K nb B) (hk : K ≤ K') : BkTo K' nb B := by
  obtain ⟨h1, h2, h3⟩ := h
  exact ⟨by omega, by omega, fun e he => by have := h3 e he; omega⟩
theorem BkTo.small {K nb : Nat} {B : List HE} (h : BkTo K nb B) (hk : K ≤ 10000) : nb ≤ 1000000 ∧ B.length ≤ 100000 := by
  obtain ⟨h1, h2, _⟩ := h
  omega
theorem BkTo.ok {K nb : Nat} {B : List HE} (h : BkTo K nb B) (hk : K ≤ 10000) : BkOkB B := ⟨by have := h.2.1; omega, fun e he => by have := h.2.2 e he; omega, fun e he => by have := h.2.2 e he; omega⟩
end Go.Proofs.YtkiehoboeiengaaGreatDoor
namespace Go.Proofs.YtkiehoboeiengaaGreatDoor
open Go Go.RowKit
set_option linter.unusedSimpArgs false
set_option linter.unusedVariables false

theorem Pg.bodyOf_le (num : Nat) (b : List Nat) : (Pg.bodyOf num b).length ≤ 240 := by
  unfold Pg.bodyOf
  split
  · rename_i h
    unfold Pg.err at h
    by_cases hf : Pg.form b
    · have := hf.2.1
      unfold Pg.body
      rw [List.length_take]; omega
    · rw [if_neg hf] at h; cases h
  · exact Nat.zero_le _
theorem Pg.rB_le (D : Dk.Disk) (num : Nat) : (Pg.rB D num).length ≤ 240 := by
  unfold Pg.rB
  split
  · exact Pg.bodyOf_le _ _
  · exact Nat.zero_le _
set_option maxRecDepth 100000 in
set_option maxHeartbeats 16000000 in
theorem pagesPlay_walk (w : World) (size : Nat) (hsz : size < 256) (ad : Option Addr) (n cap : Nat) (acts : List PDeed)
    (hn : acts.length = n) (hmax : (n : Int) ≤ 9223372036854775807) (hd : IsPDeeds w ad acts) :
    Calls Tryz.prog 3 #[.int .u8 (size : Nat), .slice ad n cap] w fun e w' => e = .returned (.bool true) ∧ Touch No w w' := by
  have HN := Lib.hid hn
  have HD := Lib.hid hd
  obtain ⟨z, hz⟩ : ∃ z, size % 100 = z := ⟨_, rfl⟩
  have hz100 : z < 100 := by rw [← hz]; exact Nat.mod_lt _ (by decide)
  have hzi : ((size : Nat) : Int) % 100 = (z : Nat) := by omega
  clear hn hd hz
  go_enter Tryz.func3, Tryz.ntmps3
  go_wp2_with fail
  refine (pgGreat_any w ad n cap acts HN.out hmax HD.out).mono ?_
  rintro e w1 ⟨rfl, rfl⟩
  cases hg : pgGreat acts with
  | true =>
    clear hg
    go_wp2
    go_ret
    exact ⟨rfl, Touch.refl _ _⟩
  | false =>
    have HG := Lib.hid hg
    clear hg
    go_wp2_with fail
    have C1 := new_k w (1 + z) (by omega) (by omega)
    rw [show ((1 + z : Nat) : Int) = 1 + (z : Int) from by omega] at C1
    refine C1.mono ?_
    rintro e w1 ⟨d0, rfl, m1⟩
    have S1 := Lib.hid ((Sl.nil (Touch.refl No w)).push (born_disk m1))
    have C2 := refNew3_ok w1 (1 + z) (by omega) (by omega)
    rw [show ((1 + z : Nat) : Int) = 1 + (z : Int) from by omega] at C2
    have HC2 := Lib.hid C2
    clear m1 C1 C2
    go_wp2_with fail
    refine HC2.out.mono ?_
    rintro e w2 ⟨g0, rfl, born2⟩
    have S2 := Lib.hid ((S1.out.push born2).perm (List.Perm.swap _ _ _))
    clear born2 S1 HC2
    go_wp2_with fail
    obtain ⟨gk, hgk⟩ : ∃ gk, gk = w2.heap.size := ⟨_, rfl⟩
    obtain ⟨w3, hw3⟩ : ∃ w3, w3 = w2.alloc (.cells #[.int .i64 0, .slice none 0 0, .slice none 0 0, .slice none 0 0, .slice none 0 0, .slice none 0 0, .slice none 0 0, .slice none 0 0, .slice none 0 0, .slice none 0 0, .slice none 0 0, .slice none 0 0, .slice none 0 0, .slice none 0 0, .slice none 0 0, .slice none 0 0] 47) := ⟨_, rfl⟩
    have S3 : Hid (Two w w3 d0 g0 (Dk.new (1 + z)) (Dk.new (1 + z)) [Part.book gk 0 [] [] [] []]) := by
      have h := S2.out.push (born_book w2 #[.int .i64 0, .slice none 0 0, .slice none 0 0, .slice none 0 0, .slice none 0 0, .slice none 0 0, .slice none 0 0, .slice none 0 0, .slice none 0 0, .slice none 0 0, .slice none 0 0, .slice none 0 0, .slice none 0 0, .slice none 0 0, .slice none 0 0, .slice none 0 0] rfl)
      rw [← hw3, ← hgk] at h
      exact Sl.perm h (List.perm_append_comm (l₁ := [_]) (l₂ := [_, _]))
    rw [← hw3, ← hgk]
    clear hw3 hgk S2
    go_loopg [6, 8, 11] n (fun gh s6 s8 s11 wr => ∃ (k d g nb : Nat) (D : Dk.Disk) (B : List HE), k + gh = n ∧ s11 = .int .i64 ((k : Nat) : Int) ∧ s6 = .pointer (some ⟨d, 0, none⟩) ∧ s8 = .pointer (some ⟨g, 0, none⟩) ∧ Hid (Two w wr d g D D [Part.book gk nb B [] [] []]) ∧ Hid (BkTo (2 * k) nb B) ∧ Hid (D.waits.length ≤ 4 * k))
    case atStart => exact ⟨0, d0, g0, 0, _, [], by omega, rfl, rfl, rfl, S3.out, BkTo.nil, Nat.zero_le _⟩
    case round =>
      clear S3
      obtain ⟨k, d, g, nb, D, B, hkg, rfl, rfl, rfl, HS, HB, HW⟩ := hrel
      have hk100 : k ≤ 100 := by have := (pgGreat_no HG.out).1; have := HN.out; omega
      cases gk with
      | zero =>
        obtain rfl : k = n := by omega
        go_wp2_with fail
        refine (HS.out.apart (HB.out.ok (by omega))).mono ?_
        rintro e w7 ⟨rfl, t7⟩
        have T7 := Lib.hid t7
        clear t7
        go_wp2
        go_ret
        exact ⟨rfl, T7.out⟩
      | succ g' =>
        have hlt : (k : Int) < (n : Nat) := by omega
        obtain ⟨x, hx⟩ : ∃ x, acts[k]? = some x := ⟨_, List.getElem?_eq_getElem (by have := HN.out; omega)⟩
        obtain ⟨c, o, rfl, ha⟩ := (HD.out.touch HS.out.end) k x hx
        have ha0 : ∃ c' o', PDeedAt w c' o' x := by obtain ⟨c', o', _, h⟩ := HD.out k x hx; exact ⟨c', _, h⟩
        have hm5 : x.b.length ≤ 30000 := (pgGreat_no HG.out).2 x (List.mem_of_getElem? hx)
        obtain ⟨xk, xm, xe, xs, xa, xc, xn, xt, xp⟩ := x
        obtain ⟨m, hm⟩ : ∃ m, xs.length = m := ⟨_, rfl⟩
        have c0 : wr.cell? ⟨c, o + k * 7, none⟩ = some (.int .u8 (xk : Nat)) := ha.cell 0 (by decide)
        have c1 : wr.cell? ⟨c, o + k * 7 + 1, none⟩ = some (.int .u32 (xm : Nat)) := ha.cell 1 (by decide)
        have c2 : wr.cell? ⟨c, o + k * 7 + 2, none⟩ = some (.int .u32 (xe : Nat)) := ha.cell 2 (by decide)
        have c3 : wr.cell? ⟨c, o + k * 7 + 3, none⟩ = some (.slice xa m xc) := by rw [← hm]; exact ha.cell 3 (by decide)
        have c4 : wr.cell? ⟨c, o + k * 7 + 4, none⟩ = some (.int .i64 xn) := ha.cell 4 (by decide)
        have c5 : wr.cell? ⟨c, o + k * 7 + 5, none⟩ = some (.int .i64 xt) := ha.cell 5 (by decide)
        have c6 : wr.cell? ⟨c, o + k * 7 + 6, none⟩ = some (.int .u64 (xp : Nat)) := ha.cell 6 (by decide)
        have hm5' : m ≤ 30000 := by rw [← hm]; exact hm5
        have Hlen := Lib.hid hm
        have Hm4 : Hid (xm < 4294967296) := ha.num_lt
        have He4 : Hid (xe < 4294967296) := ha.epoch_lt
        have Hk64 : Hid (xp < 18446744073709551616) := ha.keep_lt
        have hk8 : xk < 256 := ha.kind_lt
        have Hx8 : Hid (∀ y ∈ xs, y < 256) := ha.b_each
        have Hrd : Hid (Rd w xa (nums .u8 xs)) := by
          obtain ⟨c', o', h⟩ := ha0
          exact h.b_rd
        clear ha ha0 hm hx hm5
        go_upto_region 11 with fail
        obtain ⟨X, hX⟩ : ∃ X, X = wr.heap.size := ⟨_, rfl⟩
        obtain ⟨w2, hw2⟩ : ∃ w2, w2 = wr.alloc (.cells #[.int .u8 (xk : Nat), .int .u32 (xm : Nat), .int .u32 (xe : Nat), .slice xa m xc, .int .i64 xn, .int .i64 xt, .int .u64 (xp : Nat)] 52) := ⟨_, rfl⟩
        have S2 : Hid (Two w w2 d g D D [Part.row X 52 [.int .u8 (xk : Nat), .int .u32 (xm : Nat), .int .u32 (xe : Nat), .slice xa m xc, .int .i64 xn, .int .i64 xt, .int .u64 (xp : Nat)], Part.book gk nb B [] [] []]) := by
          show Two _ _ _ _ _ _ _
          rw [hw2, hX]
          exact HS.out.push (Born.row wr 52 #[.int .u8 (xk : Nat), .int .u32 (xm : Nat), .int .u32 (xe : Nat), .slice xa m xc, .int .i64 xn, .int .i64 xt, .int .u64 (xp : Nat)])
        rw [← hw2, ← hX]
        clear hw2 hX HS c0 c1 c2 c3 c4 c5 c6
        have HC : Hid (∀ (w' : World) (d' g' : Nat) (D' R' : Dk.Disk) (E' : List Part), Two w w' d' g' D' R' E' → Part.row X 52 [.int .u8 (xk : Nat), .int .u32 (xm : Nat), .int .u32 (xe : Nat), .slice xa m xc, .int .i64 xn, .int .i64 xt, .int .u64 (xp : Nat)] ∈ E' → w'.cell? ⟨X, 0, none⟩ = some (.int .u8 (xk : Nat)) ∧ w'.cell? ⟨X, 1, none⟩ = some (.int .u32 (xm : Nat)) ∧ w'.cell? ⟨X, 2, none⟩ = some (.int .u32 (xe : Nat)) ∧ w'.cell? ⟨X, 3, none⟩ = some (.slice xa m xc) ∧ w'.cell? ⟨X, 4, none⟩ = some (.int .i64 xn) ∧ w'.cell? ⟨X, 5, none⟩ = some (.int .i64 xt) ∧ w'.cell? ⟨X, 6, none⟩ = some (.int .u64 (xp : Nat))) := fun w' d' g' D' R' E' h hp => ⟨(h.row hp).cell 0, (h.row hp).cell 1, (h.row hp).cell 2, (h.row hp).cell 3, (h.row hp).cell 4, (h.row hp).cell 5, (h.row hp).cell 6⟩
        have hW1 := HW.out
        have Hw9 : Hid (D.waits.length ≤ 90000) := by show _ ≤ _; omega
        have Hw1 : Hid (D.waits.length ≤ 1000000) := by show _ ≤ _; omega
        clear hW1
        obtain ⟨q, hq⟩ : ∃ q, xk % 9 = q := ⟨_, rfl⟩
        have hkq : ((xk : Nat) : Int) % 9 = (q : Nat) := by omega
        have Hq := Lib.hid hq
        clear hq
        obtain ⟨j0, j1, j2, j3, j4, j5, j6⟩ := HC.out _ _ _ _ _ _ S2.out List.mem_cons_self
        go_upto_if 49 with fail
        go_cut [6, 8, 49] (fun s6 s8 s49 wx => ∃ (d g nb' : Nat) (D' : Dk.Disk) (B' : List HE), s6 = .pointer (some ⟨d, 0, none⟩) ∧ s8 = .pointer (some ⟨g, 0, none⟩) ∧ Hid (Two w wx d g D' D' [Part.row X 52 [.int .u8 (xk : Nat), .int .u32 (xm : Nat), .int .u32 (xe : Nat), .slice xa m xc, .int .i64 xn, .int .i64 xt, .int .u64 (xp : Nat)], Part.book gk nb' B' [] [] []]) ∧ Hid (BkTo (2 * k + 1) nb' B') ∧ Hid (D'.waits.length ≤ 4 * k + 4))
        case first =>
          by_cases h7 : q = 7
          · have h7i : (q : Int) = 7 := by omega
            clear h7
            go_wp2_with fail
            refine (S2.out.failD xp xt Hk64.out Hw1.out).mono ?_
            rintro e w3 ⟨d', rfl, s3⟩
            have S3 := Lib.hid s3
            clear s3 j0 j1 j2 j3 j4 j5 j6
            obtain ⟨_, _, _, _, _, j5, j6⟩ := HC.out _ _ _ _ _ _ S3.out (List.mem_cons_of_mem _ List.mem_cons_self)
            go_wp2_with fail
            refine (S3.out.failR xp xt Hk64.out Hw1.out).mono ?_
            rintro e w4 ⟨g', rfl, s4⟩
            have S4 := Lib.hid s4.drop
            clear s4 j5 j6
            have Hw4 : Hid ((Dk.fail D xp xt).waits.length ≤ 4 * k + 4) := by show _ ≤ _; simp [Dk.fail]
            have HB4 := Lib.hid (HB.out.more (K' := 2 * k + 1) (by omega))
            go_wp2_with fail
            go_meet
            exact ⟨d', g', nb, _, B, rfl, rfl, S4.out, HB4.out, Hw4.out⟩
          · have h7i : ¬ (q : Int) = 7 := by omega
            have Hs := Lib.hid (HB.out.small (by omega))
            have C := Lib.hid (fun (wx : World) (E' : List Part) (h : Two w wx d g D D (Part.book gk nb B [] [] [] :: E')) => pgDoes_any w wx d g gk nb D B E' h xk xm xe (by rw [Hq.out]; exact h7) Hm4.out He4.out xa m xc xs xn xt xp Hlen.out hm5' Hrd.out Hx8.out Hw9.out Hs.out.2 Hs.out.1)
            clear h7
            go_wp2_with fail
            refine (C.out w2 _ (S2.out.perm (List.Perm.swap _ _ _))).mono ?_
            rintro e w4 ⟨rfl, D', ta, tc, s4, hw4⟩
            have S4 := Lib.hid (s4.perm (List.Perm.swap _ _ _))
            have Hw4 : Hid (D'.waits.length ≤ 4 * k + 4) := by show _ ≤ _; have := HW.out; omega
            have HB4 := Lib.hid (HB.out.next (a := ta) (m := m) (c := tc) (by omega))
            clear s4 hw4 C
            go_wp2_with fail
            go_meet
            exact ⟨d, g, nb + 1, D', _, rfl, rfl, S4.out, HB4.out, Hw4.out⟩
        case rest =>
          obtain ⟨d', g2, nb', D', B', rfl, rfl, S3, HB3, W3⟩ := hcut
          clear S2 Hw9 Hw1 j0 j1 j2 j3 j4 j5 j6 hkq Hq
          obtain ⟨_, j1, _, _, _, _, _⟩ := HC.out _ _ _ _ _ _ S3.out List.mem_cons_self
          have R1 := Lib.hid (S3.out.pgReadD xm Hm4.out)
          have hB240 := Pg.rB_le D' xm
          obtain ⟨N, hN⟩ : ∃ N, Pg.rN D' xm = N := ⟨_, rfl⟩
          obtain ⟨ER, hE⟩ : ∃ ER, Pg.rE D' xm = ER := ⟨_, rfl⟩
          obtain ⟨BB, hBB⟩ : ∃ BB, Pg.rB D' xm = BB := ⟨_, rfl⟩
          have R2 : Hid (∀ (wx : World) (E' : List Part), Two w wx d' g2 D' D' E' → Calls Tryz.prog 13 #[.pointer (some ⟨g2, 0, none⟩), .int .u32 (xm : Nat)] wx fun e w' => ∃ a n c, e = .returned (.tuple #[.int .u32 (N : Nat), .slice a n c, .int .i64 (ER : Nat)]) ∧ BB.length = n ∧ Rd w' a (nums .u8 BB) ∧ Touch No wx w') := fun wx E' h => by
            rw [← hN, ← hE, ← hBB]
            exact h.pgReadR xm Hm4.out
          rw [hN, hE, hBB] at R1
          rw [hBB] at hB240
          have HB240 := Lib.hid hB240
          have hnn : ((N : Int) != (N : Int)) = false := by simp
          have hee : ((ER : Int) != (ER : Int)) = false := by simp
          clear hN hE hBB hB240
          go_wp2_with fail
          refine R1.out.mono ?_
          rintro e w4 ⟨pa, pn, rfl, hpn, s4⟩
          have S4 := Lib.hid s4
          have Hpn := Lib.hid hpn
          have hp240 : pn ≤ 240 := by rw [← hpn]; exact HB240.out
          clear s4 hpn j1 S3 R1
          obtain ⟨_, j1, _, _, _, _, _⟩ := HC.out _ _ _ _ _ _ S4.out (List.mem_cons_of_mem _ List.mem_cons_self)
          go_wp2_with fail
          refine (R2.out _ _ S4.out).mono ?_
          rintro e w5 ⟨ca, cl, cc, rfl, hcl, hrc, t5⟩
          obtain rfl : cl = pn := by rw [← hcl, Hpn.out]
          have S5 := Lib.hid (S4.out.no t5)
          have Hrc := Lib.hid hrc
          clear hcl hrc t5 S4 R2 j1
          go_wp2_with fail
          refine (sameB_any w5 pa ca cl cl cc _ Hpn.out (by omega) (S5.out.rd List.mem_cons_self) Hrc.out).mono ?_
          rintro e w6 ⟨rfl, t6⟩
          have S6 := Lib.hid ((S5.out.no t6).perm (List.perm_append_comm (l₁ := [_, _]) (l₂ := [_])))
          have Hs := Lib.hid (HB3.out.small (by omega))
          have HB6 := Lib.hid (HB3.out.next (a := pa) (m := cl) (c := cl) (by omega))
          clear t6 S5 Hrc
          go_wp2_with fail
          refine (S6.out.bytes Hs.out.2 Hs.out.1).mono ?_
          rintro e w7 ⟨rfl, s7⟩
          have S7 := Lib.hid ((s7.perm (List.Perm.swap _ _ _)).drop)
          have W7 : Hid (D'.waits.length ≤ 4 * (k + 1)) := by show _ ≤ _; have := W3.out; omega
          have HB7 : Hid (BkTo (2 * (k + 1)) (nb' + 1) (B' ++ [⟨pa, cl, cl, nb' + 1⟩])) := by
            have := HB6.out
            rw [show 2 * k + 1 + 1 = 2 * (k + 1) from by omega] at this
            exact this
          clear s7 S6 HB6
          go_wp2_with fail
          go_roundg g'
          case measure => omega
          case rel => exact ⟨k + 1, d', g2, nb' + 1, D', _, by omega, by go_num, rfl, rfl, S7.out, HB7.out, W7.out⟩
end Go.Proofs.YtkiehoboeiengaaGreatDoor
namespace Go.Proofs.YtkiehoboeiengaaGreatDoor.pagesPlay
open Go.ChangeShapes Go.WideShapes Go.ChangeAt Go.RowKit

set_option maxRecDepth 100000 in
theorem contract (H : Type) (enc : TypeId × Value → H) (W : World) (base : Nat) (args : Array Value) (ds gs : List (DataW H)) (before : List MemPlace)
    (hval : ∀ (j : Nat) t v, Tryz.f3.params[j]? = some t → args[j]? = some v → Value.okWide Tryz.prog W .any base t v)
    (hW : DataW.Whole enc Tryz.prog Tryz.f3.params.toList Rows.pagesPlaySpec.vars false W args.toList ds gs before)
    (hz : ∀ n ∈ DataW.weightsEach Tryz.prog Tryz.f3.params.toList ds, n ≤ reachBytes) :
    Calls Tryz.prog 3 args W fun e W' => ∃ v, e = .returned v ∧ Rows.pagesPlaySpec.post enc Tryz.prog Tryz.f3 false true false false W args v W' := by
  have hW' := hW
  obtain ⟨p, q, hA0, hV, rfl, hfz, hnd⟩ := hW
  have hA : DataW.TrodAll enc Tryz.prog W 0 (fun _ => true) true Tryz.f3.params.toList args.toList ds p := hA0
  rw [Tryz.params3] at hA hval hz
  obtain ⟨v0, vs0, d0, ds0, p0, q0, hargs, rfl, rfl, h0, r0⟩ := trodAll_cons hA
  obtain ⟨v1, vs1, d1, ds1, p1, q1, rfl, rfl, rfl, h1, r1⟩ := trodAll_cons r0
  obtain ⟨rfl, rfl, rfl⟩ := trodAll_nil r1
  obtain rfl : args = #[v0, v1] := by cases args; simp_all
  obtain ⟨rfl, rfl⟩ := trodVars_none hV
  obtain ⟨x0, rfl, rfl, rfl, w0⟩ := open_int Tryz.underlying5 (hval 0 5 v0 rfl rfl) h0
  obtain ⟨m0, rfl, hm0⟩ := wf_u8 w0
  obtain ⟨a1, len1, cap1, rfl⟩ := okWide_slice Tryz.underlying22 (hval 1 22 v1 rfl rfl)
  obtain ⟨fuel1, hf1⟩ := h1
  obtain ⟨ad, n, cap', acts, hcs, hlen, hmax, hacts⟩ := open_p_deeds hf1 (fun k hk => hz k (by simp only [DataW.weightsEach, List.mem_append]; exact Or.inr (Or.inl hk)))
  simp only [Value.cells, List.cons.injEq, Value.slice.injEq, and_true] at hcs
  obtain ⟨rfl, rfl, rfl⟩ := hcs
  refine (pagesPlay_walk W m0 hm0 _ _ _ acts hlen hmax hacts).mono fun e W' ⟨he, ht⟩ => ?_
  subst he
  exact ⟨_, rfl, law_post laidOut (by kernel_rfl) rfl (by kernel_rfl) Tryz.underlying4 hW' rfl (ht.below (Nat.le_refl _) (fun _ _ f => f))⟩

theorem laid_met (os : Os) : laidMet Tryz.prog Rows.pagesPlayRow.laid ((laidWorld os).forCall (fun _ _ => 0) ⟨#[], #[.int .u8 0, .slice none 0 0], []⟩).memory :=
  laidMet_of_run' 8 (by kernel_rfl) (by kernel_rfl)
theorem reads (os : Os) {H : Type} (enc : TypeId × Value → H) : ∃ places, DataW.whole enc Tryz.prog ((laidWorld os).forCall (fun _ _ => 0) ⟨#[], #[.int .u8 0, .slice none 0 0], []⟩).memory Tryz.f3.params.toList Rows.pagesPlaySpec.vars false #[.int .u8 0, .slice none 0 0].toList 8 = some ([.lit (.int .u8 0), .nil], [], places) :=
  ⟨[], by kernel_rfl⟩

set_option maxRecDepth 100000 in
theorem lifted (os : Os) (started : os.Started) (H : Type) (enc : TypeId × Value → H) (F : Stop.Interp) :
    ReturnsInHanded {} Tryz.checked os 3 .any ((OpenSpec.ofChange Rows.pagesPlaySpec).preRow enc Tryz.prog Tryz.f3 Rows.pagesPlayRow.domain false Rows.pagesPlayRow.laid) (((OpenSpec.ofChange Rows.pagesPlaySpec).at F).post enc Tryz.prog Tryz.f3 false true false false) := by
  obtain ⟨places, hx⟩ := reads os enc
  refine returnsInHanded_of_row (C := Tryz.checked) (s := OpenSpec.ofChange Rows.pagesPlaySpec) own started (by kernel_rfl) Tryz.func3
    (witness_row_at (enc := enc) (C := Tryz.checked) false (laidWorld os) #[.int .u8 0, .slice none 0 0] rfl (by kernel_rfl) (by kernel_rfl) (by kernel_rfl)
      (OpenSpec.preRow_of_cond 8 hx (by kernel_rfl) (fun k hk => by cases hk) (by kernel_rfl) (laid_met os))) ?_
  intro W base args ds gs before hval hW _ _ hz hL _ _
  have hgs : gs = [] := by obtain ⟨_, _, _, hV, _⟩ := hW; exact (trodVars_none hV).1
  subst hgs
  rw [List.append_nil, show (OpenSpec.ofChange Rows.pagesPlaySpec).bare.plain.varTypes Tryz.checked.prog = [] from rfl, List.append_nil] at hz
  exact contract H enc W base args ds [] before hval hW (fun n hn => by simpa using List.all_eq_true.1 hz n hn)

theorem said : Rows.PagesPlaySaid :=
  OpenClaim.holds_of_cond 3 Tryz.f3 rfl rfl rfl rfl rfl rfl rfl ⟨rfl, rfl, rfl, rfl, rfl⟩ rfl rfl rfl rfl rfl (by kernel_rfl) Tryz.func3 (by kernel_rfl)
    (of_decide_eq_true (by kernel_rfl)) (by unfold Func.isWrapper; first | (rw [if_pos (by decide +kernel)]; kernel_rfl) | (rw [if_neg (by decide +kernel)]; exact ⟨rfl, rfl⟩))
    (fun os started H enc _ F => by rw [OpenClaim.pre_eq_preRow]; exact lifted os started H enc F)

theorem plain (f : FuncId) (fn : Func) (hf : Tryz.pinned.checked.prog.funcNamed "drydock/drydocklaw14.PagesPlay" = some f) (hfn : Tryz.pinned.checked.prog.funcs[f]? = some fn) :
    false = Tryz.pinned.checked.prog.looks [] ∧ ∀ (j : Nat) t, fn.params[j]? = some t → Tryz.pinned.checked.prog.wantsStandIn t = false := by
  obtain rfl : f = 3 := Option.some.inj ((show Tryz.prog.funcNamed "drydock/drydocklaw14.PagesPlay" = some 3 by kernel_rfl).symm.trans hf) |>.symm
  obtain rfl : fn = Tryz.f3 := (Option.some.inj (Tryz.func3.symm.trans hfn)).symm
  refine ⟨by kernel_rfl, fun j t ht => ?_⟩
  rw [Tryz.params3] at ht
  have hm : t ∈ [5, 22] := by simpa using Array.mem_of_getElem? ht
  have hall : ([5, 22].all fun u => !Tryz.prog.wantsStandIn u) = true := by kernel_rfl
  exact (show Tryz.prog.wantsStandIn t = false by simpa using List.all_eq_true.1 hall t hm)

theorem card : Rows.PagesPlayCardSaid :=
  Claim7.holds_tied_plain_at .later [] _ _ _ _ said (fun _ h => by cases h) (by kernel_rfl) (fun _ h => by cases h) pagesPlay_row_tie rfl ⟨rfl, rfl⟩ (by kernel_rfl) rfl plain (by kernel_rfl)
end Go.Proofs.YtkiehoboeiengaaGreatDoor.pagesPlay
