/-
  The walk of DisksPlay.
-/
import Derived.Test.YtmjeigceclmdoaaGreatDoorK47
import Derived.Test.YtmjeigceclmdoaaGreatDoorK15
import Derived.Test.YtmjeigceclmdoaaGreatDoorK48
import Derived.Deep.DeepCutAuto
import Derived.Deep.CutBlock
import Derived.Lib.SmallJoins
namespace Go.Proofs.YtmjeigceclmdoaaGreatDoor
open Go Go.RowKit
set_option linter.unusedSimpArgs false
set_option linter.unusedVariables false

theorem greatFrom_each : ∀ (l : List Deed) (m : Nat), greatFrom m l = false → ∀ x ∈ l, x.xs.length ≤ 30000
  | [], _, _, x, h => by cases h
  | y :: l, m, h, x, hx => by
    rw [greatFrom, Bool.or_eq_false_iff] at h
    rcases List.mem_cons.1 hx with rfl | hx
    · have := h.1
      simp at this; omega
    · exact greatFrom_each l _ h.2 x hx
theorem great_no {l : List Deed} (h : great l = false) : l.length ≤ 150 ∧ ∀ x ∈ l, x.xs.length ≤ 30000 := by
  rw [great, Bool.or_eq_false_iff] at h
  exact ⟨by have := h.2; simpa using this, greatFrom_each l 0 h.1⟩
/-- what a book may hold behind so many lists -/
def BkTo (K nb : Nat) (B : List HE) : Prop := nb ≤ K ∧ B.length ≤ K ∧ ∀ e ∈ B, e.k ≤ K ∧ e.n ≤ 30000
theorem BkTo.next {K nb : Nat} {B : List HE} (h : BkTo K nb B) {a : Option Addr} {m c : Nat} (hm : m ≤ 30000) : BkTo (K + 1) (nb + 1) (B ++ [(⟨a, m, c, nb + 1⟩ : HE)]) := by
  obtain ⟨h1, h2, h3⟩ := h
  refine ⟨by omega, by simp; omega, fun e he => ?_⟩
  rcases List.mem_append.1 he with he | he
  · have := h3 e he; omega
  · rw [List.mem_singleton.1 he]
    exact ⟨by show nb + 1 ≤ _; omega, hm⟩
theorem BkTo.small {K nb : Nat} {B : List HE} (h : BkTo K nb B) (hk : K ≤ 10000) : nb ≤ 1000000 ∧ B.length ≤ 100000 := by
  obtain ⟨h1, h2, _⟩ := h
  omega
theorem BkTo.ok {K nb : Nat} {B : List HE} (h : BkTo K nb B) (hk : K ≤ 10000) : BkOkB B := ⟨by have := h.2.1; omega, fun e he => by have := h.2.2 e he; omega, fun e he => by have := h.2.2 e he; omega⟩
set_option maxRecDepth 100000 in
set_option maxHeartbeats 16000000 in
theorem disksPlay_walk (w : World) (size : Int) (hsz : -9223372036854775808 ≤ size ∧ size ≤ 9223372036854775807) (ad : Option Addr) (n cap : Nat) (acts : List Deed)
    (hn : acts.length = n) (hmax : (n : Int) ≤ 9223372036854775807) (hd : IsDeeds w ad acts) :
    Calls Tryz.prog 6 #[.int .i64 size, .slice ad n cap] w fun e w' => e = .returned (.bool true) ∧ Touch No w w' := by
  have HN := Lib.hid hn
  have HD := Lib.hid hd
  clear hn hd
  go_enter Tryz.func6, Tryz.ntmps6
  go_wp2_with fail
  refine (great_any w ad n cap acts HN.out hmax HD.out).mono ?_
  rintro e w1 ⟨rfl, rfl⟩
  cases hg : great acts with
  | true =>
    clear hg
    go_wp2
    go_ret
    exact ⟨rfl, Touch.refl _ _⟩
  | false =>
    have HG := Lib.hid hg
    clear hg
    by_cases hb : size < 1 ∨ 16384 < size
    · have C1 := Lib.hid (new_bad w size hb)
      have C2 := Lib.hid (refNew3_bad w size hb)
      clear hb
      go_wp2_with fail
      refine C1.out.mono ?_
      rintro e w1 ⟨rfl, rfl⟩
      go_wp2_with fail
      refine C2.out.mono ?_
      rintro e w1 ⟨rfl, rfl⟩
      go_wp2
      go_ret
      exact ⟨rfl, Touch.refl _ _⟩
    · obtain ⟨N, rfl, hN1, hN2⟩ : ∃ N : Nat, size = (N : Nat) ∧ 1 ≤ N ∧ N ≤ 16384 := ⟨size.toNat, by omega, by omega, by omega⟩
      clear hb hsz
      go_wp2_with fail
      refine (new_k w N hN1 hN2).mono ?_
      rintro e w1 ⟨d0, rfl, m1⟩
      have S1 := Lib.hid ((Sl.nil (Touch.refl No w)).push (born_disk m1))
      clear m1
      go_wp2_with fail
      refine (refNew3_ok w1 N hN1 hN2).mono ?_
      rintro e w2 ⟨g0, rfl, born2⟩
      have S2 := Lib.hid ((S1.out.push born2).perm (List.Perm.swap _ _ _))
      clear born2 S1
      go_wp2_with fail
      obtain ⟨gk, hgk⟩ : ∃ gk, gk = w2.heap.size := ⟨_, rfl⟩
      obtain ⟨w3, hw3⟩ : ∃ w3, w3 = w2.alloc (.cells #[.int .i64 0, .slice none 0 0, .slice none 0 0, .slice none 0 0, .slice none 0 0, .slice none 0 0, .slice none 0 0, .slice none 0 0, .slice none 0 0, .slice none 0 0, .slice none 0 0, .slice none 0 0, .slice none 0 0, .slice none 0 0, .slice none 0 0, .slice none 0 0] 48) := ⟨_, rfl⟩
      have S3 : Hid (Two w w3 d0 g0 (Dk.new N) (Dk.new N) [Part.book gk 0 [] [] [] []]) := by
        have h := S2.out.push (born_book w2 #[.int .i64 0, .slice none 0 0, .slice none 0 0, .slice none 0 0, .slice none 0 0, .slice none 0 0, .slice none 0 0, .slice none 0 0, .slice none 0 0, .slice none 0 0, .slice none 0 0, .slice none 0 0, .slice none 0 0, .slice none 0 0, .slice none 0 0, .slice none 0 0] rfl)
        rw [← hw3, ← hgk] at h
        exact Sl.perm h (List.perm_append_comm (l₁ := [_]) (l₂ := [_, _]))
      rw [← hw3, ← hgk]
      clear hw3 hgk S2
      go_loopg [5, 6, 7, 8, 10] n (fun gh s5 s6 s7 s8 s10 wr => ∃ (k d g nb : Nat) (D : Dk.Disk) (B : List HE), k + gh = n ∧ s10 = .int .i64 ((k : Nat) : Int) ∧ s5 = .pointer (some ⟨d, 0, none⟩) ∧ s6 = .int .i64 0 ∧ s7 = .pointer (some ⟨g, 0, none⟩) ∧ s8 = .int .i64 0 ∧ Hid (Two w wr d g D D [Part.book gk nb B [] [] []]) ∧ Hid (BkTo (2 * k) nb B) ∧ Hid (D.waits.length ≤ k))
      case atStart => exact ⟨0, d0, g0, 0, _, [], by omega, rfl, rfl, rfl, rfl, rfl, S3.out, ⟨Nat.zero_le _, Nat.zero_le _, fun e h => by cases h⟩, Nat.zero_le _⟩
      case round =>
        clear S3
        obtain ⟨k, d, g, nb, D, B, hkg, rfl, rfl, rfl, rfl, rfl, HS, HB, HW⟩ := hrel
        cases gk with
        | zero =>
          obtain rfl : k = n := by omega
          have hk150 : k ≤ 150 := by have := (great_no HG.out).1; have := HN.out; omega
          obtain ⟨L, hL⟩ : ∃ L, D.seen.length = L := ⟨_, rfl⟩
          have HL := Lib.hid hL
          clear hL
          by_cases hmn : (300 : Int) < (L : Nat)
          · go_wp2_with fail
            go_loopg [18] 300 (fun gh s18 wx => ∃ j : Nat, j + gh = 300 ∧ s18 = .int .i64 ((j : Nat) : Int) ∧ Hid (Two w wx d g D D [Part.book gk nb B [] [] []]))
            case atStart => exact ⟨0, by omega, rfl, HS.out⟩
            case round =>
              obtain ⟨j, hjg, rfl, HJ⟩ := hrel
              have C1 := Lib.hid HJ.out.lenR
              rw [HL.out] at C1
              cases gk with
              | zero =>
                obtain rfl : j = 300 := by omega
                go_wp2_with fail
                refine C1.out.mono ?_
                rintro e w5 ⟨rfl, rfl⟩
                go_wp2_with fail
                refine (HJ.out.apart (HB.out.ok (by omega))).mono ?_
                rintro e w7 ⟨rfl, t7⟩
                have T7 := Lib.hid t7
                clear t7
                go_wp2
                go_ret
                exact ⟨rfl, T7.out⟩
              | succ g' =>
                have hlt : (j : Int) < 300 := by omega
                go_wp2_with fail
                refine C1.out.mono ?_
                rintro e w5 ⟨rfl, rfl⟩
                go_wp2_with fail
                refine (HJ.out.readD (j : Nat)).mono ?_
                rintro e w5 ⟨ba, bl, rfl, hbl, s5⟩
                have S5 := Lib.hid s5
                have Hbl := Lib.hid hbl
                have hb64 : bl ≤ 64 := by rw [← hbl]; exact Dk.readB_le HJ.out.ok (j : Nat)
                clear s5 hbl
                obtain ⟨re, hre⟩ : ∃ re, Dk.readE D (j : Nat) = re := ⟨_, rfl⟩
                have C6 := Lib.hid (S5.out.readR (j : Nat))
                rw [hre] at C6 ⊢
                clear hre
                go_wp2_with fail
                refine C6.out.mono ?_
                rintro e w6 ⟨ca, cl, cc, rfl, hcl, hrc, t6⟩
                obtain rfl : cl = bl := by rw [← hcl, Hbl.out]
                have S6 := Lib.hid (S5.out.no t6)
                have Hrc := Lib.hid hrc
                clear hcl hrc t6 S5 C6
                have hrr : ((re : Int) != (re : Int)) = false := by simp
                go_wp2_with fail
                refine (sameB_any w6 ba ca cl cl cc _ Hbl.out (by omega) (S6.out.rd List.mem_cons_self) Hrc.out).mono ?_
                rintro e w7 ⟨rfl, t7⟩
                have S7 := Lib.hid (S6.out.no t7).drop
                clear t7 S6 Hrc
                go_wp2_with fail
                go_roundg g'
                case measure => omega
                case rel => exact ⟨j + 1, by omega, by go_num, S7.out⟩
          · go_wp2_with fail
            go_loopg [18] L (fun gh s18 wx => ∃ j : Nat, j + gh = L ∧ s18 = .int .i64 ((j : Nat) : Int) ∧ Hid (Two w wx d g D D [Part.book gk nb B [] [] []]))
            case atStart => exact ⟨0, by omega, rfl, HS.out⟩
            case round =>
              obtain ⟨j, hjg, rfl, HJ⟩ := hrel
              have C1 := Lib.hid HJ.out.lenR
              rw [HL.out] at C1
              cases gk with
              | zero =>
                obtain rfl : j = L := by omega
                go_wp2_with fail
                refine C1.out.mono ?_
                rintro e w5 ⟨rfl, rfl⟩
                go_wp2_with fail
                refine (HJ.out.apart (HB.out.ok (by omega))).mono ?_
                rintro e w7 ⟨rfl, t7⟩
                have T7 := Lib.hid t7
                clear t7
                go_wp2
                go_ret
                exact ⟨rfl, T7.out⟩
              | succ g' =>
                have hlt : (j : Int) < (L : Nat) := by omega
                go_wp2_with fail
                refine C1.out.mono ?_
                rintro e w5 ⟨rfl, rfl⟩
                go_wp2_with fail
                refine (HJ.out.readD (j : Nat)).mono ?_
                rintro e w5 ⟨ba, bl, rfl, hbl, s5⟩
                have S5 := Lib.hid s5
                have Hbl := Lib.hid hbl
                have hb64 : bl ≤ 64 := by rw [← hbl]; exact Dk.readB_le HJ.out.ok (j : Nat)
                clear s5 hbl
                obtain ⟨re, hre⟩ : ∃ re, Dk.readE D (j : Nat) = re := ⟨_, rfl⟩
                have C6 := Lib.hid (S5.out.readR (j : Nat))
                rw [hre] at C6 ⊢
                clear hre
                go_wp2_with fail
                refine C6.out.mono ?_
                rintro e w6 ⟨ca, cl, cc, rfl, hcl, hrc, t6⟩
                obtain rfl : cl = bl := by rw [← hcl, Hbl.out]
                have S6 := Lib.hid (S5.out.no t6)
                have Hrc := Lib.hid hrc
                clear hcl hrc t6 S5 C6
                have hrr : ((re : Int) != (re : Int)) = false := by simp
                go_wp2_with fail
                refine (sameB_any w6 ba ca cl cl cc _ Hbl.out (by omega) (S6.out.rd List.mem_cons_self) Hrc.out).mono ?_
                rintro e w7 ⟨rfl, t7⟩
                have S7 := Lib.hid (S6.out.no t7).drop
                clear t7 S6 Hrc
                go_wp2_with fail
                go_roundg g'
                case measure => omega
                case rel => exact ⟨j + 1, by omega, by go_num, S7.out⟩
        | succ g' =>
          have hlt : (k : Int) < (n : Nat) := by omega
          obtain ⟨x, hx⟩ : ∃ x, acts[k]? = some x := ⟨_, List.getElem?_eq_getElem (by have := HN.out; omega)⟩
          obtain ⟨c, o, rfl, ha⟩ := (HD.out.touch HS.out.end) k x hx
          have ha0 : ∃ c' o', DeedAt w c' o' x := by obtain ⟨c', o', _, h⟩ := HD.out k x hx; exact ⟨c', _, h⟩
          have hkind := ha.kind
          have hnn := ha.n
          have hat := ha.at_
          have hl := ha.l
          have hkeep := ha.keep
          obtain ⟨xk, hxk⟩ : ∃ y, x.kind = y := ⟨_, rfl⟩
          obtain ⟨xn, hxn⟩ : ∃ y, x.n = y := ⟨_, rfl⟩
          obtain ⟨xt, hxt⟩ : ∃ y, x.at_ = y := ⟨_, rfl⟩
          obtain ⟨xs, hxs⟩ : ∃ y, x.xs = y := ⟨_, rfl⟩
          obtain ⟨xa, hxa⟩ : ∃ y, x.a = y := ⟨_, rfl⟩
          obtain ⟨xc, hxc⟩ : ∃ y, x.cap = y := ⟨_, rfl⟩
          obtain ⟨xp, hxp⟩ : ∃ y, x.keep = y := ⟨_, rfl⟩
          obtain ⟨m, hm⟩ : ∃ m, xs.length = m := ⟨_, rfl⟩
          rw [hxk] at hkind
          rw [hxn] at hnn
          rw [hxt] at hat
          rw [hxp] at hkeep
          rw [hxs, hxa, hxc, hm] at hl
          have Hlen := Lib.hid hm
          have Hk8 : Hid (xk < 256) := by have := ha.k8; rw [hxk] at this; exact this
          have Hk64 : Hid (xp < 18446744073709551616) := by have := ha.k64; rw [hxp] at this; exact this
          have Hle : Hid (m ≤ xc) := by have := ha.le; rw [hxs, hxc, hm] at this; exact this
          have Hx8 : Hid (∀ y ∈ xs, y < 256) := by have := ha.x8; rw [hxs] at this; exact this
          have Hrd : Hid (Rd w xa (nums .u8 xs)) := by
            obtain ⟨c', o', h⟩ := ha0
            have := h.rd
            rw [hxa, hxs] at this; exact this
          have hm5 : m ≤ 30000 := by have := (great_no HG.out).2 x (List.mem_of_getElem? hx); rw [hxs, hm] at this; exact this
          clear ha ha0 hxk hxn hxt hxs hxa hxc hxp hm
          go_wp2_with fail
          obtain ⟨X, hX⟩ : ∃ X, X = wr.heap.size := ⟨_, rfl⟩
          obtain ⟨w1, hw1⟩ : ∃ w1, w1 = wr.alloc (.cells #[.int .u8 (xk : Nat), .int .i64 xn, .int .i64 xt, .slice xa m xc, .int .u64 (xp : Nat)] 90) := ⟨_, rfl⟩
          have S1 : Hid (Two w w1 d g D D [Part.row X 90 [.int .u8 (xk : Nat), .int .i64 xn, .int .i64 xt, .slice xa m xc, .int .u64 (xp : Nat)], Part.book gk nb B [] [] []]) := by
            show Two _ _ _ _ _ _ _
            rw [hw1, hX]
            exact HS.out.push (Born.row wr 90 #[.int .u8 (xk : Nat), .int .i64 xn, .int .i64 xt, .slice xa m xc, .int .u64 (xp : Nat)])
          rw [← hw1, ← hX]
          clear hw1 hX HS
          refine (twinBytes_any w1 xa m xc (xs.map fun (x : Nat) => (x : Int)) (by rw [List.length_map]; exact Hlen.out) (by omega) (by rw [nums_ints]; exact Hrd.out.no S1.out.end)).mono ?_
          rintro e w2 ⟨ta, tc, rfl, htc, ot, t2⟩
          rw [nums_ints] at ot
          have Htc := Lib.hid htc
          have S2 := Lib.hid (S1.out.push (born_own t2 ot))
          clear htc ot t2 S1
          have HC : Hid (∀ (w' : World) (d' g' : Nat) (D' R' : Dk.Disk) (E' : List Part), Two w w' d' g' D' R' E' → Part.row X 90 [.int .u8 (xk : Nat), .int .i64 xn, .int .i64 xt, .slice xa m xc, .int .u64 (xp : Nat)] ∈ E' → w'.cell? ⟨X, 1, none⟩ = some (.int .i64 xn) ∧ w'.cell? ⟨X, 2, none⟩ = some (.int .i64 xt) ∧ w'.cell? ⟨X, 3, none⟩ = some (.slice xa m xc) ∧ w'.cell? ⟨X, 4, none⟩ = some (.int .u64 (xp : Nat))) := fun w' d' g' D' R' E' h hp => ⟨(h.row hp).cell 1, (h.row hp).cell 2, (h.row hp).cell 3, (h.row hp).cell 4⟩
          have k0 : w2.cell? ⟨X, 0, none⟩ = some (.int .u8 (xk : Nat)) := (S2.out.row (List.mem_cons_of_mem _ List.mem_cons_self)).cell 0
          obtain ⟨q, hq⟩ : ∃ q, xk % 9 = q := ⟨_, rfl⟩
          have hq8 : q < 9 := by rw [← hq]; exact Nat.mod_lt _ (by decide)
          have hkq : ((xk : Nat) : Int) % 9 = (q : Nat) := by omega
          have hk150 : k < 150 := by have := (great_no HG.out).1; have := HN.out; omega
          have Hw1 : Hid (D.waits.length ≤ 1000000) := by show _ ≤ _; have := HW.out; omega
          clear hq
          go_upto_block 2 with fail
          go_cut [5, 6, 7, 8, 65] (fun s5 s6 s7 s8 s65 wx => ∃ (d g er : Nat) (D : Dk.Disk), s5 = .pointer (some ⟨d, 0, none⟩) ∧ s7 = .pointer (some ⟨g, 0, none⟩) ∧ s6 = .int .i64 ((er : Nat) : Int) ∧ s8 = .int .i64 ((er : Nat) : Int) ∧ Hid (Two w wx d g D D [Part.sl 5 ta (m + 1) tc (nums .u8 xs ++ [.int .u8 77]), Part.row X 90 [.int .u8 (xk : Nat), .int .i64 xn, .int .i64 xt, .slice xa m xc, .int .u64 (xp : Nat)], Part.book gk nb B [] [] []]) ∧ Hid (D.waits.length ≤ k + 1))
          case first =>
            have hcases : q = 0 ∨ q = 1 ∨ q = 2 ∨ q = 3 ∨ q = 4 ∨ q = 5 ∨ q = 6 ∨ q = 7 ∨ q = 8 := by omega
            clear hq8
            rcases hcases with rfl | rfl | rfl | rfl | rfl | rfl | rfl | rfl | rfl
            · obtain ⟨k1, _, k3, _⟩ := HC.out _ _ _ _ _ _ S2.out (List.mem_cons_of_mem _ List.mem_cons_self)
              go_wp2_with fail
              refine (S2.out.writeD xn ta m tc xs Hlen.out Hx8.out (rd_pre (S2.out.rd List.mem_cons_self)) Hw1.out).mono ?_
              rintro e w3 ⟨rfl, s3⟩
              have S3 := Lib.hid s3
              clear s3 k1 k3
              obtain ⟨k1, _, k3, _⟩ := HC.out _ _ _ _ _ _ S3.out (List.mem_cons_of_mem _ List.mem_cons_self)
              go_wp2_with fail
              refine (S3.out.writeR xn xa m xc xs Hlen.out Hx8.out (Hrd.out.no S3.out.end) Hw1.out).mono ?_
              rintro e w4 ⟨rfl, s4⟩
              have S4 := Lib.hid s4
              clear s4 k1 k3
              have Hw4 : Hid ((Dk.writeA D xn xs).waits.length ≤ k + 1) := by show _ ≤ _; have := Dk.writeA_waits D xn xs; have := HW.out; omega
              go_wp2_with fail
              go_meet
              exact ⟨d, g, _, _, rfl, rfl, rfl, rfl, S4.out, Hw4.out⟩
            · obtain ⟨k1, _, k3, _⟩ := HC.out _ _ _ _ _ _ S2.out (List.mem_cons_of_mem _ List.mem_cons_self)
              go_wp2_with fail
              refine (S2.out.writeD xn ta m tc xs Hlen.out Hx8.out (rd_pre (S2.out.rd List.mem_cons_self)) Hw1.out).mono ?_
              rintro e w3 ⟨rfl, s3⟩
              have S3 := Lib.hid s3
              clear s3 k1 k3
              obtain ⟨k1, _, k3, _⟩ := HC.out _ _ _ _ _ _ S3.out (List.mem_cons_of_mem _ List.mem_cons_self)
              go_wp2_with fail
              refine (S3.out.writeR xn xa m xc xs Hlen.out Hx8.out (Hrd.out.no S3.out.end) Hw1.out).mono ?_
              rintro e w4 ⟨rfl, s4⟩
              have S4 := Lib.hid s4
              clear s4 k1 k3
              have Hw4 : Hid ((Dk.writeA D xn xs).waits.length ≤ k + 1) := by show _ ≤ _; have := Dk.writeA_waits D xn xs; have := HW.out; omega
              go_wp2_with fail
              go_meet
              exact ⟨d, g, _, _, rfl, rfl, rfl, rfl, S4.out, Hw4.out⟩
            · obtain ⟨k1, _, k3, _⟩ := HC.out _ _ _ _ _ _ S2.out (List.mem_cons_of_mem _ List.mem_cons_self)
              go_wp2_with fail
              refine (S2.out.writeD xn ta m tc xs Hlen.out Hx8.out (rd_pre (S2.out.rd List.mem_cons_self)) Hw1.out).mono ?_
              rintro e w3 ⟨rfl, s3⟩
              have S3 := Lib.hid s3
              clear s3 k1 k3
              obtain ⟨k1, _, k3, _⟩ := HC.out _ _ _ _ _ _ S3.out (List.mem_cons_of_mem _ List.mem_cons_self)
              go_wp2_with fail
              refine (S3.out.writeR xn xa m xc xs Hlen.out Hx8.out (Hrd.out.no S3.out.end) Hw1.out).mono ?_
              rintro e w4 ⟨rfl, s4⟩
              have S4 := Lib.hid s4
              clear s4 k1 k3
              have Hw4 : Hid ((Dk.writeA D xn xs).waits.length ≤ k + 1) := by show _ ≤ _; have := Dk.writeA_waits D xn xs; have := HW.out; omega
              go_wp2_with fail
              go_meet
              exact ⟨d, g, _, _, rfl, rfl, rfl, rfl, S4.out, Hw4.out⟩
            · obtain ⟨k1, _, k3, _⟩ := HC.out _ _ _ _ _ _ S2.out (List.mem_cons_of_mem _ List.mem_cons_self)
              go_wp2_with fail
              refine (S2.out.writeD xn ta m tc xs Hlen.out Hx8.out (rd_pre (S2.out.rd List.mem_cons_self)) Hw1.out).mono ?_
              rintro e w3 ⟨rfl, s3⟩
              have S3 := Lib.hid s3
              clear s3 k1 k3
              obtain ⟨k1, _, k3, _⟩ := HC.out _ _ _ _ _ _ S3.out (List.mem_cons_of_mem _ List.mem_cons_self)
              go_wp2_with fail
              refine (S3.out.writeR xn xa m xc xs Hlen.out Hx8.out (Hrd.out.no S3.out.end) Hw1.out).mono ?_
              rintro e w4 ⟨rfl, s4⟩
              have S4 := Lib.hid s4
              clear s4 k1 k3
              have Hw4 : Hid ((Dk.writeA D xn xs).waits.length ≤ k + 1) := by show _ ≤ _; have := Dk.writeA_waits D xn xs; have := HW.out; omega
              go_wp2_with fail
              go_meet
              exact ⟨d, g, _, _, rfl, rfl, rfl, rfl, S4.out, Hw4.out⟩
            · go_wp2_with fail
              refine S2.out.syncD.mono ?_
              rintro e w3 ⟨rfl, s3⟩
              have S3 := Lib.hid s3
              clear s3
              go_wp2_with fail
              refine S3.out.syncR.mono ?_
              rintro e w4 ⟨rfl, s4⟩
              have S4 := Lib.hid s4
              clear s4
              go_wp2_with fail
              go_meet
              exact ⟨d, g, 0, _, rfl, rfl, rfl, rfl, S4.out, Nat.zero_le _⟩
            · obtain ⟨_, k2, _, k4⟩ := HC.out _ _ _ _ _ _ S2.out (List.mem_cons_of_mem _ List.mem_cons_self)
              go_wp2_with fail
              refine (S2.out.failD xp xt Hk64.out Hw1.out).mono ?_
              rintro e w3 ⟨d', rfl, s3⟩
              have S3 := Lib.hid s3
              clear s3 k2 k4
              obtain ⟨_, k2, _, k4⟩ := HC.out _ _ _ _ _ _ S3.out (List.mem_cons_of_mem _ (List.mem_cons_of_mem _ List.mem_cons_self))
              go_wp2_with fail
              refine (S3.out.failR xp xt Hk64.out Hw1.out).mono ?_
              rintro e w4 ⟨g', rfl, s4⟩
              have S4 := Lib.hid s4
              clear s4 k2 k4
              have hcv : (convert 22 22 (.slice (some ⟨w4.heap.size, 0, none⟩) 3 3)).run Tryz.prog (w4.alloc (.cells #[.int .u8 119, .int .u8 97, .int .u8 115] 5)) = .ok (.slice (some ⟨w4.heap.size, 0, none⟩) 3 3) (w4.alloc (.cells #[.int .u8 119, .int .u8 97, .int .u8 115] 5 (3, 4))) :=
                Go.Joins.run_convert_bytes_const_at _ 22 5 #[.int .u8 119, .int .u8 97, .int .u8 115] 3 3 w4.heap.size rfl Tryz.underlying22 Tryz.underlying5
              go_wp2_with fail
              clear hcv
              obtain ⟨w5, hw5⟩ : ∃ w5, w5 = w4.alloc (.cells #[.int .u8 119, .int .u8 97, .int .u8 115] 5 (3, 4)) := ⟨_, rfl⟩
              have S5 : Hid (Two w w5 d' g' (Dk.fail D xp xt) (Dk.fail D xp xt) (Part.disk d D :: [Part.sl 5 ta (m + 1) tc (nums .u8 xs ++ [.int .u8 77]), Part.row X 90 [.int .u8 (xk : Nat), .int .i64 xn, .int .i64 xt, .slice xa m xc, .int .u64 (xp : Nat)], Part.book gk nb B [] [] []])) := by
                show Two _ _ _ _ _ _ _
                rw [hw5]; exact S4.out.no ((Touch.refl No w4).alloc _)
              have R5 : Hid (Rd w5 (some ⟨w4.heap.size, 0, none⟩) (nums .u8 [119, 97, 115])) := by
                show Rd _ _ _
                rw [hw5]; exact rd_new w4 5 #[.int .u8 119, .int .u8 97, .int .u8 115] (3, 4)
              rw [← hw5]
              clear hw5 S4
              refine (S5.out.turnE (fun F hF => diskWrite_al hF 0 (some ⟨w4.heap.size, 0, none⟩) 3 3 [119, 97, 115] rfl (by decide) R5.out Hw1.out)).mono ?_
              rintro e w6 ⟨rfl, s6⟩
              have S6 := Lib.hid s6
              clear s6 S5 R5
              go_wp2_with fail
              refine (S6.out.turnE (fun F hF => diskSync_al hF)).mono ?_
              rintro e w7 ⟨rfl, s7⟩
              have S7 := Lib.hid s7.drop
              clear s7 S6
              go_wp2_with fail
              go_meet
              exact ⟨d', g', 0, _, rfl, rfl, rfl, rfl, S7.out, Nat.zero_le _⟩
            · obtain ⟨k1, k2, _, k4⟩ := HC.out _ _ _ _ _ _ S2.out (List.mem_cons_of_mem _ List.mem_cons_self)
              obtain ⟨xb, hxb⟩ : ∃ xb, xp % 256 = xb := ⟨_, rfl⟩
              have hxb8 : xb < 256 := by rw [← hxb]; exact Nat.mod_lt _ (by decide)
              have hxi : ((xp : Nat) : Int) % 256 = (xb : Nat) := by omega
              have Hxb8 := Lib.hid hxb8
              clear hxb hxb8
              go_wp2_with fail
              refine (S2.out.rotD xn xt xb Hxb8.out Hw1.out).mono ?_
              rintro e w3 ⟨rfl, s3⟩
              have S3 := Lib.hid s3
              clear s3 k1 k2 k4
              obtain ⟨k1, k2, _, k4⟩ := HC.out _ _ _ _ _ _ S3.out (List.mem_cons_of_mem _ List.mem_cons_self)
              go_wp2_with fail
              refine (S3.out.rotR xn xt xb Hxb8.out Hw1.out).mono ?_
              rintro e w4 ⟨rfl, s4⟩
              have S4 := Lib.hid s4
              clear s4 k1 k2 k4
              have Hw4 : Hid ((Dk.rotA D xn xt xb).waits.length ≤ k + 1) := by show _ ≤ _; rw [Dk.rotA_waits]; have := HW.out; omega
              go_wp2_with fail
              go_meet
              exact ⟨d, g, _, _, rfl, rfl, rfl, rfl, S4.out, Hw4.out⟩
            · obtain ⟨k1, _, _, _⟩ := HC.out _ _ _ _ _ _ S2.out (List.mem_cons_of_mem _ List.mem_cons_self)
              go_wp2_with fail
              refine (S2.out.badD xn Hw1.out).mono ?_
              rintro e w3 ⟨rfl, s3⟩
              have S3 := Lib.hid s3
              clear s3 k1
              obtain ⟨k1, _, _, _⟩ := HC.out _ _ _ _ _ _ S3.out (List.mem_cons_of_mem _ List.mem_cons_self)
              go_wp2_with fail
              refine (S3.out.badR xn Hw1.out).mono ?_
              rintro e w4 ⟨rfl, s4⟩
              have S4 := Lib.hid s4
              clear s4 k1
              have Hw4 : Hid ((Dk.badA D xn).waits.length ≤ k + 1) := by show _ ≤ _; rw [Dk.badA_waits]; have := HW.out; omega
              go_wp2_with fail
              go_meet
              exact ⟨d, g, _, _, rfl, rfl, rfl, rfl, S4.out, Hw4.out⟩
            · have Hw4 : Hid (D.waits.length ≤ k + 1) := by show _ ≤ _; have := HW.out; omega
              go_wp2_with fail
              go_meet
              exact ⟨d, g, 0, D, rfl, rfl, rfl, rfl, S2.out, Hw4.out⟩
          case rest =>
            obtain ⟨d, g, er, D, rfl, rfl, rfl, rfl, HS, HW⟩ := hcut
            clear S2 hkq hq8 k0 Hw1
            obtain ⟨L, hL⟩ : ∃ L, D.seen.length = L := ⟨_, rfl⟩
            obtain ⟨M, hM⟩ : ∃ M, D.waits.length = M := ⟨_, rfl⟩
            have HL1 := Lib.hid HS.out.lenD
            have HL2 := Lib.hid HS.out.lenR
            have HM1 := Lib.hid HS.out.waitsD
            have HM2 := Lib.hid HS.out.waitsR
            rw [hL] at HL1 HL2
            rw [hM] at HM1 HM2
            obtain ⟨k1, _, k3, _⟩ := HC.out _ _ _ _ _ _ HS.out (List.mem_cons_of_mem _ List.mem_cons_self)
            have HLf : Hid (Calls Tryz.prog 19 #[.slice ta m tc, .slice xa m xc] wc fun e w'' => e = .returned (.bool true) ∧ Touch No wc w'') := by
              have h1 := HS.out.rd List.mem_cons_self
              exact leftBytes_any wc ta m tc xa xc (xs.map fun (x : Nat) => (x : Int)) (by rw [List.length_map]; exact Hlen.out) (by omega) Htc.out (by rw [nums_ints]; exact h1) (by rw [nums_ints]; exact Hrd.out.no HS.out.end)
            have hee : ((er : Int) != (er : Int)) = false := by simp
            have hll : ((L : Int) != (L : Int)) = false := by simp
            have hmm : ((M : Int) != (M : Int)) = false := by simp
            clear hL hM
            go_wp2_with fail
            refine HL1.out.mono ?_
            rintro e w4 ⟨rfl, rfl⟩
            go_wp2_with fail
            refine HL2.out.mono ?_
            rintro e w4 ⟨rfl, rfl⟩
            go_wp2_with fail
            refine HM1.out.mono ?_
            rintro e w4 ⟨rfl, rfl⟩
            go_wp2_with fail
            refine HM2.out.mono ?_
            rintro e w4 ⟨rfl, rfl⟩
            go_wp2_with fail
            refine HLf.out.mono ?_
            rintro e w4 ⟨rfl, t4⟩
            have S4 := Lib.hid (HS.out.no t4)
            clear t4 HL1 HL2 HM1 HM2 HLf k1 k3 HS
            obtain ⟨k1, _, _, _⟩ := HC.out _ _ _ _ _ _ S4.out (List.mem_cons_of_mem _ List.mem_cons_self)
            go_wp2_with fail
            refine (S4.out.readD xn).mono ?_
            rintro e w5 ⟨ba, bl, rfl, hbl, s5⟩
            have S5 := Lib.hid s5
            have Hbl := Lib.hid hbl
            have hb64 : bl ≤ 64 := by rw [← hbl]; exact Dk.readB_le S4.out.ok xn
            clear s5 hbl k1 S4
            obtain ⟨k1, _, _, _⟩ := HC.out _ _ _ _ _ _ S5.out (List.mem_cons_of_mem _ (List.mem_cons_of_mem _ List.mem_cons_self))
            obtain ⟨re, hre⟩ : ∃ re, Dk.readE D xn = re := ⟨_, rfl⟩
            have C6 := Lib.hid (S5.out.readR xn)
            rw [hre] at C6 ⊢
            clear hre
            go_wp2_with fail
            refine C6.out.mono ?_
            rintro e w6 ⟨ca, cl, cc, rfl, hcl, hrc, t6⟩
            obtain rfl : cl = bl := by rw [← hcl, Hbl.out]
            have S6 := Lib.hid (S5.out.no t6)
            have Hrc := Lib.hid hrc
            clear hcl hrc t6 S5 C6 k1
            have hrr : ((re : Int) != (re : Int)) = false := by simp
            go_wp2_with fail
            refine (sameB_any w6 ba ca cl cl cc _ Hbl.out (by omega) (S6.out.rd List.mem_cons_self) Hrc.out).mono ?_
            rintro e w7 ⟨rfl, t7⟩
            have S7 : Hid (Two w w7 d g D D [Part.book gk nb B [] [] [], Part.sl 5 ta m tc (nums .u8 xs), Part.sl 5 ba cl cl (nums .u8 (Dk.readB D xn)), Part.row X 90 [.int .u8 (xk : Nat), .int .i64 xn, .int .i64 xt, .slice xa m xc, .int .u64 (xp : Nat)]]) := by
              have h1 := ((S6.out.no t7).perm (List.Perm.swap _ _ _)).imp1 (fun A h => sl_twin h)
              exact h1.perm (List.perm_append_comm (l₁ := [_, _, _]) (l₂ := [_]))
            clear t7 S6 Hrc
            have hK := HB.out
            have HB1 := Lib.hid (hK.next (a := ta) (m := m) (c := tc) hm5)
            have HB2 := Lib.hid (HB1.out.next (a := ba) (m := cl) (c := cl) (by omega))
            have Hs0 := Lib.hid (hK.small (by omega))
            have Hs1 := Lib.hid (HB1.out.small (by omega))
            clear hK
            go_wp2_with fail
            refine (S7.out.bytes Hs0.out.2 Hs0.out.1).mono ?_
            rintro e w8 ⟨rfl, s8⟩
            have S8 := Lib.hid s8
            clear s8 S7
            go_wp2_with fail
            refine (S8.out.bytes Hs1.out.2 Hs1.out.1).mono ?_
            rintro e w9 ⟨rfl, s9⟩
            have S9 := Lib.hid ((s9.perm (List.Perm.swap _ _ _)).drop)
            clear s9 S8
            go_wp2_with fail
            go_roundg g'
            case measure => omega
            case rel => exact ⟨k + 1, d, g, nb + 1 + 1, D, _, by omega, by go_num, rfl, rfl, rfl, rfl, S9.out, HB2.out, HW.out⟩
end Go.Proofs.YtmjeigceclmdoaaGreatDoor
