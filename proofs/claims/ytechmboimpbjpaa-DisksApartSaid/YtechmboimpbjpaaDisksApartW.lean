/-
  Package drydocklaw03 by its own text: the walk of DisksApart.
-/
import Derived.Test.YtechmboimpbjpaaDFam
namespace Go.Proofs.Ytechmboimpbjpaa
open Go Go.RowKit

namespace Dk
theorem apart_seen (D : Disk) (n : Int) (b : List Nat) : (writeA D n b).seen.length = D.seen.length := by
  unfold writeA; split
  · simp [write]
  · rfl
theorem apart_waits (D : Disk) (n : Int) (b : List Nat) : (writeA D n b).waits.length ≤ D.waits.length + 1 := by
  unfold writeA
  split
  · simp [write]
  · omega
theorem apart_yes (D : Disk) (n : Int) (b : List Nat) (h0 : 0 ≤ n) (h1 : n < D.seen.length) (h2 : b.length ≤ 64) : (writeA D n b).waits.length = D.waits.length + 1 := by
  unfold writeA
  rw [if_pos ⟨⟨h0, h1⟩, h2⟩]; simp [write]
theorem fail_seen {D : Disk} (h : Ok D) (keep : Nat) (torn : Int) : (fail D keep torn).seen.length = D.seen.length := by
  have h1 := failed_ok (keep := keep) (torn := torn) D.waits D.sure 0 h.sure (fun y hy => by rw [h.len]; exact h.waits y hy)
  exact h1.2.trans h.len
end Dk

set_option maxRecDepth 100000 in
set_option maxHeartbeats 4000000 in
theorem disksApart_walk (w : World) (ad : Option Addr) (n cap : Nat) (acts : List Deed) (hn : acts.length = n) (hmax : (n : Int) ≤ 9223372036854775807) (h : IsDeeds w ad acts)
    (keep : Nat) (hk : keep < 18446744073709551616) (a : Option Addr) (m c : Nat) (b : List Nat) (hb : b.length = m) (hm : (m : Int) ≤ 9223372036854775807) (hr : Rd w a (nums .u8 b)) (hlt : ∀ x ∈ b, x < 256) :
    Calls Try.prog 11 #[.slice ad n cap, .int .u64 (keep : Nat), .slice a m c] w (LawPost w) := by
  have H := Lib.hid h; clear h
  have HN := Lib.hid hn; clear hn
  have Hk := Lib.hid hk; clear hk
  have Hb := Lib.hid hb; clear hb
  have Hr := Lib.hid hr; clear hr
  have Hlt := Lib.hid hlt; clear hlt
  go_enter Try.func11, Try.ntmps11
  go_wp2_with fail
  refine (alive_is w).mono ?_
  rintro e w1 ⟨rfl, T1⟩
  go_wp2_with fail
  refine (great_any w1 ad n cap acts HN.out hmax (H.out.touch T1)).mono ?_
  rintro e w' ⟨rfl, rfl⟩
  cases hg : great acts with
  | true =>
    clear hg
    go_wp2_with fail
    refine (alive_is w1).mono ?_
    rintro e w2 ⟨rfl, t2⟩
    go_wp2
    go_ret
    exact ⟨rfl, T1.trans t2⟩
  | false =>
  have h150 : n ≤ 150 := by rw [← HN.out]; exact great_not hg
  clear hg
  by_cases hm64 : 64 < m
  · have hm64' : (64 : Int) < (m : Nat) := by omega
    clear hm64
    go_wp2_with fail
    refine (alive_is w1).mono ?_
    rintro e w2 ⟨rfl, t2⟩
    go_wp2
    go_ret
    exact ⟨rfl, T1.trans t2⟩
  have hm64' : ¬ (64 : Int) < (m : Nat) := by omega
  have F1 : Fam w w1 [] := Fam.nil w w1 T1
  go_wp2_with fail
  refine (F1.does ad n cap acts HN.out h150 (H.out.touch T1)).mono ?_
  obtain ⟨D, hD⟩ : ∃ D, D = Dk.does acts := ⟨_, rfl⟩
  have hDs : D.seen.length = 8 := by rw [hD]; exact Dk.does_seen acts
  have hDw : D.waits.length ≤ 150 := by rw [hD]; have := Dk.does_waits acts; have := HN.out; omega
  have HD := Lib.hid hD
  have HDs := Lib.hid hDs
  have hDw6 : Hid (D.waits.length ≤ 1000000) := by show _ ≤ _; omega
  have HDw := Lib.hid hDw
  clear hDw hD hDs
  rw [← HD.out]
  rintro e w2 ⟨d, rfl, F2⟩
  have F2 : Fam w w2 [(d, D)] := F2
  clear F1 T1
  go_wp2_with fail
  refine (F2.does ad n cap acts HN.out h150 (H.out.touch F2.end)).mono ?_
  rw [← HD.out]
  rintro e w3 ⟨wa, rfl, F3⟩
  have F3 : Fam w w3 [(d, D), (wa, D)] := F3
  clear F2
  obtain ⟨X, hX⟩ : ∃ X, X = Dk.fail D keep (-1) := ⟨_, rfl⟩
  have HXs : Hid (X.seen.length = 8) := by
    show _ = _
    obtain ⟨O, hO, _⟩ := F3.st 0 rfl
    rw [hX, Dk.fail_seen hO.ok]; exact HDs.out
  have HXw : Hid (X.waits.length = 0) := by show _ = _; rw [hX]; rfl
  have HX := Lib.hid hX
  clear hX
  go_wp2_with fail
  refine (F3.left 0 rfl keep (-1) Hk.out hDw6.out).mono ?_
  rw [← HX.out]
  rintro e w4 ⟨x, rfl, F4⟩
  have F4 : Fam w w4 [(d, D), (wa, D), (x, X)] := F4
  clear F3
  go_wp2_with fail
  refine (F4.left 0 rfl keep (-1) Hk.out hDw6.out).mono ?_
  rw [← HX.out]
  rintro e w5 ⟨y, rfl, F5⟩
  have F5 : Fam w w5 [(d, D), (wa, D), (x, X), (y, X)] := F5
  clear F4
  go_wp2
  go_loopg [11] 8 (fun g s11 wr => ∃ (k : Nat) (X' : Dk.Disk), k + g = 8 ∧ s11 = .int .i64 ((k : Nat) : Int) ∧ Hid (X'.seen.length = 8) ∧ Hid (X'.waits.length = 0) ∧ Fam w wr [(d, D), (wa, D), (x, X'), (y, X)])
  case atStart => exact ⟨0, X, by omega, rfl, HXs.out, HXw.out, F5⟩
  case round =>
    clear F5
    obtain ⟨k, X', hkg, rfl, Hs, Hw, F⟩ := hrel
    cases gk with
    | zero =>
      obtain rfl : k = 8 := by omega
      go_wp2_with fail
      refine ((F.st 0 rfl).alike (F.st 1 rfl) rfl (fun _ _ => rfl)).mono ?_
      rintro e w6 ⟨rfl, t6⟩
      have F6 := F.no t6
      clear F t6
      go_wp2_with fail
      refine (F6.left 1 rfl keep (-1) Hk.out hDw6.out).mono ?_
      rw [← HX.out]
      rintro e w7 ⟨v, rfl, F7⟩
      have F7 : Fam w w7 [(d, D), (wa, D), (x, X'), (y, X), (v, X)] := F7
      clear F6
      go_wp2_with fail
      refine ((F7.st 3 rfl).alike (F7.st 4 rfl) rfl (fun _ _ => rfl)).mono ?_
      rintro e w8 ⟨rfl, t8⟩
      have F8 := F7.no t8
      clear F7 t8
      go_wp2_with fail
      refine (F8.left 0 rfl keep (-1) Hk.out hDw6.out).mono ?_
      rw [← HX.out]
      rintro e w9 ⟨z, rfl, F9⟩
      have F9 : Fam w w9 [(d, D), (wa, D), (x, X'), (y, X), (v, X), (z, X)] := F9
      clear F8
      go_wp2
      go_loopg [13] 8 (fun g s13 wr => ∃ (k : Nat) (D' : Dk.Disk), k + g = 8 ∧ s13 = .int .i64 ((k : Nat) : Int) ∧ Hid (D'.seen.length = 8) ∧ Hid (D'.waits.length = D.waits.length + k) ∧ Fam w wr [(d, D'), (wa, D), (x, X'), (y, X), (v, X), (z, X)])
      case atStart => exact ⟨0, D, by omega, rfl, HDs.out, rfl, F9⟩
      case round =>
        clear F9
        obtain ⟨k, D', hkg', rfl, Hs', Hw', F⟩ := hrel
        cases gk with
        | zero =>
          obtain rfl : k = 8 := by omega
          obtain ⟨q, hq⟩ : ∃ q, D.waits.length = q := ⟨_, rfl⟩
          have hq150 : q ≤ 150 := by rw [← hq]; exact HDw.out
          have Hq := Lib.hid hq
          clear hq
          go_wp2_with fail
          refine ((F.st 3 rfl).alike (F.st 5 rfl) rfl (fun _ _ => rfl)).mono ?_
          rintro e w10 ⟨rfl, t10⟩
          have F10 := F.no t10
          clear F t10
          go_wp2_with fail
          refine ((F10.st 5 rfl).waits 0 HXw.out).mono ?_
          rintro e w' ⟨rfl, rfl⟩
          go_wp2_with fail
          refine ((F10.st 0 rfl).waits (q + 8) (by rw [Hw'.out, Hq.out])).mono ?_
          rintro e w' ⟨rfl, rfl⟩
          go_wp2_with fail
          refine ((F10.st 1 rfl).waits q Hq.out).mono ?_
          rintro e w' ⟨rfl, rfl⟩
          go_wp2
          go_ret
          exact ⟨ret_bool (by simp), F10.end⟩
        | succ g =>
          have hlt : (k : Int) < 8 := by omega
          have h7 : (7 : Int) - (k : Int) = ((7 - k : Nat) : Int) := by omega
          have hw6 : Hid (D'.waits.length ≤ 1000000) := by show _ ≤ _; rw [Hw'.out]; have := HDw.out; omega
          have hm6 : b.length ≤ 64 := by rw [Hb.out]; omega
          have HA := Lib.hid (Dk.apart_yes D' k b (by omega) (by rw [Hs'.out]; omega) hm6)
          clear hm6
          have hw7 : Hid ((Dk.writeA D' k b).waits.length ≤ 1000000) := by show _ ≤ _; rw [HA.out, Hw'.out]; have := HDw.out; omega
          have hs7 : Hid (7 - k < (Dk.writeA D' k b).seen.length) := by show _ < _; rw [Dk.apart_seen, Hs'.out]; omega
          have H7 := Lib.hid h7
          clear h7
          go_wp2_with fail
          refine (F.write 0 rfl k a m c b Hb.out Hlt.out (Hr.out.no F.end) hw6.out).mono ?_
          rintro e w11 ⟨rfl, F11⟩
          have F11 : Fam w w11 [(d, Dk.writeA D' k b), (wa, D), (x, X'), (y, X), (v, X), (z, X)] := F11
          clear F
          go_wp2_with fail
          rw [H7.out]
          refine (F11.bad 0 rfl (7 - k) hs7.out hw7.out).mono ?_
          rintro e w12 ⟨rfl, F12⟩
          have F12 : Fam w w12 [(d, Dk.bad (Dk.writeA D' k b) (7 - k)), (wa, D), (x, X'), (y, X), (v, X), (z, X)] := F12
          clear F11
          go_wp2
          go_roundg g
          case measure => omega
          case rel => exact ⟨k + 1, _, by omega, by go_num, by show List.length _ = _; simp only [Dk.bad, Dk.upd_length]; rw [Dk.apart_seen]; exact Hs'.out, by show List.length _ = _; simp only [Dk.bad, List.length_map]; rw [HA.out, Hw'.out]; omega, F12⟩
    | succ g =>
      have hlt : (k : Int) < 8 := by omega
      have hw6 : Hid (X'.waits.length ≤ 1000000) := by show _ ≤ _; rw [Hw.out]; omega
      have hw7 : Hid ((Dk.writeA X' k b).waits.length ≤ 1000000) := by show _ ≤ _; have := Dk.apart_waits X' k b; rw [Hw.out] at this; omega
      have hs7 : Hid (k < (Dk.writeA X' k b).seen.length) := by show _ < _; rw [Dk.apart_seen, Hs.out]; omega
      have hk8 : k < 64 := by omega
      go_wp2_with fail
      refine (F.write 2 rfl k a m c b Hb.out Hlt.out (Hr.out.no F.end) hw6.out).mono ?_
      rintro e w11 ⟨rfl, F11⟩
      have F11 : Fam w w11 [(d, D), (wa, D), (x, Dk.writeA X' k b), (y, X)] := F11
      clear F
      go_wp2_with fail
      refine (F11.rot 2 rfl k k 7 hs7.out hk8 (by decide) hw7.out).mono ?_
      rintro e w12 ⟨rfl, F12⟩
      have F12 : Fam w w12 [(d, D), (wa, D), (x, Dk.rot (Dk.writeA X' k b) k k 7), (y, X)] := F12
      clear F11
      go_wp2_with fail
      refine (F12.sync 2 rfl).mono ?_
      rintro e w13 ⟨rfl, F13⟩
      have F13 : Fam w w13 [(d, D), (wa, D), (x, Dk.sync (Dk.rot (Dk.writeA X' k b) k k 7)), (y, X)] := F13
      clear F12
      go_wp2
      go_roundg g
      case measure => omega
      case rel => exact ⟨k + 1, Dk.sync (Dk.rot (Dk.writeA X' k b) k k 7), by omega, by go_num, by show List.length _ = _; simp only [Dk.sync, Dk.rot, Dk.upd_length]; rw [Dk.apart_seen]; exact Hs.out, rfl, F13⟩
end Go.Proofs.Ytechmboimpbjpaa
