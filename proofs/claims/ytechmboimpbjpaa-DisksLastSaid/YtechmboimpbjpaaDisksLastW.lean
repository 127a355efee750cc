/-
  Package drydocklaw03 by its own text: the walk of DisksLast.
-/
import Derived.Test.YtechmboimpbjpaaDiskL
namespace Go.Proofs.Ytechmboimpbjpaa
open Go Go.RowKit
namespace Dk
/-- the last of so many writes that is kept -/
def want (keep : Nat) : Nat → Nat
  | 0 => 0
  | k + 1 => if keep.testBit k then k + 1 else want keep k
def lastW (k : Nat) : List Wr := (List.range k).map (fun i => ⟨0, pad [i + 1], 0⟩)
def last (k : Nat) : Disk := ⟨[noughts], [⟨pad [k], 0⟩], lastW k⟩
theorem pad0 : pad [0] = List.replicate 64 0 := rfl
theorem last0 : new 1 = last 0 := rfl
theorem last_next (k : Nat) : write (last k) 0 [k + 1] = last (k + 1) := by
  simp [write, last, lastW, List.range_succ]
theorem last_waits (k : Nat) : (last k).waits.length = k := by simp [last, lastW]
theorem last_fail (keep : Nat) : ∀ k, k ≤ 64 → failed keep (-1) [noughts] 0 (lastW k) = [⟨pad [want keep k], 0⟩]
  | 0, _ => rfl
  | k + 1, h => by
    have ih := last_fail keep k (by omega)
    have e : lastW (k + 1) = lastW k ++ [⟨0, pad [k + 1], 0⟩] := by simp [lastW, List.range_succ]
    rw [e, failed_snoc, ih]
    have hl : 0 + (lastW k).length = k := by simp [lastW]
    rw [hl, failStep, if_neg (by omega), Nat.mod_eq_of_lt (by omega), want]
    by_cases hb : keep.testBit k
    · rw [if_pos hb, if_pos hb]; simp [upd, at_, keptS]
    · rw [if_neg hb, if_neg hb]
theorem want_le (keep : Nat) : ∀ k, want keep k ≤ k
  | 0 => Nat.le_refl _
  | k + 1 => by
    have := want_le keep k
    rw [want]; split <;> omega
theorem last_first (k : Nat) : (if (at_ (last k).seen 0).bad = 1 then 256 else (at_ (last k).seen 0).b.getD 0 0) = k := rfl
theorem last_left (keep k : Nat) (h : k ≤ 64) : (if (at_ (fail (last k) keep (-1)).seen 0).bad = 1 then 256 else (at_ (fail (last k) keep (-1)).seen 0).b.getD 0 0) = want keep k := by
  have e : (fail (last k) keep (-1)).seen = [⟨pad [want keep k], 0⟩] := last_fail keep k h
  rw [e]; rfl
theorem last_left_len (keep k : Nat) (h : k ≤ 64) : (fail (last k) keep (-1)).seen.length = 1 := by
  have e : (fail (last k) keep (-1)).seen = [⟨pad [want keep k], 0⟩] := last_fail keep k h
  rw [e]; rfl
end Dk

def LawPost (w : World) (e : Ending) (w' : World) : Prop := e = .returned (.bool true) ∧ Touch No w w'

set_option maxRecDepth 100000 in
set_option maxHeartbeats 4000000 in
theorem disksLast_walk (w : World) (m keep : Nat) (hm : m < 256) (hk : keep < 18446744073709551616) :
    Calls Try.prog 3 #[.int .u8 (m : Nat), .int .u64 (keep : Nat)] w (LawPost w) := by
  have Hk := Lib.hid hk
  clear hk
  obtain ⟨n, hn⟩ : ∃ n, m % 64 = n := ⟨_, rfl⟩
  have hn1 : (m : Int) % 64 = (n : Nat) := by omega
  have hn64 : n < 64 := by omega
  have Hn := Lib.hid hn
  clear hn
  go_enter Try.func3, Try.ntmps3
  go_wp2_with fail
  refine (new_k w 1 (by decide) (by decide)).mono ?_
  rintro e w1 ⟨d, rfl, h1⟩
  have s1 : St w w1 d (Dk.last 0) := St.made (Touch.refl _ _) h1
  clear h1
  go_wp2
  try simp only [hn1]
  clear hn1
  go_loopg [8, 9] n (fun g s8 s9 wr => ∃ k : Nat, k + g = n ∧ s9 = .int .i64 ((k : Nat) : Int) ∧ s8 = .int .i64 ((Dk.want keep k : Nat) : Int) ∧ St w wr d (Dk.last k))
  case atStart => exact ⟨0, by omega, rfl, rfl, s1⟩
  case round =>
    obtain ⟨k, hkg, rfl, rfl, S⟩ := hrel
    cases gk with
    | zero =>
      obtain rfl : k = n := by omega
      have hwl := Dk.want_le keep k
      obtain ⟨v, hv⟩ : ∃ v, Dk.want keep k = v := ⟨_, rfl⟩
      have hv0 := Dk.last_left keep k (by omega)
      have hv1 := Dk.last_left_len keep k (by omega)
      rw [hv] at hwl hv0 ⊢
      have Hv0 := Lib.hid hv0
      have Hv1 := Lib.hid hv1
      clear hv0 hv hv1
      go_wp2_with fail
      refine (alive_is wr).mono ?_
      rintro e w2 ⟨rfl, t2⟩
      have S2 := S.no t2
      clear S t2
      go_wp2_with fail
      refine (S2.waits k (Dk.last_waits k)).mono ?_
      rintro e w' ⟨rfl, rfl⟩
      go_wp2_with fail
      refine (S2.first 0 k Nat.one_pos (Dk.last_first k)).mono ?_
      rintro e w3 ⟨rfl, t3⟩
      have S3 := S2.no t3
      clear S2 t3
      go_wp2_with fail
      refine (S3.left keep (-1) Hk.out (by rw [Dk.last_waits]; omega)).mono ?_
      rintro e w4 ⟨x, rfl, S4, X4⟩
      go_wp2_with fail
      refine (X4.first 0 v (by rw [Hv1.out]; decide) Hv0.out).mono ?_
      rintro e w5 ⟨rfl, t5⟩
      have S5 := S4.no t5
      clear S3 S4 X4 t5
      go_wp2
      go_ret
      exact ⟨rfl, S5.end⟩
    | succ g =>
      have hlt : (k : Int) < (n : Nat) := by omega
      have hu : IntKind.u8.wrap ((k : Int) + 1) = (k : Int) + 1 := by rw [IntKind.wrap_u8']; omega
      have e1 : (k : Int) + 1 = ((k + 1 : Nat) : Int) := by omega
      have hrd : Rd (wr.alloc (.cells #[.int .u8 ((k : Int) + 1)] 5)) (some ⟨wr.heap.size, 0, none⟩) (nums .u8 [k + 1]) := rd_one wr 5 (k + 1) _
      have Hrd := Lib.hid hrd
      have Hw := Lib.hid (bit_test keep k Hk.out)
      clear hrd e1
      cases hb : keep.testBit k with
      | true =>
        have hw : Dk.want keep (k + 1) = k + 1 := by rw [Dk.want, if_pos hb]
        have hbt := Hw.out
        rw [hb] at hbt
        have Hwn := Lib.hid hw
        clear hw hb
        go_wp2_with fail
        refine ((S.alloc (.cells #[.int .u8 ((k : Int) + 1)] 5)).write 0 _ 1 1 [k + 1] Nat.one_pos rfl (by decide) (by simp; omega) Hrd.out (by rw [Dk.last_waits]; omega)).mono ?_
        rintro e w2 ⟨rfl, S2⟩
        rw [Dk.last_next] at S2
        go_wp2
        go_roundg g
        case measure => omega
        case rel => exact ⟨k + 1, by omega, by go_num, by rw [Hwn.out]; go_num, S2⟩
      | false =>
        have hw : Dk.want keep (k + 1) = Dk.want keep k := by rw [Dk.want, if_neg (by rw [hb]; decide)]
        have hbt := Hw.out
        rw [hb] at hbt
        have Hwn := Lib.hid hw
        clear hw hb
        go_wp2_with fail
        refine ((S.alloc (.cells #[.int .u8 ((k : Int) + 1)] 5)).write 0 _ 1 1 [k + 1] Nat.one_pos rfl (by decide) (by simp; omega) Hrd.out (by rw [Dk.last_waits]; omega)).mono ?_
        rintro e w2 ⟨rfl, S2⟩
        rw [Dk.last_next] at S2
        go_wp2
        go_roundg g
        case measure => omega
        case rel => exact ⟨k + 1, by omega, by go_num, by rw [Hwn.out], S2⟩
end Go.Proofs.Ytechmboimpbjpaa
