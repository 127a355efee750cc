/-
  Package drydockref02 by its own text: On, Of. The sum by halves is the sum by a table.
-/
import Derived.Test.YtkiehoboeiengaaK37
namespace Go.Proofs.Ytkiehoboeiengaa
open Go Go.RowKit
set_option linter.unusedSimpArgs false

namespace Rt
theorem half1_xor (a b : Nat) : half1 (a ^^^ b) = half1 a ^^^ half1 b := by
  have hd : (a ^^^ b) / 2 = a / 2 ^^^ b / 2 := by
    have := Nat.shiftRight_xor_distrib (a := a) (b := b) (i := 1)
    simpa [Nat.shiftRight_eq_div_pow] using this
  have hp : (a ^^^ b) % 2 = (a + b) % 2 := by
    have h := Nat.xor_mod_two_pow (a := a) (b := b) (n := 1)
    rw [Nat.pow_one] at h
    rw [h]
    rcases Nat.mod_two_eq_zero_or_one a with ha | ha <;> rcases Nat.mod_two_eq_zero_or_one b with hb | hb <;> rw [ha, hb]
    · show 0 = _; omega
    · show 1 = _; omega
    · show 1 = _; omega
    · show 0 = _; omega
  unfold half1
  by_cases h1 : a % 2 = 1
  · by_cases h2 : b % 2 = 1
    · rw [if_neg (by omega), if_pos h1, if_pos h2, hd]
      rw [Nat.xor_assoc, Nat.xor_comm 3988292384 (b / 2 ^^^ 3988292384), Nat.xor_assoc, Nat.xor_self, Nat.xor_zero]
    · rw [if_pos (by omega), if_pos h1, if_neg h2, hd]
      rw [Nat.xor_assoc, Nat.xor_assoc, Nat.xor_comm (b / 2)]
  · by_cases h2 : b % 2 = 1
    · rw [if_pos (by omega), if_neg h1, if_pos h2, hd, Nat.xor_assoc]
    · rw [if_neg (by omega), if_neg h1, if_neg h2, hd]
theorem halves_xor : ∀ (k a b : Nat), halves k (a ^^^ b) = halves k a ^^^ halves k b
  | 0, _, _ => rfl
  | k + 1, a, b => by rw [halves, half1_xor, halves_xor k]; rfl
theorem half1_even (m : Nat) : half1 (2 * m) = m := by unfold half1; rw [if_neg (by omega)]; omega
theorem halves_pow : ∀ (k m : Nat), halves k (2 ^ k * m) = m
  | 0, m => by simp [halves]
  | k + 1, m => by rw [halves, Nat.pow_succ, Nat.mul_comm (2 ^ k) 2, Nat.mul_assoc, half1_even, halves_pow k]
theorem low_high (r : Nat) : r = (r % 256) ^^^ (2 ^ 8 * (r / 256)) := by
  apply Nat.eq_of_testBit_eq
  intro i
  rw [Nat.testBit_xor, show (256 : Nat) = 2 ^ 8 from rfl, Nat.testBit_mod_two_pow, Nat.testBit_two_pow_mul]
  by_cases h : i < 8
  · simp [h, Nat.not_le.2 h]
  · have h8 : 8 ≤ i := by omega
    simp only [h, h8, decide_true, decide_false, Bool.false_and, Bool.true_and, Bool.false_xor]
    rw [Nat.testBit_div_two_pow, show i - 8 + 8 = i by omega]
theorem step_halves (r c : Nat) : halves 8 (r ^^^ c) = step r c := by
  have h : r ^^^ c = (r % 256 ^^^ c) ^^^ (2 ^ 8 * (r / 256)) := by
    have := low_high r
    calc r ^^^ c = ((r % 256) ^^^ (2 ^ 8 * (r / 256))) ^^^ c := by rw [← this]
      _ = _ := by rw [Nat.xor_assoc, Nat.xor_comm (2 ^ 8 * (r / 256)) c, Nat.xor_assoc]
  rw [h, halves_xor, halves_pow]; rfl
end Rt

set_option maxRecDepth 100000 in
set_option maxHeartbeats 4000000 in
theorem refOn_any (w : World) (sum : Nat) (hs : sum < 4294967296) (a : Option Addr) (n c : Nat) (b : List Nat) (hb : b.length = n) (hmax : (n : Int) ≤ 9223372036854775807) (hr : Rd w a (nums .u8 b)) (hlt : ∀ x ∈ b, x < 256) :
    Calls Try.prog 90 #[.int .u32 (sum : Nat), .slice a n c] w fun e w' => e = .returned (.int .u32 (Rt.on sum b : Nat)) ∧ w = w' := by
  have Hb := Lib.hid hb
  have Hr := Lib.hid hr
  have Hlt := Lib.hid hlt
  have hneg := xor_neg hs
  obtain ⟨ns, hns⟩ : ∃ ns, ns = Rt.neg sum := ⟨_, rfl⟩
  rw [← hns] at hneg
  have hn32 : ns < 4294967296 := by rw [hns]; exact Rt.neg_lt _
  have Hns := Lib.hid hns
  clear hns hb hr hlt
  go_enter Try.func90, Try.ntmps90
  go_wp2
  go_loopg [5, 6] n (fun g s5 s6 wr => ∃ (k r : Nat), k + g = n ∧ s6 = .int .i64 ((k : Nat) : Int) ∧ s5 = .int .u32 ((r : Nat) : Int) ∧ r < 4294967296 ∧ Hid (r = Rt.run ns (b.take k)) ∧ Hid (wr = w))
  case atStart => exact ⟨0, ns, by omega, rfl, rfl, hn32, rfl, rfl⟩
  case round =>
    obtain ⟨k, r, hkg, rfl, rfl, hr32, hr, hwr⟩ := hrel
    have hww : w = wr := hwr.out.symm
    clear hwr
    subst hww
    cases gk with
    | zero =>
      obtain rfl : k = n := by omega
      have hx := xor_neg hr32
      have hfin : Hid (Rt.neg r = Rt.on sum b) := by
        show _ = _
        rw [hr.out, Hns.out, List.take_of_length_le (by rw [Hb.out]; exact Nat.le_refl _)]; rfl
      obtain ⟨q, hq⟩ : ∃ q, Rt.neg r = q := ⟨_, rfl⟩
      rw [hq] at hx hfin
      clear hq hneg
      go_wp2
      go_ret
      exact ⟨by rw [← hfin.out]; rfl, rfl⟩
    | succ g =>
      have hlt : (k : Int) < (n : Nat) := by omega
      have hkb : k < b.length := by rw [Hb.out]; omega
      obtain ⟨gb, ob, rfl, hcb⟩ := Hr.out.num hkb
      have hc256 := Hlt.out (b.getD k 0) (by rw [List.getD_eq_getElem?_getD, List.getElem?_eq_getElem hkb]; exact List.getElem_mem hkb)
      have hnext : Hid (Rt.run ns (b.take (k + 1)) = Rt.step r (b.getD k 0)) := by
        show _ = _
        rw [List.take_succ_eq_append_getElem hkb, Rt.run_append, ← hr.out, List.getD_eq_getElem?_getD, List.getElem?_eq_getElem hkb]; rfl
      obtain ⟨x, hx⟩ : ∃ x, b.getD k 0 = x := ⟨_, rfl⟩
      rw [hx] at hcb hc256 hnext
      have hxx := u32_xor_nat r x hr32 (by omega)
      obtain ⟨z, hz⟩ : ∃ z, r ^^^ x = z := ⟨_, rfl⟩
      have hz32 : z < 4294967296 := by rw [← hz]; exact Nat.xor_lt_two_pow (n := 32) (by omega) (by omega)
      have Hz : Hid (Rt.halves 8 z = Rt.run ns (b.take (k + 1))) := by
        show _ = _
        rw [hnext.out, ← hz, Rt.step_halves]
      rw [hz] at hxx
      clear hx hkb hnext hz hneg
      go_wp2
      clear hxx hcb
      obtain ⟨wo, rfl⟩ : ∃ wo : World, wo = w := ⟨_, rfl⟩
      go_loopg [5, 7, 8] 8 (fun g' s5 s7 s8 wr => ∃ (i y : Nat), i + g' = 8 ∧ s7 = .int .i64 ((i : Nat) : Int) ∧ s5 = .int .u32 ((y : Nat) : Int) ∧ y < 4294967296 ∧ Hid (y = Rt.halves i z) ∧ Hid (wr = wo))
      case atStart => exact ⟨0, z, by omega, rfl, rfl, hz32, rfl, rfl⟩
      case round =>
        obtain ⟨i, y, hig, rfl, rfl, hy32, hy, hwr⟩ := hrel
        have hww : wo = wr := hwr.out.symm
        clear hwr
        subst hww
        cases gk with
        | zero =>
          obtain rfl : i = 8 := by omega
          have HN : Hid (y = Rt.run ns (b.take (k + 1))) := by show _ = _; rw [hy.out, Hz.out]
          go_wp2
          go_roundg g
          case measure => omega
          case rel => exact ⟨k + 1, y, by omega, by go_num, rfl, hy32, HN, rfl⟩
        | succ g' =>
          have hi8 : (i : Int) < 8 := by omega
          have hh32 := Rt.half1_lt hy32
          by_cases hp : y % 2 = 1
          · obtain ⟨q1, q2⟩ := half_one hy32 hp
            have HN : Hid (Rt.half1 y = Rt.halves (i + 1) z) := by show _ = _; rw [Rt.halves_succ, ← hy.out]
            obtain ⟨y', hy'⟩ : ∃ y', Rt.half1 y = y' := ⟨_, rfl⟩
            rw [hy'] at q2 HN hh32
            clear hp hy' hy
            go_wp2
            go_roundg g'
            case measure => omega
            case rel => exact ⟨i + 1, y', by omega, by go_num, rfl, hh32, HN, rfl⟩
          · obtain ⟨q1, _⟩ := half_nil hy32 (by omega)
            have HN : Hid (y / 2 = Rt.halves (i + 1) z) := by show _ = _; rw [Rt.halves_succ, ← hy.out, Rt.half1, if_neg hp]
            clear hp hy
            go_wp2
            go_roundg g'
            case measure => omega
            case rel => exact ⟨i + 1, y / 2, by omega, by go_num, by go_num, by omega, HN, rfl⟩
theorem refOf_any (w : World) (a : Option Addr) (n c : Nat) (b : List Nat) (hb : b.length = n) (hmax : (n : Int) ≤ 9223372036854775807) (hr : Rd w a (nums .u8 b)) (hlt : ∀ x ∈ b, x < 256) :
    Calls Try.prog 70 #[.slice a n c] w fun e w' => e = .returned (.int .u32 (Rt.of b : Nat)) ∧ w = w' := by
  have Hc := Lib.hid (refOn_any w 0 (by decide) a n c b hb hmax hr hlt)
  have hv : Hid (Rt.on 0 b = Rt.of b) := rfl
  clear hb hr hlt
  go_enter Try.func70, Try.ntmps70
  go_wp2_with fail
  refine Hc.out.mono ?_
  rintro e w2 ⟨rfl, rfl⟩
  rw [hv.out]
  go_wp2
  go_ret
  exact ⟨rfl, rfl⟩
end Go.Proofs.Ytkiehoboeiengaa
