/-
  Package frees by its own text, second part: of, there, Is, Free, Mark.
  Package frees by its own text, third part: Is, Free, Mark.
-/
import Derived.Test.YtmjeigceclmdoaaGreatDoorK05
namespace Go.Proofs.YtmjeigceclmdoaaGreatDoor
open Go.RowKit

/-- a page of the map? -/
def inMap (first last p : Nat) : Bool := decide (first ≤ p) && decide (p < last)
theorem inMap_true {first last p : Nat} : inMap first last p = true ↔ first ≤ p ∧ p < last := by simp [inMap]
theorem inMap_false {first last p : Nat} : inMap first last p = false ↔ ¬ (first ≤ p ∧ p < last) := by
  rw [← inMap_true]; cases inMap first last p <;> simp

set_option maxHeartbeats 400000 in
theorem there_map (w : World) (b first last : Nat) (S : Nat → Bool) (h : MapAt w b first last S) :
    Calls Tryz.prog 143 #[.pointer (some ⟨b, 0, none⟩)] w fun e w' => e = .returned (.bool true) ∧ w = w' := by
  have hm := h.made
  go_enter Tryz.func143, Tryz.ntmps143
  go_wp2
  go_ret
  exact ⟨rfl, rfl⟩

set_option maxHeartbeats 400000 in
theorem of_any (w : World) (b first last p : Nat) (S : Nat → Bool) (h : MapAt w b first last S) (hp : p < 4294967296) :
    Calls Tryz.prog 146 #[.pointer (some ⟨b, 0, none⟩), .int .u32 (p : Nat)] w fun e w' => e = .returned (.bool (inMap first last p)) ∧ w = w' := by
  have hlo := h.lo
  have hhi := h.hi
  have ht := h.top
  have hpi : (p : Int) ≤ 4294967295 := by omega
  have Fin : Hid (∀ c : Bool, (c = true ↔ first ≤ p ∧ p < last) → c = inMap first last p) := fun c hc => by
    rw [Bool.eq_iff_iff, hc, inMap_true]
  clear h
  by_cases h1 : first ≤ p
  · by_cases h2 : p < last
    · have hl : (first : Int) ≤ 4611686018427387904 := by omega
      go_enter Tryz.func146, Tryz.ntmps146
      go_wp2
      go_ret
      exact ⟨ret_bool (Fin.out _ (by simp [h1, h2])), rfl⟩
    · have hl : (last : Int) ≤ 4611686018427387904 := by omega
      go_enter Tryz.func146, Tryz.ntmps146
      go_wp2
      go_ret
      exact ⟨ret_bool (Fin.out _ (by simp [h2])), rfl⟩
  · go_enter Tryz.func146, Tryz.ntmps146
    go_wp2
    go_ret
    exact ⟨ret_bool (Fin.out _ (by simp [h1])), rfl⟩
end Go.Proofs.YtmjeigceclmdoaaGreatDoor
namespace Go.Proofs.YtmjeigceclmdoaaGreatDoor
open Go.RowKit

theorem bit_test (x j : Nat) (hx : x < 18446744073709551616) : (bits BinOp.and .u64 ((x : Int) / 2 ^ j) 1 == 1) = x.testBit j := by
  have e : ((x : Int) / 2 ^ j) = ((x / 2 ^ j : Nat) : Int) := by norm_cast
  have hl : x / 2 ^ j < 18446744073709551616 := Nat.lt_of_le_of_lt (Nat.div_le_self _ _) hx
  have h := bits_and_u64_nat (x / 2 ^ j) 1 hl (by decide)
  rw [e]
  rw [show ((1 : Nat) : Int) = 1 from rfl] at h
  rw [h, nat_mask1, Fr.shift_one]
  cases x.testBit j <;> rfl

set_option maxHeartbeats 400000 in
theorem is_any (w : World) (b first last p : Nat) (S : Nat → Bool) (h : MapAt w b first last S) (hp : p < 4294967296) :
    Calls Tryz.prog 43 #[.pointer (some ⟨b, 0, none⟩), .int .u32 (p : Nat)] w fun e w' => e = .returned (.bool (S p)) ∧ w = w' := by
  cases hc : inMap first last p
  · have hS : S p = false := by
      cases hS : S p
      · rfl
      · exact absurd (h.rng p hS) (inMap_false.1 hc)
    have HS := Lib.hid hS; clear hS
    have H := Lib.hid h; clear h
    go_enter Tryz.func43, Tryz.ntmps43
    go_wp2_with (first
      | (go_at_call 143; refine (there_map _ _ _ _ _ H.out).mono ?_; rintro e w' ⟨rfl, rfl⟩)
      | (go_at_call 146; refine (of_any _ _ _ _ _ _ H.out hp).mono ?_; rintro e w' ⟨rfl, rfl⟩))
    go_ret
    exact ⟨ret_bool HS.out.symm, rfl⟩
  · have hr := inMap_true.1 hc
    have hp' : p < 4096 := by have := h.top; omega
    obtain ⟨x, hx, hw⟩ := h.word (p / 64) (by omega)
    have hb := hw.bit (p := p) rfl
    have H := Lib.hid h; clear h
    go_enter Tryz.func43, Tryz.ntmps43
    go_wp2_with (first
      | (go_at_call 143; refine (there_map _ _ _ _ _ H.out).mono ?_; rintro e w' ⟨rfl, rfl⟩)
      | (go_at_call 146; refine (of_any _ _ _ _ _ _ H.out hp).mono ?_; rintro e w' ⟨rfl, rfl⟩))
    go_ret
    exact ⟨ret_bool (by rw [bit_test _ _ hw.1, hb]), rfl⟩

set_option maxHeartbeats 400000 in
theorem free_any (w : World) (b first last : Nat) (S : Nat → Bool) (h : MapAt w b first last S) :
    Calls Tryz.prog 41 #[.pointer (some ⟨b, 0, none⟩)] w fun e w' => e = .returned (.int .i64 ((Fr.lst S).length : Nat)) ∧ w = w' := by
  have hm := h.many
  have H := Lib.hid h; clear h
  go_enter Tryz.func41, Tryz.ntmps41
  go_wp2_with (go_at_call 143; refine (there_map _ _ _ _ _ H.out).mono ?_; rintro e w' ⟨rfl, rfl⟩)
  go_ret
  exact ⟨rfl, rfl⟩

/-- what Mark says -/
def markSays (first last : Nat) (S : Nat → Bool) (p : Nat) : Nat := if inMap first last p then (if S p then 0 else 8) else 1
def markSet (S : Nat → Bool) (p : Nat) : Nat → Bool := if S p then Fr.flip S p else S

set_option maxHeartbeats 400000 in
theorem mark_any (w : World) (b first last p : Nat) (S : Nat → Bool) (h : MapAt w b first last S) (hp : p < 4294967296) :
    Calls Tryz.prog 37 #[.pointer (some ⟨b, 0, none⟩), .int .u32 (p : Nat)] w fun e w' => e = .returned (.int .i64 (markSays first last S p : Nat)) ∧ Touch (One b) w w' ∧ MapAt w' b first last (markSet S p) := by
  have H := Lib.hid h
  cases hc : inMap first last p
  · have fin : MapAt w b first last (markSet S p) := by
      have : S p = false := by
        cases hS : S p
        · rfl
        · exact absurd (h.rng p hS) (inMap_false.1 hc)
      rw [markSet, this]; exact h
    have Fin := Lib.hid fin; clear fin h
    have hm : markSays first last S p = 1 := by simp [markSays, hc]
    rw [hm]; clear hm
    go_enter Tryz.func37, Tryz.ntmps37
    go_wp2_with (first
      | (go_at_call 143; refine (there_map _ _ _ _ _ H.out).mono ?_; rintro e w' ⟨rfl, rfl⟩)
      | (go_at_call 146; refine (of_any _ _ _ _ _ _ H.out hp).mono ?_; rintro e w' ⟨rfl, rfl⟩))
    go_ret
    exact ⟨rfl, Touch.refl _ _, Fin.out⟩
  · cases hS : S p
    · have fin : MapAt w b first last (markSet S p) := by rw [markSet, hS]; exact h
      have Fin := Lib.hid fin; clear fin h
      have hm : markSays first last S p = 8 := by simp [markSays, hc, hS]
      rw [hm]; clear hm
      go_enter Tryz.func37, Tryz.ntmps37
      go_wp2_with (first
        | (go_at_call 143; refine (there_map _ _ _ _ _ H.out).mono ?_; rintro e w' ⟨rfl, rfl⟩)
        | (go_at_call 146; refine (of_any _ _ _ _ _ _ H.out hp).mono ?_; rintro e w' ⟨rfl, rfl⟩)
        | (go_at_call 43; refine (is_any _ _ _ _ _ _ H.out hp).mono ?_; rintro e w' ⟨rfl, rfl⟩))
      go_ret
      exact ⟨rfl, Touch.refl _ _, Fin.out⟩
    · have hr := inMap_true.1 hc
      have fin : ∀ w', MapAt w' b first last (Fr.flip S p) → MapAt w' b first last (markSet S p) := by intro w' h'; rw [markSet, hS]; exact h'
      have Fin := Lib.hid fin; clear fin h
      have hm : markSays first last S p = 0 := by simp [markSays, hc, hS]
      rw [hm]; clear hm
      go_enter Tryz.func37, Tryz.ntmps37
      go_wp2_with (first
        | (go_at_call 143; refine (there_map _ _ _ _ _ H.out).mono ?_; rintro e w' ⟨rfl, rfl⟩)
        | (go_at_call 146; refine (of_any _ _ _ _ _ _ H.out hp).mono ?_; rintro e w' ⟨rfl, rfl⟩)
        | (go_at_call 43; refine (is_any _ _ _ _ _ _ H.out hp).mono ?_; rintro e w' ⟨rfl, rfl⟩)
        | (go_at_call 142; refine (turn_any _ _ _ _ _ _ H.out hr).mono ?_; rintro e w' ⟨rfl, ht, hm⟩))
      go_ret
      exact ⟨rfl, ht, Fin.out _ hm⟩
end Go.Proofs.YtmjeigceclmdoaaGreatDoor
