/-
  bytes.Trim of noughts, by its own text.
-/
import Derived.Test.YtakjbdeemifnmaaDoorNumA
import Derived.Deep.RegionHeld3
namespace Go.Proofs.YtakjbdeemifnmaaDoor
open Go Go.RowKit
set_option linter.unusedSimpArgs false

theorem nought_drop {b : List Nat} {k : Nat} (hk : k < b.length) : Rt.nought (b.drop k) = (b.getD k 0 == 0 && Rt.nought (b.drop (k + 1))) := by
  rw [List.drop_eq_getElem_cons hk, Rt.nought, List.all_cons, List.getD_eq_getElem?_getD, List.getElem?_eq_getElem hk]; rfl

def TrimRPost (w : World) (a : Option Addr) (n c : Nat) (b : List Nat) (e : Ending) (w' : World) : Prop :=
  ∃ k, k ≤ n ∧ e = .returned (.slice a k c) ∧ Rt.nought (b.drop k) = true ∧ w = w'

set_option maxRecDepth 100000 in
set_option maxHeartbeats 2000000 in
theorem trimRight_any (w : World) (a : Option Addr) (n c : Nat) (b : List Nat) (hb : b.length = n) (hnc : n ≤ c) (hmax : (c : Int) ≤ 9223372036854775807) (hr : Rd w a (nums .u8 b)) :
    Calls Tryd.prog 42 #[.slice a n c, .int .u8 0] w (TrimRPost w a n c b) := by
  obtain ⟨I, hi0, hi1, hi2, hi3⟩ := u8_info
  have hh : ∀ (wx : World) (k : Nat), k ≤ c → (Instr.slice 22 (.slice a (k + 1) c) none (some (.int .i64 (k : Nat))) none).run Tryd.prog wx = .ok (.slice a k c) wx := fun wx k hk => run_head Tryd.underlying22 hi0 hi2 a (k + 1) c k .i64 hk wx
  have HH := Lib.hid hh
  have Hb := Lib.hid hb
  have Hr := Lib.hid hr
  have h0 : Hid (Rt.nought (b.drop n) = true) := by show _ = _; rw [← hb, List.drop_length]; rfl
  clear hh hb hr hi0 hi1 hi2 hi3
  go_enter Tryd.func42, Tryd.ntmps42
  go_wp2
  go_loopg [0] n (fun g s0 wr => g ≤ n ∧ s0 = .slice a g c ∧ Hid (Rt.nought (b.drop g) = true) ∧ Hid (w = wr))
  case atStart => exact ⟨Nat.le_refl _, rfl, h0.out, rfl⟩
  case round =>
    obtain ⟨hg, rfl, N, hw⟩ := hrel
    have hww := hw.out
    clear hw
    subst hww
    cases gk with
    | zero =>
      go_wp2
      go_ret
      exact ⟨0, Nat.zero_le _, rfl, N.out, rfl⟩
    | succ g =>
      have hgl : g < b.length := by have := Hb.out; omega
      obtain ⟨gb, ob, rfl, hcb⟩ := Hr.out.num hgl
      have hcut := HH.out w g (by omega)
      have hnx := Lib.hid (nought_drop hgl)
      have hp : (0 : Int) < (g : Int) + 1 := by omega
      generalize b.getD g 0 = x at *
      clear hgl
      by_cases hx : x = 0
      · subst hx
        have HN : Hid (Rt.nought (b.drop g) = true) := by show _ = _; rw [hnx.out, N.out]; rfl
        go_wp2
        go_roundg g
        case measure => omega
        case rel => exact ⟨by omega, rfl, HN.out, rfl⟩
      · have hxe : ((x : Int) == 0) = false := by simp; omega
        clear hx
        go_wp2
        go_ret
        exact ⟨g + 1, hg, rfl, N.out, rfl⟩

def TrimLPost (w : World) (b : List Nat) (e : Ending) (w' : World) : Prop :=
  ∃ a k c, k ≤ b.length ∧ e = .returned (.slice a k c) ∧ (k = 0 ↔ Rt.nought b = true) ∧ w = w'

set_option maxRecDepth 100000 in
set_option maxHeartbeats 2000000 in
theorem trimLeft_any (w : World) (a : Option Addr) (n c : Nat) (b : List Nat) (hb : b.length = n) (hnc : n ≤ c) (hr : Rd w a (nums .u8 b)) :
    Calls Tryd.prog 41 #[.slice a n c, .int .u8 0] w (TrimLPost w b) := by
  obtain ⟨I, hi0, hi1, hi2, hi3⟩ := u8_info
  have hh : ∀ (wx : World) (a : Option Addr) (n c : Nat), 1 ≤ n → (Instr.slice 22 (.slice a n c) (some (.int .i64 1)) none none).run Tryd.prog wx = .ok (.slice (cutAddr a c 1) (n - 1) (c - 1)) wx := fun wx a n c h1 => run_cut Tryd.underlying22 hi0 hi2 a n c 1 .i64 h1 wx
  have HH := Lib.hid hh
  have Hb := Lib.hid hb
  have Fin : Hid (∀ m, m ≤ n → Rt.nought (b.take (n - m)) = true → (m = 0 ∨ ∃ x, (b.drop (n - m)).getD 0 0 = x ∧ x ≠ 0 ∧ 0 < m) → (m = 0 ↔ Rt.nought b = true)) := fun m hm h1 h2 => by
    have e : Rt.nought b = (Rt.nought (b.take (n - m)) && Rt.nought (b.drop (n - m))) := by
      conv => lhs; rw [← List.take_append_drop (n - m) b]
      simp only [Rt.nought, List.all_append]
    rw [e, h1, Bool.true_and]
    rcases h2 with rfl | ⟨x, hx, hx0, hm0⟩
    · rw [Nat.sub_zero, ← hb, List.drop_length]; simp [Rt.nought]
    · have hk : n - m < b.length := by omega
      rw [nought_drop hk]
      have : b.getD (n - m) 0 = x := by
        rw [List.getD_eq_getElem?_getD, List.getElem?_drop, Nat.add_zero] at hx
        rw [List.getD_eq_getElem?_getD]; exact hx
      rw [this]
      simp [hx0]; omega
  have Nx : Hid (∀ g, g + 1 ≤ n → Rt.nought (b.take (n - (g + 1))) = true → (b.drop (n - (g + 1))).getD 0 0 = 0 → Rt.nought (b.take (n - g)) = true) := fun g hg h1 h2 => by
    have hk : n - (g + 1) < b.length := by omega
    rw [show n - g = n - (g + 1) + 1 by omega, List.take_succ_eq_append_getElem hk]
    have : b[n - (g + 1)] = 0 := by
      rw [List.getD_eq_getElem?_getD, List.getElem?_drop, Nat.add_zero, List.getElem?_eq_getElem hk] at h2
      exact h2
    rw [this]
    simp only [Rt.nought, List.all_append] at h1 ⊢
    rw [h1]; rfl
  have H0 : Hid (Rd w a (nums .u8 (b.drop (n - n)))) := by show Rd _ _ _; rw [Nat.sub_self, List.drop_zero]; exact hr
  have Z0 : Hid (Rt.nought (b.take (n - n)) = true) := by show _ = _; rw [Nat.sub_self]; rfl
  clear hh hb hr hi0 hi1 hi2 hi3
  go_enter Tryd.func41, Tryd.ntmps41
  go_wp2
  go_loopg [0] n (fun g s0 wr => ∃ (a' : Option Addr) (c' : Nat), g ≤ n ∧ g ≤ c' ∧ c' ≤ c ∧ s0 = .slice a' g c' ∧ Hid (Rd w a' (nums .u8 (b.drop (n - g)))) ∧ Hid (Rt.nought (b.take (n - g)) = true) ∧ Hid (w = wr))
  case atStart => exact ⟨a, c, Nat.le_refl _, hnc, Nat.le_refl _, rfl, H0.out, Z0.out, rfl⟩
  case round =>
    obtain ⟨a', c', hg, hgc, hcc, rfl, R, N, hw⟩ := hrel
    have hww := hw.out
    clear hw
    subst hww
    cases gk with
    | zero =>
      go_wp2
      go_ret
      exact ⟨_, 0, 0, Nat.zero_le _, rfl, Fin.out 0 (Nat.zero_le _) N.out (Or.inl rfl), rfl⟩
    | succ g =>
      have hdl : (b.drop (n - (g + 1))).length = g + 1 := by rw [List.length_drop]; have := Hb.out; omega
      obtain ⟨gb, ob, rfl, hcb⟩ := R.out.num (i := 0) (by omega)
      rw [Nat.add_zero] at hcb
      have hcut := HH.out w (some ⟨gb, ob, none⟩) (g + 1) c' (by omega)
      rw [Nat.add_sub_cancel] at hcut
      have hp : (0 : Int) < (g : Int) + 1 := by omega
      have hrc := R.out.cut (cap := c') (l := 1) (by rw [nums_length]; omega)
      rw [nums, ← List.map_drop, List.drop_drop, show n - (g + 1) + 1 = n - g by omega] at hrc
      have HRC := Lib.hid hrc
      obtain ⟨x, hx⟩ : ∃ x, (b.drop (n - (g + 1))).getD 0 0 = x := ⟨_, rfl⟩
      rw [hx] at hcb
      have HX := Lib.hid hx
      clear hrc hx hdl
      by_cases hx0 : x = 0
      · subst hx0
        have HN := Lib.hid (Nx.out g hg N.out HX.out)
        go_wp2
        go_roundg g
        case measure => omega
        case rel => exact ⟨_, c' - 1, by omega, by omega, by omega, rfl, HRC.out, HN.out, rfl⟩
      · have hxe : ((x : Int) == 0) = false := by simp; omega
        have HF := Lib.hid (Fin.out (g + 1) hg N.out (Or.inr ⟨x, HX.out, hx0, by omega⟩))
        have hne : ((g : Int) + 1 == 0) = false := by simp; omega
        clear hx0 hcut
        go_wp2
        go_ret
        exact ⟨_, g + 1, c', by have := Hb.out; omega, rfl, HF.out, rfl⟩

def TrimPost (w : World) (b : List Nat) (e : Ending) (w' : World) : Prop :=
  ∃ a k c, k ≤ b.length ∧ e = .returned (.slice a k c) ∧ (k = 0 ↔ Rt.nought b = true) ∧ Touch No w w'

set_option maxRecDepth 100000 in
set_option maxHeartbeats 2000000 in
theorem trim_any (w : World) (a : Option Addr) (n c : Nat) (b : List Nat) (hb : b.length = n) (hnc : n ≤ c) (hmax : (c : Int) ≤ 9223372036854775807) (hr : Rd w a (nums .u8 b)) :
    Calls Tryd.prog 35 #[.slice a n c, .string ⟨#[0]⟩] w (TrimPost w b) := by
  by_cases h0 : n = 0
  · subst h0
    obtain rfl : b = [] := List.length_eq_zero_iff.1 hb
    clear hr
    go_enter Tryd.func35, Tryd.ntmps35
    go_wp2
    go_ret
    exact ⟨_, 0, 0, Nat.le_refl _, rfl, by simp [Rt.nought], Touch.refl _ _⟩
  · have hne : ((n : Int) == 0) = false := by simp; omega
    have Hr := Lib.hid (hr.no ((Touch.refl No w).drew))
    have Hb := Lib.hid hb
    have Fin : Hid (∀ k k1, k ≤ n → Rt.nought (b.drop k) = true → (k1 = 0 ↔ Rt.nought (b.take k) = true) → (k1 = 0 ↔ Rt.nought b = true)) := fun k k1 _ h1 h2 => by
      rw [h2]
      conv => rhs; rw [← List.take_append_drop k b]
      simp only [Rt.nought, List.all_append, Bool.and_eq_true] at h1 ⊢
      exact ⟨fun h => ⟨h, h1⟩, fun h => h.1⟩
    have HRk : Hid (∀ k, k ≤ n → (b.take k).length = k ∧ Rd w.drew a (nums .u8 (b.take k))) := fun k hk => by
      have h2 := Hb.out
      refine ⟨by rw [List.length_take]; omega, ?_⟩
      have := Hr.out.take k
      rw [nums, ← List.map_take] at this; exact this
    clear hr h0 hb
    go_enter Tryd.func35, Tryd.ntmps35
    go_wp2_with fail
    go_region_held3 (fun _ => True) (trivial) (first
      | (go_at_call 42; refine (trimRight_any _ a n c b Hb.out hnc hmax Hr.out).mono ?_; rintro e w5 ⟨k, hk, rfl, hz, rfl⟩)
      | (go_at_call 41; refine (trimLeft_any _ a k c (b.take k) (HRk.out k hk).1 (by omega) (HRk.out k hk).2).mono ?_; rintro e w6 ⟨a6, k6, c6, hk6, rfl, hf6, rfl⟩))
    all_goals
      have HF := Lib.hid (Fin.out k k6 hk hz hf6)
      have HK : Hid (k6 ≤ b.length) := by show _ ≤ _; rw [List.length_take] at hk6; omega
      clear hz hf6 hk6
      go_wp2
      go_ret
      exact ⟨a6, k6, c6, HK.out, rfl, HF.out, (Touch.refl No w).drew⟩
end Go.Proofs.YtakjbdeemifnmaaDoor
