/-
  Package drydockref15 by its own text: what is read of a map: place, Is, of, Free.
-/
import Derived.Test.YtmjeigceclmdoaaGreatDoorK06
import Derived.Test.YtmjeigceclmdoaaGreatDoorK16
namespace Go.Proofs.YtmjeigceclmdoaaGreatDoor
open Go Go.RowKit
set_option linter.unusedSimpArgs false
set_option linter.unusedVariables false

namespace Fr
/-- the place of a page among those that are free, or where it would be -/
def place (xs : List Nat) (p : Nat) : Nat := (xs.takeWhile (fun x => decide (x < p))).length
def isIn (xs : List Nat) (p : Nat) : Bool := decide (place xs p < xs.length) && (xs.getD (place xs p) 0 == p)
theorem place_le (xs : List Nat) (p : Nat) : place xs p ≤ xs.length := (List.takeWhile_sublist _).length_le
theorem place_at : ∀ {xs : List Nat} {p k : Nat}, k ≤ xs.length → (∀ i, i < k → xs.getD i 0 < p) → (k = xs.length ∨ ¬ xs.getD k 0 < p) → place xs p = k
  | [], p, k, hk, _, _ => by
    have : k = 0 := by simpa using hk
    subst this; rfl
  | x :: xs, p, 0, _, _, h => by
    rcases h with h | h
    · simp at h
    · have hx : ¬ x < p := by simpa using h
      simp [place, hx]
  | x :: xs, p, k + 1, hk, hl, h => by
    have hx : x < p := by simpa using hl 0 (by omega)
    have ih := place_at (xs := xs) (p := p) (k := k) (by simpa using hk) (fun i hi => by simpa using hl (i + 1) (by omega)) (h.imp (fun h => by simpa using h) (fun h => by simpa using h))
    rw [place] at ih
    simp [place, hx, ih]
end Fr
structure RefAt (w : World) (g first many : Nat) (a : Option Addr) (n c : Nat) (xs : List Nat) : Prop where
  row : Row w g 148 [.int .i64 (first : Nat), .int .i64 (many : Nat), .slice a n c]
  len : xs.length = n
  cap : n ≤ c
  max : (c : Int) ≤ 9223372036854775807
  rd : Rd w a (nums .u32 xs)
  lt : ∀ x ∈ xs, x < 4294967296
  lo : first ≤ 4096
  hi : many ≤ 4096

theorem refFree_any (w : World) (g first many : Nat) (a : Option Addr) (n c : Nat) (xs : List Nat) (h : RefAt w g first many a n c xs) :
    Calls Tryz.prog 42 #[.pointer (some ⟨g, 0, none⟩)] w fun e w' => e = .returned (.int .i64 (n : Nat)) ∧ w = w' := by
  have k2 : w.cell? ⟨g, 2, none⟩ = some (.slice a n c) := h.row.cell 2
  clear h
  go_enter Tryz.func42, Tryz.ntmps42
  go_wp2
  go_ret
  exact ⟨rfl, rfl⟩
set_option maxRecDepth 100000 in
set_option maxHeartbeats 2000000 in
theorem refPlace_any (w : World) (g first many : Nat) (a : Option Addr) (n c : Nat) (xs : List Nat) (h : RefAt w g first many a n c xs) (p : Nat) (hp : p < 4294967296) :
    Calls Tryz.prog 148 #[.pointer (some ⟨g, 0, none⟩), .int .u32 (p : Nat)] w fun e w' => e = .returned (.int .i64 (Fr.place xs p : Nat)) ∧ w = w' := by
  have k2 : w.cell? ⟨g, 2, none⟩ = some (.slice a n c) := h.row.cell 2
  have hn9 : (n : Int) ≤ 9223372036854775807 := by have := h.cap; have := h.max; omega
  have H := Lib.hid h
  clear h
  go_enter Tryz.func148, Tryz.ntmps148
  go_wp2
  go_loopg [5] n (fun g' s5 wr => ∃ k : Nat, k + g' = n ∧ s5 = .int .i64 ((k : Nat) : Int) ∧ Hid (∀ i, i < k → xs.getD i 0 < p) ∧ Hid (wr = w))
  case atStart => exact ⟨0, by omega, rfl, fun i hi => absurd hi (Nat.not_lt_zero i), rfl⟩
  case round =>
    obtain ⟨k, hkg, rfl, Hn, hwr⟩ := hrel
    have hww : w = wr := hwr.out.symm
    clear hwr
    subst hww
    cases gk with
    | zero =>
      obtain rfl : k = n := by omega
      have hf : Hid (Fr.place xs p = k) := Fr.place_at (by rw [H.out.len]; exact Nat.le_refl _) Hn.out (Or.inl H.out.len.symm)
      go_wp2
      go_ret
      exact ⟨by rw [hf.out]; rfl, rfl⟩
    | succ g' =>
      have hlt : (k : Int) < (n : Nat) := by omega
      have hkb : k < xs.length := by rw [H.out.len]; omega
      obtain ⟨gb, ob, hae, hcb⟩ := H.out.rd.num hkb
      subst hae
      obtain ⟨x, hx⟩ : ∃ x, xs.getD k 0 = x := ⟨_, rfl⟩
      rw [hx] at hcb
      by_cases hxp : x < p
      · have hnext : Hid (∀ i, i < k + 1 → xs.getD i 0 < p) := fun i hi => by
          by_cases e : i = k
          · subst e; rw [hx]; exact hxp
          · exact Hn.out i (by omega)
        have hxp' : (x : Int) < (p : Nat) := by omega
        clear hx hkb hxp
        go_wp2
        go_roundg g'
        case measure => omega
        case rel => exact ⟨k + 1, by omega, by go_num, hnext, rfl⟩
      · have hf : Hid (Fr.place xs p = k) := Fr.place_at (Nat.le_of_lt hkb) Hn.out (Or.inr (by rw [hx]; exact hxp))
        have hxp' : ¬ (x : Int) < (p : Nat) := by omega
        clear hx hkb hxp
        go_wp2
        go_ret
        exact ⟨by rw [hf.out]; rfl, rfl⟩
set_option maxRecDepth 100000 in
set_option maxHeartbeats 2000000 in
theorem refIs_any (w : World) (g first many : Nat) (a : Option Addr) (n c : Nat) (xs : List Nat) (h : RefAt w g first many a n c xs) (p : Nat) (hp : p < 4294967296) :
    Calls Tryz.prog 44 #[.pointer (some ⟨g, 0, none⟩), .int .u32 (p : Nat)] w fun e w' => e = .returned (.bool (Fr.isIn xs p)) ∧ w = w' := by
  have k2 : w.cell? ⟨g, 2, none⟩ = some (.slice a n c) := h.row.cell 2
  have hn9 : (n : Int) ≤ 9223372036854775807 := by have := h.cap; have := h.max; omega
  have H := Lib.hid h
  obtain ⟨k, hk⟩ : ∃ k, Fr.place xs p = k := ⟨_, rfl⟩
  have C := Lib.hid (refPlace_any w g first many a n c xs h p hp)
  rw [hk] at C
  have hkn : k ≤ n := by rw [← hk, ← h.len]; exact Fr.place_le _ _
  by_cases hlt : k < n
  · have hkb : k < xs.length := by rw [h.len]; exact hlt
    obtain ⟨gb, ob, hae, hcb⟩ := h.rd.num hkb
    obtain ⟨x, hx⟩ : ∃ x, xs.getD k 0 = x := ⟨_, rfl⟩
    have hv : Hid (Fr.isIn xs p = (x == p)) := by show _ = _; rw [Fr.isIn, hk, decide_eq_true hkb, hx]; rfl
    rw [hx] at hcb
    have hlt' : (k : Int) < (n : Nat) := by omega
    subst hae
    clear h hk hkb hx
    by_cases hxp : x = p
    · subst hxp
      have hv2 : Hid (Fr.isIn xs x = true) := by show _ = _; rw [hv.out]; simp
      clear hv
      go_enter Tryz.func44, Tryz.ntmps44
      go_wp2_with fail
      refine C.out.mono ?_
      rintro e w' ⟨rfl, rfl⟩
      go_wp2
      go_ret
      exact ⟨ret_bool hv2.out.symm, rfl⟩
    · have hv2 : Hid (Fr.isIn xs p = false) := by show _ = _; rw [hv.out]; simpa using hxp
      have hne : ((x : Int) == (p : Int)) = false := by simp; omega
      clear hv hxp
      go_enter Tryz.func44, Tryz.ntmps44
      go_wp2_with fail
      refine C.out.mono ?_
      rintro e w' ⟨rfl, rfl⟩
      go_wp2
      go_ret
      exact ⟨ret_bool hv2.out.symm, rfl⟩
  · have hv2 : Hid (Fr.isIn xs p = false) := by show _ = _; rw [Fr.isIn, hk, decide_eq_false (by rw [h.len]; exact hlt)]; rfl
    have hlt' : ¬ (k : Int) < (n : Nat) := by omega
    clear h hk hlt
    go_enter Tryz.func44, Tryz.ntmps44
    go_wp2_with fail
    refine C.out.mono ?_
    rintro e w' ⟨rfl, rfl⟩
    go_wp2
    go_ret
    exact ⟨ret_bool hv2.out.symm, rfl⟩
set_option maxRecDepth 100000 in
set_option maxHeartbeats 2000000 in
theorem refOf_map (w : World) (g first many : Nat) (a : Option Addr) (n c : Nat) (xs : List Nat) (h : RefAt w g first many a n c xs) (p : Nat) (hp : p < 4294967296) :
    Calls Tryz.prog 147 #[.pointer (some ⟨g, 0, none⟩), .int .u32 (p : Nat)] w fun e w' => e = .returned (.bool (inMap first (first + many) p)) ∧ Touch No w w' := by
  have k0 : w.cell? ⟨g, 0, none⟩ = some (.int .i64 (first : Nat)) := h.row.cell 0
  have k1 : w.cell? ⟨g, 1, none⟩ = some (.int .i64 (many : Nat)) := h.row.cell 1
  have hf : (first : Int) ≤ 4096 := by have := h.lo; omega
  have hm : (many : Int) ≤ 4096 := by have := h.hi; omega
  have hpi : (p : Int) ≤ 4294967295 := by omega
  have Fin : Hid (∀ c : Bool, (c = true ↔ first ≤ p ∧ p < first + many) → c = inMap first (first + many) p) := fun c hc => by
    rw [Bool.eq_iff_iff, hc, inMap_true]
  clear h
  by_cases h1 : first ≤ p
  · by_cases h2 : p < first + many
    · have h1' : (first : Int) ≤ (p : Nat) := by omega
      have h2' : (p : Int) < (first : Nat) + (many : Nat) := by omega
      go_enter Tryz.func147, Tryz.ntmps147
      go_wp2
      go_quiet (fail)
      go_wp2
      go_ret
      exact ⟨ret_bool (Fin.out _ (by first | (simp [h1]; done) | (simp [h1, h2]; done) | (simp; omega))), (Touch.refl No w).drewN _⟩
    · have h1' : (first : Int) ≤ (p : Nat) := by omega
      have h2' : ¬ (p : Int) < (first : Nat) + (many : Nat) := by omega
      go_enter Tryz.func147, Tryz.ntmps147
      go_wp2
      go_quiet (fail)
      go_wp2
      go_ret
      exact ⟨ret_bool (Fin.out _ (by first | (simp [h1]; done) | (simp [h1, h2]; done) | (simp; omega))), (Touch.refl No w).drewN _⟩
  · have h1' : ¬ (first : Int) ≤ (p : Nat) := by omega
    go_enter Tryz.func147, Tryz.ntmps147
    go_wp2
    go_quiet (fail)
    go_wp2
    go_ret
    exact ⟨ret_bool (Fin.out _ (by first | (simp [h1]; done) | (simp [h1, h2]; done) | (simp; omega))), (Touch.refl No w).drewN _⟩
end Go.Proofs.YtmjeigceclmdoaaGreatDoor
