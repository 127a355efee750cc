/-
  Package drydocklaw24 by its own text: the walk of ArenasFit.
-/
import Derived.Test.YtkiehoboeiengaaK24
import Derived.Test.YtkiehoboeiengaaK40
import Derived.Test.YtkiehoboeiengaaK42
namespace Go.Proofs.Ytkiehoboeiengaa
open Go Go.RowKit
set_option linter.unusedSimpArgs false
set_option linter.unusedVariables false

/-- what is taken, as it comes -/
def fitY (turned : Bool) (xs : List Nat) : List Nat := if turned then (xs.map (· % 1000)).reverse else xs.map (· % 1000)
def fitK (turned : Bool) (n : Nat) : List Nat := if turned then (List.range n).reverse else List.range n
theorem fitY_sum (turned : Bool) (xs : List Nat) : (fitY turned xs).sum = (xs.map (· % 1000)).sum := by
  unfold fitY
  cases turned
  · rfl
  · rw [if_pos rfl]; exact (List.reverse_perm _).sum_nat
theorem fit_le (xs : List Nat) : (xs.map (· % 1000)).sum ≤ 999 * xs.length := by
  induction xs with
  | nil => exact Nat.zero_le _
  | cons x r ih => simp only [List.map_cons, List.sum_cons, List.length_cons]; omega

theorem fitK_at (t : Bool) {n i : Nat} (h : i < n) : (fitK t n)[i]? = some (if t = true then n - 1 - i else i) := by
  unfold fitK
  cases t
  · simp [h]
  · rw [if_pos rfl, if_pos rfl, List.getElem?_reverse (by simpa using h), List.length_range, List.getElem?_range (by omega)]
theorem fitK_new (t : Bool) {n i j : Nat} (hi : i < n) (hj : j < i) : (fitK t n)[j]? ≠ some (if t = true then n - 1 - i else i) := by
  rw [fitK_at t (by omega)]
  intro e
  injection e with e
  cases t
  · simp at e; omega
  · simp at e; omega
theorem fitK_over (t : Bool) {n j q : Nat} (hj : j < n) (hq : n ≤ q) : (fitK t n)[j]? ≠ some q := by
  rw [fitK_at t hj]
  intro e
  injection e with e
  cases t
  · simp at e; omega
  · simp at e; omega
theorem fitY_at (t : Bool) {xs : List Nat} {n i : Nat} (hl : xs.length = n) (h : i < n) : (fitY t xs)[i]? = some (xs.getD (if t = true then n - 1 - i else i) 0 % 1000) := by
  unfold fitY
  cases t
  · simp [hl, h, List.getD_eq_getElem?_getD]
  · rw [if_pos rfl, if_pos rfl, List.getElem?_reverse (by rw [List.length_map, hl]; exact h), List.length_map, hl, List.getElem?_map, List.getD_eq_getElem?_getD, List.getElem?_eq_getElem (by omega)]
    rfl

set_option maxRecDepth 100000 in
set_option maxHeartbeats 8000000 in
theorem arenasFit_go (w : World) (pa : Option Addr) (n ca : Nat) (xs : List Nat) (hX : xs.length = n) (hn : n ≤ 60) (hr : Rd w pa (nums .u16 xs)) (hlt : ∀ x ∈ xs, x < 65536) (turned : Bool) :
    Calls Try.prog 6 #[.slice pa n ca, .bool turned] w (LawPost w) := by
  have HR := Lib.hid hr
  have HL := Lib.hid hX
  have HLT := Lib.hid hlt
  clear hr hX hlt
  go_enter Try.func6, Try.ntmps6
  go_wp2
  go_loopg [5, 6] n (fun gh s5 s6 wr => ∃ k m : Nat, k + gh = n ∧ s6 = .int .i64 ((k : Nat) : Int) ∧ s5 = .int .i64 ((m : Nat) : Int) ∧ m ≤ 999 * k ∧ Hid (m = ((xs.map (· % 1000)).take k).sum) ∧ Hid (wr = w))
  case atStart => exact ⟨0, 0, by omega, rfl, rfl, by omega, rfl, rfl⟩
  case round =>
    obtain ⟨k, m, hkg, rfl, rfl, hm, HT, hwr⟩ := hrel
    have hww : w = wr := hwr.out.symm
    clear hwr
    subst hww
    cases gk with
    | succ g' =>
      have hki : (k : Int) < (n : Nat) := by omega
      obtain ⟨x, hx⟩ : ∃ x, xs.getD k 0 = x := ⟨_, rfl⟩
      obtain ⟨gb, go, rfl, hcx⟩ := HR.out.num (i := k) (by rw [HL.out]; omega)
      rw [hx] at hcx
      have hxl : x < 65536 := by
        rw [← hx, List.getD_eq_getElem?_getD, List.getElem?_eq_getElem (by rw [HL.out]; omega)]
        exact HLT.out _ (List.getElem_mem _)
      go_wp2
      go_roundg g'
      case rel =>
        refine ⟨k + 1, m + x % 1000, by omega, rfl, by simp, by omega, ?_, rfl⟩
        show _ = _
        rw [HT.out, Ar.sum_take_succ (b := x % 1000) (by rw [List.getElem?_map, List.getElem?_eq_getElem (by rw [HL.out]; omega), ← hx, List.getD_eq_getElem?_getD, List.getElem?_eq_getElem (by rw [HL.out]; omega)]; rfl)]
      case measure => omega
    | zero =>
      obtain rfl : k = n := by omega
      have HS : Hid (m = (fitY turned xs).sum) := by
        show _ = _
        rw [HT.out, fitY_sum, List.take_of_length_le (by rw [List.length_map, HL.out]; exact Nat.le_refl _)]
      clear HT
      go_wp2_with fail
      refine (ars_newK w w (Touch.refl No w) m (m : Nat) rfl (by omega)).mono ?_
      rintro e w1 ⟨g, rfl, q1⟩
      have H1 := Lib.hid q1
      clear q1
      go_wp2
      go_loopg [9, 10, 11] k (fun gh s9 s10 s11 wr => ∃ (i u : Nat) (A : Ar.Arena), i + gh = k ∧ s10 = .int .i64 ((i : Nat) : Int) ∧ s9 = .int .i64 ((u : Nat) : Int) ∧ u ≤ m ∧ Hid (u = ((fitY turned xs).take i).sum) ∧ Hid (Ar.Fit (fitY turned xs) (fitK turned k) i A ∧ Ars w wr g A []))
      case atStart => exact ⟨0, 0, _, by omega, rfl, rfl, by omega, rfl, by rw [HS.out]; exact Ar.fit_new _ _, H1.out⟩
      case round =>
        obtain ⟨i, u, A, hik, rfl, rfl, hum, HU, HA⟩ := hrel
        cases gk with
        | succ g2 =>
          have hik2 : (i : Int) < (k : Nat) := by omega
          have HF := Lib.hid HA.out.1
          have HB := Lib.hid HA.out.2
          clear HA
          obtain ⟨kk, hkk⟩ : ∃ kk : Nat, (if turned = true then k - 1 - i else i) = kk := ⟨_, rfl⟩
          have hkl : kk < k := by rw [← hkk]; split <;> omega
          obtain ⟨x, hx⟩ : ∃ x, xs.getD kk 0 = x := ⟨_, rfl⟩
          have KA : Hid ((fitK turned k)[i]? = some kk) := by show _ = _; rw [fitK_at turned (by omega), hkk]
          have KY : Hid ((fitY turned xs)[i]? = some (x % 1000)) := by show _ = _; rw [fitY_at turned HL.out (by omega), hkk, hx]
          have KN : Hid (∀ j, j < i → (fitK turned k)[j]? ≠ some kk) := fun j hj => by rw [← hkk]; exact fitK_new turned (by omega) hj
          have KO : Hid (∀ j, j < i → (fitK turned k)[j]? ≠ some (100 + i)) := fun j hj => fitK_over turned (by omega) (by omega)
          obtain ⟨gb, go, rfl, hcx⟩ := HR.out.num (i := kk) (by rw [HL.out]; omega)
          rw [hx] at hcx
          have hxl : x < 65536 := by
            rw [← hx, List.getD_eq_getElem?_getD, List.getElem?_eq_getElem (by rw [HL.out]; omega)]
            exact HLT.out _ (List.getElem_mem _)
          have KC : Hid (∀ w', Touch No w w' → w'.cell? ⟨gb, go + kk, none⟩ = some (.int .u16 (x : Nat))) := fun w' t => t.cell (fun f => f) hcx
          clear hx hcx
          cases turned with
          | false =>
            obtain rfl : i = kk := by simpa using hkk
            clear hkk
            go_wp2_with fail
            refine (HB.out.takeK (100 + (i : Int)) (100 + i) (by omega) (by omega) ((m : Int) - u + 1) (by omega) (by rw [HF.out.puts]; omega) 13 (by rw [(HF.out.over KO.out (by rw [← HS.out, ← HU.out])).1]; rfl) A (HF.out.over KO.out (by rw [← HS.out, ← HU.out])).2).mono ?_
            rintro e w2 ⟨rfl, q1⟩
            have H2 := Lib.hid q1
            have c2 := KC.out _ q1.end
            clear q1 HB
            go_wp2_with fail
            clear c2
            obtain ⟨s1, s2⟩ := HF.out.step KA.out KY.out KN.out
            obtain ⟨A2, hA2⟩ : ∃ A2, Ar.takeA A i ((x % 1000 : Nat) : Int) = A2 := ⟨_, rfl⟩
            rw [hA2] at s2
            have S1 := Lib.hid s1
            have S2 := Lib.hid s2
            have SA := Lib.hid hA2
            have FX : Hid ((x : Int) % 1000 = ((x % 1000 : Nat) : Int)) := by show _ = _; omega
            have FU : Hid (((fitY false xs).take (i + 1)).sum = u + x % 1000) := by show _ = _; rw [Ar.sum_take_succ KY.out, ← HU.out]
            clear s1 s2 hA2
            refine (H2.out.takeK (i : Nat) i rfl (by omega) ((x : Int) % 1000) (by omega) (by rw [HF.out.puts]; omega) 0 (by rw [FX.out, S1.out]; rfl) A2 (by rw [FX.out]; exact SA.out)).mono ?_
            rintro e w3 ⟨rfl, q1⟩
            have H3 := Lib.hid q1
            have c3 := KC.out _ q1.end
            clear q1 H2
            go_wp2_with fail
            clear c3
            refine (H3.out.usedK ((u : Int) + (x : Int) % 1000) (by rw [S2.out.used, FU.out]; omega)).mono ?_
            rintro e w4 ⟨rfl, q1⟩
            have H4 := Lib.hid q1
            clear q1 H3
            go_wp2_with fail
            refine (H4.out.peakK ((u : Int) + (x : Int) % 1000) (by rw [S2.out.peak, FU.out]; omega)).mono ?_
            rintro e w5 ⟨rfl, rfl⟩
            go_wp2
            go_roundg g2
            case rel => exact ⟨i + 1, u + x % 1000, A2, by omega, by simp, by simp, by have h1 := Ar.sum_take_le (fitY false xs) (i + 1); have h2 := HS.out; have h3 := FU.out; omega, FU.out.symm, S2.out, H4.out⟩
            case measure => omega
          | true =>
            have hk2 : (k : Int) - 1 - (i : Int) = (kk : Nat) := by have : k - 1 - i = kk := by simpa using hkk
                                                                    omega
            clear hkk
            go_wp2_with fail
            refine (HB.out.takeK (100 + (i : Int)) (100 + i) (by omega) (by omega) ((m : Int) - u + 1) (by omega) (by rw [HF.out.puts]; omega) 13 (by rw [(HF.out.over KO.out (by rw [← HS.out, ← HU.out])).1]; rfl) A (HF.out.over KO.out (by rw [← HS.out, ← HU.out])).2).mono ?_
            rintro e w2 ⟨rfl, q1⟩
            have H2 := Lib.hid q1
            have c2 := KC.out _ q1.end
            clear q1 HB
            go_wp2_with fail
            clear c2
            obtain ⟨s1, s2⟩ := HF.out.step KA.out KY.out KN.out
            obtain ⟨A2, hA2⟩ : ∃ A2, Ar.takeA A kk ((x % 1000 : Nat) : Int) = A2 := ⟨_, rfl⟩
            rw [hA2] at s2
            have S1 := Lib.hid s1
            have S2 := Lib.hid s2
            have SA := Lib.hid hA2
            have FX : Hid ((x : Int) % 1000 = ((x % 1000 : Nat) : Int)) := by show _ = _; omega
            have FU : Hid (((fitY true xs).take (i + 1)).sum = u + x % 1000) := by show _ = _; rw [Ar.sum_take_succ KY.out, ← HU.out]
            clear s1 s2 hA2
            refine (H2.out.takeK (kk : Nat) kk rfl (by omega) ((x : Int) % 1000) (by omega) (by rw [HF.out.puts]; omega) 0 (by rw [FX.out, S1.out]; rfl) A2 (by rw [FX.out]; exact SA.out)).mono ?_
            rintro e w3 ⟨rfl, q1⟩
            have H3 := Lib.hid q1
            have c3 := KC.out _ q1.end
            clear q1 H2
            go_wp2_with fail
            clear c3
            refine (H3.out.usedK ((u : Int) + (x : Int) % 1000) (by rw [S2.out.used, FU.out]; omega)).mono ?_
            rintro e w4 ⟨rfl, q1⟩
            have H4 := Lib.hid q1
            clear q1 H3
            go_wp2_with fail
            refine (H4.out.peakK ((u : Int) + (x : Int) % 1000) (by rw [S2.out.peak, FU.out]; omega)).mono ?_
            rintro e w5 ⟨rfl, rfl⟩
            go_wp2
            go_roundg g2
            case rel => exact ⟨i + 1, u + x % 1000, A2, by omega, by simp, by simp, by have h1 := Ar.sum_take_le (fitY true xs) (i + 1); have h2 := HS.out; have h3 := FU.out; omega, FU.out.symm, S2.out, H4.out⟩
            case measure => omega
        | zero =>
          obtain rfl : i = k := by omega
          have HF := Lib.hid HA.out.1
          have HB := Lib.hid HA.out.2
          clear HA
          have KO : Hid (∀ j, j < i → (fitK turned i)[j]? ≠ some 99) := fun j hj => fitK_over turned (by omega) (by omega)
          have KM : Hid (((fitY turned xs).take i).sum = m) := by
            show _ = _
            rw [HS.out, List.take_of_length_le]
            unfold fitY
            split
            · rw [List.length_reverse, List.length_map, HL.out]; exact Nat.le_refl _
            · rw [List.length_map, HL.out]; exact Nat.le_refl _
          have hro : 0 + A.used ≤ A.room := by rw [HF.out.used, HF.out.room, KM.out, ← HS.out]; omega
          obtain ⟨t1, _, t3, t4, _⟩ := Ar.take_facts (id := 99) (b := 0) (HF.out.free 99 KO.out) hro
          have t5 := (Ar.take_more (id := 99) (b := 0) (HF.out.free 99 KO.out) hro).1
          obtain ⟨A3, hA3⟩ : ∃ A3, Ar.takeA A 99 ((0 : Nat) : Int) = A3 := ⟨_, rfl⟩
          rw [hA3] at t3 t4 t5
          have T1 := Lib.hid t1
          have T3 : Hid (A3.used = m) := by show _ = _; rw [t3, HF.out.used, KM.out]; rfl
          have T5 : Hid (A3.its.length = i + 1) := by show _ = _; rw [t5, HF.out.len]
          have TA := Lib.hid hA3
          clear t1 t3 t4 t5 hA3 hro
          go_wp2_with fail
          refine (HB.out.takeK 99 99 rfl (by decide) 1 (by decide) (by rw [HF.out.puts]; omega) 13 (by rw [(HF.out.over KO.out (z := 1) (by rw [KM.out, ← HS.out]; omega)).1]; rfl) A (HF.out.over KO.out (z := 1) (by rw [KM.out, ← HS.out]; omega)).2).mono ?_
          rintro e w2 ⟨rfl, q1⟩
          have H2 := Lib.hid q1
          clear q1 HB
          go_wp2_with fail
          refine (H2.out.takeK 99 99 rfl (by decide) 0 (by decide) (by rw [HF.out.puts]; omega) 0 (by rw [show (0 : Int) = ((0 : Nat) : Int) from rfl, T1.out]) A3 TA.out).mono ?_
          rintro e w3 ⟨rfl, q1⟩
          have H3 := Lib.hid q1
          clear q1 H2
          go_wp2_with fail
          refine (H3.out.usedK (m : Nat) (by rw [T3.out])).mono ?_
          rintro e w4 ⟨rfl, q1⟩
          have H4 := Lib.hid q1
          clear q1 H3
          go_wp2_with fail
          have hI := H4.out.ids (by rw [T5.out]; omega)
          rw [T5.out] at hI
          refine hI.mono ?_
          clear hI
          rintro e w5 ⟨a, rfl, q1⟩
          have H5 := Lib.hid q1.end
          clear q1 H4
          go_wp2_with fail
          refine (lives_is _).mono ?_
          rintro e wz ⟨rfl, tz⟩
          go_wp2
          go_ret
          exact ⟨rfl, H5.out.trans tz⟩

set_option maxRecDepth 100000 in
theorem arenasFit_walk (w : World) (pa : Option Addr) (n ca : Nat) (xs : List Nat) (hX : xs.length = n) (hc : n ≤ ca) (hm : (ca : Int) ≤ 140737488355328) (hr : Rd w pa (nums .u16 xs)) (hlt : ∀ x ∈ xs, x < 65536) (turned : Bool) :
    Calls Try.prog 6 #[.slice pa n ca, .bool turned] w (LawPost w) := by
  by_cases hn : n ≤ 60
  · exact arenasFit_go w pa n ca xs hX hn hr hlt turned
  · clear hr hlt hX
    go_enter Try.func6, Try.ntmps6
    go_wp2_with fail
    refine (lives_is _).mono ?_
    rintro e wz ⟨rfl, tz⟩
    go_wp2
    go_ret
    exact ⟨rfl, tz⟩
end Go.Proofs.Ytkiehoboeiengaa
