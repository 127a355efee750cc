/-
  Package drydockref15 by its own text: Take.
-/
import Derived.Test.YtmjeigceclmdoaaGreatDoorK41
namespace Go.Proofs.YtmjeigceclmdoaaGreatDoor
open Go Go.RowKit
set_option linter.unusedSimpArgs false
set_option linter.unusedVariables false

/-- a map whose list is a new one -/
theorem ref_new {w : World} {g first many M c base : Nat} {a : Option Addr} {v : Value} {ys : List Nat} (R : Row w g 148 [.int .i64 (first : Nat), .int .i64 (many : Nat), v]) (O : Own w base 23 (.slice a M c) (nums .u32 ys)) (hb : g < base) :
    (Part.ref g first many ys).P (w.setCell ⟨g, 2, none⟩ (.slice a M c)) (fun i => i = g ∨ base ≤ i ∧ i < (w.setCell ⟨g, 2, none⟩ (.slice a M c)).heap.size) := by
  have R' := R.setCell 2 (.slice a M c)
  have O' := O.touch ((Touch.refl (One g) w).setCell (p := ⟨g, 2, none⟩) (fun _ => rfl) (.slice a M c)) (fun i hi _ hg => by have hg' : i = g := hg; omega)
  obtain ⟨O2, hs, hge⟩ := own_sl O'
  have hl2 := (Part.sl _ _ _ _ _).lt hs
  refine ⟨⟨a, M, c, fun i => i = g, O2, ⟨R', rfl, fun i hi => by rw [hi]; exact R'.lt⟩, ⟨O2, fun _ => False, hs, trivial, fun _ _ f => f, fun _ h => h, fun _ f => f.elim⟩, fun i hi h2 => by have := hge i h2; omega, fun i hi => Or.inl hi, fun i hi => Or.inr ⟨hge i hi, hl2 i hi⟩⟩, fun i hi => ?_⟩
  rcases hi with rfl | hi
  · exact R'.lt
  · exact hi.2
theorem refTake_bad (w : World) (g : Nat) (n : Int) (hn : n < 0) :
    Calls Tryz.prog 34 #[.pointer (some ⟨g, 0, none⟩), .int .i64 n] w fun e w' => e = .returned (.tuple #[.slice none 0 0, .int .i64 1]) ∧ w = w' := by
  go_enter Tryz.func34, Tryz.ntmps34
  go_wp2
  go_ret2
  exact ⟨rfl, rfl⟩
theorem refTake_full (w : World) (g first many : Nat) (a : Option Addr) (m c : Nat) (xs : List Nat) (h : RefAt w g first many a m c xs) (n : Int) (hn : (m : Int) < n) :
    Calls Tryz.prog 34 #[.pointer (some ⟨g, 0, none⟩), .int .i64 n] w fun e w' => e = .returned (.tuple #[.slice none 0 0, .int .i64 6]) ∧ w = w' := by
  have k2 : w.cell? ⟨g, 2, none⟩ = some (.slice a m c) := h.row.cell 2
  have hn0 : ¬ n < 0 := by omega
  clear h
  go_enter Tryz.func34, Tryz.ntmps34
  go_wp2
  go_ret2
  exact ⟨rfl, rfl⟩
set_option maxRecDepth 100000 in
set_option maxHeartbeats 2000000 in
theorem refTake_ok (w : World) (g first many : Nat) (xs : List Nat) (A : Nat → Prop) (h : Al w [Part.ref g first many xs] A) (hx : xs.length ≤ 4096) (n : Nat) (hn : n ≤ xs.length) :
    Calls Tryz.prog 34 #[.pointer (some ⟨g, 0, none⟩), .int .i64 (n : Nat)] w fun e w' => ∃ a c, e = .returned (.tuple #[.slice a n c, .int .i64 0]) ∧
      TurnsL w A [Part.ref g first many (xs.drop n), Part.sl 23 a n c (nums .u32 (xs.take n))] w' := by
  obtain ⟨I, hi0, hi1, hi2, hi3⟩ := u32_info
  have HI := Lib.hid (And.intro hi0 (And.intro hi1 (And.intro hi2 hi3)))
  obtain ⟨A0, _, ⟨⟨av, L, cv, A1, A2, ⟨hrow, hg, hg1⟩, ⟨A3, _, hs, _⟩, hd, hA1, hA2⟩, hA0⟩, _, _, hAA, _⟩ := h
  obtain ⟨hl, hc, hcm⟩ := sl_len hs
  have hrd := sl_rd hs
  rw [nums_length] at hl
  subst hl
  obtain ⟨M, hM⟩ : ∃ M, xs.length - n = M := ⟨_, rfl⟩
  have hhead : ∀ wx : World, (Instr.slice 67 (.slice av xs.length cv) none (some (.int .i64 (n : Nat))) none).run Tryz.prog wx = .ok (.slice av n cv) wx := fun wx => run_head Tryz.underlying67 HI.out.1 HI.out.2.2.1 av xs.length cv n .i64 (by omega) wx
  have hcut : ∀ wx : World, (Instr.slice 67 (.slice av xs.length cv) (some (.int .i64 (n : Nat))) none none).run Tryz.prog wx = .ok (.slice (cutAddr av cv n) M (cv - n)) wx := fun wx => by
    have := run_cut Tryz.underlying67 HI.out.1 HI.out.2.2.1 av xs.length cv n .i64 hn wx
    rw [hM] at this; exact this
  have k2 : w.cell? ⟨g, 2, none⟩ = some (.slice av xs.length cv) := hrow.cell 2
  have f2 := hrow.soft 2
  have Hrow := Lib.hid hrow
  have r1 : Hid (Rd w av (nums .u32 (xs.take n))) := by
    have := hrd.take n
    show Rd _ _ _
    rw [nums, List.map_take]; exact this
  have r2 : Hid (Rd w (cutAddr av cv n) (nums .u32 (xs.drop n))) := by
    have := hrd.cut (cap := cv) (l := n) (by rw [nums_length]; exact hc)
    show Rd _ _ _
    rw [nums, List.map_drop]; exact this
  have l1 : Hid ((nums .u32 (xs.take n)).length = n) := by show _ = _; rw [nums_length, List.length_take]; omega
  have l2 : Hid ((nums .u32 (xs.drop n)).length = M) := by show _ = _; rw [nums_length, List.length_drop]; exact hM
  have hnx : ¬ ((xs.length : Int) < (n : Int)) := by omega
  have hn0 : ¬ ((n : Int) < 0) := by omega
  have Hn : Hid (n ≤ 4096 ∧ M ≤ 4096) := ⟨by omega, by omega⟩
  have Hg : Hid (A1 g) := hg
  have HA : Hid (∀ k, A1 k → A k) := fun k hk => hAA k (hA1 k hk)
  have hgw := hrow.lt
  clear hs hrd hA1 hA2 hd hAA hA0 hc hcm hg hg1 hi0 hi1 hi2 hi3 hM hn hx
  obtain ⟨X, hX⟩ : ∃ X, xs.length = X := ⟨_, rfl⟩
  rw [hX] at hhead hcut k2 hnx Hrow hrow
  clear hX hrow
  go_enter Tryz.func34, Tryz.ntmps34
  go_wp2_with (first
    | (at_builtin; refine wpList_append_rd rfl _ _ 67 rfl w.heap.size 23 I (.int .u32 0) 4 Tryz.underlying67 HI.out.1 HI.out.2.1 HI.out.2.2.1 HI.out.2.2.2 rfl _ _ (Own.nil _ w.heap.size 23) rfl av n cv (nums .u32 (xs.take n)) rfl l1.out r1.out (nums_one _ _) (by have := Hn.out; simp; unfold maxLen; omega) (by have := Hn.out; simp; omega) (Nat.le_refl _) ?_; intro v3 w3 o3 t3; obtain ⟨a3, c3, rfl, _⟩ := o3.form' (n := n) (by rw [List.nil_append]; exact l1.out); have O3 := Lib.hid (show Own w3 w.heap.size 23 (.slice a3 n c3) (nums .u32 (xs.take n)) from o3); have T3 := Lib.hid (show Touch No w w3 from t3.mono (fun k _ h => by cases h)); have k3 := T3.out.cell id k2; have f3 := (T3.out.frozen (lt_of_cell k2) id 2).trans f2; clear o3 t3)
    | (at_builtin; refine wpList_append_rd rfl _ _ 67 rfl w3.heap.size 23 I (.int .u32 0) 4 Tryz.underlying67 HI.out.1 HI.out.2.1 HI.out.2.2.1 HI.out.2.2.2 rfl _ _ (Own.nil _ w3.heap.size 23) rfl (cutAddr av cv n) M (cv - n) (nums .u32 (xs.drop n)) rfl l2.out (r2.out.no T3.out) (nums_one _ _) (by have := Hn.out; simp; unfold maxLen; omega) (by have := Hn.out; simp; omega) (Nat.le_refl _) ?_; intro v4 w4 o4 t4; obtain ⟨a4, c4, rfl, _⟩ := o4.form' (n := M) (by rw [List.nil_append]; exact l2.out); have O4 := Lib.hid (show Own w4 w3.heap.size 23 (.slice a4 M c4) (nums .u32 (xs.drop n)) from o4); have T4 := Lib.hid (show Touch No w3 w4 from t4.mono (fun k _ h => by cases h)); have k4 := T4.out.cell id k3; have f4 := (T4.out.frozen (lt_of_cell k3) id 2).trans f3; clear o4 t4))
  have hR4 := (Hrow.out.touch T3.out id).touch T4.out id
  have hP := ref_new hR4 O4.out (Nat.lt_of_lt_of_le hgw T3.out.size)
  obtain ⟨Oa, hsa, hga⟩ := own_sl O3.out
  have hla := (Part.sl _ _ _ _ _).lt hsa
  have hsa' := (Part.sl _ _ _ _ _).stable hsa ((T4.out.mono (G := One g) (fun _ _ f => f.elim)).setCell (p := ⟨g, 2, none⟩) (fun _ => rfl) (.slice a4 M c4)) (fun k hk e => by have e' : k = g := e; have := hga k hk; omega)
  have FIN : Hid (TurnsL w A [Part.ref g first many (xs.drop n), Part.sl 23 a3 n c3 (nums .u32 (xs.take n))] (w4.setCell ⟨g, 2, none⟩ (.slice a4 M c4))) := by
    refine ⟨((T3.out.trans T4.out).mono (G := A) (fun _ _ f => f.elim)).setCell (p := ⟨g, 2, none⟩) (fun _ => HA.out g Hg.out) _, fun i => i = g ∨ w.heap.size ≤ i, ⟨_, Oa, hP, ⟨Oa, fun _ => False, hsa', trivial, fun _ _ f => f, fun _ h => h, fun _ f => f.elim⟩, fun i hi h2 => ?_, fun i hi => ?_, fun i hi => Or.inr (hga i hi)⟩, fun i hi => ?_⟩
    · rcases hi with rfl | hi
      · have := hga _ h2; omega
      · have := hla i h2; omega
    · rcases hi with rfl | hi
      · exact Or.inl rfl
      · exact Or.inr (Nat.le_trans T3.out.size hi.1)
    · rcases hi with rfl | hi
      · exact Or.inl (HA.out _ Hg.out)
      · exact Or.inr hi
  clear hR4 hP hsa hga hla hsa'
  go_ret2
  exact ⟨a3, c3, rfl, FIN.out⟩
end Go.Proofs.YtmjeigceclmdoaaGreatDoor
