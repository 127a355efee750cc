/-
  Package drydockref15 by its own text: Mark.
-/
import Derived.Test.YtmjeigceclmdoaaGreatDoorK42
namespace Go.Proofs.YtmjeigceclmdoaaGreatDoor
open Go Go.RowKit
set_option linter.unusedSimpArgs false
set_option linter.unusedVariables false

def refMarkSays (first many : Nat) (xs : List Nat) (p : Nat) : Nat := if inMap first (first + many) p then (if Fr.isIn xs p then 0 else 8) else 1
def refMarkList (first many : Nat) (xs : List Nat) (p : Nat) : List Nat := if refMarkSays first many xs p = 0 then xs.take (Fr.place xs p) ++ xs.drop (Fr.place xs p + 1) else xs
set_option maxRecDepth 100000 in
set_option maxHeartbeats 2000000 in
theorem refMark_any (w : World) (g first many : Nat) (xs : List Nat) (A : Nat → Prop) (h : Al w [Part.ref g first many xs] A) (hlo : first ≤ 4096) (hhi : many ≤ 4096) (hlt : ∀ x ∈ xs, x < 4294967296) (hx : xs.length ≤ 4096) (p : Nat) (hp : p < 4294967296) :
    Calls Tryz.prog 38 #[.pointer (some ⟨g, 0, none⟩), .int .u32 (p : Nat)] w fun e w' => e = .returned (.int .i64 (refMarkSays first many xs p : Nat)) ∧ TurnsL w A [Part.ref g first many (refMarkList first many xs p)] w' := by
  have h0 := TurnsL.same h
  obtain ⟨A0, _, hP, _, _, hAA, _⟩ := h
  have hSame : Hid (∀ w', Touch No w w' → TurnsL w A [Part.ref g first many xs] w') := fun w' t => h0.no t
  clear h0
  have HX := Lib.hid hP
  obtain ⟨a, c, hRef⟩ := Part.ref_at hP hlo hhi hlt
  have hAt : Hid (∀ w', Touch No w w' → ∃ a c, RefAt w' g first many a xs.length c xs) := fun w' t => Part.ref_at ((Part.ref _ _ _ _).stable HX.out t (fun _ _ f => f)) hlo hhi hlt
  cases hin : inMap first (first + many) p with
  | false =>
    have hs : refMarkSays first many xs p = 1 := by rw [refMarkSays, hin]; rfl
    have hl : refMarkList first many xs p = xs := by rw [refMarkList, hs, if_neg (by decide)]
    rw [hs, hl]
    have C := Lib.hid (refOf_map w g first many a _ c xs hRef p hp)
    rw [hin] at C
    clear hs hl hin hRef hP HX hAt hAA
    go_enter Tryz.func38, Tryz.ntmps38
    go_wp2_with fail
    refine C.out.mono ?_
    rintro e w1 ⟨rfl, t1⟩
    have T1 := Lib.hid t1
    clear t1
    go_wp2
    go_ret
    exact ⟨rfl, hSame.out _ T1.out⟩
  | true =>
    cases his : Fr.isIn xs p with
    | false =>
      have hs : refMarkSays first many xs p = 8 := by rw [refMarkSays, hin, his]; rfl
      have hl : refMarkList first many xs p = xs := by rw [refMarkList, hs, if_neg (by decide)]
      rw [hs, hl]
      have C := Lib.hid (refOf_map w g first many a _ c xs hRef p hp)
      rw [hin] at C
      have D : Hid (∀ w', Touch No w w' → Calls Tryz.prog 44 #[.pointer (some ⟨g, 0, none⟩), .int .u32 (p : Nat)] w' fun e w'' => e = .returned (.bool false) ∧ w' = w'') := fun w' t => by
        obtain ⟨a', c', hR'⟩ := hAt.out w' t
        rw [← his]; exact refIs_any w' g first many a' _ c' xs hR' p hp
      clear hs hl hin hRef hP HX hAt hAA his
      go_enter Tryz.func38, Tryz.ntmps38
      go_wp2_with fail
      refine C.out.mono ?_
      rintro e w1 ⟨rfl, t1⟩
      have T1 := Lib.hid t1
      clear t1
      go_wp2_with fail
      refine (D.out w1 T1.out).mono ?_
      rintro e w2 ⟨rfl, rfl⟩
      go_wp2
      go_ret
      exact ⟨rfl, hSame.out _ T1.out⟩
    | true =>
      have hs : refMarkSays first many xs p = 0 := by rw [refMarkSays, hin, his]; rfl
      have hl : refMarkList first many xs p = xs.take (Fr.place xs p) ++ xs.drop (Fr.place xs p + 1) := by rw [refMarkList, hs, if_pos rfl]
      rw [hs, hl]
      have C := Lib.hid (refOf_map w g first many a _ c xs hRef p hp)
      rw [hin] at C
      have D : Hid (∀ w', Touch No w w' → Calls Tryz.prog 44 #[.pointer (some ⟨g, 0, none⟩), .int .u32 (p : Nat)] w' fun e w'' => e = .returned (.bool true) ∧ w' = w'') := fun w' t => by
        obtain ⟨a', c', hR'⟩ := hAt.out w' t
        rw [← his]; exact refIs_any w' g first many a' _ c' xs hR' p hp
      obtain ⟨k, hk⟩ : ∃ k, Fr.place xs p = k := ⟨_, rfl⟩
      have hkn : k < xs.length := by
        rw [Fr.isIn, Bool.and_eq_true, decide_eq_true_eq, hk] at his
        exact his.1
      have E : Hid (∀ w', Touch No w w' → Calls Tryz.prog 148 #[.pointer (some ⟨g, 0, none⟩), .int .u32 (p : Nat)] w' fun e w'' => e = .returned (.int .i64 (k : Nat)) ∧ w' = w'') := fun w' t => by
        obtain ⟨a', c', hR'⟩ := hAt.out w' t
        rw [← hk]; exact refPlace_any w' g first many a' _ c' xs hR' p hp
      rw [hk]
      clear hs hl hin his hk hRef hP hAt
      go_enter Tryz.func38, Tryz.ntmps38
      go_wp2_with fail
      refine C.out.mono ?_
      rintro e w1 ⟨rfl, t1⟩
      have T1 := Lib.hid t1
      clear t1
      go_wp2_with fail
      refine (D.out w1 T1.out).mono ?_
      rintro e w2 ⟨rfl, rfl⟩
      go_wp2_with fail
      refine (E.out w1 T1.out).mono ?_
      rintro e w2 ⟨rfl, rfl⟩
      go_wp2_with fail
      obtain ⟨I, hi0, hi1, hi2, hi3⟩ := u32_info
      have HI := Lib.hid (And.intro hi0 (And.intro hi1 (And.intro hi2 hi3)))
      obtain ⟨⟨av, L, cv, A1, A2, ⟨hrow, hg, hg1⟩, ⟨A3, _, hs, _⟩, hd, hA1, hA2⟩, hA0⟩ := (Part.ref _ _ _ _).stable HX.out T1.out (fun _ _ f => f)
      obtain ⟨hl, hc, hcm⟩ := sl_len hs
      have hrd := sl_rd hs
      rw [nums_length] at hl
      subst hl
      obtain ⟨M, hM⟩ : ∃ M, xs.length - (k + 1) = M := ⟨_, rfl⟩
      have hhead : ∀ wx : World, (Instr.slice 67 (.slice av xs.length cv) none (some (.int .i64 (k : Nat))) none).run Tryz.prog wx = .ok (.slice av k cv) wx := fun wx => run_head Tryz.underlying67 HI.out.1 HI.out.2.2.1 av xs.length cv k .i64 (by omega) wx
      have hcut : ∀ wx : World, (Instr.slice 67 (.slice av xs.length cv) (some (.int .i64 ((k : Int) + 1))) none none).run Tryz.prog wx = .ok (.slice (cutAddr av cv (k + 1)) M (cv - (k + 1))) wx := fun wx => by
        have := run_cut Tryz.underlying67 HI.out.1 HI.out.2.2.1 av xs.length cv (k + 1) .i64 hkn wx
        rw [hM] at this; exact this
      have k2 : w1.cell? ⟨g, 2, none⟩ = some (.slice av xs.length cv) := hrow.cell 2
      have k2d : w1.drew.cell? ⟨g, 2, none⟩ = some (.slice av xs.length cv) := k2
      have f2 := hrow.soft 2
      have Hrow := Lib.hid hrow
      have r1 : Hid (Rd w1.drew av (nums .u32 (xs.take k))) := by
        have := (hrd.no (Touch.refl No w1).drew).take k
        show Rd _ _ _
        rw [nums, List.map_take]; exact this
      have r2 : Hid (Rd w1.drew (cutAddr av cv (k + 1)) (nums .u32 (xs.drop (k + 1)))) := by
        have := (hrd.no (Touch.refl No w1).drew).cut (cap := cv) (l := k + 1) (by rw [nums_length]; exact hc)
        show Rd _ _ _
        rw [nums, List.map_drop]; exact this
      have l1 : Hid ((nums .u32 (xs.take k)).length = k) := by show _ = _; rw [nums_length, List.length_take]; omega
      have l2 : Hid ((nums .u32 (xs.drop (k + 1))).length = M) := by show _ = _; rw [nums_length, List.length_drop]; exact hM
      have Hn : Hid (k + M ≤ 4096) := by show _ ≤ _; omega
      have hkM : (k : Int) ≤ 9223372036854775806 := by omega
      have hwr : IntKind.i64.wrap ((k : Int) + 1) = (k : Int) + 1 := IntWalk.i64_in _ (by omega)
      have Hg : Hid (A g) := hAA g (hA1 g hg)
      have hgw := hrow.lt
      have Td := Lib.hid ((Touch.refl No w1).drew)
      clear hs hrd hA1 hA2 hd hA0 hc hcm hg hg1 hi0 hi1 hi2 hi3 hM hAA
      obtain ⟨X, hX⟩ : ∃ X, xs.length = X := ⟨_, rfl⟩
      rw [hX] at hhead hcut k2 k2d Hrow hrow hkn hx
      clear hX hrow
      go_region_law (first
        | (refine step_append_rds ?_ _ _ _ rfl w1.heap.size 23 I (.int .u32 0) 4 Tryz.underlying67 HI.out.1 HI.out.2.1 HI.out.2.2.1 HI.out.2.2.2 rfl _ [] (Own.nil _ _ _) rfl av k cv k (nums .u32 (xs.take k)) rfl l1.out r1.out (nums_one _ _) (by simp) (by have := Hn.out; unfold maxLen; omega) (by have := Hn.out; omega) Td.out.size ?_; rfl; intro a3 c3 w3 o3 t3; have O3 := Lib.hid (show Own w3 w1.heap.size 23 (.slice a3 k c3) (nums .u32 (xs.take k)) from o3); have T3 := Lib.hid (show Touch No w1.drew w3 from t3.mono (fun k _ h => by cases h)); have k3 := T3.out.cell id k2d; clear o3 t3)
        | (refine step_append_rds ?_ _ _ _ rfl w1.heap.size 23 I (.int .u32 0) 4 Tryz.underlying67 HI.out.1 HI.out.2.1 HI.out.2.2.1 HI.out.2.2.2 rfl _ _ O3.out rfl (cutAddr av cv (k + 1)) M (cv - (k + 1)) (k + M) (nums .u32 (xs.drop (k + 1))) rfl l2.out (r2.out.no T3.out) (nums_one _ _) (by rw [l1.out]) (by have := Hn.out; unfold maxLen; omega) (by have := Hn.out; omega) (Nat.le_trans Td.out.size T3.out.size) ?_; rfl; intro a4 c4 w4 o4 t4; have O4 := Lib.hid o4; have T4 := Lib.hid (Td.out.trans T3.out |>.then t4 (fun i hi e => by have := (O3.out.block e).1; omega)); have k4 := T4.out.cell id k2; have f4 := (T4.out.frozen (lt_of_cell k2) id 2).trans f2; clear o4 t4))
      all_goals
        have hR4 := Hrow.out.touch T4.out id
        have o4' : Own w4 w1.heap.size 23 (.slice a4 (k + M) c4) (nums .u32 (xs.take k ++ xs.drop (k + 1))) := by rw [nums_append]; exact O4.out
        have hP := ref_new hR4 o4' hgw
        have FIN : Hid (TurnsL w A [Part.ref g first many (xs.take k ++ xs.drop (k + 1))] (w4.setCell ⟨g, 2, none⟩ (.slice a4 (k + M) c4))) := by
          refine ⟨((T1.out.trans T4.out).mono (G := A) (fun _ _ f => f.elim)).setCell (p := ⟨g, 2, none⟩) (fun _ => Hg.out) _, fun i => i = g ∨ w.heap.size ≤ i, ⟨_, fun _ => False, hP, trivial, fun _ _ f => f, fun i hi => hi.imp id (fun h => Nat.le_trans T1.out.size h.1), fun _ f => f.elim⟩, fun i hi => ?_⟩
          rcases hi with rfl | hi
          · exact Or.inl Hg.out
          · exact Or.inr hi
        clear hR4 o4' hP
        go_wp2
        go_ret
        exact ⟨rfl, FIN.out⟩
end Go.Proofs.YtmjeigceclmdoaaGreatDoor
