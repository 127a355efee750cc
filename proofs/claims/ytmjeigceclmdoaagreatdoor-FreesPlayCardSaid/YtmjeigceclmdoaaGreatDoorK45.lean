/-
  Package drydockref15 by its own text: Give.
-/
import Derived.Test.YtmjeigceclmdoaaGreatDoorK43
import Derived.Test.YtmjeigceclmdoaaGreatDoorK44
import Derived.Test.YtmjeigceclmdoaaGreatDoorK09
namespace Go.Proofs.YtmjeigceclmdoaaGreatDoor
open Go Go.RowKit
set_option linter.unusedSimpArgs false
set_option linter.unusedVariables false

set_option maxRecDepth 100000 in
set_option maxHeartbeats 4000000 in
theorem refGive_any (w : World) (g first many : Nat) (S : Nat → Bool) (A : Nat → Prop) (h : Al w [Part.ref g first many (Fr.lst S)] A) (hfm : first + many ≤ 4096) (al : Option Addr) (m cl : Nat) (l : List Nat) (hl : l.length = m) (hm : m ≤ 5000) (hlt : ∀ x ∈ l, x < 4294967296) (hrd : ∀ w', Touch A w w' → Rd w' al (nums .u32 l)) :
    Calls Tryz.prog 40 #[.pointer (some ⟨g, 0, none⟩), .slice al m cl] w fun e w' => e = .returned (.int .i64 (giveSays first (first + many) S l : Nat)) ∧ TurnsL w A [Part.ref g first many (Fr.lst (giveSet first (first + many) S l))] w' := by
  have h0 := TurnsL.same h
  obtain ⟨A0, _, hP, _, _, hAA, _⟩ := h
  have hSame : Hid (∀ w', Touch No w w' → TurnsL w A [Part.ref g first many (Fr.lst S)] w') := fun w' t => h0.no t
  have hAt : Hid (∀ w', Touch No w w' → ∃ a c, RefAt w' g first many a (Fr.lst S).length c (Fr.lst S)) := fun w' t => Part.ref_at ((Part.ref _ _ _ _).stable hP t (fun _ _ f => f)) (by omega) (by omega) (fun x hx => by have := (Fr.mem_lst.1 hx).1; omega)
  have Hl := Lib.hid hl
  have Hlt := Lib.hid hlt
  have Hrd := Lib.hid hrd
  have hm' : (m : Int) ≤ 5000 := by omega
  clear h0 hP hAA hl hlt hrd
  go_enter Tryz.func40, Tryz.ntmps40
  go_wp2
  go_loopg [5] m (fun gh s5 wr => ∃ k : Nat, k + gh = m ∧ s5 = .int .i64 ((k : Nat) : Int) ∧ Hid (∀ i, i < k → inMap first (first + many) (l.getD i 0) = true) ∧ Hid (Touch No w wr))
  case atStart => exact ⟨0, by omega, rfl, fun i hi => absurd hi (Nat.not_lt_zero i), Touch.refl _ _⟩
  case round =>
    obtain ⟨k, hkg, rfl, HI, T⟩ := hrel
    cases gk with
    | zero =>
      obtain rfl : k = m := by omega
      have hall : Hid (l.all (inMap first (first + many)) = true) := by
        show _ = _
        rw [List.all_eq_true]
        intro x hx
        obtain ⟨i, hi, rfl⟩ := List.getElem_of_mem hx
        have := HI.out i (by rw [← Hl.out]; exact hi)
        rw [List.getD_eq_getElem?_getD, List.getElem?_eq_getElem hi] at this
        exact this
      have T0 := Lib.hid T.out
      clear T HI
      go_wp2
      go_loopg [6] k (fun gh s6 wr => ∃ i : Nat, i + gh = k ∧ s6 = .int .i64 ((i : Nat) : Int) ∧ Hid (fresh S (l.take i) = true) ∧ Hid (Touch No w wr))
      case atStart => exact ⟨0, by omega, rfl, by show _ = _; rw [List.take_zero]; rfl, T0.out⟩
      case round =>
        obtain ⟨i, hig, rfl, HF, T⟩ := hrel
        cases gk with
        | zero =>
          obtain rfl : i = k := by omega
          have hf : Hid (giveSays first (first + many) S l = 0 ∧ giveSet first (first + many) S l = Fr.add S l) := by
            have h1 : giveSays first (first + many) S l = 0 := by
              have h2 := HF.out
              rw [List.take_of_length_le (by rw [Hl.out]; exact Nat.le_refl _)] at h2
              rw [giveSays, if_pos hall.out, if_pos h2]
            exact ⟨h1, by rw [giveSet, if_pos h1]⟩
          have HFr : Hid (fresh S l = true) := by
            have h2 := HF.out
            rw [List.take_of_length_le (by rw [Hl.out]; exact Nat.le_refl _)] at h2
            exact h2
          have TS := Lib.hid (hSame.out _ T.out)
          clear HF T T0
          go_wp2
          obtain ⟨wo, rfl⟩ : ∃ wo : World, wo = wr := ⟨_, rfl⟩
          go_loopg [8] i (fun gh s8 wr => ∃ j : Nat, j + gh = i ∧ s8 = .int .i64 ((j : Nat) : Int) ∧ Hid (TurnsL w A [Part.ref g first many (Fr.lst (Fr.add S (l.take j)))] wr))
          case atStart => exact ⟨0, by omega, rfl, by show TurnsL _ _ _ _; rw [List.take_zero, Fr.add_nil]; exact TS.out⟩
          case round =>
            obtain ⟨j, hjg, rfl, TJ⟩ := hrel
            cases gk with
            | zero =>
              obtain rfl : j = i := by omega
              have TF : Hid (TurnsL w A [Part.ref g first many (Fr.lst (giveSet first (first + many) S l))] wr) := by
                have h2 := TJ.out
                rw [List.take_of_length_le (by rw [Hl.out]; exact Nat.le_refl _)] at h2
                show TurnsL _ _ _ _
                rw [hf.out.2]; exact h2
              go_wp2
              go_ret
              exact ⟨by rw [hf.out.1]; rfl, TF.out⟩
            | succ g' =>
              have hji : (j : Int) < (i : Nat) := by omega
              have hjb : j < l.length := by rw [Hl.out]; omega
              obtain ⟨p, hp⟩ : ∃ p, l.getD j 0 = p := ⟨_, rfl⟩
              have hp32 := Hlt.out p (by rw [← hp, List.getD_eq_getElem?_getD, List.getElem?_eq_getElem hjb]; exact List.getElem_mem hjb)
              have hp4 : p < 4096 := by
                have := (inMap_true.1 (all_getD hjb hall.out)).2
                rw [hp] at this; omega
              have hadd : Fr.add S (l.take j) p = false := by
                cases hy : Fr.add S (l.take j) p with
                | false => rfl
                | true => exact absurd HFr.out (by rw [fresh_not hjb (by rw [hp]; exact hy)]; decide)
              have hnx : Hid (Fr.lst (Fr.add S (l.take (j + 1))) = (Fr.lst (Fr.add S (l.take j))).take (Fr.place (Fr.lst (Fr.add S (l.take j))) p) ++ [p] ++ (Fr.lst (Fr.add S (l.take j))).drop (Fr.place (Fr.lst (Fr.add S (l.take j))) p)) := by
                show _ = _
                rw [Fr.lst_put hp4 hadd, Fr.flip_add hadd, take_getD hjb, hp]
              have hxl := Fr.lst_length_le (Fr.add S (l.take j))
              have hx4 : ∀ x ∈ Fr.lst (Fr.add S (l.take j)), x < 4294967296 := fun x hx => by have := (Fr.mem_lst.1 hx).1; omega
              obtain ⟨gb, ob, hae, hcb⟩ := (Hrd.out wr TJ.out.1).num hjb
              subst hae
              rw [hp] at hcb
              obtain ⟨tt, O', hAl, hO'⟩ := TJ.out
              have Htt := Lib.hid tt
              have HO' := Lib.hid hO'
              clear tt hO'
              obtain ⟨xs, hxs⟩ : ∃ xs, Fr.lst (Fr.add S (l.take j)) = xs := ⟨_, rfl⟩
              rw [hxs] at hnx hxl hx4 hAl
              obtain ⟨A0', _, hP', _, _, hAA', _⟩ := hAl
              obtain ⟨a', c', hR'⟩ := Part.ref_at hP' (by omega) (by omega) hx4
              obtain ⟨k, hk⟩ : ∃ k, Fr.place xs p = k := ⟨_, rfl⟩
              have hkn : k ≤ xs.length := by rw [← hk]; exact Fr.place_le _ _
              have E := Lib.hid (refPlace_any wr g first many a' _ c' xs hR' p hp32)
              rw [hk] at E hnx
              clear hp hadd hx4 hk hxs hR' TJ
              go_wp2_with fail
              refine E.out.mono ?_
              rintro e w2 ⟨rfl, rfl⟩
              go_wp2_with fail
              obtain ⟨I, hi0, hi1, hi2, hi3⟩ := u32_info
              have HI := Lib.hid (And.intro hi0 (And.intro hi1 (And.intro hi2 hi3)))
              obtain ⟨⟨av, L, cv, A1, A2, ⟨hrow, hg, hg1⟩, ⟨A3, _, hs, _⟩, hd, hA1, hA2⟩, hA0⟩ := hP'
              obtain ⟨hl2, hc, hcm⟩ := sl_len hs
              have hrd := sl_rd hs
              rw [nums_length] at hl2
              subst hl2
              obtain ⟨M, hM⟩ : ∃ M, xs.length - k = M := ⟨_, rfl⟩
              have hhead : ∀ wx : World, (Instr.slice 67 (.slice av xs.length cv) none (some (.int .i64 (k : Nat))) none).run Tryz.prog wx = .ok (.slice av k cv) wx := fun wx => run_head Tryz.underlying67 HI.out.1 HI.out.2.2.1 av xs.length cv k .i64 (by omega) wx
              have hcut : ∀ wx : World, (Instr.slice 67 (.slice av xs.length cv) (some (.int .i64 (k : Nat))) none none).run Tryz.prog wx = .ok (.slice (cutAddr av cv k) M (cv - k)) wx := fun wx => by
                have := run_cut Tryz.underlying67 HI.out.1 HI.out.2.2.1 av xs.length cv k .i64 hkn wx
                rw [hM] at this; exact this
              have k2 : wr.cell? ⟨g, 2, none⟩ = some (.slice av xs.length cv) := hrow.cell 2
              have k2d : wr.drew.cell? ⟨g, 2, none⟩ = some (.slice av xs.length cv) := k2
              have hcbd : wr.drew.cell? ⟨gb, ob + j, none⟩ = some (.int .u32 (p : Nat)) := hcb
              have f2 := hrow.soft 2
              have Hrow := Lib.hid hrow
              have r1 : Hid (Rd wr.drew av (nums .u32 (xs.take k))) := by
                have := (hrd.no (Touch.refl No wr).drew).take k
                show Rd _ _ _
                rw [nums, List.map_take]; exact this
              have r1w : Hid (Rd wr av (nums .u32 (xs.take k))) := by
                have := hrd.take k
                show Rd _ _ _
                rw [nums, List.map_take]; exact this
              have r2 : Hid (Rd wr (cutAddr av cv k) (nums .u32 (xs.drop k))) := by
                have := hrd.cut (cap := cv) (l := k) (by rw [nums_length]; exact hc)
                show Rd _ _ _
                rw [nums, List.map_drop]; exact this
              have l1 : Hid ((nums .u32 (xs.take k)).length = k) := by show _ = _; rw [nums_length, List.length_take]; omega
              have l2 : Hid ((nums .u32 (xs.drop k)).length = M) := by show _ = _; rw [nums_length, List.length_drop]; exact hM
              have Hn : Hid (k + M ≤ 4096) := by show _ ≤ _; omega
              have Hg : Hid (O' g) := hAA' g (hA1 g hg)
              have hgw := hrow.lt
              have Td := Lib.hid ((Touch.refl No wr).drew)
              clear hs hrd hA1 hA2 hd hA0 hc hcm hg hg1 hi0 hi1 hi2 hi3 hM
              obtain ⟨X, hX⟩ : ∃ X, xs.length = X := ⟨_, rfl⟩
              rw [hX] at hhead hcut k2 k2d Hrow hrow hkn hxl
              clear hX hrow
              have r1b : Hid (∀ ob, Rd (wr.alloc ob).drew av (nums .u32 (xs.take k))) := fun ob => r1w.out.no ((Touch.refl No wr).alloc ob).drew
              have k2b : ∀ ob, (wr.alloc ob).cell? ⟨g, 2, none⟩ = some (.slice av X cv) := fun ob => ((Touch.refl No wr).alloc ob).cell id k2
              go_region_law (first
                | (refine step_append_rds ?_ _ _ _ rfl wr.heap.size 23 I (.int .u32 0) 4 Tryz.underlying67 HI.out.1 HI.out.2.1 HI.out.2.2.1 HI.out.2.2.2 rfl _ [] (Own.nil _ _ _) rfl av k cv k (nums .u32 (xs.take k)) rfl l1.out r1.out (nums_one _ _) (by simp) (by have := Hn.out; unfold maxLen; omega) (by have := Hn.out; omega) Td.out.size ?_; rfl; intro a3 c3 w3 o3 t3; have O3 := Lib.hid (show Own w3 wr.heap.size 23 (.slice a3 k c3) (nums .u32 (xs.take k)) from o3); have T3a := Lib.hid (Td.out.trans (show Touch No wr.drew w3 from t3.mono (fun k _ h => by cases h))); have k3 := T3a.out.cell id k2; have b3 := T3a.out.cell id hcb; have b3a : ∀ ob', (w3.alloc ob').cell? ⟨g, 2, none⟩ = some (.slice av X cv) := fun ob' => (T3a.out.alloc ob').cell id k2; clear o3 t3)
                | (refine step_append_rds ?_ _ _ _ rfl wr.heap.size 23 I (.int .u32 0) 4 Tryz.underlying67 HI.out.1 HI.out.2.1 HI.out.2.2.1 HI.out.2.2.2 rfl _ [] (Own.nil _ _ _) rfl av k cv k (nums .u32 (xs.take k)) rfl l1.out (r1b.out _) (nums_one _ _) (by simp) (by have := Hn.out; unfold maxLen; omega) (by have := Hn.out; omega) ((Touch.refl No wr).alloc (.cells #[.int .u32 (p : Nat)] 23)).drew.size ?_; rfl; intro a3 c3 w3 o3 t3; have O3 := Lib.hid (show Own w3 wr.heap.size 23 (.slice a3 k c3) (nums .u32 (xs.take k)) from o3); have T3l := Lib.hid (show Touch No (wr.alloc (.cells #[.int .u32 (p : Nat)] 23)).drew w3 from t3.mono (fun k _ h => by cases h)); have T3b := Lib.hid (((Touch.refl No wr).alloc (.cells #[.int .u32 (p : Nat)] 23)).drew.trans T3l.out); have k3 := T3b.out.cell id k2; clear o3 t3)
                | (refine step_append_rds ?_ _ _ _ rfl wr.heap.size 23 I (.int .u32 0) 4 Tryz.underlying67 HI.out.1 HI.out.2.1 HI.out.2.2.1 HI.out.2.2.2 rfl _ _ (O3.out.touch ((Touch.refl No w3).alloc _) (fun _ _ _ f => f)) rfl (some ⟨w3.heap.size, 0, none⟩) 1 1 (k + 1) (nums .u32 [p]) rfl rfl (show Rd _ _ (nums .u32 [p]) from rd_new w3 23 #[.int .u32 (p : Nat)] (0, 0)) (nums_one _ _) (by rw [l1.out]) (by have := Hn.out; unfold maxLen; omega) (by have := Hn.out; omega) (Nat.le_trans T3a.out.size (by simp)) ?_; rfl; intro a4 c4 w4 o4 t4; have O4 := Lib.hid o4; have T4 := Lib.hid ((T3a.out.alloc _).then t4 (fun i hi e => by have := (O3.out.block e).1; omega)); have k4 := T4.out.cell id k2; clear o4 t4)
                | (refine step_append_rds ?_ _ _ _ rfl wr.heap.size 23 I (.int .u32 0) 4 Tryz.underlying67 HI.out.1 HI.out.2.1 HI.out.2.2.1 HI.out.2.2.2 rfl _ _ O3.out rfl (some ⟨wr.heap.size, 0, none⟩) 1 1 (k + 1) (nums .u32 [p]) rfl rfl (show Rd _ _ (nums .u32 [p]) from (rd_new wr 23 #[.int .u32 (p : Nat)] (0, 0)).no ((Touch.refl No _).drew.trans T3l.out)) (nums_one _ _) (by rw [l1.out]) (by have := Hn.out; unfold maxLen; omega) (by have := Hn.out; omega) T3b.out.size ?_; rfl; intro a4 c4 w4 o4 t4; have O4 := Lib.hid o4; have T4 := Lib.hid (T3b.out.then t4 (fun i hi e => by have := (O3.out.block e).1; omega)); have k4 := T4.out.cell id k2; clear o4 t4)
                | (refine step_append_rds ?_ _ _ _ rfl wr.heap.size 23 I (.int .u32 0) 4 Tryz.underlying67 HI.out.1 HI.out.2.1 HI.out.2.2.1 HI.out.2.2.2 rfl _ _ O4.out rfl (cutAddr av cv k) M (cv - k) (k + 1 + M) (nums .u32 (xs.drop k)) rfl l2.out (r2.out.no T4.out) (nums_one _ _) (by rw [List.length_append, l1.out]; rfl) (by have := Hn.out; unfold maxLen; omega) (by have := Hn.out; omega) T4.out.size ?_; rfl; intro a5 c5 w5 o5 t5; have O5 := Lib.hid o5; have T5 := Lib.hid (T4.out.then t5 (fun i hi e => by have := (O4.out.block e).1; omega)); have k5 := T5.out.cell id k2; have f5 := (T5.out.frozen (lt_of_cell k2) id 2).trans f2; clear o5 t5))
              all_goals
                have hR5 := Hrow.out.touch T5.out id
                have o5' : Own w5 wr.heap.size 23 (.slice a5 (k + 1 + M) c5) (nums .u32 (Fr.lst (Fr.add S (l.take (j + 1))))) := by
                  rw [hnx.out, nums_append, nums_append]; exact O5.out
                have hP := ref_new hR5 o5' hgw
                have FIN : Hid (TurnsL w A [Part.ref g first many (Fr.lst (Fr.add S (l.take (j + 1))))] (w5.setCell ⟨g, 2, none⟩ (.slice a5 (k + 1 + M) c5))) := by
                  refine ⟨Htt.out.then ((T5.out.mono (G := One g) (fun _ _ f => f.elim)).setCell (p := ⟨g, 2, none⟩) (fun _ => rfl) _) (fun i hi e => by rw [show i = g from e] at hi ⊢; exact (HO'.out g Hg.out).elim id (fun h => absurd hi (Nat.not_lt.2 h))), fun i => i = g ∨ wr.heap.size ≤ i, ⟨_, fun _ => False, hP, trivial, fun _ _ f => f, fun i hi => hi.imp id (fun h => h.1), fun _ f => f.elim⟩, fun i hi => ?_⟩
                  rcases hi with rfl | hi
                  · exact HO'.out _ Hg.out
                  · exact Or.inr (Nat.le_trans Htt.out.size hi)
                clear hR5 o5' hP
                go_wp2
                go_roundg g'
                case measure => omega
                case rel => exact ⟨j + 1, by omega, by go_num, FIN.out⟩
        | succ g' =>
          have hik : (i : Int) < (k : Nat) := by omega
          have hib : i < l.length := by rw [Hl.out]; omega
          obtain ⟨p, hp⟩ : ∃ p, l.getD i 0 = p := ⟨_, rfl⟩
          have hp32 := Hlt.out p (by rw [← hp, List.getD_eq_getElem?_getD, List.getElem?_eq_getElem hib]; exact List.getElem_mem hib)
          have hpin : Hid (inMap first (first + many) p = true) := by show _ = _; rw [← hp]; exact all_getD hib hall.out
          have HP := Lib.hid hp
          have Hib := Lib.hid hib
          have h9 : Hid (Fr.add S (l.take i) p = true → giveSays first (first + many) S l = 9 ∧ giveSet first (first + many) S l = S) := fun hy => by
            have h1 : giveSays first (first + many) S l = 9 := by rw [giveSays, if_pos hall.out, fresh_not hib (by rw [hp]; exact hy)]; rfl
            exact ⟨h1, by rw [giveSet, h1, if_neg (by decide)]⟩
          have hnext : Hid (Fr.add S (l.take i) p = false → fresh S (l.take (i + 1)) = true) := fun hy => fresh_take hib HF.out (by rw [hp]; exact hy)
          obtain ⟨gb, ob, hae, hcb⟩ := (Hrd.out _ (T.out.mono (fun _ _ f => f.elim))).num hib
          subst hae
          clear hcb
          clear hp hib HF
          go_wp2
          obtain ⟨wo, rfl⟩ : ∃ wo : World, wo = wr := ⟨_, rfl⟩
          go_loopg [7] i (fun gj s7 wr => ∃ j : Nat, j + gj = i ∧ s7 = .int .i64 ((j : Nat) : Int) ∧ Hid (p ∉ l.take j) ∧ Hid (Touch No w wr))
          case atStart => exact ⟨0, by omega, rfl, by show _ ∉ _; rw [List.take_zero]; exact List.not_mem_nil, T.out⟩
          case round =>
            obtain ⟨j, hjg, rfl, HN, T2⟩ := hrel
            cases gk with
            | zero =>
              obtain rfl : j = i := by omega
              obtain ⟨g2, o2, e2, hcb⟩ := (Hrd.out _ (T2.out.mono (fun _ _ f => f.elim))).num Hib.out
              cases e2
              rw [HP.out] at hcb
              have D : Hid (Calls Tryz.prog 44 #[.pointer (some ⟨g, 0, none⟩), .int .u32 (p : Nat)] wr fun e w'' => e = .returned (.bool (S p)) ∧ wr = w'') := by
                obtain ⟨a', c', hR'⟩ := hAt.out wr T2.out
                have := refIs_any wr g first many a' _ c' _ hR' p hp32
                rw [Fr.isIn_lst, decide_eq_true (by have := (inMap_true.1 hpin.out).2; omega), Bool.true_and] at this
                exact this
              cases hS : S p with
              | true =>
                have hx := h9.out (by simp [Fr.add, hS])
                have HX := Lib.hid hx
                rw [hS] at D
                clear hx hS
                go_wp2_with fail
                refine D.out.mono ?_
                rintro e w2 ⟨rfl, rfl⟩
                go_wp2
                go_ret
                exact ⟨by rw [HX.out.1]; rfl, by rw [HX.out.2]; exact hSame.out _ T2.out⟩
              | false =>
                have HF2 := Lib.hid (hnext.out (by
                  have := HN.out
                  simp [Fr.add, hS, this]))
                rw [hS] at D
                clear hS
                go_wp2_with fail
                refine D.out.mono ?_
                rintro e w2 ⟨rfl, rfl⟩
                go_wp2
                go_roundg g'
                case measure => omega
                case rel => exact ⟨j + 1, by omega, by go_num, HF2.out, T2.out⟩
            | succ gj' =>
              have hji : (j : Int) < (i : Nat) := by omega
              have hjb : j < l.length := by have := Hib.out; omega
              have hik2 : (i : Int) < (k : Nat) := by have := Hib.out; have := Hl.out; omega
              have hjk2 : (j : Int) < (k : Nat) := by omega
              obtain ⟨g2, o2, e2, hcb⟩ := (Hrd.out _ (T2.out.mono (fun _ _ f => f.elim))).num Hib.out
              cases e2
              rw [HP.out] at hcb
              obtain ⟨g2, o2, e2, hcj⟩ := (Hrd.out _ (T2.out.mono (fun _ _ f => f.elim))).num hjb
              cases e2
              obtain ⟨q, hq⟩ : ∃ q, l.getD j 0 = q := ⟨_, rfl⟩
              rw [hq] at hcj
              have Htk : Hid (l.take (j + 1) = l.take j ++ [q] ∧ (q ∈ l.take (j + 1))) := by
                have h1 : l.take (j + 1) = l.take j ++ [q] := by rw [take_getD hjb, hq]
                exact ⟨h1, by rw [h1]; simp⟩
              have hji' : j + 1 ≤ i := by omega
              by_cases e : q = p
              · subst e
                have hx := h9.out (by
                  have h1 : q ∈ l.take i := by
                    have h2 := Htk.out.2
                    have h3 : l.take (j + 1) = (l.take i).take (j + 1) := by rw [List.take_take, Nat.min_eq_left hji']
                    rw [h3] at h2
                    exact List.mem_of_mem_take h2
                  simp [Fr.add, h1])
                have HX := Lib.hid hx
                clear hx hq hjb
                go_wp2
                go_quiet (fail)
                go_wp2
                go_ret
                exact ⟨by rw [HX.out.1]; rfl, by rw [HX.out.2]; exact hSame.out _ (T2.out.trans ((Touch.refl No _).drewN _))⟩
              · have hne : ((q : Int) == (p : Int)) = false := by simp; omega
                have HN2 : Hid (p ∉ l.take (j + 1)) := by
                  show _ ∉ _
                  rw [Htk.out.1, List.mem_append, List.mem_singleton]
                  exact fun h => h.elim HN.out (fun h => e h.symm)
                clear e hq hjb
                go_wp2
                go_quiet (fail)
                go_wp2
                go_roundg gj'
                case measure => omega
                case rel => exact ⟨j + 1, by omega, by go_num, HN2, T2.out.trans ((Touch.refl No _).drewN _)⟩
    | succ g' =>
      have hlt' : (k : Int) < (m : Nat) := by omega
      have hkb : k < l.length := by rw [Hl.out]; omega
      obtain ⟨gb, ob, hae, hcb⟩ := (Hrd.out _ (T.out.mono (fun _ _ f => f.elim))).num hkb
      subst hae
      have hp32 := Hlt.out (l.getD k 0) (by rw [List.getD_eq_getElem?_getD, List.getElem?_eq_getElem hkb]; exact List.getElem_mem hkb)
      obtain ⟨p, hp⟩ : ∃ p, l.getD k 0 = p := ⟨_, rfl⟩
      rw [hp] at hcb hp32
      have C : Hid (Calls Tryz.prog 147 #[.pointer (some ⟨g, 0, none⟩), .int .u32 (p : Nat)] wr fun e w' => e = .returned (.bool (inMap first (first + many) p)) ∧ Touch No wr w') := by
        obtain ⟨a', c', hR⟩ := hAt.out wr T.out
        exact refOf_map wr g first many a' _ c' _ hR p hp32
      cases hin : inMap first (first + many) p with
      | false =>
        have hs : Hid (giveSays first (first + many) S l = 1) := by
          have : ¬ l.all (inMap first (first + many)) = true := fun h => by
            have := all_getD hkb h
            rw [hp, hin] at this
            cases this
          show _ = _
          rw [giveSays, if_neg this]
        have hset : Hid (giveSet first (first + many) S l = S) := by show _ = _; rw [giveSet, hs.out, if_neg (by decide)]
        rw [hin] at C
        clear hin hp hkb
        go_wp2_with fail
        refine C.out.mono ?_
        rintro e w1 ⟨rfl, t1⟩
        have T1 := Lib.hid (T.out.trans t1)
        clear t1 hcb
        go_wp2
        go_ret
        exact ⟨by rw [hs.out]; rfl, by rw [hset.out]; exact hSame.out _ T1.out⟩
      | true =>
        have HI2 : Hid (∀ i, i < k + 1 → inMap first (first + many) (l.getD i 0) = true) := fun i hi => by
          by_cases e : i = k
          · subst e; rw [hp]; exact hin
          · exact HI.out i (by omega)
        rw [hin] at C
        clear hin hp hkb
        go_wp2_with fail
        refine C.out.mono ?_
        rintro e w1 ⟨rfl, t1⟩
        have T1 := Lib.hid (T.out.trans t1)
        clear t1 hcb
        go_wp2
        go_roundg g'
        case measure => omega
        case rel => exact ⟨k + 1, by omega, by go_num, HI2, T1.out⟩
end Go.Proofs.YtmjeigceclmdoaaGreatDoor
