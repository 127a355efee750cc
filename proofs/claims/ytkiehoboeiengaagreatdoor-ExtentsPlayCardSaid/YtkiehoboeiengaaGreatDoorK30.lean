/-
  Package drydockref03 by its own text: Fail.
-/
import Derived.Test.YtkiehoboeiengaaGreatDoorK29
import Derived.Test.YtkiehoboeiengaaGreatDoorK06
import Derived.StillTailTactics
import Derived.Deep.DeepCutAuto
namespace Go.Proofs.YtkiehoboeiengaaGreatDoor
open Go Go.RowKit
set_option linter.unusedSimpArgs false
set_option linter.unusedVariables false

theorem and_one {a b : Nat} (ha : a ≤ 1) (hb : b ≤ 1) : ((a &&& b) == 1) = ((a == 1) && (b == 1)) := by
  rcases Nat.le_one_iff_eq_zero_or_eq_one.1 ha with rfl | rfl <;> rcases Nat.le_one_iff_eq_zero_or_eq_one.1 hb with rfl | rfl <;> decide
set_option maxRecDepth 100000 in
set_option maxHeartbeats 8000000 in
theorem refFail3_any {w : World} {g : Nat} {D : Dk.Disk} {vs vn vw : Value} (h : RdAt w g D vs vn vw) (keep : Nat) (torn : Int) (hk : keep < 18446744073709551616) (hw : D.waits.length ≤ 1000000) :
    Calls Tryz.prog 10 #[.pointer (some ⟨g, 0, none⟩), .int .u64 (keep : Nat), .int .i64 torn] w fun e w' => ∃ g', e = .returned (.tuple #[.pointer (some ⟨g', 0, none⟩), .int .i64 0]) ∧ Born w (Part.rdisk g' (Dk.fail D keep torn)) w' := by
  obtain ⟨I, z, hI⟩ := rsec_is
  have HI := Lib.hid hI
  have ok := h.ok
  obtain ⟨a0, cs, hvs, hcs, _⟩ := rowSlice h.sure
  obtain ⟨aw, cw, hvw, hcw, _⟩ := rowSlice h.waits
  obtain ⟨L, hL⟩ : ∃ L, D.sure.length = L := ⟨_, rfl⟩
  obtain ⟨M, hM⟩ : ∃ M, D.waits.length = M := ⟨_, rfl⟩
  rw [hL] at hvs
  rw [hM] at hvw
  subst hvs hvw
  have k0 : w.cell? ⟨g, 0, none⟩ = some (.slice a0 L cs) := h.row.cell 0
  have hown := h.sure
  rw [hL] at hown
  have htop : L ≤ 16384 := by have := ok.top; have := ok.len; omega
  have hpos : 0 < L := by have := ok.pos; have := ok.len; omega
  have HO := Lib.hid hown
  have HR := Lib.hid h
  have Hok := Lib.hid ok
  have HL := Lib.hid hL
  have HM := Lib.hid hM
  have Hk := Lib.hid hk
  have Hpos := Lib.hid hpos
  have htopI : (L : Int) ≤ 16384 := by omega
  have hwt : (M : Int) ≤ 1000000 := by omega
  clear hI h ok hown hL hM hk hpos hcs hcw hw
  go_enter Tryz.func10, Tryz.ntmps10
  go_wp2_with (at_builtin; refine wpList_copy_rows rfl _ _ 109 rfl 115 I z 2 24 Tryz.underlying109 HI.out.info HI.out.zero HI.out.size HI.out.bytes (by rw [HI.out.cells]; rfl) (by decide) _ L _ rfl HO.out rfl Hpos.out (rsCells_one _) (by unfold maxLen; omega) (by omega) ?_; intro ax cx w1 hown1 ht1)
  obtain ⟨gx, rfl⟩ : ∃ gx, ax = some ⟨gx, 0, none⟩ := by
    obtain ⟨g', c', e, _⟩ := rows_at rsCells_length hown1 HL.out (Dk.at_get (show 0 < D.sure.length by rw [HL.out]; exact Hpos.out)) (by decide)
    exact ⟨g', by injection e⟩
  have Hgx : Hid (w.heap.size ≤ gx) := (rowBlock hown1 (k := gx) rfl).1
  have HO1 := Lib.hid (rows_new hown1)
  have HT1 := Lib.hid ht1
  clear hown1 ht1 k0
  go_loopg [9] M (fun gh s9 wr => ∃ k : Nat, k + gh = M ∧ s9 = .int .i64 ((k : Nat) : Int) ∧ Hid (wr.ownsRow 0 115 2 (.slice (some ⟨gx, 0, none⟩) L cx) L ((Dk.failed keep torn D.sure 0 (D.waits.take k)).flatMap rsCells)) ∧ Hid (Touch No w wr))
  case atStart => exact ⟨0, by omega, rfl, HO1.out, HT1.out⟩
  case round =>
    clear HO1 HT1
    obtain ⟨k, hkg, rfl, O, T⟩ := hrel
    have q2 : wr.cell? ⟨g, 2, none⟩ = some (.slice aw M cw) := T.out.cell id (HR.out.row.cell 2)
    cases gk with
    | zero =>
      obtain rfl : k = M := by omega
      have hfo := Dk.failed_ok (keep := keep) (torn := torn) D.waits D.sure 0 Hok.out.sure (fun y hy => by rw [Hok.out.len]; exact Hok.out.waits y hy)
      have hO := O.out
      rw [List.take_of_length_le (by rw [HM.out]; exact Nat.le_refl _)] at hO
      have HOz := Lib.hid hO
      have Hfo := Lib.hid hfo
      clear hO hfo
      go_wp2_with (at_builtin; refine wpList_copy_rows rfl _ _ 109 rfl 115 I z 2 24 Tryz.underlying109 HI.out.info HI.out.zero HI.out.size HI.out.bytes (by rw [HI.out.cells]; rfl) (by decide) _ L _ rfl HOz.out rfl Hpos.out (rsCells_one _) (by unfold maxLen; omega) (by omega) ?_; intro a' c' w' hown' ht')
      have hb : Born w (Part.rdisk w'.heap.size (Dk.fail D keep torn)) (w'.alloc (.cells #[.slice (some ⟨gx, 0, none⟩) L cx, .slice a' L c', .slice none 0 0] 112)) := by
        have ta : Touch No w' (w'.alloc (.cells #[.slice (some ⟨gx, 0, none⟩) L cx, .slice a' L c', .slice none 0 0] 112)) := (Touch.refl No w').alloc _
        have hlx := (rowBlock HOz.out (k := gx) rfl).2
        have hlow : ∀ i, InBlock (.slice a' L c') i → wr.heap.size ≤ i ∧ i < w'.heap.size := fun i hi => rowBlock hown' hi
        have hfl : (Dk.failed keep torn D.sure 0 D.waits).length = L := by rw [Hfo.out.2, HL.out]
        have hsz := ht'.size
        refine ⟨(T.out.trans ht').trans ta, _, RdAt.part (vs := .slice (some ⟨gx, 0, none⟩) L cx) (vn := .slice a' L c') (vw := nilSl) ⟨Dk.fail_ok Hok.out keep torn, Row.new w' _ _, ?_, ?_, ⟨rfl, Or.inl ⟨rfl, rfl⟩⟩, fun hi => ?_, fun hi => ?_, (fun hi => by cases hi), fun i hi hj => ?_, (fun i _ hj => by cases hj), (fun i _ hj => by cases hj)⟩, fun i hi => ?_⟩
        · show World.ownsRow _ 0 _ 2 _ (Dk.failed keep torn D.sure 0 D.waits).length _
          rw [hfl]
          exact rowTouch (rowTouch HOz.out ht' (fun _ _ f => f)) ta (fun _ _ f => f)
        · show World.ownsRow _ 0 _ 2 _ (Dk.failed keep torn D.sure 0 D.waits).length _
          rw [hfl]
          exact rowTouch (rows_new hown') ta (fun _ _ f => f)
        · have e : gx = w'.heap.size := by injection hi
          omega
        · have := (hlow _ hi).2; omega
        · have e : gx = i := by injection hi
          have := (hlow _ hj).1; omega
        · have hww := T.out.size
          rcases hi with rfl | hi | hi | hi
          · omega
          · have e : gx = i := by injection hi
            rw [← e]; exact Hgx.out
          · have := (hlow _ hi).1; omega
          · cases hi
      have HB := Lib.hid hb
      clear hb hown' ht'
      go_wp2
      go_ret2
      exact ⟨_, rfl, HB.out⟩
    | succ g' =>
      have hlt : (k : Int) < (M : Nat) := by omega
      obtain ⟨y, hy⟩ : ∃ y, D.waits[k]? = some y := ⟨_, List.getElem?_eq_getElem (by rw [HM.out]; omega)⟩
      have hyo := Hok.out.waits y (List.mem_of_getElem? hy)
      obtain ⟨l, hl⟩ : ∃ l, l = Dk.failed keep torn D.sure 0 (D.waits.take k) := ⟨_, rfl⟩
      have hlo := Dk.failed_ok (keep := keep) (torn := torn) (D.waits.take k) D.sure 0 Hok.out.sure (fun z hz => by rw [Hok.out.len]; exact Hok.out.waits z (List.mem_of_mem_take hz))
      rw [← hl, HL.out] at hlo
      have hstep : Dk.failed keep torn D.sure 0 (D.waits.take (k + 1)) = Dk.failStep keep torn l k y := by
        have hk' : k < D.waits.length := by rw [HM.out]; omega
        have e1 : D.waits.take (k + 1) = D.waits.take k ++ [y] := by
          rw [List.take_add_one, hy]; rfl
        rw [e1, Dk.failed_snoc, ← hl]
        congr 1
        rw [List.length_take]; omega
      have hyL : y.n < L := by rw [← HL.out, Hok.out.len]; exact hyo.n
      have hO := O.out
      rw [← hl] at hO
      obtain ⟨gw, c', e, _, _, _, hcell⟩ := rows_at rwCells_length (rowTouch HR.out.waits T.out (fun _ _ f => f)) rfl hy (by decide)
      obtain rfl : aw = some ⟨gw, 0, none⟩ := by injection e
      have e0 : wr.cell? ⟨gw, k * 3, none⟩ = some (.int .i64 (y.n : Nat)) := hcell 0 (by decide)
      have e1 : wr.cell? ⟨gw, k * 3 + 1, none⟩ = some (.string (str y.b)) := hcell 1 (by decide)
      have e2 : wr.cell? ⟨gw, k * 3 + 2, none⟩ = some (.bool (y.elder == 1)) := hcell 2 (by decide)
      have hx : l[y.n]? = some (Dk.at_ l y.n) := Dk.at_get (by rw [hlo.2]; exact hyL)
      have hso : (Dk.at_ l y.n).Ok := hlo.1 _ (Dk.at_mem (by rw [hlo.2]; exact hyL))
      obtain ⟨hgx, hfx, hcx⟩ := rows_known rsCells_length hO hlo.2 hx (by decide)
      have x0 : wr.cell? ⟨gx, y.n * 2, none⟩ = some (.string (str (Dk.at_ l y.n).b)) := hcx 0 (by decide)
      have x1 : wr.cell? ⟨gx, y.n * 2 + 1, none⟩ = some (.bool ((Dk.at_ l y.n).bad == 1)) := hcx 1 (by decide)
      obtain ⟨s, hs⟩ : ∃ s, Dk.at_ l y.n = s := ⟨_, rfl⟩
      rw [hs] at x0 x1 hx hso
      obtain ⟨n, hn⟩ : ∃ n, y.n = n := ⟨_, rfl⟩
      obtain ⟨Y, hY⟩ : ∃ Y, str y.b = Y := ⟨_, rfl⟩
      obtain ⟨X, hX⟩ : ∃ X, str s.b = X := ⟨_, rfl⟩
      obtain ⟨eb, heb⟩ : ∃ eb, (y.elder == 1) = eb := ⟨_, rfl⟩
      obtain ⟨sb, hsb⟩ : ∃ sb, (s.bad == 1) = sb := ⟨_, rfl⟩
      rw [hn] at e0 x0 x1 hx hyL
      rw [hY] at e1
      rw [heb] at e2
      rw [hX] at x0
      rw [hsb] at x1
      have hnI : (n : Int) < (L : Nat) := by omega
      have f0 := hfx (n * 2)
      have f1 := hfx (n * 2 + 1)
      have hxw : ¬ gx = wr.heap.size := by omega
      have Hy := Lib.hid hyo
      have Hx := Lib.hid hx
      have Hso := Lib.hid hso
      have HOl := Lib.hid hO
      have Hlo := Lib.hid hlo
      have Hstep := Lib.hid hstep
      have Hn := Lib.hid hn
      have Hs := Lib.hid hs
      have HY := Lib.hid hY
      have HX := Lib.hid hX
      have Heb := Lib.hid heb
      have Hsb := Lib.hid hsb
      have hgw := lt_of_cell e0
      have hgg := lt_of_cell q2
      clear hy hyo hl hlo hstep hO hcell hx hso hfx hcx hs hn hY hX heb hsb e
      have TA : Hid (∀ ob, Touch No w (wr.alloc ob)) := fun ob => T.out.alloc ob
      have OA : Hid (∀ ob, (wr.alloc ob).ownsRow 0 115 2 (.slice (some ⟨gx, 0, none⟩) L cx) L (l.flatMap rsCells)) := fun ob => rowTouch HOl.out ((Touch.refl No wr).alloc ob) (fun _ _ f => f)
      by_cases ht : (k : Int) = torn
      · subst ht
        obtain ⟨Y1, hY1⟩ : ∃ Y1, Y.extract 0 32 = Y1 := ⟨_, rfl⟩
        obtain ⟨X2, hX2⟩ : ∃ X2, X.extract 32 64 = X2 := ⟨_, rfl⟩
        have sY : Y.size = 64 := by rw [← HY.out, str_size, Hy.out.b.len]
        have sX : X.size = 64 := by rw [← HX.out, str_size, Hso.out.b.len]
        have sY1 : Y1.size = 32 := by rw [← hY1, ← HY.out, str_take, str_size, List.length_take, Hy.out.b.len]; rfl
        have sX2 : X2.size = 32 := by rw [← hX2, ← HX.out, str_extract, str_size, List.length_drop, List.length_take, Hso.out.b.len]; rfl
        have hcat : Hid (Y1 ++ X2 = str (Dk.tornS y s).b) := by
          show _ = _
          rw [← hY1, ← hX2, ← HY.out, ← HX.out, str_take, str_extract, str_append, List.take_of_length_le (i := 64) (by rw [Hso.out.b.len]; exact Nat.le_refl _)]; rfl
        obtain ⟨W1, hW1⟩ : ∃ W1, W1 = wr.alloc (.cells #[.int .i64 (n : Nat), .string Y, .bool eb] 130) := ⟨_, rfl⟩
        have d0 : W1.cell? ⟨wr.heap.size, 0, none⟩ = some (.int .i64 (n : Nat)) := by rw [hW1, cell_new]; rfl
        have d1 : W1.cell? ⟨wr.heap.size, 1, none⟩ = some (.string Y) := by rw [hW1, cell_new]; rfl
        have d2 : W1.cell? ⟨wr.heap.size, 2, none⟩ = some (.bool eb) := by rw [hW1, cell_new]; rfl
        have a0 : W1.cell? ⟨gx, n * 2, none⟩ = some (.string X) := by rw [hW1]; exact (cell_old wr _ hgx).trans x0
        have a1 : W1.cell? ⟨gx, n * 2 + 1, none⟩ = some (.bool sb) := by rw [hW1]; exact (cell_old wr _ hgx).trans x1
        have af : W1.frozen? ⟨gx, n * 2, none⟩ = false := by rw [hW1]; exact (frozen_old wr _ hgx).trans f0
        have af1 : W1.frozen? ⟨gx, n * 2 + 1, none⟩ = false := by rw [hW1]; exact (frozen_old wr _ hgx).trans f1
        have TW : Hid (Touch No w W1) := by show Touch _ _ _; rw [hW1]; exact TA.out _
        have OW : Hid (W1.ownsRow 0 115 2 (.slice (some ⟨gx, 0, none⟩) L cx) L (l.flatMap rsCells)) := by show World.ownsRow _ _ _ _ _ _ _; rw [hW1]; exact OA.out _
        go_wp2_with fail
        rw [← hW1]
        clear hW1 x0 x1 f0 f1 TA OA
        go_still_tail 16, (by kernel_rfl)
        go_wp2_with fail
        have FIN : Hid ((W1.drew.setCell ⟨gx, n * 2, none⟩ (.string (Y1 ++ X2))).ownsRow 0 115 2 (.slice (some ⟨gx, 0, none⟩) L cx) L ((Dk.failed keep (k : Int) D.sure 0 (D.waits.take (k + 1))).flatMap rsCells) ∧ Touch No w (W1.drew.setCell ⟨gx, n * 2, none⟩ (.string (Y1 ++ X2)))) := by
          have h1 := rows_put rsCells_length (rowTouch OW.out ((Touch.refl No W1).drew) (fun _ _ f => f)) Hlo.out.2 (i := n) (j := 0) (y := Dk.tornS y s) (u := .string (Y1 ++ X2)) Hx.out (by decide) (by rw [hcat.out]; rfl)
          refine ⟨?_, TW.out.drew.setCell (p := ⟨gx, n * 2, none⟩) (fun hh => absurd hh (Nat.not_lt.2 Hgx.out)) _⟩
          have e := Hs.out
          rw [Hn.out] at e
          rw [Hstep.out, Dk.failStep, if_pos rfl, Dk.upd, Hn.out, e]
          exact h1
        go_roundg g'
        case measure => omega
        case rel => exact ⟨k + 1, by omega, by go_num, FIN.out.1, FIN.out.2⟩
      · have ht' : ((k : Int) == torn) = false := by simpa using ht
        have Ht := Lib.hid ht
        clear ht
        by_cases hbit : keep.testBit (k % 64) = true
        · have hb1 : (bits BinOp.and IntKind.u64 ((keep : Int) / 2 ^ (k % 64)) 1 == 1) = true := by rw [bit_test _ _ Hk.out]; exact hbit
          obtain ⟨W1, hW1⟩ : ∃ W1, W1 = wr.alloc (.cells #[.int .i64 (n : Nat), .string Y, .bool eb] 130) := ⟨_, rfl⟩
          have d0 : W1.cell? ⟨wr.heap.size, 0, none⟩ = some (.int .i64 (n : Nat)) := by rw [hW1, cell_new]; rfl
          have d1 : W1.cell? ⟨wr.heap.size, 1, none⟩ = some (.string Y) := by rw [hW1, cell_new]; rfl
          have d2 : W1.cell? ⟨wr.heap.size, 2, none⟩ = some (.bool eb) := by rw [hW1, cell_new]; rfl
          have a0 : W1.cell? ⟨gx, n * 2, none⟩ = some (.string X) := by rw [hW1]; exact (cell_old wr _ hgx).trans x0
          have a1 : W1.cell? ⟨gx, n * 2 + 1, none⟩ = some (.bool sb) := by rw [hW1]; exact (cell_old wr _ hgx).trans x1
          have af : W1.frozen? ⟨gx, n * 2, none⟩ = false := by rw [hW1]; exact (frozen_old wr _ hgx).trans f0
          have af1 : W1.frozen? ⟨gx, n * 2 + 1, none⟩ = false := by rw [hW1]; exact (frozen_old wr _ hgx).trans f1
          have TW : Hid (Touch No w W1) := by show Touch _ _ _; rw [hW1]; exact TA.out _
          have OW : Hid (W1.ownsRow 0 115 2 (.slice (some ⟨gx, 0, none⟩) L cx) L (l.flatMap rsCells)) := by show World.ownsRow _ _ _ _ _ _ _; rw [hW1]; exact OA.out _
          have FN : Hid (∀ (b : Bool), b = (sb && eb) → ∀ W2, W2 = W1.setCell ⟨gx, n * 2, none⟩ (.string Y) → (W2.drew.setCell ⟨gx, n * 2 + 1, none⟩ (.bool b)).ownsRow 0 115 2 (.slice (some ⟨gx, 0, none⟩) L cx) L ((Dk.failed keep torn D.sure 0 (D.waits.take (k + 1))).flatMap rsCells) ∧ Touch No w (W2.drew.setCell ⟨gx, n * 2 + 1, none⟩ (.bool b))) := fun b hb W2 e2 => by
            have h1 := rows_put rsCells_length OW.out Hlo.out.2 (i := n) (j := 0) (y := ⟨y.b, s.bad⟩) (u := .string Y) Hx.out (by decide) (by rw [← HY.out]; rfl)
            have h2 := rows_put rsCells_length (rowTouch h1 ((Touch.refl No _).drew) (fun _ _ f => f)) (by rw [List.length_set]; exact Hlo.out.2) (i := n) (j := 1) (x := ⟨y.b, s.bad⟩) (y := Dk.keptS y s) (u := .bool b) (List.getElem?_set_self (by rw [Hlo.out.2]; exact hyL)) (by decide) (by rw [hb, ← Hsb.out, ← Heb.out, ← and_one Hso.out.bad Hy.out.elder]; rfl)
            rw [List.set_set] at h2
            have e := Hs.out
            rw [Hn.out] at e
            rw [Hstep.out, Dk.failStep, if_neg Ht.out, if_pos hbit, Dk.upd, Hn.out, e]
            subst e2
            exact ⟨h2, ((TW.out.setCell (p := ⟨gx, n * 2, none⟩) (fun hh => absurd hh (Nat.not_lt.2 Hgx.out)) _).drew).setCell (p := ⟨gx, n * 2 + 1, none⟩) (fun hh => absurd hh (Nat.not_lt.2 Hgx.out)) _⟩
          clear hbit
          go_upto_region 9 with fail
          rw [← hW1]
          clear hW1 x0 x1 f0 f1 TA OA
          go_upto_region 10 with fail
          obtain ⟨W2, hW2⟩ : ∃ W2, W2 = W1.setCell ⟨gx, n * 2, none⟩ (.string Y) := ⟨_, rfl⟩
          have b0 : W2.cell? ⟨wr.heap.size, 0, none⟩ = some (.int .i64 (n : Nat)) := by rw [hW2, cell_set_ne (Or.inl hxw)]; exact d0
          have b2 : W2.cell? ⟨wr.heap.size, 2, none⟩ = some (.bool eb) := by rw [hW2, cell_set_ne (Or.inl hxw)]; exact d2
          have b1 : W2.cell? ⟨gx, n * 2 + 1, none⟩ = some (.bool sb) := by rw [hW2, cell_set_ne (Or.inr (by omega))]; exact a1
          have bf : W2.frozen? ⟨gx, n * 2 + 1, none⟩ = false := by rw [hW2, World.frozen?_setCell]; exact af1
          rw [← hW2]
          have FN2 := Lib.hid (fun b hb => FN.out b hb W2 hW2)
          clear hW2 FN d0 d1 d2 a0 a1 af af1
          cases sb with
          | true =>
            have FIN := Lib.hid (FN2.out eb (by simp))
            go_still_tail 15, (by kernel_rfl)
            go_wp2_with fail
            go_roundg g'
            case measure => omega
            case rel => exact ⟨k + 1, by omega, by go_num, FIN.out.1, FIN.out.2⟩
          | false =>
            have FIN := Lib.hid (FN2.out false (by simp))
            go_still_tail 15, (by kernel_rfl)
            go_wp2_with fail
            go_roundg g'
            case measure => omega
            case rel => exact ⟨k + 1, by omega, by go_num, FIN.out.1, FIN.out.2⟩
        · have hb1 : (bits BinOp.and IntKind.u64 ((keep : Int) / 2 ^ (k % 64)) 1 == 1) = false := by rw [bit_test _ _ Hk.out]; simpa using hbit
          have FIN : Hid (∀ ob, (wr.alloc ob).ownsRow 0 115 2 (.slice (some ⟨gx, 0, none⟩) L cx) L ((Dk.failed keep torn D.sure 0 (D.waits.take (k + 1))).flatMap rsCells)) := fun ob => by
            rw [Hstep.out, Dk.failStep, if_neg Ht.out, if_neg hbit]
            exact OA.out ob
          clear hbit
          go_wp2_with fail
          go_roundg g'
          case measure => omega
          case rel => exact ⟨k + 1, by omega, by go_num, FIN.out _, TA.out _⟩
end Go.Proofs.YtkiehoboeiengaaGreatDoor
