/-
  Package drydocklaw01 by its own text: a book's lists of numbers, looked at.
  Package drydocklaw01 by its own text: a book's lists of ids, filled with marks.
-/
import Derived.Test.YtnffigfafalocaaGreatDoorK32
import Derived.Test.YtnffigfafalocaaGreatDoorK29
import Derived.Test.YtnffigfafalocaaGreatDoorK28
import Derived.StillTailTactics
namespace Go.Proofs.YtnffigfafalocaaGreatDoor
open Go Go.RowKit
set_option linter.unusedSimpArgs false
set_option linter.unusedVariables false

theorem isNumber_any (w : World) (k : Nat) (hk : k ≤ 1000000) : Calls Tryz.prog 196 #[.int .i32 (-(k : Int)), .int .i64 (k : Nat)] w fun e w' => e = .returned (.bool true) ∧ w' = w := by
  have hk' : (k : Int) ≤ 1000000 := by omega
  have h1 : ((-(k : Int)) == -(k : Int)) = true := by simp
  go_enter Tryz.func196, Tryz.ntmps196
  go_wp2
  go_ret
  exact ⟨by simp, rfl⟩
set_option maxRecDepth 100000 in
set_option maxHeartbeats 4000000 in
theorem lookNumber_any (w : World) (g n : Nat) (vB vI vN vD : Value) (B : List HE) (ls : List Value) (O : Nat → Prop) (hls : ls.length = B.length) (h : Al w (Part.row g 71 (bookCells n vB vI vN vD) :: Part.arr 246 vN B.length (heMid B ls) :: List.zipWith (Part.gr 21 mkN) B ls) O) (hm : B.length ≤ 100000) (hk : ∀ e ∈ B, e.k ≤ 1000000) (hl : ∀ e ∈ B, e.n ≤ 10000000) :
    Calls Tryz.prog 115 #[.pointer (some ⟨g, 0, none⟩)] w fun e w' => e = .returned (.bool true) ∧ Touch No w w' := by
  obtain ⟨m, hmB⟩ : ∃ m, B.length = m := ⟨_, rfl⟩
  have hm' : (m : Int) ≤ 100000 := by omega
  have H0 := Lib.hid h
  have HK := Lib.hid hk
  have HL := Lib.hid hl
  have HM := Lib.hid hmB
  have Hls := Lib.hid hls
  clear h hk hl hmB hls
  go_enter Tryz.func115, Tryz.ntmps115
  go_wp2
  go_loopg [3] m (fun gk s2 wr => ∃ i : Nat, i + gk = m ∧ s2 = .int .i64 ((i : Nat) : Int) ∧ Hid (Touch No w wr))
  case atStart => exact ⟨0, by omega, rfl, Touch.refl _ _⟩
  case round =>
    obtain ⟨i, hi, rfl, hT⟩ := hrel
    have hA := H0.out.no hT.out
    obtain ⟨A1, hrow, hA1⟩ := hA.head
    obtain ⟨A2, harr, hA2⟩ := hA.tail.head
    obtain ⟨ab, cb, hvB, hcb, _⟩ := rowSlice harr.1
    have c1 : wr.cell? ⟨g, 3, none⟩ = some (.slice ab m cb) := by
      rw [hrow.1.cell 3, ← HM.out, ← hvB]; rfl
    cases gk with
    | zero =>
      obtain rfl : i = m := by omega
      have HT := hT
      clear hA hrow harr hT
      go_wp2
      go_ret
      exact ⟨rfl, HT.out⟩
    | succ gk =>
      obtain ⟨wo, rfl⟩ : ∃ wo : World, wo = wr := ⟨_, rfl⟩
      have hil : i < B.length := by rw [HM.out]; omega
      have hlt : (i : Int) < (m : Nat) := by omega
      obtain ⟨gb, cb2, hv2, hOb, k0, k1, k2, kf⟩ := mid_at harr hil
      have hek : B[i].k ≤ 1000000 := HK.out _ (List.getElem_mem hil)
      have hel : B[i].n ≤ 10000000 := HL.out _ (List.getElem_mem hil)
      have hBi : B[i]? = some B[i] := List.getElem?_eq_getElem hil
      have hli : ls[i]? = some (ls.getD i nilSl) := by
        rw [List.getD_eq_getElem?_getD, List.getElem?_eq_getElem (by rw [Hls.out]; exact hil)]; rfl
      obtain ⟨G, ⟨⟨a', c', hlong, hrE, hrZ, _⟩, _⟩, _⟩ := hA.tail.tail.mem (zip_get (Part.gr 21 mkN) hBi hli)
      rw [hlong] at k1
      obtain ⟨e, he⟩ : ∃ e, B[i] = e := ⟨_, rfl⟩
      rw [he] at k0 k2 hek hel k1 hrE hrZ
      obtain ⟨ea, en, ec, ek⟩ := e
      dsimp only at k0 k1 k2 hek hel hrE hrZ
      have hab : ab = some ⟨gb, 0, none⟩ := by
        rw [hvB] at hv2; cases hv2; rfl
      subst hab
      have hel' : (en : Int) ≤ 10000000 := by omega
      have HrE := Lib.hid hrE
      have HrZ := Lib.hid hrZ
      have HT := hT
      clear hA hrow harr hT hBi hli hlong he hvB hv2 hA1 hA2 hOb kf hrE hrZ
      have hne : (((en + 40 : Nat) : Int) != (en : Int) + 40) = false := by simp
      go_wp2
      obtain ⟨w1, hw1⟩ : ∃ w1, w1 = wo.alloc (.cells #[.slice ea en ec, .slice a' (en + 40) c', .int .i64 (ek : Nat)] 246) := ⟨_, rfl⟩
      have t1 : Touch No wo w1 := by rw [hw1]; exact (Touch.refl No wo).alloc _
      have b0 : w1.cell? ⟨wo.heap.size, 0, none⟩ = some (.slice ea en ec) := by rw [hw1, cell_new]; rfl
      have b1 : w1.cell? ⟨wo.heap.size, 1, none⟩ = some (.slice a' (en + 40) c') := by rw [hw1, cell_new]; rfl
      have b2 : w1.cell? ⟨wo.heap.size, 2, none⟩ = some (.int .i64 (ek : Nat)) := by rw [hw1, cell_new]; rfl
      have T1 := Lib.hid t1
      have B0 := Lib.hid b0
      have B1 := Lib.hid b1
      have B2 := Lib.hid b2
      rw [← hw1]
      obtain ⟨hb, Hhb⟩ : ∃ hb, Hid (hb = wo.heap.size) := ⟨_, rfl⟩
      rw [← Hhb.out] at B0 B1 B2 ⊢
      clear hw1 t1 b0 b1 b2 k0 k1 k2 c1 hne
      have hsz0 := T1.out.size
      go_loopg [5] (en + 40) (fun g' s5 wr => ∃ k : Nat, k + g' = en + 40 ∧ s5 = .int .i64 ((k : Nat) : Int) ∧ Hid (Touch No w1 wr))
      case atStart => exact ⟨0, by omega, rfl, Touch.refl _ _⟩
      case round =>
        obtain ⟨k, hkk, rfl, hU⟩ := hrel
        have b0 := hU.out.cell (id : No hb → False) B0.out
        have b1 := hU.out.cell (id : No hb → False) B1.out
        have b2 := hU.out.cell (id : No hb → False) B2.out
        have hen40 : (en : Int) + 40 ≤ 10000040 := by omega
        cases gk with
        | zero =>
          obtain rfl : k = en + 40 := by omega
          have HN : Hid (Touch No w wr) := (HT.out.trans T1.out).trans hU.out
          have hnlt : decide ((en : Int) + 40 < (en : Int) + 40) = false := by simp
          clear b0 b2
          go_wp2
          go_roundg gk
          case measure => omega
          case rel => exact ⟨i + 1, by omega, by go_num, HN⟩
        | succ g' =>
          have hkl : (k : Int) < (en : Int) + 40 := by omega
          obtain ⟨gz, oz, rfl, hck⟩ := (HrZ.out.no (T1.out.trans hU.out)) k (mkN ek) (by rw [List.getElem?_replicate, if_pos (by omega)])
          replace hck : wr.cell? ⟨gz, oz + k, none⟩ = some (.int .i32 (-(ek : Int))) := hck
          by_cases hke : k < en
          · obtain ⟨ge, oe, rfl, hce⟩ := (HrE.out.no (T1.out.trans hU.out)) k (mkN ek) (by rw [List.getElem?_replicate, if_pos (by omega)])
            replace hce : wr.cell? ⟨ge, oe + k, none⟩ = some (.int .i32 (-(ek : Int))) := hce
            have hke' : (k : Int) < (en : Nat) := by omega
            have HU := hU
            have Hkk := Lib.hid hkk
            clear hU hkk hke
            go_wp2
            go_quiet ((go_at_call 196; exact Calls.quiet_of_same (isNumber_any _ ek hek)))
            have HN : Hid (Touch No w1 (wr.drewN nq)) := HU.out.drewN nq
            go_wp2
            go_roundg g'
            case measure => have := Hkk.out; omega
            case rel => exact ⟨k + 1, by have := Hkk.out; omega, by go_num, HN⟩
          · have Hke : Hid (¬ k < en) := hke
            have HU := hU
            have Hkk := Lib.hid hkk
            clear hU hkk hke
            go_wp2
            have hkd : decide ((k : Int) < (en : Int)) = false := decide_eq_false (by have := Hke.out; omega)
            have hkd2 : decide (k < en) = false := decide_eq_false Hke.out
            go_quiet ((go_at_call 196; exact Calls.quiet_of_same (isNumber_any _ ek hek)))
            have HN : Hid (Touch No w1 (wr.drewN nq)) := HU.out.drewN nq
            clear hkd hkd2
            go_wp2
            go_roundg g'
            case measure => have := Hkk.out; omega
            case rel => exact ⟨k + 1, by have := Hkk.out; omega, by go_num, HN⟩
end Go.Proofs.YtnffigfafalocaaGreatDoor
namespace Go.Proofs.YtnffigfafalocaaGreatDoor
open Go Go.RowKit
set_option linter.unusedSimpArgs false

def mkD (k : Nat) : Value := .int .u32 ((k : Nat) : Int)
theorem markId_any (w : World) (k : Nat) (hk : k ≤ 1000000) : Calls Tryz.prog 182 #[.int .i64 (k : Nat)] w fun e w' => e = .returned (mkD k) ∧ w' = w := by
  have hk' : (k : Int) ≤ 1000000 := by omega
  go_enter Tryz.func182, Tryz.ntmps182
  go_wp2
  go_ret
  exact ⟨rfl, rfl⟩
set_option maxRecDepth 100000 in
set_option maxHeartbeats 4000000 in
theorem fillId_any (w : World) (g n : Nat) (vB vI vN vD : Value) (B : List HE) (O : Nat → Prop) (h : Al w (Part.row g 71 (bookCells n vB vI vN vD) :: Part.arr 239 vD B.length (heNew B) :: B.map (Part.room 38)) O) (hO : ∀ k, O k → k < w.heap.size) (hm : B.length ≤ 100000) (hk : ∀ e ∈ B, e.k ≤ 1000000) :
    Calls Tryz.prog 86 #[.pointer (some ⟨g, 0, none⟩)] w fun e w' => e = .returned (.tuple #[]) ∧ TurnsL w O (Part.row g 71 (bookCells n vB vI vN vD) :: Part.arr 239 vD B.length (heNew B) :: B.map (Part.full 38 mkD)) w' := by
  obtain ⟨m, hmB⟩ : ∃ m, B.length = m := ⟨_, rfl⟩
  have hm' : (m : Int) ≤ 100000 := by omega
  have H0 := Lib.hid h
  have HO := Lib.hid hO
  have HK := Lib.hid hk
  have HM := Lib.hid hmB
  clear h hO hk hmB
  go_enter Tryz.func86, Tryz.ntmps86
  go_wp2
  go_loopg [2] m (fun gk s2 wr => ∃ i : Nat, i + gk = m ∧ s2 = .int .i64 ((i : Nat) : Int) ∧ Hid (TurnsL w O (Part.row g 71 (bookCells n vB vI vN vD) :: Part.arr 239 vD B.length (heNew B) :: ((B.take i).map (Part.full 38 mkD) ++ (B.drop i).map (Part.room 38))) wr))
  case atStart =>
    exact ⟨0, by omega, rfl, TurnsL.same H0.out⟩
  case round =>
    obtain ⟨i, hi, rfl, hT⟩ := hrel
    obtain ⟨ht, O', hA, hin⟩ := hT.out
    obtain ⟨A1, hrow, hA1⟩ := hA.head
    obtain ⟨A2, harr, hA2⟩ := hA.tail.head
    obtain ⟨ab, cb, hvB, hcb, _⟩ := rowSlice harr.1
    have c1 : wr.cell? ⟨g, 4, none⟩ = some (.slice ab m cb) := by
      rw [hrow.1.cell 4, ← HM.out, ← hvB]; rfl
    cases gk with
    | zero =>
      obtain rfl : i = m := by omega
      have HT := hT
      clear hA hrow harr hin ht hT
      go_wp2
      go_end0
      refine ⟨rfl, ?_⟩
      have := HT.out
      rw [List.take_of_length_le (by rw [HM.out]; exact Nat.le_refl _), List.drop_of_length_le (by rw [HM.out]; exact Nat.le_refl _), List.map_nil, List.append_nil] at this
      exact this
    | succ gk =>
      obtain ⟨wo, rfl⟩ : ∃ wo : World, wo = wr := ⟨_, rfl⟩
      have hil : i < B.length := by rw [HM.out]; omega
      have hlt : (i : Int) < (m : Nat) := by omega
      obtain ⟨gb, cb2, hv2, hOb, k0, k1, k2⟩ := arr_at harr hil
      have hBd : B.drop i = B[i] :: B.drop (i + 1) := List.drop_eq_getElem_cons hil
      have hBt : B.take (i + 1) = B.take i ++ [B[i]] := List.take_succ_eq_append_getElem hil
      have hek : B[i].k ≤ 1000000 := HK.out _ (List.getElem_mem hil)
      obtain ⟨e, he⟩ : ∃ e, B[i] = e := ⟨_, rfl⟩
      rw [he] at k0 k2 hBd hBt hek
      clear he
      rw [hBd, List.map_cons] at hA
      have hA' := hA.perm (perm_mid _ _ _ _ _)
      obtain ⟨F, hF, hFO, hfr⟩ := Al.frame (l := [Part.room 38 e]) hA'
      obtain ⟨X, ⟨vs, hsl⟩, hX⟩ := hF.head
      obtain ⟨ea, en, ec, ek⟩ := e
      dsimp only at k0 k2 hek hsl
      replace k1 : wo.cell? ⟨gb, i * 3 + 1, none⟩ = some (.slice none 0 0) := k1
      have hab : ab = some ⟨gb, 0, none⟩ := by
        rw [hvB] at hv2; cases hv2; rfl
      subst hab
      obtain ⟨hvl, hnc, hcm⟩ := sl_len hsl
      have hen : (en : Int) ≤ 9223372036854775807 := by unfold maxLen at hcm; omega
      have hXs : ∀ k, X k → k < wo.heap.size := fun k hk => (Part.sl 38 ea en ec vs).lt hsl k hk
      have HA := Lib.hid hfr
      have HT := Lib.hid (And.intro ht hin)
      have HBt := Lib.hid hBt
      have HX := Lib.hid hX
      have HXs := Lib.hid hXs
      have Hsl := Lib.hid hsl
      have Hvl := Lib.hid hvl
      have HV := Lib.hid hvB
      clear hA hA' hrow harr hin ht hT hfr hF hFO hX hXs hBd hBt hvB hv2 hA1 hA2 hOb hsl hvl hnc hcm
      go_wp2
      obtain ⟨w1, hw1⟩ : ∃ w1, w1 = wo.alloc (.cells #[.slice ea en ec, .slice none 0 0, .int .i64 (ek : Nat)] 239) := ⟨_, rfl⟩
      have t1 : Touch No wo w1 := by rw [hw1]; exact (Touch.refl No wo).alloc _
      have b0 : w1.cell? ⟨wo.heap.size, 0, none⟩ = some (.slice ea en ec) := by rw [hw1, cell_new]; rfl
      have b2 : w1.cell? ⟨wo.heap.size, 2, none⟩ = some (.int .i64 (ek : Nat)) := by rw [hw1, cell_new]; rfl
      have T1 := Lib.hid t1
      have B0 := Lib.hid b0
      have B2 := Lib.hid b2
      rw [← hw1]
      obtain ⟨hb, Hhb⟩ : ∃ hb, Hid (hb = wo.heap.size) := ⟨_, rfl⟩
      rw [← Hhb.out] at B0 B2 ⊢
      clear hw1 t1 b0 b2 k0 k1 k2 c1
      go_loopg [4] en (fun g' s4 wr => ∃ k : Nat, k + g' = en ∧ s4 = .int .i64 ((k : Nat) : Int) ∧ Hid (∃ us, (Part.sl 38 ea en ec us).P wr X ∧ us.take k = List.replicate k (mkD ek) ∧ Touch X w1 wr))
      case atStart => exact ⟨0, by omega, rfl, ⟨vs, (Part.sl 38 ea en ec vs).stable Hsl.out T1.out (fun _ _ f => f), rfl, Touch.refl _ _⟩⟩
      case round =>
        obtain ⟨k, hk, rfl, hU⟩ := hrel
        obtain ⟨us, hus, htk, htX⟩ := hU.out
        have nh : ¬ X hb := fun h => by have := HXs.out hb h; have := Hhb.out; omega
        have b0 := htX.cell nh B0.out
        have b2 := htX.cell nh B2.out
        cases gk with
        | zero =>
          obtain rfl : k = en := by omega
          have hful : us = List.replicate k (mkD ek) := by rw [← htk, List.take_of_length_le (by rw [hus.1]; exact Nat.le_refl _)]
          have hT3 : TurnsL wo F [Part.full 38 mkD ⟨ea, k, ec, ek⟩] wr := by
            refine ⟨((T1.out.no : Touch F wo w1).then htX (fun k hk h => HX.out k h)), X, ⟨X, fun _ => False, ?_, trivial, fun _ _ f => f, fun _ h => h, fun _ f => f.elim⟩, fun k hk => Or.inl (HX.out k hk)⟩
            show (Part.sl 38 ea k ec (List.replicate k (mkD ek))).P wr X
            rw [← hful]; exact hus
          have hT4 := (TurnsL.comp HT.out.1 HT.out.2 (HA.out wr _ hT3)).perm (perm_mid _ _ _ _ _).symm
          have HN : Hid (TurnsL w O (Part.row g 71 (bookCells n vB vI vN vD) :: Part.arr 239 vD B.length (heNew B) :: ((B.take (i + 1)).map (Part.full 38 mkD) ++ (B.drop (i + 1)).map (Part.room 38))) wr) := by
            show TurnsL _ _ _ _
            rw [HBt.out, List.map_append, List.append_assoc]
            exact hT4
          clear hful hT3 hT4 hus htk htX hU nh
          go_wp2
          go_roundg gk
          case measure => omega
          case rel => exact ⟨i + 1, by omega, by go_num, HN⟩
        | succ g' =>
          have hkn : (k : Int) < (en : Nat) := by omega
          obtain ⟨gg, o, rfl, hXg, hfz, ⟨u, hcu⟩, hset, htset⟩ := sl_set hus (show k < en by omega) (mkD ek)
          have hkl : k < us.length := by rw [hus.1]; omega
          have HN : Hid (∃ us', (Part.sl 38 (some ⟨gg, o, none⟩) en ec us').P ((wr.setCell ⟨gg, o + k, none⟩ (mkD ek)).drew) X ∧ us'.take (k + 1) = List.replicate (k + 1) (mkD ek) ∧ Touch X w1 ((wr.setCell ⟨gg, o + k, none⟩ (mkD ek)).drew)) :=
            ⟨_, (Part.sl 38 (some ⟨gg, o, none⟩) en ec _).stable hset ((Touch.refl No _).drew) (fun _ _ f => f), take_next htk hkl, (htX.trans htset).drew⟩
          clear hus htk htX hset htset hU nh
          go_wp2_with fail
          go_still_tail 7, (by kernel_rfl)
          still_call (show Calls _ _ _ _ (fun e w' => e = .returned (.int .u32 ((ek : Nat) : Int)) ∧ w' = _) from markId_any _ ek hek)
          repeat still_step
          refine wpStill_nil ?_
          go_wp2
          go_roundg g'
          case measure => omega
          case rel => exact ⟨k + 1, by omega, by go_num, HN⟩
end Go.Proofs.YtnffigfafalocaaGreatDoor
