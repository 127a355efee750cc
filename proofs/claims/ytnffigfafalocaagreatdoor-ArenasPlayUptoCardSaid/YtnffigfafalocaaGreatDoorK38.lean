/-
  Package drydocklaw01 by its own text: a book's lists of ints, looked at.
  Package drydocklaw01 by its own text: Book.Apart, lists of ints too.
-/
import Derived.Test.YtnffigfafalocaaGreatDoorK37
import Derived.Test.YtnffigfafalocaaGreatDoorK36
namespace Go.Proofs.YtnffigfafalocaaGreatDoor
open Go Go.RowKit
set_option linter.unusedSimpArgs false
set_option linter.unusedVariables false

theorem isInt_any (w : World) (k : Nat) (hk : k ≤ 1000000) : Calls Tryz.prog 195 #[.int .i64 (-(k : Int)), .int .i64 (k : Nat)] w fun e w' => e = .returned (.bool true) ∧ w' = w := by
  have hk' : (k : Int) ≤ 1000000 := by omega
  have h1 : ((-(k : Int)) == -(k : Int)) = true := by simp
  go_enter Tryz.func195, Tryz.ntmps195
  go_wp2
  go_ret
  exact ⟨by simp, rfl⟩
set_option maxRecDepth 100000 in
set_option maxHeartbeats 4000000 in
theorem lookInt_any (w : World) (g n : Nat) (vB vI vN vD : Value) (B : List HE) (ls : List Value) (O : Nat → Prop) (hls : ls.length = B.length) (h : Al w (Part.row g 71 (bookCells n vB vI vN vD) :: Part.arr 244 vI B.length (heMid B ls) :: List.zipWith (Part.gr 3 mkI) B ls) O) (hm : B.length ≤ 100000) (hk : ∀ e ∈ B, e.k ≤ 1000000) (hl : ∀ e ∈ B, e.n ≤ 10000000) :
    Calls Tryz.prog 114 #[.pointer (some ⟨g, 0, none⟩)] w fun e w' => e = .returned (.bool true) ∧ Touch No w w' := by
  obtain ⟨m, hmB⟩ : ∃ m, B.length = m := ⟨_, rfl⟩
  have hm' : (m : Int) ≤ 100000 := by omega
  have H0 := Lib.hid h
  have HK := Lib.hid hk
  have HL := Lib.hid hl
  have HM := Lib.hid hmB
  have Hls := Lib.hid hls
  clear h hk hl hmB hls
  go_enter Tryz.func114, Tryz.ntmps114
  go_wp2
  go_loopg [3] m (fun gk s2 wr => ∃ i : Nat, i + gk = m ∧ s2 = .int .i64 ((i : Nat) : Int) ∧ Hid (Touch No w wr))
  case atStart => exact ⟨0, by omega, rfl, Touch.refl _ _⟩
  case round =>
    obtain ⟨i, hi, rfl, hT⟩ := hrel
    have hA := H0.out.no hT.out
    obtain ⟨A1, hrow, hA1⟩ := hA.head
    obtain ⟨A2, harr, hA2⟩ := hA.tail.head
    obtain ⟨ab, cb, hvB, hcb, _⟩ := rowSlice harr.1
    have c1 : wr.cell? ⟨g, 2, none⟩ = some (.slice ab m cb) := by
      rw [hrow.1.cell 2, ← HM.out, ← hvB]; rfl
    cases gk with
    | zero =>
      obtain rfl : i = m := by omega
      have HT := hT
      clear hA hrow harr hT
      go_wp2
      go_ret
      exact ⟨rfl, HT.out⟩
    | succ gk =>
      obtain ⟨wo, rfl⟩ : ∃ wo : World, wo = wr := ⟨_, rfl⟩
      have hil : i < B.length := by rw [HM.out]; omega
      have hlt : (i : Int) < (m : Nat) := by omega
      obtain ⟨gb, cb2, hv2, hOb, k0, k1, k2, kf⟩ := mid_at harr hil
      have hek : B[i].k ≤ 1000000 := HK.out _ (List.getElem_mem hil)
      have hel : B[i].n ≤ 10000000 := HL.out _ (List.getElem_mem hil)
      have hBi : B[i]? = some B[i] := List.getElem?_eq_getElem hil
      have hli : ls[i]? = some (ls.getD i nilSl) := by
        rw [List.getD_eq_getElem?_getD, List.getElem?_eq_getElem (by rw [Hls.out]; exact hil)]; rfl
      obtain ⟨G, ⟨⟨a', c', hlong, hrE, hrZ, _⟩, _⟩, _⟩ := hA.tail.tail.mem (zip_get (Part.gr 3 mkI) hBi hli)
      rw [hlong] at k1
      obtain ⟨e, he⟩ : ∃ e, B[i] = e := ⟨_, rfl⟩
      rw [he] at k0 k2 hek hel k1 hrE hrZ
      obtain ⟨ea, en, ec, ek⟩ := e
      dsimp only at k0 k1 k2 hek hel hrE hrZ
      have hab : ab = some ⟨gb, 0, none⟩ := by
        rw [hvB] at hv2; cases hv2; rfl
      subst hab
      have hel' : (en : Int) ≤ 10000000 := by omega
      have HrE := Lib.hid hrE
      have HrZ := Lib.hid hrZ
      have HT := hT
      clear hA hrow harr hT hBi hli hlong he hvB hv2 hA1 hA2 hOb kf hrE hrZ
      have hne : (((en + 40 : Nat) : Int) != (en : Int) + 40) = false := by simp
      go_wp2
      obtain ⟨w1, hw1⟩ : ∃ w1, w1 = wo.alloc (.cells #[.slice ea en ec, .slice a' (en + 40) c', .int .i64 (ek : Nat)] 244) := ⟨_, rfl⟩
      have t1 : Touch No wo w1 := by rw [hw1]; exact (Touch.refl No wo).alloc _
      have b0 : w1.cell? ⟨wo.heap.size, 0, none⟩ = some (.slice ea en ec) := by rw [hw1, cell_new]; rfl
      have b1 : w1.cell? ⟨wo.heap.size, 1, none⟩ = some (.slice a' (en + 40) c') := by rw [hw1, cell_new]; rfl
      have b2 : w1.cell? ⟨wo.heap.size, 2, none⟩ = some (.int .i64 (ek : Nat)) := by rw [hw1, cell_new]; rfl
      have T1 := Lib.hid t1
      have B0 := Lib.hid b0
      have B1 := Lib.hid b1
      have B2 := Lib.hid b2
      rw [← hw1]
      obtain ⟨hb, Hhb⟩ : ∃ hb, Hid (hb = wo.heap.size) := ⟨_, rfl⟩
      rw [← Hhb.out] at B0 B1 B2 ⊢
      clear hw1 t1 b0 b1 b2 k0 k1 k2 c1 hne
      have hsz0 := T1.out.size
      go_loopg [5] (en + 40) (fun g' s5 wr => ∃ k : Nat, k + g' = en + 40 ∧ s5 = .int .i64 ((k : Nat) : Int) ∧ Hid (Touch No w1 wr))
      case atStart => exact ⟨0, by omega, rfl, Touch.refl _ _⟩
      case round =>
        obtain ⟨k, hkk, rfl, hU⟩ := hrel
        have b0 := hU.out.cell (id : No hb → False) B0.out
        have b1 := hU.out.cell (id : No hb → False) B1.out
        have b2 := hU.out.cell (id : No hb → False) B2.out
        have hen40 : (en : Int) + 40 ≤ 10000040 := by omega
        cases gk with
        | zero =>
          obtain rfl : k = en + 40 := by omega
          have HN : Hid (Touch No w wr) := (HT.out.trans T1.out).trans hU.out
          have hnlt : decide ((en : Int) + 40 < (en : Int) + 40) = false := by simp
          clear b0 b2
          go_wp2
          go_roundg gk
          case measure => omega
          case rel => exact ⟨i + 1, by omega, by go_num, HN⟩
        | succ g' =>
          have hkl : (k : Int) < (en : Int) + 40 := by omega
          obtain ⟨gz, oz, rfl, hck⟩ := (HrZ.out.no (T1.out.trans hU.out)) k (mkI ek) (by rw [List.getElem?_replicate, if_pos (by omega)])
          replace hck : wr.cell? ⟨gz, oz + k, none⟩ = some (.int .i64 (-(ek : Int))) := hck
          by_cases hke : k < en
          · obtain ⟨ge, oe, rfl, hce⟩ := (HrE.out.no (T1.out.trans hU.out)) k (mkI ek) (by rw [List.getElem?_replicate, if_pos (by omega)])
            replace hce : wr.cell? ⟨ge, oe + k, none⟩ = some (.int .i64 (-(ek : Int))) := hce
            have hke' : (k : Int) < (en : Nat) := by omega
            have HU := hU
            have Hkk := Lib.hid hkk
            clear hU hkk hke
            go_wp2
            go_quiet ((go_at_call 195; exact Calls.quiet_of_same (isInt_any _ ek hek)))
            have HN : Hid (Touch No w1 (wr.drewN nq)) := HU.out.drewN nq
            go_wp2
            go_roundg g'
            case measure => have := Hkk.out; omega
            case rel => exact ⟨k + 1, by have := Hkk.out; omega, by go_num, HN⟩
          · have Hke : Hid (¬ k < en) := hke
            have HU := hU
            have Hkk := Lib.hid hkk
            clear hU hkk hke
            go_wp2
            have hkd : decide ((k : Int) < (en : Int)) = false := decide_eq_false (by have := Hke.out; omega)
            have hkd2 : decide (k < en) = false := decide_eq_false Hke.out
            go_quiet ((go_at_call 195; exact Calls.quiet_of_same (isInt_any _ ek hek)))
            have HN : Hid (Touch No w1 (wr.drewN nq)) := HU.out.drewN nq
            clear hkd hkd2
            go_wp2
            go_roundg g'
            case measure => have := Hkk.out; omega
            case rel => exact ⟨k + 1, by have := Hkk.out; omega, by go_num, HN⟩
end Go.Proofs.YtnffigfafalocaaGreatDoor
namespace Go.Proofs.YtnffigfafalocaaGreatDoor
open Go Go.RowKit
set_option linter.unusedSimpArgs false
set_option linter.unusedVariables false

section
variable {α : Type} (r b i n d : α) (X Y Z W : List α)
theorem mid3 (T : List α) (x y z : α) : (X ++ x :: y :: z :: T).Perm (x :: y :: z :: (X ++ T)) := List.perm_middle.trans ((mid2 X T y z).cons x)
theorem permB4 : ((r :: b :: X) ++ (i :: n :: d :: (Y ++ (Z ++ W)))).Perm (r :: b :: i :: n :: d :: (X ++ (Y ++ (Z ++ W)))) := ((mid3 X (Y ++ (Z ++ W)) i n d).cons b).cons r
theorem permI4 : ((r :: i :: Y) ++ (b :: n :: d :: (X ++ (Z ++ W)))).Perm (r :: b :: i :: n :: d :: (X ++ (Y ++ (Z ++ W)))) :=
  ((((mid3 Y (X ++ (Z ++ W)) b n d).trans ((((List.perm_append_comm_assoc Y X (Z ++ W)).cons d).cons n).cons b)).cons i).trans (List.Perm.swap b i _)).cons r
theorem permN4 : ((r :: n :: Z) ++ (b :: i :: d :: (X ++ (Y ++ W)))).Perm (r :: b :: i :: n :: d :: (X ++ (Y ++ (Z ++ W)))) := by
  have h : (Z ++ (X ++ (Y ++ W))).Perm (X ++ (Y ++ (Z ++ W))) := (List.perm_append_comm_assoc Z X (Y ++ W)).trans ((List.perm_append_comm_assoc Z Y W).append_left X)
  exact ((((mid3 Z (X ++ (Y ++ W)) b i d).trans (((h.cons d).cons i).cons b)).cons n).trans ((List.Perm.swap b n _).trans ((List.Perm.swap i n _).cons b))).cons r
theorem permD4 : ((r :: d :: W) ++ (b :: i :: n :: (X ++ (Y ++ Z)))).Perm (r :: b :: i :: n :: d :: (X ++ (Y ++ (Z ++ W)))) := by
  have h : (W ++ (X ++ (Y ++ Z))).Perm (X ++ (Y ++ (Z ++ W))) := by
    have h1 : (X ++ (Y ++ (Z ++ W))) = (X ++ (Y ++ Z)) ++ W := by simp [List.append_assoc]
    rw [h1]; exact List.perm_append_comm
  exact ((((mid3 W (X ++ (Y ++ Z)) b i n).trans (((h.cons n).cons i).cons b)).cons d).trans ((List.Perm.swap b d _).trans (((List.Perm.swap i d _).trans ((List.Perm.swap n d _).cons i)).cons b))).cons r
end
set_option maxRecDepth 100000 in
set_option maxHeartbeats 16000000 in
theorem apart4_any (w : World) (g n : Nat) (B I N D : List HE) (A : Nat → Prop) (h : (Part.book g n B I N D).P w A) (hB : BkOkB B) (hI : BkOk I) (hN : BkOk N) (hD : BkOk D) :
    Calls Tryz.prog 39 #[.pointer (some ⟨g, 0, none⟩)] w fun e w' => e = .returned (.bool true) ∧ Touch A w w' := by
  obtain ⟨⟨vB, vI, vN, vD, _, ha⟩, hlt⟩ := h
  have HB := Lib.hid hB
  have HI := Lib.hid hI
  have HN := Lib.hid hN
  have HD := Lib.hid hD
  have hT0 : TurnsL w A (Part.row g 71 (bookCells n vB vI vN vD) :: Part.arr 241 vB B.length (heNew B) :: Part.arr 244 vI I.length (heNew I) :: Part.arr 246 vN N.length (heNew N) :: Part.arr 239 vD D.length (heNew D) :: (B.map (Part.room 5) ++ (I.map (Part.room 3) ++ (N.map (Part.room 21) ++ D.map (Part.room 38))))) w := TurnsL.same ha
  have HT := Lib.hid (hT0.perm (permB4 _ _ _ _ _ _ _ _ _).symm)
  clear ha hlt hB hI hN hD hT0
  go_enter Tryz.func39, Tryz.ntmps39
  go_wp2_with fail
  refine (Calls.step HT.out (fun F hF hF2 => fillByte_any _ g n vB vI vN vD B F hF hF2 HB.out.1 HB.out.2.1)).mono ?_
  rintro e w1 ⟨rfl, hT⟩
  have HT := Lib.hid (hT.perm ((permB4 _ _ _ _ _ _ _ _ _).trans (permI4 _ _ _ _ _ _ _ _ _).symm))
  clear hT
  go_wp2_with fail
  refine (Calls.step HT.out (fun F hF hF2 => fillInt_any _ g n vB vI vN vD I F hF hF2 HI.out.1 HI.out.2.1)).mono ?_
  rintro e w2 ⟨rfl, hT⟩
  have HT := Lib.hid (hT.perm ((permI4 _ _ _ _ _ _ _ _ _).trans (permN4 _ _ _ _ _ _ _ _ _).symm))
  clear hT
  go_wp2_with fail
  refine (Calls.step HT.out (fun F hF hF2 => fillNumber_any _ g n vB vI vN vD N F hF hF2 HN.out.1 HN.out.2.1)).mono ?_
  rintro e w3 ⟨rfl, hT⟩
  have HT := Lib.hid (hT.perm ((permN4 _ _ _ _ _ _ _ _ _).trans (permD4 _ _ _ _ _ _ _ _ _).symm))
  clear hT
  go_wp2_with fail
  refine (Calls.step HT.out (fun F hF hF2 => fillId_any _ g n vB vI vN vD D F hF hF2 HD.out.1 HD.out.2.1)).mono ?_
  rintro e w4 ⟨rfl, hT⟩
  have HT := Lib.hid (hT.perm ((permD4 _ _ _ _ _ _ _ _ _).trans (permB4 _ _ _ _ _ _ _ _ _).symm))
  clear hT
  go_wp2_with fail
  refine (fillText_nil _ g (HT.out.row.cell 5)).mono ?_
  rintro e w' ⟨rfl, rfl⟩
  go_wp2_with fail
  refine (fillTensor_nil _ g (HT.out.row.cell 6)).mono ?_
  rintro e w' ⟨rfl, rfl⟩
  go_wp2_with fail
  refine (fillNode_nil _ g (HT.out.row.cell 7)).mono ?_
  rintro e w' ⟨rfl, rfl⟩
  go_wp2_with fail
  refine (fillStep_nil _ g (HT.out.row.cell 8)).mono ?_
  rintro e w' ⟨rfl, rfl⟩
  go_wp2_with fail
  refine (fillCost_nil _ g (HT.out.row.cell 9)).mono ?_
  rintro e w' ⟨rfl, rfl⟩
  go_wp2_with fail
  refine (fillRecord_nil _ g (HT.out.row.cell 10)).mono ?_
  rintro e w' ⟨rfl, rfl⟩
  go_wp2_with fail
  refine (fillPlace_nil _ g (HT.out.row.cell 11)).mono ?_
  rintro e w' ⟨rfl, rfl⟩
  go_wp2_with fail
  refine (fillAsk_nil _ g (HT.out.row.cell 12)).mono ?_
  rintro e w' ⟨rfl, rfl⟩
  go_wp2_with fail
  refine (fillDone_nil _ g (HT.out.row.cell 13)).mono ?_
  rintro e w' ⟨rfl, rfl⟩
  go_wp2_with fail
  refine (fillGrid_nil _ g (HT.out.row.cell 14)).mono ?_
  rintro e w' ⟨rfl, rfl⟩
  go_wp2_with fail
  refine (fillList_nil _ g (HT.out.row.cell 15)).mono ?_
  rintro e w' ⟨rfl, rfl⟩
  go_wp2_with fail
  refine (Calls.stepE HT.out (fun F hF => growByte_any _ g n vB vI vN vD B F hF HB.out.1 HB.out.2.1 HB.out.2.2)).mono ?_
  rintro e w5 ⟨rfl, lB, hlB, hT⟩
  have HT := Lib.hid (hT.perm ((permB4 _ _ _ _ _ _ _ _ _).trans (permI4 _ _ _ _ _ _ _ _ _).symm))
  have HlB := Lib.hid hlB
  clear hT hlB
  go_wp2_with fail
  refine (Calls.stepE HT.out (fun F hF => growInt_any _ g n vB vI vN vD I F hF HI.out.1 HI.out.2.1 HI.out.2.2)).mono ?_
  rintro e w6 ⟨rfl, lI, hlI, hT⟩
  have HT := Lib.hid (hT.perm ((permI4 _ _ _ _ _ _ _ _ _).trans (permN4 _ _ _ _ _ _ _ _ _).symm))
  have HlI := Lib.hid hlI
  clear hT hlI
  go_wp2_with fail
  refine (Calls.stepE HT.out (fun F hF => growNumber_any _ g n vB vI vN vD N F hF HN.out.1 HN.out.2.1 HN.out.2.2)).mono ?_
  rintro e w7 ⟨rfl, lN, hlN, hT⟩
  have HT := Lib.hid (hT.perm ((permN4 _ _ _ _ _ _ _ _ _).trans (permD4 _ _ _ _ _ _ _ _ _).symm))
  have HlN := Lib.hid hlN
  clear hT hlN
  go_wp2_with fail
  refine (Calls.stepE HT.out (fun F hF => growId_any _ g n vB vI vN vD D F hF HD.out.1 HD.out.2.1 HD.out.2.2)).mono ?_
  rintro e w8 ⟨rfl, lD, hlD, hT⟩
  have HT := Lib.hid (hT.perm ((permD4 _ _ _ _ _ _ _ _ _).trans (permB4 _ _ _ _ _ _ _ _ _).symm))
  have HlD := Lib.hid hlD
  clear hT hlD
  go_wp2_with fail
  refine (growText_nil _ g (HT.out.row.cell 5)).mono ?_
  rintro e w' ⟨rfl, rfl⟩
  go_wp2_with fail
  refine (growTensor_nil _ g (HT.out.row.cell 6)).mono ?_
  rintro e w' ⟨rfl, rfl⟩
  go_wp2_with fail
  refine (growNode_nil _ g (HT.out.row.cell 7)).mono ?_
  rintro e w' ⟨rfl, rfl⟩
  go_wp2_with fail
  refine (growStep_nil _ g (HT.out.row.cell 8)).mono ?_
  rintro e w' ⟨rfl, rfl⟩
  go_wp2_with fail
  refine (growCost_nil _ g (HT.out.row.cell 9)).mono ?_
  rintro e w' ⟨rfl, rfl⟩
  go_wp2_with fail
  refine (growRecord_nil _ g (HT.out.row.cell 10)).mono ?_
  rintro e w' ⟨rfl, rfl⟩
  go_wp2_with fail
  refine (growPlace_nil _ g (HT.out.row.cell 11)).mono ?_
  rintro e w' ⟨rfl, rfl⟩
  go_wp2_with fail
  refine (growAsk_nil _ g (HT.out.row.cell 12)).mono ?_
  rintro e w' ⟨rfl, rfl⟩
  go_wp2_with fail
  refine (growDone_nil _ g (HT.out.row.cell 13)).mono ?_
  rintro e w' ⟨rfl, rfl⟩
  go_wp2_with fail
  refine (growGrid_nil _ g (HT.out.row.cell 14)).mono ?_
  rintro e w' ⟨rfl, rfl⟩
  go_wp2_with fail
  refine (growList_nil _ g (HT.out.row.cell 15)).mono ?_
  rintro e w' ⟨rfl, rfl⟩
  go_wp2_with fail
  obtain ⟨FB, hFB⟩ := HT.out.al
  refine (lookByte_any _ g n vB vI vN vD B lB FB HlB.out hFB HB.out.1 HB.out.2.1 HB.out.2.2).mono ?_
  rintro e w9 ⟨rfl, t9⟩
  have HT := Lib.hid ((HT.out.no t9).perm ((permB4 _ _ _ _ _ _ _ _ _).trans (permI4 _ _ _ _ _ _ _ _ _).symm))
  clear t9 hFB
  go_wp2_with fail
  obtain ⟨FI, hFI⟩ := HT.out.al
  refine (lookInt_any _ g n vB vI vN vD I lI FI HlI.out hFI HI.out.1 HI.out.2.1 HI.out.2.2).mono ?_
  rintro e w10 ⟨rfl, t10⟩
  have HT := Lib.hid ((HT.out.no t10).perm ((permI4 _ _ _ _ _ _ _ _ _).trans (permN4 _ _ _ _ _ _ _ _ _).symm))
  clear t10 hFI
  go_wp2_with fail
  obtain ⟨FN, hFN⟩ := HT.out.al
  refine (lookNumber_any _ g n vB vI vN vD N lN FN HlN.out hFN HN.out.1 HN.out.2.1 HN.out.2.2).mono ?_
  rintro e w11 ⟨rfl, t11⟩
  have HT := Lib.hid ((HT.out.no t11).perm ((permN4 _ _ _ _ _ _ _ _ _).trans (permD4 _ _ _ _ _ _ _ _ _).symm))
  clear t11 hFN
  go_wp2_with fail
  obtain ⟨FD, hFD⟩ := HT.out.al
  refine (lookId_any _ g n vB vI vN vD D lD FD HlD.out hFD HD.out.1 HD.out.2.1 HD.out.2.2).mono ?_
  rintro e w12 ⟨rfl, t12⟩
  have HT := Lib.hid ((HT.out.no t12).perm ((permD4 _ _ _ _ _ _ _ _ _).trans (permB4 _ _ _ _ _ _ _ _ _).symm))
  clear t12 hFD
  go_wp2_with fail
  refine (lookText_nil _ g (HT.out.row.cell 5)).mono ?_
  rintro e w' ⟨rfl, rfl⟩
  go_wp2_with fail
  refine (lookTensor_nil _ g (HT.out.row.cell 6)).mono ?_
  rintro e w' ⟨rfl, rfl⟩
  go_wp2_with fail
  refine (lookNode_nil _ g (HT.out.row.cell 7)).mono ?_
  rintro e w' ⟨rfl, rfl⟩
  go_wp2_with fail
  refine (lookStep_nil _ g (HT.out.row.cell 8)).mono ?_
  rintro e w' ⟨rfl, rfl⟩
  go_wp2_with fail
  refine (lookCost_nil _ g (HT.out.row.cell 9)).mono ?_
  rintro e w' ⟨rfl, rfl⟩
  go_wp2_with fail
  refine (lookRecord_nil _ g (HT.out.row.cell 10)).mono ?_
  rintro e w' ⟨rfl, rfl⟩
  go_wp2_with fail
  refine (lookPlace_nil _ g (HT.out.row.cell 11)).mono ?_
  rintro e w' ⟨rfl, rfl⟩
  go_wp2_with fail
  refine (lookAsk_nil _ g (HT.out.row.cell 12)).mono ?_
  rintro e w' ⟨rfl, rfl⟩
  go_wp2_with fail
  refine (lookDone_nil _ g (HT.out.row.cell 13)).mono ?_
  rintro e w' ⟨rfl, rfl⟩
  go_wp2_with fail
  refine (lookGrid_nil _ g (HT.out.row.cell 14)).mono ?_
  rintro e w' ⟨rfl, rfl⟩
  go_wp2_with fail
  refine (lookList_nil _ g (HT.out.row.cell 15)).mono ?_
  rintro e w' ⟨rfl, rfl⟩
  go_wp2
  go_ret
  exact ⟨rfl, HT.out.1⟩
end Go.Proofs.YtnffigfafalocaaGreatDoor
