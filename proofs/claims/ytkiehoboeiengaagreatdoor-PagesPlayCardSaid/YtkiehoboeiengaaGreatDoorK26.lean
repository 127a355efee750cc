/-
  Package drydocklaw01 by its own text: Book.Apart.
-/
import Derived.Test.YtkiehoboeiengaaGreatDoorK20
import Derived.Test.YtkiehoboeiengaaGreatDoorK23
import Derived.Test.YtkiehoboeiengaaGreatDoorK24
import Derived.Test.YtkiehoboeiengaaGreatDoorK25
namespace Go.Proofs.YtkiehoboeiengaaGreatDoor
open Go Go.RowKit
set_option linter.unusedSimpArgs false
set_option linter.unusedVariables false

section
variable {α : Type} (r b n d : α) (X Y Z : List α)
theorem mid2 (T : List α) (x y : α) : (X ++ x :: y :: T).Perm (x :: y :: (X ++ T)) := List.perm_middle.trans (List.perm_middle.cons x)
theorem permB1 : ((r :: b :: X) ++ (n :: d :: (Y ++ Z))).Perm (r :: b :: n :: d :: (X ++ (Y ++ Z))) := ((mid2 X (Y ++ Z) n d).cons b).cons r
theorem permN1 : ((r :: n :: Y) ++ (b :: d :: (X ++ Z))).Perm (r :: b :: n :: d :: (X ++ (Y ++ Z))) :=
  ((((mid2 Y (X ++ Z) b d).trans (((List.perm_append_comm_assoc Y X Z).cons d).cons b)).cons n).trans (List.Perm.swap b n _)).cons r
theorem permD1 : ((r :: d :: Z) ++ (b :: n :: (X ++ Y))).Perm (r :: b :: n :: d :: (X ++ (Y ++ Z))) := by
  have h : (Z ++ (X ++ Y)).Perm (X ++ (Y ++ Z)) := by rw [← List.append_assoc X Y Z]; exact List.perm_append_comm
  exact ((((mid2 Z (X ++ Y) b n).trans ((h.cons n).cons b)).cons d).trans ((List.Perm.swap b d _).trans ((List.Perm.swap n d _).cons b))).cons r
end
theorem Calls.step {P : Program} {f : FuncId} {args : Array Value} {w w1 : World} {A : Nat → Prop} {l l' m : List Part} {v : Ending} (h : TurnsL w A (l ++ m) w1) (C : ∀ F, Al w1 l F → (∀ k, F k → k < w1.heap.size) → Calls P f args w1 fun e w' => e = v ∧ TurnsL w1 F l' w') :
    Calls P f args w1 fun e w' => e = v ∧ TurnsL w A (l' ++ m) w' := by
  obtain ⟨t, O, hO, hin⟩ := h
  obtain ⟨F, hF, hFO, hf⟩ := hO.frame
  exact (C _ hF.cut (fun k hk => hk.2)).mono fun e w' ⟨he, tt, O', h1, h2⟩ => ⟨he, TurnsL.comp t hin (hf w' l' ⟨tt.mono (fun k _ hk => hk.1), O', h1, fun k hk => (h2 k hk).imp (fun h => h.1) id⟩)⟩
theorem Calls.stepE {P : Program} {f : FuncId} {args : Array Value} {w w1 : World} {A : Nat → Prop} {l m : List Part} {l' : List Value → List Part} {q : Nat} {v : Ending} (h : TurnsL w A (l ++ m) w1) (C : ∀ F, Al w1 l F → Calls P f args w1 fun e w' => e = v ∧ ∃ ls : List Value, ls.length = q ∧ TurnsL w1 F (l' ls) w') :
    Calls P f args w1 fun e w' => e = v ∧ ∃ ls : List Value, ls.length = q ∧ TurnsL w A (l' ls ++ m) w' := by
  obtain ⟨t, O, hO, hin⟩ := h
  obtain ⟨F, hF, hFO, hf⟩ := hO.frame
  exact (C F hF).mono fun e w' ⟨he, ls, hl, ht⟩ => ⟨he, ls, hl, TurnsL.comp t hin (hf w' _ ht)⟩
theorem TurnsL.row {w w1 : World} {A : Nat → Prop} {g : Nat} {T : TypeId} {cs : List Value} {m : List Part} (h : TurnsL w A (Part.row g T cs :: m) w1) : Row w1 g T cs := by
  obtain ⟨_, O, ⟨R, _, hR, _⟩, _⟩ := h
  exact hR.1
theorem TurnsL.al {w w1 : World} {A : Nat → Prop} {l m : List Part} (h : TurnsL w A (l ++ m) w1) : ∃ O, Al w1 l O := by
  obtain ⟨_, O, hO, _⟩ := h
  obtain ⟨F, hF, _⟩ := hO.frame
  exact ⟨F, hF⟩
def BkOk (B : List HE) : Prop := B.length ≤ 100000 ∧ (∀ e ∈ B, e.k ≤ 1000000) ∧ ∀ e ∈ B, e.n ≤ 10000000
def BkOkB (B : List HE) : Prop := B.length ≤ 100000 ∧ (∀ e ∈ B, e.k ≤ 1000000) ∧ ∀ e ∈ B, e.n ≤ 140737488351232
set_option maxRecDepth 100000 in
set_option maxHeartbeats 16000000 in
theorem apart_any (w : World) (g n : Nat) (B N D : List HE) (A : Nat → Prop) (h : (Part.book g n B [] N D).P w A) (hB : BkOkB B) (hN : BkOk N) (hD : BkOk D) :
    Calls Tryz.prog 16 #[.pointer (some ⟨g, 0, none⟩)] w fun e w' => e = .returned (.bool true) ∧ Touch A w w' := by
  obtain ⟨⟨vB, vI, vN, vD, hI, ha⟩, hlt⟩ := h
  obtain rfl := hI rfl
  have HB := Lib.hid hB
  have HN := Lib.hid hN
  have HD := Lib.hid hD
  have hT0 : TurnsL w A (Part.row g 47 (bookCells n vB nilSl vN vD) :: Part.arr 197 vB B.length (heNew B) :: Part.arr 202 vN N.length (heNew N) :: Part.arr 205 vD D.length (heNew D) :: (B.map (Part.room 5) ++ (N.map (Part.room 21) ++ D.map (Part.room 48)))) w := by
    have h1 := ha.perm ((((List.Perm.swap _ _ _).cons _)).trans (List.Perm.swap _ _ _))
    exact TurnsL.same h1.tail
  have HT := Lib.hid (hT0.perm (permB1 _ _ _ _ _ _ _).symm)
  clear ha hI hlt hB hN hD hT0
  go_enter Tryz.func16, Tryz.ntmps16
  go_wp2_with fail
  refine (Calls.step HT.out (fun F hF hF2 => fillByte_any _ g n vB nilSl vN vD B F hF hF2 HB.out.1 HB.out.2.1)).mono ?_
  rintro e w1 ⟨rfl, hT⟩
  have HT := Lib.hid (hT.perm ((permB1 _ _ _ _ _ _ _).trans (permN1 _ _ _ _ _ _ _).symm))
  clear hT
  go_wp2_with fail
  refine (fillInt_nil _ g (HT.out.row.cell 2)).mono ?_
  rintro e w' ⟨rfl, rfl⟩
  go_wp2_with fail
  refine (Calls.step HT.out (fun F hF hF2 => fillNumber_any _ g n vB nilSl vN vD N F hF hF2 HN.out.1 HN.out.2.1)).mono ?_
  rintro e w2 ⟨rfl, hT⟩
  have HT := Lib.hid (hT.perm ((permN1 _ _ _ _ _ _ _).trans (permD1 _ _ _ _ _ _ _).symm))
  clear hT
  go_wp2_with fail
  refine (Calls.step HT.out (fun F hF hF2 => fillId_any _ g n vB nilSl vN vD D F hF hF2 HD.out.1 HD.out.2.1)).mono ?_
  rintro e w3 ⟨rfl, hT⟩
  have HT := Lib.hid (hT.perm ((permD1 _ _ _ _ _ _ _).trans (permB1 _ _ _ _ _ _ _).symm))
  clear hT
  go_wp2_with fail
  refine (fillText_nil _ g (HT.out.row.cell 5)).mono ?_
  rintro e w' ⟨rfl, rfl⟩
  go_wp2_with fail
  refine (fillTensor_nil _ g (HT.out.row.cell 6)).mono ?_
  rintro e w' ⟨rfl, rfl⟩
  go_wp2_with fail
  refine (fillNode_nil _ g (HT.out.row.cell 7)).mono ?_
  rintro e w' ⟨rfl, rfl⟩
  go_wp2_with fail
  refine (fillStep_nil _ g (HT.out.row.cell 8)).mono ?_
  rintro e w' ⟨rfl, rfl⟩
  go_wp2_with fail
  refine (fillCost_nil _ g (HT.out.row.cell 9)).mono ?_
  rintro e w' ⟨rfl, rfl⟩
  go_wp2_with fail
  refine (fillRecord_nil _ g (HT.out.row.cell 10)).mono ?_
  rintro e w' ⟨rfl, rfl⟩
  go_wp2_with fail
  refine (fillPlace_nil _ g (HT.out.row.cell 11)).mono ?_
  rintro e w' ⟨rfl, rfl⟩
  go_wp2_with fail
  refine (fillAsk_nil _ g (HT.out.row.cell 12)).mono ?_
  rintro e w' ⟨rfl, rfl⟩
  go_wp2_with fail
  refine (fillDone_nil _ g (HT.out.row.cell 13)).mono ?_
  rintro e w' ⟨rfl, rfl⟩
  go_wp2_with fail
  refine (fillGrid_nil _ g (HT.out.row.cell 14)).mono ?_
  rintro e w' ⟨rfl, rfl⟩
  go_wp2_with fail
  refine (fillList_nil _ g (HT.out.row.cell 15)).mono ?_
  rintro e w' ⟨rfl, rfl⟩
  go_wp2_with fail
  refine (Calls.stepE HT.out (fun F hF => growByte_any _ g n vB nilSl vN vD B F hF HB.out.1 HB.out.2.1 HB.out.2.2)).mono ?_
  rintro e w4 ⟨rfl, lB, hlB, hT⟩
  have HT := Lib.hid (hT.perm ((permB1 _ _ _ _ _ _ _).trans (permN1 _ _ _ _ _ _ _).symm))
  have HlB := Lib.hid hlB
  clear hT hlB
  go_wp2_with fail
  refine (growInt_nil _ g (HT.out.row.cell 2)).mono ?_
  rintro e w' ⟨rfl, rfl⟩
  go_wp2_with fail
  refine (Calls.stepE HT.out (fun F hF => growNumber_any _ g n vB nilSl vN vD N F hF HN.out.1 HN.out.2.1 HN.out.2.2)).mono ?_
  rintro e w5 ⟨rfl, lN, hlN, hT⟩
  have HT := Lib.hid (hT.perm ((permN1 _ _ _ _ _ _ _).trans (permD1 _ _ _ _ _ _ _).symm))
  have HlN := Lib.hid hlN
  clear hT hlN
  go_wp2_with fail
  refine (Calls.stepE HT.out (fun F hF => growId_any _ g n vB nilSl vN vD D F hF HD.out.1 HD.out.2.1 HD.out.2.2)).mono ?_
  rintro e w6 ⟨rfl, lD, hlD, hT⟩
  have HT := Lib.hid (hT.perm ((permD1 _ _ _ _ _ _ _).trans (permB1 _ _ _ _ _ _ _).symm))
  have HlD := Lib.hid hlD
  clear hT hlD
  go_wp2_with fail
  refine (growText_nil _ g (HT.out.row.cell 5)).mono ?_
  rintro e w' ⟨rfl, rfl⟩
  go_wp2_with fail
  refine (growTensor_nil _ g (HT.out.row.cell 6)).mono ?_
  rintro e w' ⟨rfl, rfl⟩
  go_wp2_with fail
  refine (growNode_nil _ g (HT.out.row.cell 7)).mono ?_
  rintro e w' ⟨rfl, rfl⟩
  go_wp2_with fail
  refine (growStep_nil _ g (HT.out.row.cell 8)).mono ?_
  rintro e w' ⟨rfl, rfl⟩
  go_wp2_with fail
  refine (growCost_nil _ g (HT.out.row.cell 9)).mono ?_
  rintro e w' ⟨rfl, rfl⟩
  go_wp2_with fail
  refine (growRecord_nil _ g (HT.out.row.cell 10)).mono ?_
  rintro e w' ⟨rfl, rfl⟩
  go_wp2_with fail
  refine (growPlace_nil _ g (HT.out.row.cell 11)).mono ?_
  rintro e w' ⟨rfl, rfl⟩
  go_wp2_with fail
  refine (growAsk_nil _ g (HT.out.row.cell 12)).mono ?_
  rintro e w' ⟨rfl, rfl⟩
  go_wp2_with fail
  refine (growDone_nil _ g (HT.out.row.cell 13)).mono ?_
  rintro e w' ⟨rfl, rfl⟩
  go_wp2_with fail
  refine (growGrid_nil _ g (HT.out.row.cell 14)).mono ?_
  rintro e w' ⟨rfl, rfl⟩
  go_wp2_with fail
  refine (growList_nil _ g (HT.out.row.cell 15)).mono ?_
  rintro e w' ⟨rfl, rfl⟩
  go_wp2_with fail
  obtain ⟨FB, hFB⟩ := HT.out.al
  refine (lookByte_any _ g n vB nilSl vN vD B lB FB HlB.out hFB HB.out.1 HB.out.2.1 HB.out.2.2).mono ?_
  rintro e w7 ⟨rfl, t7⟩
  have HT := Lib.hid ((HT.out.no t7).perm ((permB1 _ _ _ _ _ _ _).trans (permN1 _ _ _ _ _ _ _).symm))
  clear t7 hFB
  go_wp2_with fail
  refine (lookInt_nil _ g (HT.out.row.cell 2)).mono ?_
  rintro e w' ⟨rfl, rfl⟩
  go_wp2_with fail
  obtain ⟨FN, hFN⟩ := HT.out.al
  refine (lookNumber_any _ g n vB nilSl vN vD N lN FN HlN.out hFN HN.out.1 HN.out.2.1 HN.out.2.2).mono ?_
  rintro e w8 ⟨rfl, t8⟩
  have HT := Lib.hid ((HT.out.no t8).perm ((permN1 _ _ _ _ _ _ _).trans (permD1 _ _ _ _ _ _ _).symm))
  clear t8 hFN
  go_wp2_with fail
  obtain ⟨FD, hFD⟩ := HT.out.al
  refine (lookId_any _ g n vB nilSl vN vD D lD FD HlD.out hFD HD.out.1 HD.out.2.1 HD.out.2.2).mono ?_
  rintro e w9 ⟨rfl, t9⟩
  have HT := Lib.hid ((HT.out.no t9).perm ((permD1 _ _ _ _ _ _ _).trans (permB1 _ _ _ _ _ _ _).symm))
  clear t9 hFD
  go_wp2_with fail
  refine (lookText_nil _ g (HT.out.row.cell 5)).mono ?_
  rintro e w' ⟨rfl, rfl⟩
  go_wp2_with fail
  refine (lookTensor_nil _ g (HT.out.row.cell 6)).mono ?_
  rintro e w' ⟨rfl, rfl⟩
  go_wp2_with fail
  refine (lookNode_nil _ g (HT.out.row.cell 7)).mono ?_
  rintro e w' ⟨rfl, rfl⟩
  go_wp2_with fail
  refine (lookStep_nil _ g (HT.out.row.cell 8)).mono ?_
  rintro e w' ⟨rfl, rfl⟩
  go_wp2_with fail
  refine (lookCost_nil _ g (HT.out.row.cell 9)).mono ?_
  rintro e w' ⟨rfl, rfl⟩
  go_wp2_with fail
  refine (lookRecord_nil _ g (HT.out.row.cell 10)).mono ?_
  rintro e w' ⟨rfl, rfl⟩
  go_wp2_with fail
  refine (lookPlace_nil _ g (HT.out.row.cell 11)).mono ?_
  rintro e w' ⟨rfl, rfl⟩
  go_wp2_with fail
  refine (lookAsk_nil _ g (HT.out.row.cell 12)).mono ?_
  rintro e w' ⟨rfl, rfl⟩
  go_wp2_with fail
  refine (lookDone_nil _ g (HT.out.row.cell 13)).mono ?_
  rintro e w' ⟨rfl, rfl⟩
  go_wp2_with fail
  refine (lookGrid_nil _ g (HT.out.row.cell 14)).mono ?_
  rintro e w' ⟨rfl, rfl⟩
  go_wp2_with fail
  refine (lookList_nil _ g (HT.out.row.cell 15)).mono ?_
  rintro e w' ⟨rfl, rfl⟩
  go_wp2
  go_ret
  exact ⟨rfl, HT.out.1⟩
end Go.Proofs.YtkiehoboeiengaaGreatDoor
