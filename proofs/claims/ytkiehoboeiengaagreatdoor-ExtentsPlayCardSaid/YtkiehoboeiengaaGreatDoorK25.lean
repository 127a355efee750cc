/-
  Package drydocklaw01 by its own text: Book.Apart.
  What the laws with a book share: parts read, parts told to the book, the end.
  Package disks by its own text: Read, what is read as a part; a disk as a part beside others; what a book's laws make of both disks.
-/
import Derived.Test.YtkiehoboeiengaaGreatDoorK20
import Derived.Test.YtkiehoboeiengaaGreatDoorK22
import Derived.Test.YtkiehoboeiengaaGreatDoorK23
import Derived.Test.YtkiehoboeiengaaGreatDoorK24
import Derived.Test.YtkiehoboeiengaaGreatDoorK13
import Derived.Test.YtkiehoboeiengaaGreatDoorK14
import Derived.Test.YtkiehoboeiengaaGreatDoorK10
namespace Go.Proofs.YtkiehoboeiengaaGreatDoor
open Go Go.RowKit
set_option linter.unusedSimpArgs false
set_option linter.unusedVariables false

section
variable {α : Type} (r b n d : α) (X Y Z : List α)
theorem mid2 (T : List α) (x y : α) : (X ++ x :: y :: T).Perm (x :: y :: (X ++ T)) := List.perm_middle.trans (List.perm_middle.cons x)
theorem permB1 : ((r :: b :: X) ++ (n :: d :: (Y ++ Z))).Perm (r :: b :: n :: d :: (X ++ (Y ++ Z))) := ((mid2 X (Y ++ Z) n d).cons b).cons r
theorem permN1 : ((r :: n :: Y) ++ (b :: d :: (X ++ Z))).Perm (r :: b :: n :: d :: (X ++ (Y ++ Z))) :=
  ((((mid2 Y (X ++ Z) b d).trans (((List.perm_append_comm_assoc Y X Z).cons d).cons b)).cons n).trans (List.Perm.swap b n _)).cons r
theorem permD1 : ((r :: d :: Z) ++ (b :: n :: (X ++ Y))).Perm (r :: b :: n :: d :: (X ++ (Y ++ Z))) := by
  have h : (Z ++ (X ++ Y)).Perm (X ++ (Y ++ Z)) := by rw [← List.append_assoc X Y Z]; exact List.perm_append_comm
  exact ((((mid2 Z (X ++ Y) b n).trans ((h.cons n).cons b)).cons d).trans ((List.Perm.swap b d _).trans ((List.Perm.swap n d _).cons b))).cons r
end
theorem Calls.step {P : Program} {f : FuncId} {args : Array Value} {w w1 : World} {A : Nat → Prop} {l l' m : List Part} {v : Ending} (h : TurnsL w A (l ++ m) w1) (C : ∀ F, Al w1 l F → (∀ k, F k → k < w1.heap.size) → Calls P f args w1 fun e w' => e = v ∧ TurnsL w1 F l' w') :
    Calls P f args w1 fun e w' => e = v ∧ TurnsL w A (l' ++ m) w' := by
  obtain ⟨t, O, hO, hin⟩ := h
  obtain ⟨F, hF, hFO, hf⟩ := hO.frame
  exact (C _ hF.cut (fun k hk => hk.2)).mono fun e w' ⟨he, tt, O', h1, h2⟩ => ⟨he, TurnsL.comp t hin (hf w' l' ⟨tt.mono (fun k _ hk => hk.1), O', h1, fun k hk => (h2 k hk).imp (fun h => h.1) id⟩)⟩
theorem Calls.stepE {P : Program} {f : FuncId} {args : Array Value} {w w1 : World} {A : Nat → Prop} {l m : List Part} {l' : List Value → List Part} {q : Nat} {v : Ending} (h : TurnsL w A (l ++ m) w1) (C : ∀ F, Al w1 l F → Calls P f args w1 fun e w' => e = v ∧ ∃ ls : List Value, ls.length = q ∧ TurnsL w1 F (l' ls) w') :
    Calls P f args w1 fun e w' => e = v ∧ ∃ ls : List Value, ls.length = q ∧ TurnsL w A (l' ls ++ m) w' := by
  obtain ⟨t, O, hO, hin⟩ := h
  obtain ⟨F, hF, hFO, hf⟩ := hO.frame
  exact (C F hF).mono fun e w' ⟨he, ls, hl, ht⟩ => ⟨he, ls, hl, TurnsL.comp t hin (hf w' _ ht)⟩
theorem TurnsL.row {w w1 : World} {A : Nat → Prop} {g : Nat} {T : TypeId} {cs : List Value} {m : List Part} (h : TurnsL w A (Part.row g T cs :: m) w1) : Row w1 g T cs := by
  obtain ⟨_, O, ⟨R, _, hR, _⟩, _⟩ := h
  exact hR.1
theorem TurnsL.al {w w1 : World} {A : Nat → Prop} {l m : List Part} (h : TurnsL w A (l ++ m) w1) : ∃ O, Al w1 l O := by
  obtain ⟨_, O, hO, _⟩ := h
  obtain ⟨F, hF, _⟩ := hO.frame
  exact ⟨F, hF⟩
def BkOk (B : List HE) : Prop := B.length ≤ 100000 ∧ (∀ e ∈ B, e.k ≤ 1000000) ∧ ∀ e ∈ B, e.n ≤ 10000000
def BkOkB (B : List HE) : Prop := B.length ≤ 100000 ∧ (∀ e ∈ B, e.k ≤ 1000000) ∧ ∀ e ∈ B, e.n ≤ 140737488351232
set_option maxRecDepth 100000 in
set_option maxHeartbeats 16000000 in
theorem apart_any (w : World) (g n : Nat) (B N D : List HE) (A : Nat → Prop) (h : (Part.book g n B [] N D).P w A) (hB : BkOkB B) (hN : BkOk N) (hD : BkOk D) :
    Calls Tryz.prog 16 #[.pointer (some ⟨g, 0, none⟩)] w fun e w' => e = .returned (.bool true) ∧ Touch A w w' := by
  obtain ⟨⟨vB, vI, vN, vD, hI, ha⟩, hlt⟩ := h
  obtain rfl := hI rfl
  have HB := Lib.hid hB
  have HN := Lib.hid hN
  have HD := Lib.hid hD
  have hT0 : TurnsL w A (Part.row g 47 (bookCells n vB nilSl vN vD) :: Part.arr 197 vB B.length (heNew B) :: Part.arr 202 vN N.length (heNew N) :: Part.arr 205 vD D.length (heNew D) :: (B.map (Part.room 5) ++ (N.map (Part.room 21) ++ D.map (Part.room 48)))) w := by
    have h1 := ha.perm ((((List.Perm.swap _ _ _).cons _)).trans (List.Perm.swap _ _ _))
    exact TurnsL.same h1.tail
  have HT := Lib.hid (hT0.perm (permB1 _ _ _ _ _ _ _).symm)
  clear ha hI hlt hB hN hD hT0
  go_enter Tryz.func16, Tryz.ntmps16
  go_wp2_with fail
  refine (Calls.step HT.out (fun F hF hF2 => fillByte_any _ g n vB nilSl vN vD B F hF hF2 HB.out.1 HB.out.2.1)).mono ?_
  rintro e w1 ⟨rfl, hT⟩
  have HT := Lib.hid (hT.perm ((permB1 _ _ _ _ _ _ _).trans (permN1 _ _ _ _ _ _ _).symm))
  clear hT
  go_wp2_with fail
  refine (fillInt_nil _ g (HT.out.row.cell 2)).mono ?_
  rintro e w' ⟨rfl, rfl⟩
  go_wp2_with fail
  refine (Calls.step HT.out (fun F hF hF2 => fillNumber_any _ g n vB nilSl vN vD N F hF hF2 HN.out.1 HN.out.2.1)).mono ?_
  rintro e w2 ⟨rfl, hT⟩
  have HT := Lib.hid (hT.perm ((permN1 _ _ _ _ _ _ _).trans (permD1 _ _ _ _ _ _ _).symm))
  clear hT
  go_wp2_with fail
  refine (Calls.step HT.out (fun F hF hF2 => fillId_any _ g n vB nilSl vN vD D F hF hF2 HD.out.1 HD.out.2.1)).mono ?_
  rintro e w3 ⟨rfl, hT⟩
  have HT := Lib.hid (hT.perm ((permD1 _ _ _ _ _ _ _).trans (permB1 _ _ _ _ _ _ _).symm))
  clear hT
  go_wp2_with fail
  refine (fillText_nil _ g (HT.out.row.cell 5)).mono ?_
  rintro e w' ⟨rfl, rfl⟩
  go_wp2_with fail
  refine (fillTensor_nil _ g (HT.out.row.cell 6)).mono ?_
  rintro e w' ⟨rfl, rfl⟩
  go_wp2_with fail
  refine (fillNode_nil _ g (HT.out.row.cell 7)).mono ?_
  rintro e w' ⟨rfl, rfl⟩
  go_wp2_with fail
  refine (fillStep_nil _ g (HT.out.row.cell 8)).mono ?_
  rintro e w' ⟨rfl, rfl⟩
  go_wp2_with fail
  refine (fillCost_nil _ g (HT.out.row.cell 9)).mono ?_
  rintro e w' ⟨rfl, rfl⟩
  go_wp2_with fail
  refine (fillRecord_nil _ g (HT.out.row.cell 10)).mono ?_
  rintro e w' ⟨rfl, rfl⟩
  go_wp2_with fail
  refine (fillPlace_nil _ g (HT.out.row.cell 11)).mono ?_
  rintro e w' ⟨rfl, rfl⟩
  go_wp2_with fail
  refine (fillAsk_nil _ g (HT.out.row.cell 12)).mono ?_
  rintro e w' ⟨rfl, rfl⟩
  go_wp2_with fail
  refine (fillDone_nil _ g (HT.out.row.cell 13)).mono ?_
  rintro e w' ⟨rfl, rfl⟩
  go_wp2_with fail
  refine (fillGrid_nil _ g (HT.out.row.cell 14)).mono ?_
  rintro e w' ⟨rfl, rfl⟩
  go_wp2_with fail
  refine (fillList_nil _ g (HT.out.row.cell 15)).mono ?_
  rintro e w' ⟨rfl, rfl⟩
  go_wp2_with fail
  refine (Calls.stepE HT.out (fun F hF => growByte_any _ g n vB nilSl vN vD B F hF HB.out.1 HB.out.2.1 HB.out.2.2)).mono ?_
  rintro e w4 ⟨rfl, lB, hlB, hT⟩
  have HT := Lib.hid (hT.perm ((permB1 _ _ _ _ _ _ _).trans (permN1 _ _ _ _ _ _ _).symm))
  have HlB := Lib.hid hlB
  clear hT hlB
  go_wp2_with fail
  refine (growInt_nil _ g (HT.out.row.cell 2)).mono ?_
  rintro e w' ⟨rfl, rfl⟩
  go_wp2_with fail
  refine (Calls.stepE HT.out (fun F hF => growNumber_any _ g n vB nilSl vN vD N F hF HN.out.1 HN.out.2.1 HN.out.2.2)).mono ?_
  rintro e w5 ⟨rfl, lN, hlN, hT⟩
  have HT := Lib.hid (hT.perm ((permN1 _ _ _ _ _ _ _).trans (permD1 _ _ _ _ _ _ _).symm))
  have HlN := Lib.hid hlN
  clear hT hlN
  go_wp2_with fail
  refine (Calls.stepE HT.out (fun F hF => growId_any _ g n vB nilSl vN vD D F hF HD.out.1 HD.out.2.1 HD.out.2.2)).mono ?_
  rintro e w6 ⟨rfl, lD, hlD, hT⟩
  have HT := Lib.hid (hT.perm ((permD1 _ _ _ _ _ _ _).trans (permB1 _ _ _ _ _ _ _).symm))
  have HlD := Lib.hid hlD
  clear hT hlD
  go_wp2_with fail
  refine (growText_nil _ g (HT.out.row.cell 5)).mono ?_
  rintro e w' ⟨rfl, rfl⟩
  go_wp2_with fail
  refine (growTensor_nil _ g (HT.out.row.cell 6)).mono ?_
  rintro e w' ⟨rfl, rfl⟩
  go_wp2_with fail
  refine (growNode_nil _ g (HT.out.row.cell 7)).mono ?_
  rintro e w' ⟨rfl, rfl⟩
  go_wp2_with fail
  refine (growStep_nil _ g (HT.out.row.cell 8)).mono ?_
  rintro e w' ⟨rfl, rfl⟩
  go_wp2_with fail
  refine (growCost_nil _ g (HT.out.row.cell 9)).mono ?_
  rintro e w' ⟨rfl, rfl⟩
  go_wp2_with fail
  refine (growRecord_nil _ g (HT.out.row.cell 10)).mono ?_
  rintro e w' ⟨rfl, rfl⟩
  go_wp2_with fail
  refine (growPlace_nil _ g (HT.out.row.cell 11)).mono ?_
  rintro e w' ⟨rfl, rfl⟩
  go_wp2_with fail
  refine (growAsk_nil _ g (HT.out.row.cell 12)).mono ?_
  rintro e w' ⟨rfl, rfl⟩
  go_wp2_with fail
  refine (growDone_nil _ g (HT.out.row.cell 13)).mono ?_
  rintro e w' ⟨rfl, rfl⟩
  go_wp2_with fail
  refine (growGrid_nil _ g (HT.out.row.cell 14)).mono ?_
  rintro e w' ⟨rfl, rfl⟩
  go_wp2_with fail
  refine (growList_nil _ g (HT.out.row.cell 15)).mono ?_
  rintro e w' ⟨rfl, rfl⟩
  go_wp2_with fail
  obtain ⟨FB, hFB⟩ := HT.out.al
  refine (lookByte_any _ g n vB nilSl vN vD B lB FB HlB.out hFB HB.out.1 HB.out.2.1 HB.out.2.2).mono ?_
  rintro e w7 ⟨rfl, t7⟩
  have HT := Lib.hid ((HT.out.no t7).perm ((permB1 _ _ _ _ _ _ _).trans (permN1 _ _ _ _ _ _ _).symm))
  clear t7 hFB
  go_wp2_with fail
  refine (lookInt_nil _ g (HT.out.row.cell 2)).mono ?_
  rintro e w' ⟨rfl, rfl⟩
  go_wp2_with fail
  obtain ⟨FN, hFN⟩ := HT.out.al
  refine (lookNumber_any _ g n vB nilSl vN vD N lN FN HlN.out hFN HN.out.1 HN.out.2.1 HN.out.2.2).mono ?_
  rintro e w8 ⟨rfl, t8⟩
  have HT := Lib.hid ((HT.out.no t8).perm ((permN1 _ _ _ _ _ _ _).trans (permD1 _ _ _ _ _ _ _).symm))
  clear t8 hFN
  go_wp2_with fail
  obtain ⟨FD, hFD⟩ := HT.out.al
  refine (lookId_any _ g n vB nilSl vN vD D lD FD HlD.out hFD HD.out.1 HD.out.2.1 HD.out.2.2).mono ?_
  rintro e w9 ⟨rfl, t9⟩
  have HT := Lib.hid ((HT.out.no t9).perm ((permD1 _ _ _ _ _ _ _).trans (permB1 _ _ _ _ _ _ _).symm))
  clear t9 hFD
  go_wp2_with fail
  refine (lookText_nil _ g (HT.out.row.cell 5)).mono ?_
  rintro e w' ⟨rfl, rfl⟩
  go_wp2_with fail
  refine (lookTensor_nil _ g (HT.out.row.cell 6)).mono ?_
  rintro e w' ⟨rfl, rfl⟩
  go_wp2_with fail
  refine (lookNode_nil _ g (HT.out.row.cell 7)).mono ?_
  rintro e w' ⟨rfl, rfl⟩
  go_wp2_with fail
  refine (lookStep_nil _ g (HT.out.row.cell 8)).mono ?_
  rintro e w' ⟨rfl, rfl⟩
  go_wp2_with fail
  refine (lookCost_nil _ g (HT.out.row.cell 9)).mono ?_
  rintro e w' ⟨rfl, rfl⟩
  go_wp2_with fail
  refine (lookRecord_nil _ g (HT.out.row.cell 10)).mono ?_
  rintro e w' ⟨rfl, rfl⟩
  go_wp2_with fail
  refine (lookPlace_nil _ g (HT.out.row.cell 11)).mono ?_
  rintro e w' ⟨rfl, rfl⟩
  go_wp2_with fail
  refine (lookAsk_nil _ g (HT.out.row.cell 12)).mono ?_
  rintro e w' ⟨rfl, rfl⟩
  go_wp2_with fail
  refine (lookDone_nil _ g (HT.out.row.cell 13)).mono ?_
  rintro e w' ⟨rfl, rfl⟩
  go_wp2_with fail
  refine (lookGrid_nil _ g (HT.out.row.cell 14)).mono ?_
  rintro e w' ⟨rfl, rfl⟩
  go_wp2_with fail
  refine (lookList_nil _ g (HT.out.row.cell 15)).mono ?_
  rintro e w' ⟨rfl, rfl⟩
  go_wp2
  go_ret
  exact ⟨rfl, HT.out.1⟩
end Go.Proofs.YtkiehoboeiengaaGreatDoor
namespace Go.Proofs.YtkiehoboeiengaaGreatDoor
open Go Go.RowKit
set_option linter.unusedVariables false

theorem nums_ints (k : IntKind) (b : List Nat) : ints k (b.map fun (x : Nat) => (x : Int)) = nums k b := by
  simp [ints, nums, List.map_map, Function.comp]
theorem Sl.rd {w0 w : World} {l : List Part} (h : Sl w0 w l) {T : TypeId} {a : Option Addr} {n c : Nat} {vs : List Value} (hp : Part.sl T a n c vs ∈ l) : Rd w a vs := by
  obtain ⟨A, ha, _⟩ := h.mem hp
  exact sl_rd ha
theorem Sl.step {P : Program} {f : FuncId} {args : Array Value} {w0 w1 : World} {l l' m : List Part} {v : Ending} (h : Sl w0 w1 (l ++ m)) (C : ∀ F, Al w1 l F → Calls P f args w1 fun e w' => e = v ∧ TurnsL w1 F l' w') :
    Calls P f args w1 fun e w' => e = v ∧ Sl w0 w' (l' ++ m) := by
  obtain ⟨F, hF, _, hf⟩ := h.frame
  exact (C F hF).mono fun e w' ⟨he, ht⟩ => ⟨he, hf w' l' ht⟩
/-- a part that says less -/
theorem Sl.imp1 {w0 w : World} {p q : Part} {l : List Part} (h : Sl w0 w (p :: l)) (hp : ∀ A, p.P w A → q.P w A) : Sl w0 w (q :: l) := by
  obtain ⟨O, h1, h2, t⟩ := h
  exact ⟨O, h1.imp1 hp, h2, t⟩
theorem Sl.imp2 {w0 w : World} {r p q : Part} {l : List Part} (h : Sl w0 w (r :: p :: l)) (hp : ∀ A, p.P w A → q.P w A) : Sl w0 w (r :: q :: l) :=
  ((h.perm (List.Perm.swap _ _ _)).imp1 hp).perm (List.Perm.swap _ _ _)
/-- a twin: what is told to the book is without the mark -/
theorem sl_twin {w : World} {T : TypeId} {a : Option Addr} {n c : Nat} {vs : List Value} {v : Value} {A : Nat → Prop} (h : (Part.sl T a (n + 1) c (vs ++ [v])).P w A) : (Part.sl T a n c vs).P w A := by
  have h1 := sl_cut h (Nat.le_succ n)
  have hl := (sl_len h).1
  have : (vs ++ [v]).take n = vs := by
    rw [List.length_append] at hl
    have h2 : vs.length = n := by simpa using hl
    rw [← h2, List.take_left]
  rw [this] at h1
  exact h1
theorem Sl.bytes {w0 w : World} {g n : Nat} {B I N D : List HE} {a : Option Addr} {len cap : Nat} {vs : List Value} {m : List Part} (h : Sl w0 w (Part.book g n B I N D :: Part.sl 5 a len cap vs :: m)) (hm : B.length ≤ 100000) (hn : n ≤ 1000000) :
    Calls Tryz.prog 15 #[.pointer (some ⟨g, 0, none⟩), .slice a len cap] w fun e w' => e = .returned (.tuple #[]) ∧ Sl w0 w' (Part.book g (n + 1) (B ++ [⟨a, len, cap, n + 1⟩]) I N D :: m) :=
  Sl.step (l := [_, _]) h (fun F hF => book_bytes w g n B I N D a len cap vs F hF hm hn)
theorem Sl.numbers {w0 w : World} {g n : Nat} {B I N D : List HE} {a : Option Addr} {len cap : Nat} {vs : List Value} {m : List Part} (h : Sl w0 w (Part.book g n B I N D :: Part.sl 21 a len cap vs :: m)) (hm : N.length ≤ 100000) (hn : n ≤ 1000000) :
    Calls Tryz.prog 136 #[.pointer (some ⟨g, 0, none⟩), .slice a len cap] w fun e w' => e = .returned (.tuple #[]) ∧ Sl w0 w' (Part.book g (n + 1) B I (N ++ [⟨a, len, cap, n + 1⟩]) D :: m) :=
  Sl.step (l := [_, _]) h (fun F hF => book_numbers w g n B I N D a len cap vs F hF hm hn)
theorem Sl.ids {w0 w : World} {g n : Nat} {B I N D : List HE} {a : Option Addr} {len cap : Nat} {vs : List Value} {m : List Part} (h : Sl w0 w (Part.book g n B I N D :: Part.sl 48 a len cap vs :: m)) (hm : D.length ≤ 100000) (hn : n ≤ 1000000) :
    Calls Tryz.prog 56 #[.pointer (some ⟨g, 0, none⟩), .slice a len cap] w fun e w' => e = .returned (.tuple #[]) ∧ Sl w0 w' (Part.book g (n + 1) B I N (D ++ [⟨a, len, cap, n + 1⟩]) :: m) :=
  Sl.step (l := [_, _]) h (fun F hF => book_ids w g n B I N D a len cap vs F hF hm hn)
theorem Sl.apart {w0 w : World} {g n : Nat} {B N D : List HE} {m : List Part} (h : Sl w0 w (Part.book g n B [] N D :: m)) (hB : BkOkB B) (hN : BkOk N) (hD : BkOk D) :
    Calls Tryz.prog 16 #[.pointer (some ⟨g, 0, none⟩)] w fun e w' => e = .returned (.bool true) ∧ Touch No w0 w' := by
  have t := h.end
  obtain ⟨A, ha, hA⟩ := h.mem List.mem_cons_self
  exact (apart_any w g n B N D A ha hB hN hD).mono fun e w' ⟨he, ht⟩ => ⟨he, t.then ht (fun i hi hAi => absurd hi (Nat.not_lt.2 (hA i hAi).1))⟩
theorem born_book (w : World) (cs : Array Value) (h : cs.toList = bookCells 0 nilSl nilSl nilSl nilSl) : Born w (Part.book w.heap.size 0 [] [] [] []) (w.alloc (.cells cs 47)) := by
  refine ⟨(Touch.refl No w).alloc _, fun k => k = w.heap.size, book_new ?_, fun k hk => Nat.le_of_eq hk.symm⟩
  have := Row.new w 47 cs
  rw [h] at this
  exact this
theorem born_own {w w' : World} {T : TypeId} {a : Option Addr} {n c : Nat} {vs : List Value} (t : Touch No w w') (h : Own w' w.heap.size T (.slice a n c) vs) : Born w (Part.sl T a n c vs) w' := by
  obtain ⟨a', c', e, hc, _⟩ := h.form
  cases e
  exact born_sl t (Nat.le_refl _) h hc (Nat.le_refl _)
theorem rd_pre {w : World} {a : Option Addr} {vs us : List Value} (h : Rd w a (vs ++ us)) : Rd w a vs := fun i v hi => h i v (by
  have hlt : i < vs.length := by
    rcases Nat.lt_or_ge i vs.length with h | h
    · exact h
    · rw [List.getElem?_eq_none h] at hi; cases hi
  rw [List.getElem?_append_left hlt]; exact hi)
theorem bkOkB_nil : BkOkB [] := ⟨Nat.zero_le _, (fun e h => by cases h), fun e h => by cases h⟩
theorem bkOk_nil : BkOk [] := ⟨Nat.zero_le _, (fun e h => by cases h), fun e h => by cases h⟩
end Go.Proofs.YtkiehoboeiengaaGreatDoor
namespace Go.Proofs.YtkiehoboeiengaaGreatDoor
open Go Go.RowKit
set_option linter.unusedSimpArgs false
set_option linter.unusedVariables false

set_option maxHeartbeats 2000000 in
theorem clone_own (w : World) (g o n c : Nat) (xs : List Nat) (hr : w.rangeAt g o (nums .u8 xs)) (hl : xs.length = n) (hn : n ≤ 16384) :
    Calls Tryz.prog 152 #[.slice (some ⟨g, o, none⟩) n c] w fun e w' => ∃ g' c', e = .returned (.slice (some ⟨g', 0, none⟩) n c') ∧ Own w' w.heap.size 5 (.slice (some ⟨g', 0, none⟩) n c') (nums .u8 xs) ∧ n ≤ c' ∧ Touch No w w' := by
  have hq := fun (w : World) (a : Option Addr) (n c n' c' : Nat) => Lib.run_eql_slice_nil (P := Tryz.prog) w 49 5 a n c n' c' Tryz.underlying49
  obtain ⟨I, z, hI⟩ := byte_is
  have HI := Lib.hid hI
  have H := Lib.hid hr
  have Hl := Lib.hid hl
  have Hn := Lib.hid hn
  clear hr hn hl hI
  go_enter Tryz.func152, Tryz.ntmps152
  go_wp2_with (at_builtin; refine wpList_append_own _ rfl _ _ 49 rfl w.heap.size 5 I z 1 1 Tryz.underlying49 HI.out.info HI.out.zero HI.out.size HI.out.bytes (by rw [HI.out.cells]; rfl) (by decide) _ _ _ rfl (World.ownsRow_made w #[] 0 (Nat.le_refl _) (Nat.zero_le _) (by simp)) ⟨g, o, none⟩ n c (nums .u8 xs) rfl ?qc1 ?qc2 ?qc3 ?qc4 ?qc5 ?qc6 ?_)
  case qc1 => rw [nums_length, Hl.out, Nat.mul_one]
  case qc2 =>
    intro j u hj
    rw [Addr.add_lit]
    exact Lib.cell?_alloc_some _ (H.out j u hj)
  case qc3 => exact nums_one _ _
  case qc4 => have := Hn.out; unfold maxLen; omega
  case qc5 => have := Hn.out; omega
  case qc6 => simp
  intro v' w1 hown hgrow hnil
  have Ho := Lib.hid hown
  have Hg := Lib.hid hgrow
  have Hx := Lib.hid hnil
  clear hown hgrow hnil
  go_wp2
  go_ret
  obtain ⟨g', c', r', rfl, h1, h2, h3, h4⟩ := ownRow Ho.out Hx.out
  refine ⟨g', c', by simp, ?_, by simpa using h3, ((Touch.refl No w).alloc _).grown Hg.out (by intro k hk hlt; simp [Value.ownBlock] at hk; omega)⟩
  have h5 := Ho.out
  show World.ownsRow _ _ _ 1 _ (nums .u8 xs).length _
  rw [nums_length, Hl.out]
  first | exact h5 | simpa using h5
set_option maxHeartbeats 2000000 in
theorem read_own (w : World) (d : Nat) (D : Dk.Disk) (O : Nat → Prop) (n : Nat) (h : DiskAt w d D O) (hn : n < D.seen.length) (hb : (Dk.at_ D.seen n).bad = 0) :
    Calls Tryz.prog 292 #[.pointer (some ⟨d, 0, none⟩), .int .i64 (n : Nat)] w fun e w' => ∃ g, e = .returned (.tuple #[.slice (some ⟨g, 0, none⟩) 64 64, .int .i64 0]) ∧ Born w (Part.sl 5 (some ⟨g, 0, none⟩) 64 64 (nums .u8 (Dk.at_ D.seen n).b)) w' := by
  have H := Lib.hid h
  have e1 : askSays D.seen.length n = 0 := by unfold askSays; rw [if_pos (by omega)]
  have hok := (h.ok.seen _ (Dk.at_mem hn)).b.len
  obtain ⟨gs, gn, cs, cn, rs, rn, vw, Di, _⟩ := h
  have hc1 := Di.c1
  have hlcn := Di.lcn
  have hn' : (n : Int) < (D.seen.length : Nat) := by omega
  have hcb : w.cell? ⟨gn, n * 65 + 64, none⟩ = some (.int .i64 0) := by
    rw [sec_at w gn D.seen rn Di.seen n hn 64 (by decide), sec_bad, hb]; rfl
  have hra : Hid (w.rangeAt gn (n * 65) (nums .u8 (Dk.at_ D.seen n).b)) := fun j v hj => by
    have hj64 : j < 64 := by
      by_cases hh : j < (nums .u8 (Dk.at_ D.seen n).b).length
      · rw [nums_length, hok] at hh; exact hh
      · rw [List.getElem?_eq_none (by omega)] at hj; cases hj
    rw [sec_at w gn D.seen rn Di.seen n hn j (by omega), secCells, bytes_cells hok, List.getElem?_append_left (by rw [nums_length, hok]; exact hj64)]
    exact hj
  have Hok := Lib.hid hok
  clear Di hok hb
  go_enter Tryz.func292, Tryz.ntmps292
  go_wp2_with (first
    | (go_at_call 59; refine (ask_any _ _ _ _ _ H.out).mono ?_; rintro e w' ⟨rfl, rfl⟩; rw [e1])
    | (go_at_call 152; refine (clone_own _ gn (n * 65) 64 64 (Dk.at_ D.seen n).b hra.out Hok.out (by decide)).mono ?_; rintro e w1 ⟨g', c', rfl, k2, k3, k5⟩; have K2 := Lib.hid k2; have K3 := Lib.hid k3; have K5 := Lib.hid k5; clear k2 k3 k5)
    | (go_at_call 120; refine (clip_bytes _ _ _ _ K3.out).mono ?_; rintro e w2 ⟨rfl, rfl⟩))
  go_ret2
  exact ⟨g', rfl, born_sl K5.out (Nat.le_refl _) K2.out (Nat.le_refl _) K3.out⟩
/-- the program's disk, as a part -/
def Part.disk (d : Nat) (D : Dk.Disk) : Part where
  P w O := DiskAt w d D O ∧ ∀ k, O k → k < w.heap.size
  stable := fun {F w w' O} ⟨h1, h2⟩ t hF => ⟨h1.touch t (fun k _ hk => hF k hk), fun k hk => Nat.lt_of_lt_of_le (h2 k hk) t.size⟩
  lt := fun {w O} h => h.2
theorem born_disk {w w' : World} {d : Nat} {D : Dk.Disk} (h : Made w d D w') : Born w (Part.disk d D) w' := by
  obtain ⟨t, O, hO⟩ := h
  exact ⟨t, O, ⟨hO.on, hO.lt⟩, hO.ge⟩
theorem al_disk {w : World} {d : Nat} {D : Dk.Disk} {A : Nat → Prop} (h : Al w [Part.disk d D] A) : ∃ O, Dsk w d D 0 O ∧ ∀ k, O k → A k := by
  obtain ⟨O, _, ⟨h, hl⟩, _, _, h1, _⟩ := h
  exact ⟨O, ⟨h, hl, fun _ _ => Nat.zero_le _⟩, h1⟩
theorem disk_turn {w w' : World} {d : Nat} {D' : Dk.Disk} {O A : Nat → Prop} (hA : ∀ k, O k → A k) (h : After w d D' 0 O w') : TurnsL w A [Part.disk d D'] w' := by
  obtain ⟨t, O', hO, hin⟩ := h
  exact ⟨t.mono (fun k _ hk => hA k hk), O', ⟨O', fun _ => False, ⟨hO.on, hO.lt⟩, trivial, fun _ _ f => f, fun _ h => h, fun _ f => f.elim⟩, fun k hk => (hin k hk).imp (hA k) id⟩
section
variable {w : World} {d : Nat} {D : Dk.Disk} {A : Nat → Prop}
theorem diskWrite_al (h : Al w [Part.disk d D] A) (n : Int) (a : Option Addr) (l c : Nat) (b : List Nat) (hl : b.length = l) (hlt : ∀ x ∈ b, x < 256) (hr : Rd w a (nums .u8 b)) (hw : D.waits.length ≤ 1000000) :
    Calls Tryz.prog 63 #[.pointer (some ⟨d, 0, none⟩), .int .i64 n, .slice a l c] w fun e w' => e = .returned (.int .i64 (Dk.writeR D n b : Nat)) ∧ TurnsL w A [Part.disk d (Dk.writeA D n b)] w' := by
  obtain ⟨O, hO, hA⟩ := al_disk h
  by_cases hc : (0 ≤ n ∧ n < D.seen.length) ∧ b.length ≤ 64
  · rw [Dk.writeR, Dk.writeA, if_pos hc, if_pos hc]
    obtain ⟨m, rfl⟩ : ∃ m : Nat, n = (m : Nat) := ⟨n.toNat, by omega⟩
    exact (write_k w d D 0 O m a l c b (Nat.zero_le _) hO (by omega) hl (by omega) hlt hr hw).mono fun _ _ ⟨he, t⟩ => ⟨he, disk_turn hA t⟩
  · rw [Dk.writeR, Dk.writeA, if_neg hc, if_neg hc]
    exact (write_bad w d D O n a l c hO.on (by
      by_cases h1 : 0 ≤ n ∧ n < D.seen.length
      · exact Or.inr (by
          rcases Nat.lt_or_ge 64 l with h2 | h2
          · exact h2
          · exact absurd ⟨h1, by omega⟩ hc)
      · exact Or.inl h1)).mono fun _ _ ⟨he, e⟩ => ⟨he, e ▸ TurnsL.same h⟩
theorem diskBad_al (h : Al w [Part.disk d D] A) (n : Int) (hw : D.waits.length ≤ 1000000) :
    Calls Tryz.prog 24 #[.pointer (some ⟨d, 0, none⟩), .int .i64 n] w fun e w' => e = .returned (.int .i64 (Dk.badR D n : Nat)) ∧ TurnsL w A [Part.disk d (Dk.badA D n)] w' := by
  obtain ⟨O, hO, hA⟩ := al_disk h
  by_cases hc : 0 ≤ n ∧ n < D.seen.length
  · rw [Dk.badR, Dk.badA, if_pos hc, if_pos hc]
    obtain ⟨m, rfl⟩ : ∃ m : Nat, n = (m : Nat) := ⟨n.toNat, by omega⟩
    exact (bad_k w d D 0 O m (Nat.zero_le _) hO (by omega) hw).mono fun _ _ ⟨he, t⟩ => ⟨he, disk_turn hA t⟩
  · rw [Dk.badR, Dk.badA, if_neg hc, if_neg hc]
    exact (bad_out w d D O n hO.on hc).mono fun _ _ ⟨he, e⟩ => ⟨he, e ▸ TurnsL.same h⟩
theorem diskRot_al (h : Al w [Part.disk d D] A) (n p : Int) (x : Nat) (hx : x < 256) (hw : D.waits.length ≤ 1000000) :
    Calls Tryz.prog 22 #[.pointer (some ⟨d, 0, none⟩), .int .i64 n, .int .i64 p, .int .u8 (x : Nat)] w fun e w' => e = .returned (.int .i64 (Dk.rotR D n p : Nat)) ∧ TurnsL w A [Part.disk d (Dk.rotA D n p x)] w' := by
  obtain ⟨O, hO, hA⟩ := al_disk h
  by_cases hc : (0 ≤ n ∧ n < D.seen.length) ∧ (0 ≤ p ∧ p < 64)
  · rw [Dk.rotR, Dk.rotA, if_pos hc, if_pos hc]
    obtain ⟨m, rfl⟩ : ∃ m : Nat, n = (m : Nat) := ⟨n.toNat, by omega⟩
    obtain ⟨q, rfl⟩ : ∃ q : Nat, p = (q : Nat) := ⟨p.toNat, by omega⟩
    exact (rot_k w d D 0 O m q x (Nat.zero_le _) hO (by omega) (by omega) hx hw).mono fun _ _ ⟨he, t⟩ => ⟨he, disk_turn hA t⟩
  · rw [Dk.rotR, Dk.rotA, if_neg hc, if_neg hc]
    by_cases h1 : 0 ≤ n ∧ n < D.seen.length
    · exact (rot_bad w d D O n p (x : Nat) hO.on h1 (by omega)).mono fun _ _ ⟨he, e⟩ => ⟨he, e ▸ TurnsL.same h⟩
    · exact (rot_out w d D O n p (x : Nat) hO.on h1).mono fun _ _ ⟨he, e⟩ => ⟨he, e ▸ TurnsL.same h⟩
end
/-- what Read says, whatever is asked for -/
def Dk.readE (D : Dk.Disk) (n : Int) : Nat := if 0 ≤ n ∧ n < D.seen.length then Dk.errOf (Dk.at_ D.seen n.toNat) else 1
def Dk.readB (D : Dk.Disk) (n : Int) : List Nat := if 0 ≤ n ∧ n < D.seen.length then Dk.bytesOf (Dk.at_ D.seen n.toNat) else []
theorem Dk.readB_le {D : Dk.Disk} (ok : Dk.Ok D) (n : Int) : (Dk.readB D n).length ≤ 64 := by
  unfold Dk.readB
  split
  · exact Dk.bytes_le (ok.seen _ (Dk.at_mem (by omega)))
  · simp
theorem diskRead_born {w : World} {d : Nat} {D : Dk.Disk} {O : Nat → Prop} (h : DiskAt w d D O) (n : Int) :
    Calls Tryz.prog 292 #[.pointer (some ⟨d, 0, none⟩), .int .i64 n] w fun e w' => ∃ a l, e = .returned (.tuple #[.slice a l l, .int .i64 (Dk.readE D n : Nat)]) ∧ (Dk.readB D n).length = l ∧ Born w (Part.sl 5 a l l (nums .u8 (Dk.readB D n))) w' := by
  have nil : Born w (Part.sl 5 none 0 0 (nums .u8 [])) w := born_own (Touch.refl No w) (Own.nil w w.heap.size 5)
  by_cases hc : 0 ≤ n ∧ n < D.seen.length
  · rw [Dk.readE, Dk.readB, if_pos hc, if_pos hc]
    obtain ⟨m, rfl⟩ : ∃ m : Nat, n = (m : Nat) := ⟨n.toNat, by omega⟩
    rw [Int.toNat_natCast]
    have hm : m < D.seen.length := by omega
    by_cases hb : (Dk.at_ D.seen m).bad = 1
    · rw [Dk.bytesOf, Dk.errOf, if_pos hb, if_pos hb]
      exact (read_lost w d D O m h hm hb).mono fun _ _ ⟨he, e⟩ => ⟨none, 0, he, rfl, e ▸ nil⟩
    · have hok := h.ok.seen _ (Dk.at_mem hm)
      rw [Dk.bytesOf, Dk.errOf, if_neg hb, if_neg hb]
      exact (read_own w d D O m h hm (by have := hok.bad; omega)).mono fun _ _ ⟨g, he, hb⟩ => ⟨_, 64, he, hok.b.len, hb⟩
  · rw [Dk.readE, Dk.readB, if_neg hc, if_neg hc]
    exact (read_out w d D O n h hc).mono fun _ _ ⟨he, e⟩ => ⟨none, 0, he, rfl, e ▸ nil⟩
end Go.Proofs.YtkiehoboeiengaaGreatDoor
