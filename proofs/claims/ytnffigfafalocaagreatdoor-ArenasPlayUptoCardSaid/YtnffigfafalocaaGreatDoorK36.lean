/-
  Package drydocklaw01 by its own text: Book.Apart.
  Package drydocklaw01 by its own text: a book's lists of ints, filled with marks.
  What an int's type is in this program.
-/
import Derived.Test.YtnffigfafalocaaGreatDoorK31
import Derived.Test.YtnffigfafalocaaGreatDoorK33
import Derived.Test.YtnffigfafalocaaGreatDoorK34
import Derived.Test.YtnffigfafalocaaGreatDoorK35
import Derived.Test.YtnffigfafalocaaGreatDoorK29
import Derived.Test.YtnffigfafalocaaGreatDoorK28
import Derived.StillTailTactics
import Derived.Test.YtnffigfafalocaaGreatDoorK04
namespace Go.Proofs.YtnffigfafalocaaGreatDoor
open Go Go.RowKit
set_option linter.unusedSimpArgs false
set_option linter.unusedVariables false

section
variable {α : Type} (r b n d : α) (X Y Z : List α)
theorem mid2 (T : List α) (x y : α) : (X ++ x :: y :: T).Perm (x :: y :: (X ++ T)) := List.perm_middle.trans (List.perm_middle.cons x)
end
theorem Calls.step {P : Program} {f : FuncId} {args : Array Value} {w w1 : World} {A : Nat → Prop} {l l' m : List Part} {v : Ending} (h : TurnsL w A (l ++ m) w1) (C : ∀ F, Al w1 l F → (∀ k, F k → k < w1.heap.size) → Calls P f args w1 fun e w' => e = v ∧ TurnsL w1 F l' w') :
    Calls P f args w1 fun e w' => e = v ∧ TurnsL w A (l' ++ m) w' := by
  obtain ⟨t, O, hO, hin⟩ := h
  obtain ⟨F, hF, hFO, hf⟩ := hO.frame
  exact (C _ hF.cut (fun k hk => hk.2)).mono fun e w' ⟨he, tt, O', h1, h2⟩ => ⟨he, TurnsL.comp t hin (hf w' l' ⟨tt.mono (fun k _ hk => hk.1), O', h1, fun k hk => (h2 k hk).imp (fun h => h.1) id⟩)⟩
theorem Calls.stepE {P : Program} {f : FuncId} {args : Array Value} {w w1 : World} {A : Nat → Prop} {l m : List Part} {l' : List Value → List Part} {q : Nat} {v : Ending} (h : TurnsL w A (l ++ m) w1) (C : ∀ F, Al w1 l F → Calls P f args w1 fun e w' => e = v ∧ ∃ ls : List Value, ls.length = q ∧ TurnsL w1 F (l' ls) w') :
    Calls P f args w1 fun e w' => e = v ∧ ∃ ls : List Value, ls.length = q ∧ TurnsL w A (l' ls ++ m) w' := by
  obtain ⟨t, O, hO, hin⟩ := h
  obtain ⟨F, hF, hFO, hf⟩ := hO.frame
  exact (C F hF).mono fun e w' ⟨he, ls, hl, ht⟩ => ⟨he, ls, hl, TurnsL.comp t hin (hf w' _ ht)⟩
theorem TurnsL.row {w w1 : World} {A : Nat → Prop} {g : Nat} {T : TypeId} {cs : List Value} {m : List Part} (h : TurnsL w A (Part.row g T cs :: m) w1) : Row w1 g T cs := by
  obtain ⟨_, O, ⟨R, _, hR, _⟩, _⟩ := h
  exact hR.1
theorem TurnsL.al {w w1 : World} {A : Nat → Prop} {l m : List Part} (h : TurnsL w A (l ++ m) w1) : ∃ O, Al w1 l O := by
  obtain ⟨_, O, hO, _⟩ := h
  obtain ⟨F, hF, _⟩ := hO.frame
  exact ⟨F, hF⟩
def BkOk (B : List HE) : Prop := B.length ≤ 100000 ∧ (∀ e ∈ B, e.k ≤ 1000000) ∧ ∀ e ∈ B, e.n ≤ 10000000
def BkOkB (B : List HE) : Prop := B.length ≤ 100000 ∧ (∀ e ∈ B, e.k ≤ 1000000) ∧ ∀ e ∈ B, e.n ≤ 140737488351232
end Go.Proofs.YtnffigfafalocaaGreatDoor
namespace Go.Proofs.YtnffigfafalocaaGreatDoor
open Go Go.RowKit
set_option linter.unusedSimpArgs false

def mkI (k : Nat) : Value := .int .i64 (-(k : Int))
theorem markInt_any (w : World) (k : Nat) (hk : k ≤ 1000000) : Calls Tryz.prog 180 #[.int .i64 (k : Nat)] w fun e w' => e = .returned (mkI k) ∧ w' = w := by
  have hk' : (k : Int) ≤ 1000000 := by omega
  go_enter Tryz.func180, Tryz.ntmps180
  go_wp2
  go_ret
  exact ⟨rfl, rfl⟩
set_option maxRecDepth 100000 in
set_option maxHeartbeats 4000000 in
theorem fillInt_any (w : World) (g n : Nat) (vB vI vN vD : Value) (B : List HE) (O : Nat → Prop) (h : Al w (Part.row g 71 (bookCells n vB vI vN vD) :: Part.arr 244 vI B.length (heNew B) :: B.map (Part.room 3)) O) (hO : ∀ k, O k → k < w.heap.size) (hm : B.length ≤ 100000) (hk : ∀ e ∈ B, e.k ≤ 1000000) :
    Calls Tryz.prog 84 #[.pointer (some ⟨g, 0, none⟩)] w fun e w' => e = .returned (.tuple #[]) ∧ TurnsL w O (Part.row g 71 (bookCells n vB vI vN vD) :: Part.arr 244 vI B.length (heNew B) :: B.map (Part.full 3 mkI)) w' := by
  obtain ⟨m, hmB⟩ : ∃ m, B.length = m := ⟨_, rfl⟩
  have hm' : (m : Int) ≤ 100000 := by omega
  have H0 := Lib.hid h
  have HO := Lib.hid hO
  have HK := Lib.hid hk
  have HM := Lib.hid hmB
  clear h hO hk hmB
  go_enter Tryz.func84, Tryz.ntmps84
  go_wp2
  go_loopg [2] m (fun gk s2 wr => ∃ i : Nat, i + gk = m ∧ s2 = .int .i64 ((i : Nat) : Int) ∧ Hid (TurnsL w O (Part.row g 71 (bookCells n vB vI vN vD) :: Part.arr 244 vI B.length (heNew B) :: ((B.take i).map (Part.full 3 mkI) ++ (B.drop i).map (Part.room 3))) wr))
  case atStart =>
    exact ⟨0, by omega, rfl, TurnsL.same H0.out⟩
  case round =>
    obtain ⟨i, hi, rfl, hT⟩ := hrel
    obtain ⟨ht, O', hA, hin⟩ := hT.out
    obtain ⟨A1, hrow, hA1⟩ := hA.head
    obtain ⟨A2, harr, hA2⟩ := hA.tail.head
    obtain ⟨ab, cb, hvB, hcb, _⟩ := rowSlice harr.1
    have c1 : wr.cell? ⟨g, 2, none⟩ = some (.slice ab m cb) := by
      rw [hrow.1.cell 2, ← HM.out, ← hvB]; rfl
    cases gk with
    | zero =>
      obtain rfl : i = m := by omega
      have HT := hT
      clear hA hrow harr hin ht hT
      go_wp2
      go_end0
      refine ⟨rfl, ?_⟩
      have := HT.out
      rw [List.take_of_length_le (by rw [HM.out]; exact Nat.le_refl _), List.drop_of_length_le (by rw [HM.out]; exact Nat.le_refl _), List.map_nil, List.append_nil] at this
      exact this
    | succ gk =>
      obtain ⟨wo, rfl⟩ : ∃ wo : World, wo = wr := ⟨_, rfl⟩
      have hil : i < B.length := by rw [HM.out]; omega
      have hlt : (i : Int) < (m : Nat) := by omega
      obtain ⟨gb, cb2, hv2, hOb, k0, k1, k2⟩ := arr_at harr hil
      have hBd : B.drop i = B[i] :: B.drop (i + 1) := List.drop_eq_getElem_cons hil
      have hBt : B.take (i + 1) = B.take i ++ [B[i]] := List.take_succ_eq_append_getElem hil
      have hek : B[i].k ≤ 1000000 := HK.out _ (List.getElem_mem hil)
      obtain ⟨e, he⟩ : ∃ e, B[i] = e := ⟨_, rfl⟩
      rw [he] at k0 k2 hBd hBt hek
      clear he
      rw [hBd, List.map_cons] at hA
      have hA' := hA.perm (perm_mid _ _ _ _ _)
      obtain ⟨F, hF, hFO, hfr⟩ := Al.frame (l := [Part.room 3 e]) hA'
      obtain ⟨X, ⟨vs, hsl⟩, hX⟩ := hF.head
      obtain ⟨ea, en, ec, ek⟩ := e
      dsimp only at k0 k2 hek hsl
      replace k1 : wo.cell? ⟨gb, i * 3 + 1, none⟩ = some (.slice none 0 0) := k1
      have hab : ab = some ⟨gb, 0, none⟩ := by
        rw [hvB] at hv2; cases hv2; rfl
      subst hab
      obtain ⟨hvl, hnc, hcm⟩ := sl_len hsl
      have hen : (en : Int) ≤ 9223372036854775807 := by unfold maxLen at hcm; omega
      have hXs : ∀ k, X k → k < wo.heap.size := fun k hk => (Part.sl 3 ea en ec vs).lt hsl k hk
      have HA := Lib.hid hfr
      have HT := Lib.hid (And.intro ht hin)
      have HBt := Lib.hid hBt
      have HX := Lib.hid hX
      have HXs := Lib.hid hXs
      have Hsl := Lib.hid hsl
      have Hvl := Lib.hid hvl
      have HV := Lib.hid hvB
      clear hA hA' hrow harr hin ht hT hfr hF hFO hX hXs hBd hBt hvB hv2 hA1 hA2 hOb hsl hvl hnc hcm
      go_wp2
      obtain ⟨w1, hw1⟩ : ∃ w1, w1 = wo.alloc (.cells #[.slice ea en ec, .slice none 0 0, .int .i64 (ek : Nat)] 244) := ⟨_, rfl⟩
      have t1 : Touch No wo w1 := by rw [hw1]; exact (Touch.refl No wo).alloc _
      have b0 : w1.cell? ⟨wo.heap.size, 0, none⟩ = some (.slice ea en ec) := by rw [hw1, cell_new]; rfl
      have b2 : w1.cell? ⟨wo.heap.size, 2, none⟩ = some (.int .i64 (ek : Nat)) := by rw [hw1, cell_new]; rfl
      have T1 := Lib.hid t1
      have B0 := Lib.hid b0
      have B2 := Lib.hid b2
      rw [← hw1]
      obtain ⟨hb, Hhb⟩ : ∃ hb, Hid (hb = wo.heap.size) := ⟨_, rfl⟩
      rw [← Hhb.out] at B0 B2 ⊢
      clear hw1 t1 b0 b2 k0 k1 k2 c1
      go_loopg [4] en (fun g' s4 wr => ∃ k : Nat, k + g' = en ∧ s4 = .int .i64 ((k : Nat) : Int) ∧ Hid (∃ us, (Part.sl 3 ea en ec us).P wr X ∧ us.take k = List.replicate k (mkI ek) ∧ Touch X w1 wr))
      case atStart => exact ⟨0, by omega, rfl, ⟨vs, (Part.sl 3 ea en ec vs).stable Hsl.out T1.out (fun _ _ f => f), rfl, Touch.refl _ _⟩⟩
      case round =>
        obtain ⟨k, hk, rfl, hU⟩ := hrel
        obtain ⟨us, hus, htk, htX⟩ := hU.out
        have nh : ¬ X hb := fun h => by have := HXs.out hb h; have := Hhb.out; omega
        have b0 := htX.cell nh B0.out
        have b2 := htX.cell nh B2.out
        cases gk with
        | zero =>
          obtain rfl : k = en := by omega
          have hful : us = List.replicate k (mkI ek) := by rw [← htk, List.take_of_length_le (by rw [hus.1]; exact Nat.le_refl _)]
          have hT3 : TurnsL wo F [Part.full 3 mkI ⟨ea, k, ec, ek⟩] wr := by
            refine ⟨((T1.out.no : Touch F wo w1).then htX (fun k hk h => HX.out k h)), X, ⟨X, fun _ => False, ?_, trivial, fun _ _ f => f, fun _ h => h, fun _ f => f.elim⟩, fun k hk => Or.inl (HX.out k hk)⟩
            show (Part.sl 3 ea k ec (List.replicate k (mkI ek))).P wr X
            rw [← hful]; exact hus
          have hT4 := (TurnsL.comp HT.out.1 HT.out.2 (HA.out wr _ hT3)).perm (perm_mid _ _ _ _ _).symm
          have HN : Hid (TurnsL w O (Part.row g 71 (bookCells n vB vI vN vD) :: Part.arr 244 vI B.length (heNew B) :: ((B.take (i + 1)).map (Part.full 3 mkI) ++ (B.drop (i + 1)).map (Part.room 3))) wr) := by
            show TurnsL _ _ _ _
            rw [HBt.out, List.map_append, List.append_assoc]
            exact hT4
          clear hful hT3 hT4 hus htk htX hU nh
          go_wp2
          go_roundg gk
          case measure => omega
          case rel => exact ⟨i + 1, by omega, by go_num, HN⟩
        | succ g' =>
          have hkn : (k : Int) < (en : Nat) := by omega
          obtain ⟨gg, o, rfl, hXg, hfz, ⟨u, hcu⟩, hset, htset⟩ := sl_set hus (show k < en by omega) (mkI ek)
          have hkl : k < us.length := by rw [hus.1]; omega
          have HN : Hid (∃ us', (Part.sl 3 (some ⟨gg, o, none⟩) en ec us').P ((wr.setCell ⟨gg, o + k, none⟩ (mkI ek)).drew) X ∧ us'.take (k + 1) = List.replicate (k + 1) (mkI ek) ∧ Touch X w1 ((wr.setCell ⟨gg, o + k, none⟩ (mkI ek)).drew)) :=
            ⟨_, (Part.sl 3 (some ⟨gg, o, none⟩) en ec _).stable hset ((Touch.refl No _).drew) (fun _ _ f => f), take_next htk hkl, (htX.trans htset).drew⟩
          clear hus htk htX hset htset hU nh
          go_wp2_with fail
          go_still_tail 7, (by kernel_rfl)
          still_call (show Calls _ _ _ _ (fun e w' => e = .returned (.int .i64 (-(ek : Int))) ∧ w' = _) from markInt_any _ ek hek)
          repeat still_step
          refine wpStill_nil ?_
          go_wp2
          go_roundg g'
          case measure => omega
          case rel => exact ⟨k + 1, by omega, by go_num, HN⟩
end Go.Proofs.YtnffigfafalocaaGreatDoor
namespace Go.Proofs.YtnffigfafalocaaGreatDoor
open Go Go.RowKit
theorem int_info : ∃ i, Tryz.prog.info? 3 = some i ∧ i.zero = some (.int .i64 0) ∧ i.size = 1 ∧ i.bytes = 8 := one_info (by kernel_rfl)
end Go.Proofs.YtnffigfafalocaaGreatDoor
