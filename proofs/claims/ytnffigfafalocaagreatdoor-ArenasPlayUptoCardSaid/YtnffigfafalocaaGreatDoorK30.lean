/-
  Package drydocklaw01 by its own text: a book's lists of bytes, grown.
-/
import Derived.Test.YtnffigfafalocaaGreatDoorK29
import Derived.Test.YtnffigfafalocaaGreatDoorK04
namespace Go.Proofs.YtnffigfafalocaaGreatDoor
open Go Go.RowKit
set_option linter.unusedSimpArgs false
set_option linter.unusedVariables false

theorem markByte_at (w : World) (k : Nat) (hk : k ≤ 1000000) : Calls Tryz.prog 179 #[.int .i64 (k : Nat)] w fun e w' => e = .returned (.int .u8 ((k % 256 : Nat) : Int)) ∧ w = w' :=
  (markByte_any w k hk).mono fun _ _ ⟨h1, h2⟩ => ⟨h1, h2.symm⟩
set_option maxRecDepth 100000 in
set_option maxHeartbeats 4000000 in
theorem growByte_any (w : World) (g n : Nat) (vB vI vN vD : Value) (B : List HE) (O : Nat → Prop) (h : Al w (Part.row g 71 (bookCells n vB vI vN vD) :: Part.arr 241 vB B.length (heNew B) :: B.map (Part.full 5 mkB)) O) (hm : B.length ≤ 100000) (hk : ∀ e ∈ B, e.k ≤ 1000000) (hl : ∀ e ∈ B, e.n ≤ 140737488351232) :
    Calls Tryz.prog 98 #[.pointer (some ⟨g, 0, none⟩)] w fun e w' => e = .returned (.tuple #[]) ∧ ∃ ls : List Value, ls.length = B.length ∧ TurnsL w O (Part.row g 71 (bookCells n vB vI vN vD) :: Part.arr 241 vB B.length (heMid B ls) :: List.zipWith (Part.gr 5 mkB) B ls) w' := by
  obtain ⟨m, hmB⟩ : ∃ m, B.length = m := ⟨_, rfl⟩
  have hm' : (m : Int) ≤ 100000 := by omega
  have H0 := Lib.hid h
  have HK := Lib.hid hk
  have HL := Lib.hid hl
  have HM := Lib.hid hmB
  obtain ⟨IU, iu0, iu1, iu2, iu3⟩ := u8_info
  have HIU := Lib.hid (And.intro iu0 (And.intro iu1 (And.intro iu2 iu3)))
  clear h hk hl hmB iu0 iu1 iu2 iu3
  go_enter Tryz.func98, Tryz.ntmps98
  go_wp2
  go_loopg [2] m (fun gk s2 wr => ∃ i : Nat, i + gk = m ∧ s2 = .int .i64 ((i : Nat) : Int) ∧ Hid (∃ ls : List Value, ls.length = i ∧ TurnsL w O (Part.row g 71 (bookCells n vB vI vN vD) :: Part.arr 241 vB B.length (heMid B ls) :: (List.zipWith (Part.gr 5 mkB) (B.take i) ls ++ (B.drop i).map (Part.full 5 mkB))) wr))
  case atStart =>
    exact ⟨0, by omega, rfl, [], rfl, by rw [heMid_nil]; exact TurnsL.same H0.out⟩
  case round =>
    obtain ⟨i, hi, rfl, hT⟩ := hrel
    obtain ⟨ls, hls, ht, O', hA, hin⟩ := hT.out
    obtain ⟨A1, hrow, hA1⟩ := hA.head
    obtain ⟨A2, harr, hA2⟩ := hA.tail.head
    obtain ⟨ab, cb, hvB, hcb, _⟩ := rowSlice harr.1
    have c1 : wr.cell? ⟨g, 1, none⟩ = some (.slice ab m cb) := by
      rw [hrow.1.cell 1, ← HM.out, ← hvB]; rfl
    cases gk with
    | zero =>
      obtain rfl : i = m := by omega
      have HT := hT
      clear hA hrow harr hin ht hT hls
      go_wp2
      go_end0
      obtain ⟨ls, hls, this⟩ := HT.out
      refine ⟨rfl, ls, by rw [hls, HM.out], ?_⟩
      rw [List.take_of_length_le (by rw [HM.out]; exact Nat.le_refl _), List.drop_of_length_le (by rw [HM.out]; exact Nat.le_refl _), List.map_nil, List.append_nil] at this
      exact this
    | succ gk =>
      obtain ⟨wo, rfl⟩ : ∃ wo : World, wo = wr := ⟨_, rfl⟩
      have hil : i < B.length := by rw [HM.out]; omega
      have hlt : (i : Int) < (m : Nat) := by omega
      obtain ⟨gb, cb2, hv2, hOb, k0, k1, k2, kf⟩ := mid_at harr hil
      have hBd : B.drop i = B[i] :: B.drop (i + 1) := List.drop_eq_getElem_cons hil
      have hBt : B.take (i + 1) = B.take i ++ [B[i]] := List.take_succ_eq_append_getElem hil
      have hek : B[i].k ≤ 1000000 := HK.out _ (List.getElem_mem hil)
      have hel : B[i].n ≤ 140737488351232 := HL.out _ (List.getElem_mem hil)
      obtain ⟨e, he⟩ : ∃ e, B[i] = e := ⟨_, rfl⟩
      rw [he] at k0 k2 hBd hBt hek hel
      clear he
      rw [hBd, List.map_cons] at hA
      have hA' := hA.perm (perm_mid3 _ _ _ _ _)
      obtain ⟨F, hF, hFO, hfr⟩ := Al.frame (l := [Part.row g 71 (bookCells n vB vI vN vD), Part.arr 241 vB B.length (heMid B ls), Part.full 5 mkB e]) hA'
      obtain ⟨R, RX, hR, ⟨Y, X', hY, ⟨X, _, hsl, _, _, hXX, _⟩, hYX, hYr, hXr⟩, hRd, hRF, hRXF⟩ := hF
      have hXF : ∀ k, X' k → F k := fun k hk => hRXF k (hXr k hk)
      have hYF : ∀ k, Y k → F k := fun k hk => hRXF k (hYr k hk)
      have ngX : ¬ X g := fun h => hRd g hR.2.1 (hXr g (hXX g h))
      have ngY : ¬ Y g := fun h => hRd g hR.2.1 (hYr g h)
      have hgF : F g := hRF g hR.2.1
      obtain ⟨ea, en, ec, ek⟩ := e
      have hsl : (Part.sl 5 ea en ec (List.replicate en (mkB ek))).P wo X := hsl
      dsimp only at k0 k2 hek hel
      replace k1 : wo.cell? ⟨gb, i * 3 + 1, none⟩ = some (.slice none 0 0) := by
        rw [k1, List.getD_eq_getElem?_getD, List.getElem?_eq_none (by omega)]; rfl
      have hab : ab = some ⟨gb, 0, none⟩ := by
        rw [hvB] at hv2; cases hv2; rfl
      subst hab
      obtain ⟨hvl, hnc, hcm⟩ := sl_len hsl
      have hXs : ∀ k, X k → k < wo.heap.size := fun k hk => (Part.sl 5 ea en ec _).lt hsl k hk
      have hYs : ∀ k, Y k → k < wo.heap.size := fun k hk => (Part.arr _ vB _ _).lt hY k hk
      have hgbY : Y gb := hY.2.1 gb (by rw [hvB]; rfl)
      have HA := Lib.hid hfr
      have HT := Lib.hid (And.intro ht hin)
      have HBt := Lib.hid hBt
      have HXX := Lib.hid hXX
      have HXF := Lib.hid hXF
      have HYF := Lib.hid hYF
      have HYX := Lib.hid hYX
      have HXs := Lib.hid hXs
      have HYs := Lib.hid hYs
      have Hsl := Lib.hid hsl
      have HY := Lib.hid hY
      have HV := Lib.hid hvB
      have Hls := Lib.hid hls
      have HgbY := Lib.hid hgbY
      have Hkf := Lib.hid kf
      have Hgb1 := Lib.hid k1
      have HR := Lib.hid hrow
      have Hng := Lib.hid (And.intro ngX (And.intro ngY hgF))
      have hel' : (en : Int) ≤ 140737488351232 := by omega
      clear hA hA' hrow harr hin ht hT hfr hFO hXs hYs hBd hBt hvB hv2 hA1 hA2 hOb hsl hvl hnc hcm hY hYX hYF hXF hXX kf hgbY ngX ngY hgF hR hYr hXr hRd hRF hRXF
      go_wp2
      obtain ⟨w1, hw1⟩ : ∃ w1, w1 = wo.alloc (.cells #[.slice ea en ec, .slice none 0 0, .int .i64 (ek : Nat)] 241) := ⟨_, rfl⟩
      have t1 : Touch No wo w1 := by rw [hw1]; exact (Touch.refl No wo).alloc _
      have b2 : w1.cell? ⟨wo.heap.size, 2, none⟩ = some (.int .i64 (ek : Nat)) := by rw [hw1, cell_new]; rfl
      have T1 := Lib.hid t1
      have B2 := Lib.hid b2
      rw [← hw1]
      obtain ⟨hb, Hhb⟩ : ∃ hb, Hid (hb = wo.heap.size) := ⟨_, rfl⟩
      rw [← Hhb.out] at B2 ⊢
      clear hw1 t1 b2 k0 k1 k2
      have Hc1 := Lib.hid c1
      clear c1
      have HS0 : Hid (∃ Z, (Part.sl 5 ea (en + 0) ec (List.replicate (en + 0) (mkB ek))).P w1 Z ∧ Touch X w1 w1 ∧ Rd w1 ea (List.replicate en (mkB ek)) ∧ ((ea = ea ∧ Z = X) ∨ ∀ k, Z k → w1.heap.size ≤ k)) :=
        ⟨X, (Part.sl 5 ea en ec _).stable Hsl.out T1.out (fun _ _ f => f), Touch.refl _ _, (sl_rd Hsl.out).no T1.out, Or.inl ⟨rfl, rfl⟩⟩
      go_loopg [4, 5] 40 (fun g' s4 s5 wr => ∃ (k : Nat) (a' : Option Addr) (c' : Nat), k + g' = 40 ∧ s5 = .int .i64 ((k : Nat) : Int) ∧ s4 = .slice a' (en + k) c' ∧ Hid (∃ Z, (Part.sl 5 a' (en + k) c' (List.replicate (en + k) (mkB ek))).P wr Z ∧ Touch X w1 wr ∧ Rd wr ea (List.replicate en (mkB ek)) ∧ ((a' = ea ∧ Z = X) ∨ ∀ k, Z k → w1.heap.size ≤ k)))
      case atStart => exact ⟨0, ea, ec, by omega, rfl, rfl, HS0⟩
      case round =>
        obtain ⟨k, a', c', hk, rfl, rfl, hU⟩ := hrel
        obtain ⟨Z, hz, htX, hrE, hzz⟩ := hU.out
        have nh : ¬ X hb := fun h => by have := HXs.out hb h; have := Hhb.out; omega
        have b2 := htX.cell nh B2.out
        cases gk with
        | zero =>
          obtain rfl : k = 40 := by omega
          have hb0 := Hhb.out
          have hXo : ∀ k, X k → k < wo.heap.size := HXs.out
          have ngb : ¬ X gb := fun h => HYX.out gb HgbY.out (HXX.out gb h)
          have ng : ¬ X g := Hng.out.1
          have c1 := htX.cell ng (T1.out.cell (id : No g → False) Hc1.out)
          have g1 := htX.cell ngb (T1.out.cell (id : No gb → False) Hgb1.out)
          have gf : wr.frozen? ⟨gb, i * 3 + 1, none⟩ = false := ((htX.frozen (lt_of_cell (T1.out.cell (id : No gb → False) Hgb1.out)) ngb _).trans (T1.out.frozen (lt_of_cell Hgb1.out) (id : No gb → False) _)).trans Hkf.out
          have HZ := Lib.hid hz
          have HtX := Lib.hid htX
          have HrE := Lib.hid hrE
          have Hzz := Lib.hid hzz
          have Hg1 := Lib.hid g1
          clear hz htX hrE hzz hU nh b2 hb0 hXo ng ngb
          go_wp2
          obtain ⟨w5, hw5⟩ : ∃ w5, w5 = wr.setCell ⟨gb, i * 3 + 1, none⟩ (.slice a' (en + 40) c') := ⟨_, rfl⟩
          have tB : Touch (One gb) wr w5 := by rw [hw5]; exact (Touch.refl (One gb) wr).setCell (p := ⟨gb, i * 3 + 1, none⟩) (fun _ => rfl) _
          have HT5 : Hid (TurnsL wo F [Part.row g 71 (bookCells n vB vI vN vD), Part.arr 241 vB B.length (heMid B (ls ++ [.slice a' (en + 40) c'])), Part.gr 5 mkB ⟨ea, en, ec, ek⟩ (.slice a' (en + 40) c')] w5) := by
            have hs1 := T1.out.size
            have hsr := HtX.out.size
            have nX : ¬ X gb := fun h => HYX.out gb HgbY.out (HXX.out gb h)
            have nZ : ∀ k, k < wo.heap.size → ¬ X k → ¬ Z k := fun k hk h hz => by
              rcases Hzz.out with ⟨_, e⟩ | e
              · rw [e] at hz; exact h hz
              · have := e k hz; omega
            have nZ' : ¬ Z gb := nZ gb (HYs.out gb HgbY.out) nX
            have tF : Touch F wo w5 := (((T1.out.no : Touch F wo w1).then HtX.out (fun k _ h => HXF.out k (HXX.out k h)))).then tB (fun k _ e => by have e2 : k = gb := e; rw [e2]; exact HYF.out gb HgbY.out)
            have hgl : g < wo.heap.size := HR.out.1.lt
            have ngb2 : g ≠ gb := fun e => Hng.out.2.1 (by rw [e]; exact HgbY.out)
            have hrow5 : Row w5 g 71 (bookCells n vB vI vN vD) := ((HR.out.1.touch T1.out id).touch HtX.out Hng.out.1).touch tB ngb2
            have hY5 : (Part.arr 241 vB B.length (heMid B (ls ++ [.slice a' (en + 40) c']))).P w5 Y := by
              have h1 := (Part.arr 241 vB B.length (heMid B ls)).stable ((Part.arr 241 vB B.length (heMid B ls)).stable HY.out T1.out (fun _ _ f => f)) HtX.out (fun k hk h => HYX.out k hk (HXX.out k h))
              rw [HV.out] at h1 ⊢
              have h2 := arr_set h1 (j := i * 3 + 1) (by have := HM.out; omega) (.slice a' (en + 40) c')
              have h3 := heMid_set B ls (.slice a' (en + 40) c') (by rw [Hls.out]; exact hil)
              rw [Hls.out] at h3
              rw [← h3, hw5]
              exact h2
            have hrE5 : Rd w5 ea (List.replicate en (mkB ek)) := by
              rcases Nat.eq_zero_or_pos en with h0 | h0
              · rw [h0]; exact Rd.nil _ _
              · refine HrE.out.touch tB (fun b o he _ e => ?_)
                have e2 : b = gb := e
                subst he
                have := sl_own Hsl.out (by have := (sl_len Hsl.out).2.1; omega)
                exact nX (e2 ▸ this)
            have hrZ5 : Rd w5 a' (List.replicate (en + 40) (mkB ek)) := (sl_rd HZ.out).touch tB (fun b o he _ e => by
              have e2 : b = gb := e
              subst he
              have := sl_own HZ.out (by have := (sl_len HZ.out).2.1; omega)
              exact nZ' (e2 ▸ this))
            have hzlt : ∀ k, Z k → k < wr.heap.size := fun k hk => (Part.sl _ _ _ _ _).lt HZ.out k hk
            have h5s := tB.size
            refine ⟨tF, fun k => k = g ∨ (Y k ∨ (X k ∨ Z k)), ⟨fun k => k = g, fun k => Y k ∨ (X k ∨ Z k), ⟨hrow5, rfl, fun k hk => by rw [hk]; exact hrow5.lt⟩, ⟨Y, fun k => X k ∨ Z k, hY5, ⟨fun k => X k ∨ Z k, fun _ => False, ⟨⟨a', c', rfl, hrE5, hrZ5, fun q o he h0 => ?_, fun q o he => ?_⟩, fun k hk => ?_⟩, trivial, fun _ _ f => f, fun _ h => h, fun _ f => f.elim⟩, fun k hk h => ?_, fun k hk => Or.inl hk, fun k hk => Or.inr hk⟩, fun k hk h => ?_, fun k hk => Or.inl hk, fun k hk => Or.inr hk⟩, fun k hk => ?_⟩
            · dsimp only at he h0
              subst he
              exact Or.inl (sl_own Hsl.out (by have := (sl_len Hsl.out).2.1; omega))
            · subst he
              exact Or.inr (sl_own HZ.out (by have := (sl_len HZ.out).2.1; omega))
            · rcases hk with hk | hk
              · have := HXs.out k hk; omega
              · have := hzlt k hk; omega
            · rcases h with h | h
              · exact HYX.out k hk (HXX.out k h)
              · exact nZ k (HYs.out k hk) (fun h2 => HYX.out k hk (HXX.out k h2)) h
            · rw [hk] at h
              rcases h with h | h | h
              · exact Hng.out.2.1 h
              · exact Hng.out.1 h
              · exact nZ g hgl Hng.out.1 h
            · rcases hk with hk | hk | hk | hk
              · rw [hk]; exact Or.inl Hng.out.2.2
              · exact Or.inl (HYF.out k hk)
              · exact Or.inl (HXF.out k (HXX.out k hk))
              · rcases Hzz.out with ⟨_, e⟩ | e
                · rw [e] at hk; exact Or.inl (HXF.out k (HXX.out k hk))
                · have := e k hk; exact Or.inr (by omega)
          have HN : Hid (∃ ls : List Value, ls.length = i + 1 ∧ TurnsL w O (Part.row g 71 (bookCells n vB vI vN vD) :: Part.arr 241 vB B.length (heMid B ls) :: (List.zipWith (Part.gr 5 mkB) (B.take (i + 1)) ls ++ (B.drop (i + 1)).map (Part.full 5 mkB))) w5) := by
            refine ⟨ls ++ [.slice a' (en + 40) c'], by rw [List.length_append, Hls.out]; rfl, ?_⟩
            have h1 := (TurnsL.comp HT.out.1 HT.out.2 (HA.out w5 _ HT5.out)).perm (perm_mid3 _ _ (List.zipWith (Part.gr 5 mkB) (B.take i) ls) _ _).symm
            rw [HBt.out, zip_snoc _ (by rw [List.length_take, Hls.out]; omega), List.append_assoc]
            exact h1
          rw [← hw5]
          clear HT5 tB hw5 c1 g1 gf
          go_roundg gk
          case measure => omega
          case rel => exact ⟨i + 1, by omega, by go_num, HN⟩
        | succ g' =>
          have hk40 : (k : Int) < 40 := by omega
          have HZ := Lib.hid hz
          have HtX := Lib.hid htX
          have HrE := Lib.hid hrE
          have Hzz := Lib.hid hzz
          clear hz htX hrE hzz hU nh
          go_wp2_with (first
            | (go_at_call 179; refine (markByte_at _ ek hek).mono ?_; rintro e w' ⟨rfl, rfl⟩)
            | (at_builtin; refine wpList_append_sl rfl _ _ _ rfl 5 IU (.int .u8 0) 1 Tryz.underlying39 HIU.out.1 HIU.out.2.1 HIU.out.2.2.1 HIU.out.2.2.2 rfl a' (en + k) c' (List.replicate (en + k) (mkB ek)) Z (.int .u8 ((ek % 256 : Nat) : Int)) HZ.out rfl rfl rfl (by unfold maxLen; omega) (by omega) ?_; intro a2 c2 w2 Z2 hz2 ht2 hzz2))
          have HN : Hid (∃ Z, (Part.sl 5 a2 (en + (k + 1)) c2 (List.replicate (en + (k + 1)) (mkB ek))).P w2 Z ∧ Touch X w1 w2 ∧ Rd w2 ea (List.replicate en (mkB ek)) ∧ ((a2 = ea ∧ Z = X) ∨ ∀ k, Z k → w1.heap.size ≤ k)) := by
            have hz3 : (Part.sl 5 a2 (en + (k + 1)) c2 (List.replicate (en + (k + 1)) (mkB ek))).P w2 Z2 := by
              rw [show en + (k + 1) = (en + k) + 1 by omega, List.replicate_succ']; exact hz2
            have hsz := HtX.out.size
            refine ⟨Z2, hz3, HtX.out.then ht2 (fun q hq hZ => ?_), ?_, ?_⟩
            · rcases Hzz.out with ⟨_, h⟩ | h
              · rw [← h]; exact hZ
              · have := h q hZ; omega
            · rcases hzz2 with ⟨ha, hZ⟩ | ⟨hno, _⟩
              · rcases Hzz.out with ⟨h1, h2⟩ | h
                · have := (sl_rd hz3).take en
                  rw [List.take_replicate, show min en (en + (k + 1)) = en by omega, ha, h1] at this
                  exact this
                · rcases Nat.eq_zero_or_pos en with h0 | h0
                  · rw [h0]; exact Rd.nil _ _
                  · refine HrE.out.touch ht2 (fun b o he hb2 hZb => ?_)
                    have h3 := h b hZb
                    subst he
                    have h4 := rd_lt ((sl_rd Hsl.out).no T1.out) (by rw [List.length_replicate]; exact h0)
                    omega
              · exact HrE.out.no hno
            · rcases hzz2 with ⟨ha, hZ⟩ | ⟨_, hge⟩
              · rcases Hzz.out with ⟨h1, h2⟩ | h
                · exact Or.inl ⟨ha.trans h1, hZ.trans h2⟩
                · exact Or.inr (by rw [hZ]; exact h)
              · exact Or.inr (fun q hq => Nat.le_trans hsz (hge q hq))
          clear hz2 ht2 hzz2
          go_wp2
          go_roundg g'
          case measure => omega
          case rel => exact ⟨k + 1, a2, c2, by omega, by go_num, rfl, HN⟩
end Go.Proofs.YtnffigfafalocaaGreatDoor
