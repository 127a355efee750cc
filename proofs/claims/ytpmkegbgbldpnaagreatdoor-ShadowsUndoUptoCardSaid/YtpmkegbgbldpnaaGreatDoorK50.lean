/-
  ShadowsUndo proved: what is put, and undone, leaves all as it was, free pages, too; commits that change nothing leave as many free as there were: the given card of the form 'upto' (what is read is of bulk at most 1048576). No condition of our own.
  Layer 18's law: what a store has.
  Package drydocklaw18 by its own text: the walk of ShadowsUndo.
-/
import Derived.Test.YtpmkegbgbldpnaaGreatDoorK49
import Derived.Test.YtpmkegbgbldpnaaGreatDoorK02
import Derived.Deep.DeepCutAuto
import Derived.Deep.CutBlock
import Derived.Lib.SmallJoins
import Derived.Test.YtpmkegbgbldpnaaGreatDoorK48
namespace Go.Proofs.YtpmkegbgbldpnaaGreatDoor
open Go Go.RowKit
set_option linter.unusedSimpArgs false
set_option linter.unusedVariables false
section
variable {w0 w w' : World} {s d f : Nat} {T : Sh.Sto} {E : List Part}
set_option maxRecDepth 100000 in
set_option maxHeartbeats 8000000 in
theorem shHas {kc : List (Nat × List Nat)} (h : Sg true w0 w s d f T E) (a : Option Addr) (n c : Nat) (l : List TgDeed) (hT : Sh.Has T (Sh.putC [] l) kc) (hl : TgAny w0 s d E a l) (hg : TgGood w0 l) (hn : l.length = n) (hnm : (n : Int) ≤ 1000000000000) (hb : ∀ x ∈ l, x.b.length ≤ 65536) :
    Calls Tryz.prog 23 #[.pointer (some ⟨s, 0, none⟩), .slice a n c] w fun e w' => e = .returned (.bool true) ∧ Sg true w0 w' s d f T E := by
  have H := Lib.hid h
  have HL := Lib.hid hl
  have HG := Lib.hid hg
  have HN := Lib.hid hn
  have HT := Lib.hid hT
  have HB := Lib.hid hb
  have HC : Hid (T.now.length = Sh.cnt l) := by show _ = _; rw [hT.len, Sh.putC_len]
  have HCl : Hid (Sh.cnt l ≤ n) := by show _ ≤ _; rw [← hn]; exact Sh.cnt_le l
  clear h hl hg hn hT hb
  go_enter Tryz.func23, Tryz.ntmps23
  go_wp2
  go_loopg [5, 6] n (fun g s5 s6 wr => ∃ k m : Nat, k + g = n ∧ s6 = .int .i64 ((k : Nat) : Int) ∧ s5 = .int .i64 ((m : Nat) : Int) ∧ Hid (m + Sh.cnt (l.drop k) = Sh.cnt l) ∧ Hid (Sg true w0 wr s d f T E))
  case atStart => exact ⟨0, 0, by omega, rfl, rfl, by show _ = _; rw [List.drop_zero, Nat.zero_add], H.out⟩
  case round =>
    clear H
    obtain ⟨k, m, hkn, rfl, rfl, HM, HS⟩ := hrel
    cases gk with
    | zero =>
      obtain rfl : k = n := by omega
      have e : T.now.length = m := by
        have h1 := HM.out
        rw [List.drop_of_length_le (by rw [HN.out]; exact Nat.le_refl _)] at h1
        rw [HC.out, ← h1]; rfl
      have C := Ss.idsC HS.out HT.out.ok
      rw [e] at C
      have CC := Lib.hid C
      clear e C HM
      go_wp2_with fail
      refine CC.out.mono ?_
      rintro e w1 ⟨⟨b1, rfl⟩, s1⟩
      have S1 := Lib.hid s1
      clear s1 CC HS
      go_wp2
      go_ret
      exact ⟨rfl, S1.out⟩
    | succ g =>
      have hki : (k : Int) < (n : Nat) := by omega
      have hkl : k < l.length := by rw [HN.out]; omega
      obtain ⟨x, hx⟩ : ∃ x, l[k] = x := ⟨_, rfl⟩
      have hcd := Sh.cnt_drop hkl
      have hlk := Sh.look_last hkl
      rw [hx] at hcd hlk
      obtain ⟨g0, o0, ha, hA⟩ := HL.out _ _ _ HS.out k x (by rw [List.getElem?_eq_getElem hkl, hx])
      subst ha
      have hmem : x ∈ l := by rw [← hx]; exact List.getElem_mem hkl
      have hGx := HG.out x hmem
      have HBx : Hid (x.b.length ≤ 65536) := HB.out x hmem
      have HAn : Hid (∀ w' f' T', Sg true w0 w' s d f' T' E → ∀ i, i < n → ∃ y : Nat, (∀ hi : i < l.length, l[i].id = y) ∧ w'.cell? ⟨g0, o0 + i * 2, none⟩ = some (.int .u32 (y : Nat))) := fun w' f' T' h i hi => by
        have hil : i < l.length := by rw [HN.out]; exact hi
        obtain ⟨c, o, e, hc⟩ := HL.out _ _ _ h i l[i] (by rw [List.getElem?_eq_getElem hil])
        simp only [Option.some.injEq, Addr.mk.injEq, and_true] at e
        obtain ⟨rfl, rfl⟩ := e
        exact ⟨l[i].id, fun _ => rfl, hc 0 (by decide)⟩
      have HX : Hid (∀ w' f' T', Sg true w0 w' s d f' T' E → w'.cell? ⟨g0, o0 + k * 2, none⟩ = some (.int .u32 (x.id : Nat)) ∧ w'.cell? ⟨g0, o0 + k * 2 + 1, none⟩ = some (.slice x.b_a x.b.length x.b_cap)) := fun w' f' T' h => by
        obtain ⟨c, o, e, hc⟩ := HL.out _ _ _ h k x (by rw [List.getElem?_eq_getElem hkl, hx])
        simp only [Option.some.injEq, Addr.mk.injEq, and_true] at e
        obtain ⟨rfl, rfl⟩ := e
        exact ⟨hc 0 (by decide), hc 1 (by decide)⟩
      have HCD := Lib.hid hcd
      have HLK := Lib.hid hlk
      have HGx := Lib.hid hGx
      have HKL := Lib.hid hkl
      clear hA hcd hlk hGx hmem hx hkl
      go_wp2
      obtain ⟨wo, rfl⟩ : ∃ wo : World, wo = wr := ⟨_, rfl⟩
      go_loopg [7, 8] (n - (k + 1)) (fun g2 s7 s8 wy => ∃ (j : Nat) (b : Bool), j + g2 = n ∧ k < j ∧ s7 = .bool b ∧ s8 = .int .i64 ((j : Nat) : Int) ∧ Hid ((b || (l.drop j).any (fun y => y.id == x.id)) = (l.drop (k + 1)).any (fun y => y.id == x.id)) ∧ Hid (Sg true w0 wy s d f T E))
      case atStart => exact ⟨k + 1, false, by omega, by omega, rfl, by go_num, by show _ = _; rw [Bool.false_or], HS.out⟩
      case round =>
        clear HS
        obtain ⟨j, b, hjn, hkj, rfl, rfl, HJ, HS⟩ := hrel
        cases gk with
        | zero =>
          obtain rfl : j = n := by omega
          have hlast : (l.drop (k + 1)).any (fun y => y.id == x.id) = b := by
            have := HJ.out
            rw [List.drop_of_length_le (by rw [HN.out]; exact Nat.le_refl _)] at this
            simpa using this.symm
          have hM := HCD.out
          have hK := HLK.out
          rw [hlast] at hM hK
          clear HJ hlast HCD HLK
          cases b with
          | true =>
            have HM2 : Hid (m + Sh.cnt (l.drop (k + 1)) = Sh.cnt l) := by show _ = _; have h1 := HM.out; have h2 : Sh.cnt (l.drop k) = 0 + Sh.cnt (l.drop (k + 1)) := hM; omega
            clear hM hK HM
            go_wp2
            go_roundg g
            case measure => omega
            case rel => exact ⟨k + 1, m, by omega, by go_num, rfl, HM2.out, HS.out⟩
          | false =>
            have HM2 : Hid (m + 1 + Sh.cnt (l.drop (k + 1)) = Sh.cnt l) := by show _ = _; have h1 := HM.out; have h2 : Sh.cnt (l.drop k) = 1 + Sh.cnt (l.drop (k + 1)) := hM; omega
            have hmn : (m : Int) + 1 ≤ 1000000000000 := by have h1 := HM2.out; have := HCl.out; omega
            obtain ⟨g1, g2⟩ := HT.out.get (hK rfl)
            have CG : Hid (Calls Tryz.prog 15 #[.pointer (some ⟨s, 0, none⟩), .int .u32 (x.id : Nat)] wr fun e w' => ∃ b, e = .returned (.tuple #[.slice b x.b.length x.b.length, .int .i64 0]) ∧ Sg true w0 w' s d f T (Part.sl 5 b x.b.length x.b.length (nums .u8 x.b) :: E)) := by
              refine (Ss.get HS.out HT.out.ok x.id HGx.out.1).mono ?_
              rintro e w' ⟨b, k, he, hk, h⟩
              rw [g2] at hk h
              rw [g1] at he
              subst hk
              exact ⟨b, he, h⟩
            obtain ⟨c0, c1⟩ := HX.out _ _ _ HS.out
            clear hM hK HM g1 g2
            obtain ⟨nb, hnb⟩ : ∃ nb, x.b.length = nb := ⟨_, rfl⟩
            have Hnb := Lib.hid hnb
            rw [hnb] at CG c1
            clear hnb
            go_wp2_with fail
            refine CG.out.mono ?_
            rintro e w1 ⟨b1, rfl, s1⟩
            obtain ⟨c0, c1⟩ := HX.out _ _ _ (Sg.drop s1)
            rw [Hnb.out] at c1
            have C2 := Lib.hid (sameB_any w1 b1 x.b_a nb nb x.b_cap x.b Hnb.out (by have := HBx.out; have := Hnb.out; omega) (s1.rd List.mem_cons_self) (HGx.out.2.1.no s1.end))
            have S1 := Lib.hid (Sg.drop s1)
            clear s1 CG HS
            go_wp2_with fail
            refine C2.out.mono ?_
            rintro e w2 ⟨rfl, t2⟩
            have S2 := Lib.hid (S1.out.no t2)
            clear t2 C2 S1 c0 c1
            go_wp2
            go_roundg g
            case measure => omega
            case rel => exact ⟨k + 1, m + 1, by omega, by go_num, by go_num, HM2.out, S2.out⟩
        | succ g2 =>
          have hjl : j < l.length := by rw [HN.out]; omega
          obtain ⟨y, hy, cy⟩ := HAn.out _ _ _ HS.out j (by omega)
          obtain ⟨c0, c1⟩ := HX.out _ _ _ HS.out
          have hdr := Sh.any_drop hjl x.id
          rw [hy hjl] at hdr
          have hj1 : (j : Int) < (n : Nat) := by omega
          have HJ2 : Hid ((b || (decide (y = x.id) || (l.drop (j + 1)).any (fun y => y.id == x.id))) = (l.drop (k + 1)).any (fun y => y.id == x.id)) := by show _ = _; rw [← hdr]; exact HJ.out
          have HSd := Lib.hid (HS.out.no (Touch.refl No wr).drew)
          clear hdr hy hjl HJ
          obtain ⟨xi, hxi⟩ : ∃ xi, x.id = xi := ⟨_, rfl⟩
          have Hxi := Lib.hid hxi
          rw [hxi] at c0 HJ2
          clear hxi
          cases b with
          | true =>
            go_wp2_with fail
            go_quiet (fail)
            go_wp2
            go_roundg g2
            case measure => omega
            case rel => exact ⟨j + 1, true, by omega, by omega, rfl, by go_num, by have := HJ2.out; rw [← Hxi.out] at this; rw [Bool.true_or] at this ⊢; exact this, by first | exact HSd.out | exact HS.out.no ((Touch.refl No _).drewN _)⟩
          | false =>
            by_cases e : y = xi
            · subst e
              have HJ3 : Hid ((true || (l.drop (j + 1)).any (fun z => z.id == x.id)) = (l.drop (k + 1)).any (fun z => z.id == x.id)) := by have := HJ2.out; rw [decide_eq_true rfl, Bool.false_or, ← Hxi.out] at this; exact this
              clear HJ2
              go_wp2_with fail
              go_quiet (fail)
              go_wp2
              go_roundg g2
              case measure => omega
              case rel => exact ⟨j + 1, true, by omega, by omega, rfl, by go_num, HJ3.out, by first | exact HSd.out | exact HS.out.no ((Touch.refl No _).drewN _)⟩
            · have HJ3 : Hid ((false || (l.drop (j + 1)).any (fun z => z.id == x.id)) = (l.drop (k + 1)).any (fun z => z.id == x.id)) := by have := HJ2.out; rw [decide_eq_false e, Bool.false_or, ← Hxi.out] at this; exact this
              have hne : ((y : Int) == (xi : Int)) = false := by simp; omega
              have He := Lib.hid e
              clear HJ2 e
              go_wp2_with fail
              go_quiet (fail)
              go_wp2
              go_roundg g2
              case measure => omega
              case rel => exact ⟨j + 1, false, by omega, by omega, rfl, by go_num, HJ3.out, by first | exact HSd.out | exact HS.out.no ((Touch.refl No _).drewN _)⟩
end
end Go.Proofs.YtpmkegbgbldpnaaGreatDoor
namespace Go.Proofs.YtpmkegbgbldpnaaGreatDoor
open Go Go.RowKit
set_option linter.unusedSimpArgs false
set_option linter.unusedVariables false
theorem TabAt.no {w w' : World} (h : TabAt w) (t : Touch No w w') : TabAt w' := fun j hj => t.cell (fun f => f) (h j hj)
section
variable {w0 w w' : World} {s d f : Nat} {T : Sh.Sto} {E : List Part}
/-- Undo, where what is committed is known -/
theorem Ss.undoB {c k : List (Nat × List Nat)} {e n : Nat} (h : Sg true w0 w s d f T E) (hB : Sh.Busy T c k e n) : Calls Tryz.prog 22 #[.pointer (some ⟨s, 0, none⟩)] w fun e w' => e = .returned (.int .i64 0) ∧ ∃ f', Sg true w0 w' s d f' (Sh.undoT T) E :=
  Ss.undo h hB.has.ok
theorem Ss.comB {c k : List (Nat × List Nat)} {e n : Nat} (h : Sg true w0 w s d f T E) (hB : Sh.Busy T c k e n) (hc : Sh.comE T = 0) (hn : n ≤ 90000) (hTab : TabAt w0) : Calls Tryz.prog 16 #[.pointer (some ⟨s, 0, none⟩)] w fun e w' => e = .returned (.int .i64 0) ∧ ∃ f', Sg true w0 w' s d f' (Sh.comT T) E := by
  have := Ss.commit h hB.has.ok hTab (Nat.le_trans hB.waits hn)
  rw [hc] at this
  exact this
theorem Ss.freeB {c : List (Nat × List Nat)} {e n : Nat} (h : Sg true w0 w s d f T E) {F : Nat} (hF : (Fr.lst T.S).length = F) : Calls Tryz.prog 20 #[.pointer (some ⟨s, 0, none⟩)] w fun e w' => e = .returned (.int .i64 (F : Nat)) ∧ w = w' := by
  have := Ss.freeC h
  rw [hF] at this
  exact this
end
set_option maxRecDepth 100000 in
set_option maxHeartbeats 16000000 in
theorem shadowsUndo_walk (w : World) (al : Option Addr) (nl cl : Nat) (l : List TgDeed) (hl : IsTgDeeds w al l) (hnl : l.length = nl) (hbl : Sh.bulk l ≤ 1000000000)
    (am : Option Addr) (nm cm : Nat) (m : List TgDeed) (hm : IsTgDeeds w am m) (hnm : m.length = nm) (hbm : Sh.bulk m ≤ 1000000000)
    (ag : Option Addr) (ng cg : Nat) (gs : List Nat) (hg : Bytes w ag ng cg gs) (hTab : TabAt w) :
    Calls Tryz.prog 4 #[.slice al nl cl, .slice am nm cm, .slice ag ng cg] w (LawPost w) := by
  have HL := Lib.hid hl
  have HNL := Lib.hid hnl
  have HM := Lib.hid hm
  have HNM := Lib.hid hnm
  have HG := Lib.hid hg
  have HTab := Lib.hid hTab
  have HLg := Lib.hid hl.good
  have HMg := Lib.hid hm.good
  have FL : Hid (∀ w1, Touch No w w1 → Calls Tryz.prog 18 #[.slice al nl cl] w1 fun e w' => e = .returned (.bool (decide ((Sh.bulk l : Int) ≤ 15000))) ∧ w1 = w') := fun w1 t => shFit w1 al nl cl l (hl.touch t) hnl (by omega)
  have FM : Hid (∀ w1, Touch No w w1 → Calls Tryz.prog 18 #[.slice am nm cm] w1 fun e w' => e = .returned (.bool (decide ((Sh.bulk m : Int) ≤ 15000))) ∧ w1 = w') := fun w1 t => shFit w1 am nm cm m (hm.touch t) hnm (by omega)
  have hgn : (ng : Int) ≤ 140737488351232 := hg.nlow
  clear hl hnl hm hnm hg hTab hbl hbm
  go_enter Tryz.func4, Tryz.ntmps4
  go_wp2_with fail
  refine (shOpened w 1200 (by decide) (by decide)).mono ?_
  rintro e w1 ⟨d, s, f1, rfl, s1⟩
  have S1 := Lib.hid s1
  clear s1
  obtain ⟨bl, hbl⟩ : ∃ b : Bool, decide ((Sh.bulk l : Int) ≤ 15000) = b := ⟨_, rfl⟩
  obtain ⟨bm, hbm⟩ : ∃ b : Bool, decide ((Sh.bulk m : Int) ≤ 15000) = b := ⟨_, rfl⟩
  have FL2 := FL.out w1 S1.out.end
  have FM2 := FM.out w1 S1.out.end
  rw [hbl] at FL2
  rw [hbm] at FM2
  have FL2 := Lib.hid FL2
  have FM2 := Lib.hid FM2
  have Hbl := Lib.hid hbl
  have Hbm := Lib.hid hbm
  clear hbl hbm FL FM
  have dead : Hid (Calls Tryz.prog 11 #[] w1 (LawPost w1)) := shLives w1 (HTab.out.no S1.out.end)
  have T1 : Hid (Touch No w w1) := S1.out.end
  go_wp2_with fail
  refine FL2.out.mono ?_
  rintro e w' ⟨rfl, rfl⟩
  cases bl with
  | false =>
    go_wp2_with fail
    refine dead.out.mono ?_
    rintro e wz ⟨rfl, tz⟩
    go_wp2
    go_ret
    exact ⟨rfl, T1.out.trans tz⟩
  | true =>
    go_wp2_with fail
    refine FM2.out.mono ?_
    rintro e w' ⟨rfl, rfl⟩
    cases bm with
    | false =>
      go_wp2_with fail
      refine dead.out.mono ?_
      rintro e wz ⟨rfl, tz⟩
      go_wp2
      go_ret
      exact ⟨rfl, T1.out.trans tz⟩
    | true =>
      by_cases hg60 : (60 : Int) < (ng : Nat)
      · go_wp2_with fail
        refine dead.out.mono ?_
        rintro e wz ⟨rfl, tz⟩
        go_wp2
        go_ret
        exact ⟨rfl, T1.out.trans tz⟩
      · have fl : Sh.Fits l := Sh.fits_of (by have := of_decide_eq_true Hbl.out; omega) (fun x hx => (HLg.out x hx).1)
        have fm : Sh.Fits m := Sh.fits_of (by have := of_decide_eq_true Hbm.out; omega) (fun x hx => (HMg.out x hx).1)
        obtain ⟨p1, p2⟩ := Sh.first_put (by have := fl.len; omega) (by have := fl.pgs; omega) fl.each
        obtain ⟨h1, h2, h3, h4⟩ := p2 _ rfl
        have hnl30 : (nl : Int) ≤ 30 := by have := fl.len; have := HNL.out; omega
        have hnm30 : (nm : Int) ≤ 30 := by have := fm.len; have := HNM.out; omega
        have CP := Lib.hid (shPutAll S1.out HTab.out al nl cl l HL.out.any HLg.out HNL.out (by omega) p1)
        obtain ⟨T2, hT2⟩ : ∃ T2, T2 = Sh.putAll (Sh.newS (Dk.new 1200)) l := ⟨_, rfl⟩
        rw [← hT2] at CP h1 h2 h3 h4
        obtain ⟨c, hc⟩ : ∃ c, c = Sh.putC [] l := ⟨_, rfl⟩
        rw [← hc] at h1 h4
        have Hc := Lib.hid hc
        have Hsm : Hid (Sh.Small c 31 79) := by show Sh.Small _ _ _; rw [hc]; exact fl.small.mono (by decide) (by decide)
        have H1 := Lib.hid h1
        have H2 := Lib.hid h2
        have H3 := Lib.hid h3
        have H4 := Lib.hid h4
        have Fm := Lib.hid fm
        have Fl := Lib.hid fl
        clear p1 p2 h1 h2 h3 h4 hT2 hc fl fm FL2 FM2 dead Hbl Hbm
        go_wp2_with fail
        refine CP.out.mono ?_
        rintro e w2 ⟨rfl, s2⟩
        have S2 := Lib.hid s2
        have CC : Hid (Calls Tryz.prog 16 #[.pointer (some ⟨s, 0, none⟩)] w2 fun e w' => e = .returned (.int .i64 0) ∧ ∃ f', Sg true w w' s d f' (Sh.comT T2) []) := by
          have := Ss.commit s2 H1.out.ok HTab.out (by have := H2.out; omega)
          rw [H3.out] at this
          exact this
        clear s2 CP S1 T1
        go_wp2_with fail
        refine CC.out.mono ?_
        rintro e w3 ⟨rfl, f3, s3⟩
        obtain ⟨F, hF⟩ : ∃ F, (Fr.lst (Sh.comT T2).S).length = F := ⟨_, rfl⟩
        have HF : Hid (∀ T' e' n', Sh.Calm T' c e' n' → (Fr.lst T'.S).length = F) := fun T' e' n' h => by rw [← hF]; exact H4.out.free_eq h
        have C3 := Lib.hid (Ss.freeB (c := c) (e := 0) (n := 0) s3 hF)
        have S3 := Lib.hid s3
        clear s3 CC S2 H1 H2 H3 hF
        go_wp2_with fail
        refine C3.out.mono ?_
        rintro e w' ⟨rfl, rfl⟩
        clear C3
        go_wp2
        go_loopg [10] 2 (fun g s10 wr => ∃ (k : Nat) (T : Sh.Sto) (f' : Nat), k + g = 2 ∧ s10 = .int .i64 ((k : Nat) : Int) ∧ Hid (Sh.Calm T c (k + 1) 0) ∧ Hid (Sg true w wr s d f' T []))
        case atStart => exact ⟨0, _, _, by omega, rfl, H4.out, S3.out⟩
        case round =>
          clear S3 H4
          obtain ⟨k, T, f', hk2, rfl, HC, HS⟩ := hrel
          cases gk with
          | zero =>
            obtain rfl : k = 2 := by omega
            have CE : Hid (Calls Tryz.prog 24 #[.pointer (some ⟨s, 0, none⟩)] wr fun e w' => e = .returned (.int .u32 3) ∧ wr = w') := by
              have := Ss.epochC HS.out
              rw [HC.out.ep] at this
              exact this
            have dead : Hid (Calls Tryz.prog 11 #[] wr (LawPost wr)) := shLives wr (HTab.out.no HS.out.end)
            go_wp2_with fail
            refine CE.out.mono ?_
            rintro e w' ⟨rfl, rfl⟩
            go_wp2_with fail
            refine dead.out.mono ?_
            rintro e wz ⟨rfl, tz⟩
            go_wp2
            go_ret
            exact ⟨rfl, HS.out.end.trans tz⟩
          | succ g =>
            have hk3 : (k : Int) < 2 := by omega
            obtain ⟨q1, q2⟩ := HC.out.put Hsm.out Fm.out (by decide)
            have CP := Lib.hid (shPutAll HS.out HTab.out am nm cm m HM.out.any HMg.out HNM.out (by omega) q1)
            have Q2 := Lib.hid q2
            clear q1 q2
            go_wp2_with fail
            refine CP.out.mono ?_
            rintro e w4 ⟨rfl, s4⟩
            have S4 := Lib.hid s4
            clear s4 CP
            go_wp2
            obtain ⟨wo, rfl⟩ : ∃ wo : World, wo = w4 := ⟨_, rfl⟩
            obtain ⟨U, hU⟩ : ∃ U, U = Sh.putAll T m := ⟨_, rfl⟩
            obtain ⟨cu, hcu⟩ : ∃ cu, cu = Sh.putC c m := ⟨_, rfl⟩
            have S4 : Hid (Sg true w wo s d f' U []) := by show Sg _ _ _ _ _ _ _ _; rw [hU]; exact S4.out
            have Q2 : Hid (Sh.Busy U cu c (k + 1) 1000) := by show Sh.Busy _ _ _ _ _; rw [hU, hcu]; have := Q2.out; simpa using this
            clear hU hcu HS HC
            go_loopg [11] ng (fun g2 s11 wy => ∃ i : Nat, i + g2 = ng ∧ s11 = .int .i64 ((i : Nat) : Int) ∧ Hid (Sg true w wy s d f' (Sh.delAll U (gs.take i)) []))
            case atStart => exact ⟨0, by omega, rfl, by show Sg _ _ _ _ _ _ _ _; rw [List.take_zero]; exact S4.out⟩
            case round =>
              clear S4
              obtain ⟨i, hin, rfl, HD⟩ := hrel
              cases gk with
              | zero =>
                obtain rfl : i = ng := by omega
                have e : gs.take i = gs := List.take_of_length_le (by rw [HG.out.len]; exact Nat.le_refl _)
                have D1 : Hid (Sg true w wr s d f' (Sh.delAll U gs) []) := by have := HD.out; rw [e] at this; exact this
                have B1 := Lib.hid (Q2.out.dels gs)
                have CU := Lib.hid (Ss.undoB D1.out B1.out)
                have C5 := Lib.hid B1.out.undo
                have hcom := C5.out.com Hsm.out (by omega)
                have Hcom := Lib.hid hcom
                clear e HD hcom D1
                go_wp2_with fail
                refine CU.out.mono ?_
                rintro e w5 ⟨rfl, f5, s5⟩
                have CH := Lib.hid (shHas s5 al nl cl l (by rw [← Hc.out]; exact C5.out.has) HL.out.any HLg.out HNL.out (by omega) (fun x hx => (Fl.out.each x hx).2))
                clear s5 CU
                go_wp2_with fail
                refine CH.out.mono ?_
                rintro e w6 ⟨rfl, s6⟩
                have CF := Lib.hid (Ss.freeB (c := c) (e := 0) (n := 0) s6 (HF.out _ _ _ C5.out))
                have S6 := Lib.hid s6
                clear s6 CH
                go_wp2_with fail
                refine CF.out.mono ?_
                rintro e w' ⟨rfl, rfl⟩
                have CM := Lib.hid (Ss.comB S6.out C5.out.busy Hcom.out.1 (by decide) HTab.out)
                clear CF S6
                go_wp2_with fail
                refine CM.out.mono ?_
                rintro e w7 ⟨rfl, f7, s7⟩
                have CH := Lib.hid (shHas s7 al nl cl l (by rw [← Hc.out]; exact Hcom.out.2.has) HL.out.any HLg.out HNL.out (by omega) (fun x hx => (Fl.out.each x hx).2))
                clear s7 CM
                go_wp2_with fail
                refine CH.out.mono ?_
                rintro e w8 ⟨rfl, s8⟩
                have CF := Lib.hid (Ss.freeB (c := c) (e := 0) (n := 0) s8 (HF.out _ _ _ Hcom.out.2))
                have S8 := Lib.hid s8
                clear s8 CH
                go_wp2_with fail
                refine CF.out.mono ?_
                rintro e w' ⟨rfl, rfl⟩
                clear CF
                go_wp2
                go_roundg g
                case measure => omega
                case rel => exact ⟨k + 1, _, _, by omega, by go_num, Hcom.out.2, S8.out⟩
              | succ g2 =>
                have hig : (i : Int) < (ng : Nat) := by omega
                have hil : i < gs.length := by rw [HG.out.len]; omega
                obtain ⟨gb, go, rfl, hcell⟩ := (HG.out.rd.no HD.out.end).num (i := i) hil
                have hx : gs.getD i 0 = gs[i] := by rw [List.getD_eq_getElem?_getD, List.getElem?_eq_getElem hil]; rfl
                rw [hx] at hcell
                have hsn := Sh.delAll_snoc (T := U) hil
                have hx256 : gs[i] < 256 := HG.out.lt _ (List.getElem_mem hil)
                generalize gs[i] = x at *
                have CD := Ss.del HD.out (Q2.out.dels (gs.take i)).has.ok x (by omega)
                rw [← hsn] at CD
                have CD := Lib.hid CD
                clear hx hsn hil HD
                go_wp2_with fail
                refine CD.out.mono ?_
                rintro e w5 ⟨rfl, s5⟩
                have S5 := Lib.hid s5
                clear s5 CD
                go_wp2
                go_roundg g2
                case measure => omega
                case rel => exact ⟨i + 1, by omega, by go_num, S5.out⟩
end Go.Proofs.YtpmkegbgbldpnaaGreatDoor
namespace Go.Proofs.YtpmkegbgbldpnaaGreatDoor.shadowsUndo
open Go.ChangeShapes Go.WideShapes Go.ChangeAt Go.RowKit

set_option maxRecDepth 100000 in
theorem contract (H : Type) (enc : TypeId × Value → H) (W : World) (base : Nat) (args : Array Value) (ds gs : List (DataW H)) (before : List MemPlace)
    (hval : ∀ (j : Nat) t v, Tryz.f4.params[j]? = some t → args[j]? = some v → Value.okWide Tryz.prog W .any base t v)
    (hW : DataW.Whole enc Tryz.prog Tryz.f4.params.toList Rows.shadowsUndoSpec.vars false W args.toList ds gs before)
    (hz : ∀ n ∈ DataW.weightsEach Tryz.prog Tryz.f4.params.toList ds, n ≤ reachBytes) (hu : Rows.uptoBulkAll ds ≤ 1048576) (hT : TabAt W) :
    Calls Tryz.prog 4 args W fun e W' => ∃ v, e = .returned v ∧ Rows.shadowsUndoSpec.post enc Tryz.prog Tryz.f4 false true false false W args v W' := by
  have hW' := hW
  obtain ⟨p, q, hA0, hV, rfl, hfz, hnd⟩ := hW
  have hA : DataW.TrodAll enc Tryz.prog W 0 (fun _ => true) true Tryz.f4.params.toList args.toList ds p := hA0
  rw [Tryz.params4] at hA hval hz
  obtain ⟨v0, vs0, d0, ds0, p0, q0, hargs, rfl, rfl, h0, r0⟩ := trodAll_cons hA
  obtain ⟨v1, vs1, d1, ds1, p1, q1, rfl, rfl, rfl, h1, r1⟩ := trodAll_cons r0
  obtain ⟨v2, vs2, d2, ds2, p2, q2, rfl, rfl, rfl, h2, r2⟩ := trodAll_cons r1
  obtain ⟨rfl, rfl, rfl⟩ := trodAll_nil r2
  obtain rfl : args = #[v0, v1, v2] := by cases args; simp_all
  obtain ⟨rfl, rfl⟩ := trodVars_none hV
  obtain ⟨a0', len0, cap0', rfl⟩ := okWide_slice Tryz.underlying39 (hval 0 39 v0 rfl rfl)
  obtain ⟨fuel0, hf0⟩ := h0
  have hm0 : Rows.uptoBulk d0 ≤ 1048576 := Nat.le_trans (bulk_part (by simp)) hu
  obtain ⟨a0, n0, c0, l0, hcs0, N0, A0, K0⟩ := open_tg_deedsB hf0 (fun k hk => hz k (by simp only [DataW.weightsEach, List.mem_append]; exact Or.inl hk))
  simp only [Value.cells, List.cons.injEq, Value.slice.injEq, and_true] at hcs0
  obtain ⟨rfl, rfl, rfl⟩ := hcs0
  have B0 : Sh.bulk l0 ≤ 1000000000 := Nat.le_trans (bulk_of_sum l0) (Nat.le_trans (Nat.mul_le_mul_left 500 (Nat.le_trans K0 hm0)) (by decide))
  obtain ⟨a1', len1, cap1', rfl⟩ := okWide_slice Tryz.underlying39 (hval 1 39 v1 rfl rfl)
  obtain ⟨fuel1, hf1⟩ := h1
  have hm1 : Rows.uptoBulk d1 ≤ 1048576 := Nat.le_trans (bulk_part (by simp)) hu
  obtain ⟨a1, n1, c1, l1, hcs1, N1, A1, K1⟩ := open_tg_deedsB hf1 (fun k hk => hz k (by simp only [DataW.weightsEach, List.mem_append]; exact Or.inr (Or.inl hk)))
  simp only [Value.cells, List.cons.injEq, Value.slice.injEq, and_true] at hcs1
  obtain ⟨rfl, rfl, rfl⟩ := hcs1
  have B1 : Sh.bulk l1 ≤ 1000000000 := Nat.le_trans (bulk_of_sum l1) (Nat.le_trans (Nat.mul_le_mul_left 500 (Nat.le_trans K1 hm1)) (by decide))
  obtain ⟨a2', len2, cap2', rfl⟩ := okWide_slice Tryz.underlying22 (hval 2 22 v2 rfl rfl)
  obtain ⟨fuel2, hf2⟩ := h2
  obtain ⟨a2, n2, c2, b2, hcs2, B2⟩ := open_bytes hf2 (fun n hn => hz n (by simp only [DataW.weightsEach, List.mem_append]; have hk := hn; exact Or.inr (Or.inr (Or.inl hk))))
  simp only [Value.cells, List.cons.injEq, Value.slice.injEq, and_true] at hcs2
  obtain ⟨rfl, rfl, rfl⟩ := hcs2
  refine (shadowsUndo_walk W _ _ _ l0 A0 N0 B0 _ _ _ l1 A1 N1 B1 _ _ _ b2 B2 hT).mono fun e W' ⟨he, ht⟩ => ?_
  subst he
  exact ⟨_, rfl, law_post laidOut (by kernel_rfl) rfl (by kernel_rfl) Tryz.underlying4 hW' rfl (ht.below (Nat.le_refl _) (fun _ _ f => f))⟩

theorem laid_met (os : Os) : laidMetH Tryz.prog Rows.shadowsUndoUptoRow.laid ((laidWorldE os).forCall (fun _ _ => 0) ⟨#[], #[.slice none 0 0, .slice none 0 0, .slice none 0 0], []⟩).memory :=
  laidMetH_of_parts (laidMet_of_run' 8 (by kernel_rfl) (by kernel_rfl)) (by kernel_rfl)
theorem reads (os : Os) {H : Type} (enc : TypeId × Value → H) : ∃ places, DataW.whole enc Tryz.prog ((laidWorldE os).forCall (fun _ _ => 0) ⟨#[], #[.slice none 0 0, .slice none 0 0, .slice none 0 0], []⟩).memory Tryz.f4.params.toList Rows.shadowsUndoSpec.vars false #[.slice none 0 0, .slice none 0 0, .slice none 0 0].toList 8 = some ([.nil, .nil, .nil], [], places) :=
  ⟨[], by kernel_rfl⟩

set_option maxRecDepth 100000 in
theorem lifted (os : Os) (started : os.Started) (H : Type) (enc : TypeId × Value → H) (F : Stop.Interp) :
    ReturnsInHanded {} Tryz.checked os 4 .any ((Rows.OpenSpec.upto Rows.shadowsUndoSpec).preRow enc Tryz.prog Tryz.f4 Rows.shadowsUndoUptoRow.domain false Rows.shadowsUndoUptoRow.laid) (((Rows.OpenSpec.upto Rows.shadowsUndoSpec).at F).post enc Tryz.prog Tryz.f4 false true false false) := by
  obtain ⟨places, hx⟩ := reads os enc
  refine returnsInHanded_of_row (C := Tryz.checked) (s := Rows.OpenSpec.upto Rows.shadowsUndoSpec) own started (by kernel_rfl) Tryz.func4
    (witness_row_at (enc := enc) (C := Tryz.checked) false (laidWorldE os) #[.slice none 0 0, .slice none 0 0, .slice none 0 0] rfl (by kernel_rfl) (by kernel_rfl) (by kernel_rfl)
      (OpenSpec.preRow_of_cond 8 hx (by kernel_rfl) (fun k hk => by cases hk; kernel_rfl) (by kernel_rfl) (laid_met os))) ?_
  intro W base args ds gs before hval hW _ hcond hz hL _ _
  have hgs : gs = [] := by obtain ⟨_, _, _, hV, _⟩ := hW; exact (trodVars_none hV).1
  subst hgs
  rw [List.append_nil, show (Rows.OpenSpec.upto Rows.shadowsUndoSpec).bare.plain.varTypes Tryz.checked.prog = [] from rfl, List.append_nil] at hz
  have hu : Rows.uptoBulkAll ds ≤ 1048576 := by have := hcond _ rfl; rw [List.append_nil] at this; exact of_decide_eq_true this
  exact contract H enc W base args ds [] before hval hW (fun n hn => by simpa using List.all_eq_true.1 hz n hn) hu (tab_atE hL)

set_option maxHeartbeats 16000000 in
set_option maxRecDepth 100000 in
theorem facts : joinedFacts Tryz.pinned.checked.prog 4 Tryz.f4 (Rows.OpenSpec.upto Rows.shadowsUndoSpec).bare Rows.shadowsUndoUptoRow = true := by
  unfold joinedFacts
  repeat' (with_reducible refine Bool.and_eq_true_iff.2 ⟨?_, ?_⟩)
  all_goals as_aux_lemma => kernel_rfl

theorem said : Rows.ShadowsUndoUptoSaid :=
  OpenClaim.holds_of_cond 4 Tryz.f4 rfl rfl rfl rfl rfl rfl rfl ⟨rfl, rfl, rfl, rfl, rfl⟩ rfl rfl rfl rfl rfl (by kernel_rfl) Tryz.func4 facts
    (of_decide_eq_true (by kernel_rfl)) (by unfold Func.isWrapper; first | (rw [if_pos (by decide +kernel)]; kernel_rfl) | (rw [if_neg (by decide +kernel)]; exact ⟨rfl, rfl⟩))
    (fun os started H enc _ F => by rw [OpenClaim.pre_eq_preRow]; exact lifted os started H enc F)

theorem plain (f : FuncId) (fn : Func) (hf : Tryz.pinned.checked.prog.funcNamed "drydock/drydocklaw18.ShadowsUndo" = some f) (hfn : Tryz.pinned.checked.prog.funcs[f]? = some fn) :
    true = Tryz.pinned.checked.prog.looks [] ∧ ∀ (j : Nat) t, fn.params[j]? = some t → Tryz.pinned.checked.prog.wantsStandIn t = false := by
  obtain rfl : f = 4 := Option.some.inj ((show Tryz.prog.funcNamed "drydock/drydocklaw18.ShadowsUndo" = some 4 by kernel_rfl).symm.trans hf) |>.symm
  obtain rfl : fn = Tryz.f4 := (Option.some.inj (Tryz.func4.symm.trans hfn)).symm
  refine ⟨by kernel_rfl, fun j t ht => ?_⟩
  rw [Tryz.params4] at ht
  have hm : t ∈ [39, 39, 22] := by simpa using Array.mem_of_getElem? ht
  have hall : ([39, 39, 22].all fun u => !Tryz.prog.wantsStandIn u) = true := by kernel_rfl
  exact (show Tryz.prog.wantsStandIn t = false by simpa using List.all_eq_true.1 hall t hm)

theorem card : Rows.ShadowsUndoUptoCardSaid :=
  Claim7.holds_tied_plain_at .later [] _ _ _ _ said (fun _ h => by cases h) (by kernel_rfl) (fun _ h => by cases h) shadowsUndoUpto_row_tie rfl ⟨rfl, rfl⟩ (by kernel_rfl) rfl plain (by kernel_rfl)
end Go.Proofs.YtpmkegbgbldpnaaGreatDoor.shadowsUndo
