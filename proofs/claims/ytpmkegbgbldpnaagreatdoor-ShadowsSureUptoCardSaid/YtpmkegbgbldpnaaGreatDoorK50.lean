/-
  ShadowsSure proved: what was committed is there, and nothing else, however the disk fails behind that, and whatever was put; as often as it fails: the given card of the form 'upto' (what is read is of bulk at most 1048576). No condition of our own.
  Package drydocklaw18 by its own text: the walk of ShadowsSure.
-/
import Derived.Test.YtpmkegbgbldpnaaGreatDoorK49
import Derived.Test.YtpmkegbgbldpnaaGreatDoorK01
import Derived.Test.YtpmkegbgbldpnaaGreatDoorK44
namespace Go.Proofs.YtpmkegbgbldpnaaGreatDoor
open Go Go.RowKit
set_option linter.unusedSimpArgs false
set_option linter.unusedVariables false
namespace Sh
theorem comE_full {T : Sto} (h : comE T = 0) : comF T := by
  by_cases hf : comF T
  · exact hf
  · rw [comE, if_neg hf] at h; cases h
set_option maxRecDepth 100000 in
/-- what a store that was committed is when it is opened again -/
theorem sure_open {l : List TgDeed} (hl : Fits l) {keep : Nat} {torn : Int} {D : Dk.Disk} (U : Sto) (hU : U = comT (putAll (newS (Dk.new 1200)) l)) (hk : Kept U keep torn D) :
    readsP (Dk.fail D keep torn) = .ok { U with D := Dk.fail D keep torn, now := [], puts := 0 } ∧ Has { U with D := Dk.fail D keep torn, now := U.kept, puts := 64 } (putC [] l) (putC [] l) ∧ (Dk.fail D keep torn).seen.length = 1200 ∧ U.epoch = 1 ∧ Mp.Up U.kept ∧ (∀ p ∈ U.kept, p.1 < 4294967296) ∧ U.kept.length ≤ 64 := by
  have e0 : (newS (Dk.new 1200)).table.length = 0 := rfl
  have e1 : takes ([] : List (Nat × List Nat)) = 0 := rfl
  have e2 : (newS (Dk.new 1200)).D.waits.length = 0 := rfl
  have e3 : (newS (Dk.new 1200)).puts = 64 := rfl
  have hn := hl.len
  have hp := hl.pgs
  obtain ⟨i1, i2, i3, i4, i5, i6, i7, i8, i9, i10⟩ := putAll_is l new_has (root_new (by decide)) hl.each (by rw [new_many, e0, e1]; omega) (by simp; omega) (by rw [e2]; omega) (by rw [e3]; omega)
  obtain ⟨p1, p2⟩ := first_put (by omega) (by omega) hl.each
  obtain ⟨h1, h2, h3, h4⟩ := p2 _ rfl
  have hep := (Eps.new (Dk.new 1200)).all (by decide) l
  have h5 : (putAll (newS (Dk.new 1200)) l).epoch = 0 := hep.2
  obtain ⟨r1, r2⟩ := reopen i2 i3 (comE_full h3) (by rw [h5]; decide) hep.1 (D' := Dk.fail D keep torn) (by rw [← hU]; exact hk.len) (by rw [← hU]; exact hk.at_)
  rw [← hU] at r1 r2 h4
  have hlen : U.D.seen.length = 1200 := by
    have := h4.many
    have lo := h4.has.ok.lo
    have hi := h4.has.ok.hi
    have e : (comT (putAll (newS (Dk.new 1200)) l)).D.seen.length = (putAll (newS (Dk.new 1200)) l).D.seen.length := by
      have hf := comE_full h3
      have hr : Rt.wE (comD2 (putAll (newS (Dk.new 1200)) l)) (comR (putAll (newS (Dk.new 1200)) l)) = 0 := by have := h3; rw [comE, if_pos hf] at this; exact this
      rw [comT, if_pos hf, if_pos hr]
      show (Rt.wD _ _).seen.length = _
      rw [wD_root_len, comD2_len]
    have e6 : ∀ (l : List TgDeed) (T : Sto), (putAll T l).D.seen.length = T.D.seen.length := by
      intro l
      induction l with
      | nil => intro T; rfl
      | cons x r ih =>
        intro T
        show (putAll (putT T x.id x.b) r).D.seen.length = _
        rw [ih]
        unfold putT
        split
        · exact Ex.wD_len _ _ _ _
        · rfl
    rw [hU, e, e6]
    simp [newS, Dk.new]
  exact ⟨r1, r2, hk.len.trans hlen, h4.ep, h4.has.ok.upk, fun p hp => (h4.has.ok.thk p hp).id, h4.has.ok.lenk⟩
end Sh
set_option maxRecDepth 100000 in
set_option maxHeartbeats 16000000 in
theorem shadowsSure_walk (w : World) (al : Option Addr) (nl cl : Nat) (l : List TgDeed) (hl : IsTgDeeds w al l) (hnl : l.length = nl) (hbl : Sh.bulk l ≤ 1000000000)
    (am : Option Addr) (nm cm : Nat) (m : List TgDeed) (hm : IsTgDeeds w am m) (hnm : m.length = nm) (hbm : Sh.bulk m ≤ 1000000000)
    (keep : Nat) (hkeep : keep < 18446744073709551616) (torn : Int) (ht1 : -32768 ≤ torn) (ht2 : torn ≤ 32767) (hTab : TabAt w) :
    Calls Tryz.prog 6 #[.agg #[.slice al nl cl, .slice am nm cm, .int .u64 (keep : Nat), .int .i16 torn]] w (LawPost w) := by
  have HL := Lib.hid hl
  have HNL := Lib.hid hnl
  have HM := Lib.hid hm
  have HNM := Lib.hid hnm
  have HTab := Lib.hid hTab
  have HLg := Lib.hid hl.good
  have HMg := Lib.hid hm.good
  have HK := Lib.hid hkeep
  have FL : Hid (∀ w1, Touch No w w1 → Calls Tryz.prog 18 #[.slice al nl cl] w1 fun e w' => e = .returned (.bool (decide ((Sh.bulk l : Int) ≤ 15000))) ∧ w1 = w') := fun w1 t => shFit w1 al nl cl l (hl.touch t) hnl (by omega)
  have FM : Hid (∀ w1, Touch No w w1 → Calls Tryz.prog 18 #[.slice am nm cm] w1 fun e w' => e = .returned (.bool (decide ((Sh.bulk m : Int) ≤ 15000))) ∧ w1 = w') := fun w1 t => shFit w1 am nm cm m (hm.touch t) hnm (by omega)
  have wt : IntKind.i64.wrap torn = torn := IntWalk.i64_in _ (by omega)
  have Hwt := Lib.hid wt
  clear hl hnl hm hnm hTab hbl hbm hkeep
  go_enter Tryz.func6, Tryz.ntmps6
  go_upto_region 5 with fail
  obtain ⟨wb, hwb⟩ : ∃ wb, wb = w.alloc (.cells #[.slice al nl cl, .slice am nm cm, .int .u64 (keep : Nat), .int .i16 torn] 54) := ⟨_, rfl⟩
  have Tb : Hid (Touch No w wb) := by show Touch _ _ _; rw [hwb]; exact (Touch.refl No w).alloc _
  rw [← hwb]
  clear hwb
  go_wp2_with fail
  refine (shOpened wb 1200 (by decide) (by decide)).mono ?_
  rintro e w1 ⟨d, s, f1, rfl, s1⟩
  have S1 := Lib.hid s1
  clear s1
  obtain ⟨bl, hbl⟩ : ∃ b : Bool, decide ((Sh.bulk l : Int) ≤ 15000) = b := ⟨_, rfl⟩
  obtain ⟨bm, hbm⟩ : ∃ b : Bool, decide ((Sh.bulk m : Int) ≤ 15000) = b := ⟨_, rfl⟩
  have FL2 := FL.out w1 (Tb.out.trans S1.out.end)
  have FM2 := FM.out w1 (Tb.out.trans S1.out.end)
  rw [hbl] at FL2
  rw [hbm] at FM2
  have FL2 := Lib.hid FL2
  have FM2 := Lib.hid FM2
  have Hbl := Lib.hid hbl
  have Hbm := Lib.hid hbm
  clear hbl hbm FL FM
  have HTab1 : Hid (TabAt wb) := HTab.out.no Tb.out
  have dead : Hid (Calls Tryz.prog 11 #[] w1 (LawPost w1)) := shLives w1 (HTab1.out.no S1.out.end)
  have T1 : Hid (Touch No w w1) := Tb.out.trans S1.out.end
  have HLb : Hid (IsTgDeeds wb al l) := HL.out.touch Tb.out
  have HMb : Hid (IsTgDeeds wb am m) := HM.out.touch Tb.out
  go_wp2_with fail
  refine FL2.out.mono ?_
  rintro e w' ⟨rfl, rfl⟩
  cases bl with
  | false =>
    go_wp2_with fail
    refine dead.out.mono ?_
    rintro e wz ⟨rfl, tz⟩
    go_wp2
    go_ret
    exact ⟨rfl, T1.out.trans tz⟩
  | true =>
    go_wp2_with fail
    refine FM2.out.mono ?_
    rintro e w' ⟨rfl, rfl⟩
    cases bm with
    | false =>
      go_wp2_with fail
      refine dead.out.mono ?_
      rintro e wz ⟨rfl, tz⟩
      go_wp2
      go_ret
      exact ⟨rfl, T1.out.trans tz⟩
    | true =>
      have fl : Sh.Fits l := Sh.fits_of (by have := of_decide_eq_true Hbl.out; omega) (fun x hx => (HLg.out x hx).1)
      have fm : Sh.Fits m := Sh.fits_of (by have := of_decide_eq_true Hbm.out; omega) (fun x hx => (HMg.out x hx).1)
      obtain ⟨p1, p2⟩ := Sh.first_put (by have := fl.len; omega) (by have := fl.pgs; omega) fl.each
      obtain ⟨h1, h2, h3, h4⟩ := p2 _ rfl
      have hnl30 : (nl : Int) ≤ 30 := by have := fl.len; have := HNL.out; omega
      have hnm30 : (nm : Int) ≤ 30 := by have := fm.len; have := HNM.out; omega
      have hok1 := h1.ok
      have CP := Lib.hid (shPutAll S1.out HTab1.out al nl cl l HLb.out.any HLb.out.good HNL.out (by omega) p1)
      obtain ⟨U, hU⟩ : ∃ U, U = Sh.comT (Sh.putAll (Sh.newS (Dk.new 1200)) l) := ⟨_, rfl⟩
      rw [← hU] at h4
      have hcd := Sh.com_calm_disk h3
      rw [← hU] at hcd
      obtain ⟨q1, q2⟩ := h4.put (fl.small.mono (by decide) (by decide)) fm (by decide)
      have hsafe := (Sh.Safe.all q1 (Sh.Safe.start (P := Sh.Prot U.table U.kept) hcd.1 hcd.2)).1.kept keep torn
      obtain ⟨c, hc⟩ : ∃ c, c = Sh.putC [] l := ⟨_, rfl⟩
      rw [← hc] at q2
      have hhas : Sh.Has (Sh.putAll U m) (Sh.putC [] (l ++ m)) c := by rw [Sh.putC_append, ← hc]; exact q2.has
      have hwt := q2.waits
      have CCm : Hid (∀ w2, Sg true wb w2 s d f1 (Sh.putAll (Sh.newS (Dk.new 1200)) l) [] → Calls Tryz.prog 16 #[.pointer (some ⟨s, 0, none⟩)] w2 fun e w' => e = .returned (.int .i64 0) ∧ ∃ f', Sg true wb w' s d f' U []) := fun w2 s2 => by
        have := Ss.commit s2 hok1 HTab1.out (by omega)
        rw [h3, ← hU] at this
        exact this
      obtain ⟨V, hV⟩ : ∃ V, V = Sh.putAll U m := ⟨_, rfl⟩
      rw [← hV] at hsafe hhas hwt
      have HU := Lib.hid hU
      have HV := Lib.hid hV
      have HKept := Lib.hid hsafe
      have HHas := Lib.hid hhas
      have HWt := Lib.hid hwt
      have HQ1 := Lib.hid q1
      have Fl := Lib.hid fl
      have Fm := Lib.hid fm
      clear p1 p2 h1 h2 h3 h4 hU hcd q1 q2 hsafe hc hhas hwt hV fl fm FL2 FM2 dead Hbl Hbm hok1 T1 HL HM
      go_wp2_with fail
      refine CP.out.mono ?_
      rintro e w2 ⟨rfl, s2⟩
      have CC := Lib.hid (CCm.out w2 s2)
      clear s2 CP S1 CCm
      go_wp2_with fail
      refine CC.out.mono ?_
      rintro e w3 ⟨rfl, f3, s3⟩
      have CP := shPutAll s3 HTab1.out am nm cm m HMb.out.any HMb.out.good HNM.out (by omega) HQ1.out
      rw [← HV.out] at CP
      have CP := Lib.hid CP
      clear s3 CC
      go_wp2_with fail
      refine CP.out.mono ?_
      rintro e w4 ⟨rfl, s4⟩
      obtain ⟨I, z, hI⟩ := tg_is
      have HI := Lib.hid hI
      have S4 := Lib.hid s4
      have hrl : Hid (Rd w4 al (tgCells l)) := HLb.out.rd.no S4.out.end
      clear s4 CP hI
      go_wp2_with (at_builtin; refine wpList_append_rowsG ?_ _ _ 39 rfl 49 I z 2 32 Tryz.underlying39 HI.out.info HI.out.zero HI.out.size HI.out.bytes (by rw [HI.out.cells]; rfl) (by decide) (.slice none 0 0) 0 [] ⟨rfl, Or.inl ⟨rfl, rfl⟩⟩ rfl al nl cl (tgCells l) rfl (by rw [tgCells_length, HNL.out]) hrl.out (tgCells_one l) (by unfold maxLen; omega) (by omega) ?_; rfl)
      intro a5 c5 w5 ho5 t5 hb5
      have s5 : Sg true wb w5 s d f3 V [Part.tgs (.slice a5 nl c5) l] := Sg.tgNew S4.out (by rw [HNL.out]; exact ho5) (t5.mono (fun k hk h => by cases h)) (fun k hk => (hb5 k hk).elim (fun h => by cases h) (fun h => h))
      have HO5 : Hid (w5.ownsRow 0 49 2 (.slice a5 nl c5) nl (tgCells l)) := ho5
      have S5 := Lib.hid s5
      have hrm : Hid (Rd w5 am (tgCells m)) := HMb.out.rd.no S5.out.end
      clear s5 ho5 t5 hb5 S4 hrl
      go_wp2_with (at_builtin; refine wpList_append_rowsG ?_ _ _ 39 rfl 49 I z 2 32 Tryz.underlying39 HI.out.info HI.out.zero HI.out.size HI.out.bytes (by rw [HI.out.cells]; rfl) (by decide) (.slice a5 nl c5) nl (tgCells l) HO5.out rfl am nm cm (tgCells m) rfl (by rw [tgCells_length, HNM.out]) hrm.out (tgCells_one m) (by unfold maxLen; omega) (by omega) ?_; rfl)
      intro a6 c6 w6 ho6 t6 hb6
      have hlm : (l ++ m).length = nl + nm := by rw [List.length_append, HNL.out, HNM.out]
      have s6 : Sg true wb w6 s d f3 V [Part.tgs (.slice a6 (nl + nm) c6) (l ++ m)] := Sg.tgGrow S5.out (by rw [hlm, tgCells_append]; exact ho6) t6 hb6
      have CH := Lib.hid (shHas s6 a6 (nl + nm) c6 (l ++ m) HHas.out (tgs_any List.mem_cons_self) (fun x hx => (List.mem_append.1 hx).elim (HLb.out.good x) (HMb.out.good x)) hlm (by omega) (fun x hx => (List.mem_append.1 hx).elim (fun h => (Fl.out.each x h).2) (fun h => (Fm.out.each x h).2)))
      clear s6 ho6 t6 hb6 hlm S5 HO5 hrm
      go_wp2_with fail
      refine CH.out.mono ?_
      rintro e w7 ⟨rfl, s7⟩
      have S7 : Hid (Dd wb w7 d V.D (Part.sto s (some ⟨d, 0, none⟩) (some ⟨f3, 0, none⟩) true V.m :: Part.map f3 1 (1 + Sh.many V.D) V.S :: [Part.tgs (.slice a6 (nl + nm) c6) (l ++ m)])) := s7
      clear s7 CH HHas HQ1
      go_wp2
      go_loopg [7, 9] 2 (fun g s7 s9 wr => ∃ (k d : Nat) (D : Dk.Disk) (E : List Part), k + g = 2 ∧ s9 = .int .i64 ((k : Nat) : Int) ∧ s7 = .pointer (some ⟨d, 0, none⟩) ∧ Hid (Dd wb wr d D E) ∧ Hid (Sh.Kept U keep torn D) ∧ Hid (D.waits.length ≤ 1000000))
      case atStart => exact ⟨0, d, V.D, _, by omega, rfl, rfl, S7.out, HKept.out, by show _ ≤ _; have := HWt.out; omega⟩
      case round =>
        clear S7 HKept HWt
        obtain ⟨k, d, D, E, hk2, rfl, rfl, HD, HKp, HW⟩ := hrel
        cases gk with
        | zero =>
          obtain rfl : k = 2 := by omega
          have T9 : Hid (Touch No w wr) := Tb.out.trans HD.out.end
          have dead : Hid (Calls Tryz.prog 11 #[] wr (LawPost wr)) := shLives wr (HTab1.out.no HD.out.end)
          go_wp2_with fail
          refine dead.out.mono ?_
          rintro e wz ⟨rfl, tz⟩
          go_wp2
          go_ret
          exact ⟨rfl, T9.out.trans tz⟩
        | succ g =>
          have hk3 : (k : Int) < 2 := by omega
          obtain ⟨r1, r2, r3, r4, r5, r6, r7⟩ := Sh.sure_open Fl.out U HU.out HKp.out
          have CF := Lib.hid (HD.out.fail keep torn HK.out HW.out)
          obtain ⟨D2, hD2⟩ : ∃ D2, D2 = Dk.fail D keep torn := ⟨_, rfl⟩
          have HK2 : Hid (Sh.Kept U keep torn D2) := by show Sh.Kept _ _ _ _; rw [hD2]; exact HKp.out.again
          have HW2 : Hid (D2.waits.length ≤ 1000000) := by show _ ≤ _; rw [hD2]; exact Nat.zero_le _
          rw [← hD2] at CF r1 r2 r3
          have R1 := Lib.hid r1
          have R2 := Lib.hid r2
          have R3 := Lib.hid r3
          have R4 := Lib.hid r4
          have R5 := Lib.hid (And.intro r5 (And.intro r6 r7))
          have wt2 : IntKind.i64.wrap torn = torn := Hwt.out
          clear r1 r2 r3 r4 r5 r6 r7 hD2 HKp HW HD
          go_wp2_with fail
          refine CF.out.mono ?_
          rintro e w8 ⟨d2, rfl, h8⟩
          have CO := Lib.hid (shOpen_again h8 (by rw [R3.out]; decide) (by rw [R3.out]; decide) R1.out R5.out.1 R5.out.2.1 R5.out.2.2)
          clear h8 CF
          go_wp2_with fail
          refine CO.out.mono ?_
          rintro e w9 ⟨s2, f2, rfl, s9⟩
          have CH := Lib.hid (shHas s9 al nl cl l R2.out HLb.out.any HLb.out.good HNL.out (by omega) (fun x hx => (Fl.out.each x hx).2))
          clear s9 CO
          go_wp2_with fail
          refine CH.out.mono ?_
          rintro e w10 ⟨rfl, s10⟩
          have CE : Hid (Calls Tryz.prog 24 #[.pointer (some ⟨s2, 0, none⟩)] w10 fun e w' => e = .returned (.int .u32 1) ∧ w10 = w') := by
            have := Ss.epochC s10
            rw [show ({ U with D := D2, now := U.kept, puts := 64 } : Sh.Sto).epoch = 1 from R4.out] at this
            exact this
          have S10 := Lib.hid s10
          clear s10 CH
          go_wp2_with fail
          refine CE.out.mono ?_
          rintro e w' ⟨rfl, rfl⟩
          clear CE
          go_wp2
          go_roundg g
          case measure => omega
          case rel => exact ⟨k + 1, d2, D2, _, by omega, by go_num, rfl, S10.out, HK2.out, HW2.out⟩
end Go.Proofs.YtpmkegbgbldpnaaGreatDoor
namespace Go.Proofs.YtpmkegbgbldpnaaGreatDoor.shadowsSure
open Go.ChangeShapes Go.WideShapes Go.ChangeAt Go.RowKit

set_option maxRecDepth 100000 in
theorem contract (H : Type) (enc : TypeId × Value → H) (W : World) (base : Nat) (args : Array Value) (ds gs : List (DataW H)) (before : List MemPlace)
    (hval : ∀ (j : Nat) t v, Tryz.f6.params[j]? = some t → args[j]? = some v → Value.okWide Tryz.prog W .any base t v)
    (hW : DataW.Whole enc Tryz.prog Tryz.f6.params.toList Rows.shadowsSureSpec.vars false W args.toList ds gs before)
    (hz : ∀ n ∈ DataW.weightsEach Tryz.prog Tryz.f6.params.toList ds, n ≤ reachBytes) (hu : Rows.uptoBulkAll ds ≤ 1048576) (hT : TabAt W) :
    Calls Tryz.prog 6 args W fun e W' => ∃ v, e = .returned v ∧ Rows.shadowsSureSpec.post enc Tryz.prog Tryz.f6 false true false false W args v W' := by
  have hW' := hW
  obtain ⟨p, q, hA0, hV, rfl, hfz, hnd⟩ := hW
  have hA : DataW.TrodAll enc Tryz.prog W 0 (fun _ => true) true Tryz.f6.params.toList args.toList ds p := hA0
  rw [Tryz.params6] at hA hval hz
  obtain ⟨v0, vs0, d0, ds0, p0, q0, hargs, rfl, rfl, h0, r0⟩ := trodAll_cons hA
  obtain ⟨rfl, rfl, rfl⟩ := trodAll_nil r0
  obtain rfl : args = #[v0] := by cases args; simp_all
  obtain ⟨rfl, rfl⟩ := trodVars_none hV
  obtain ⟨a0, n0, c0, l0, a1', n1', c1', l1, k0, t0, rfl, A0, N0, B0, A1, N1, B1, hk0, ht0, ht1⟩ := open_sure (hval 0 54 v0 rfl rfl) h0 (fun k hk => hz k (by simp only [DataW.weightsEach, List.mem_append]; exact Or.inl hk)) (Nat.le_trans (bulk_part (by simp)) hu)
  refine (shadowsSure_walk W _ _ _ l0 A0 N0 B0 _ _ _ l1 A1 N1 B1 k0 hk0 t0 ht0 ht1 hT).mono fun e W' ⟨he, ht⟩ => ?_
  subst he
  exact ⟨_, rfl, law_post laidOut (by kernel_rfl) rfl (by kernel_rfl) Tryz.underlying4 hW' rfl (ht.below (Nat.le_refl _) (fun _ _ f => f))⟩

theorem laid_met (os : Os) : laidMetH Tryz.prog Rows.shadowsSureUptoRow.laid ((laidWorldE os).forCall (fun _ _ => 0) ⟨#[], #[.agg #[.slice none 0 0, .slice none 0 0, .int .u64 0, .int .i16 0]], []⟩).memory :=
  laidMetH_of_parts (laidMet_of_run' 8 (by kernel_rfl) (by kernel_rfl)) (by kernel_rfl)
theorem reads (os : Os) {H : Type} (enc : TypeId × Value → H) : ∃ places, DataW.whole enc Tryz.prog ((laidWorldE os).forCall (fun _ _ => 0) ⟨#[], #[.agg #[.slice none 0 0, .slice none 0 0, .int .u64 0, .int .i16 0]], []⟩).memory Tryz.f6.params.toList Rows.shadowsSureSpec.vars false #[.agg #[.slice none 0 0, .slice none 0 0, .int .u64 0, .int .i16 0]].toList 8 = some ([.agg [.nil, .nil, .lit (.int .u64 0), .lit (.int .i16 0)]], [], places) :=
  ⟨[], by kernel_rfl⟩

set_option maxRecDepth 100000 in
theorem lifted (os : Os) (started : os.Started) (H : Type) (enc : TypeId × Value → H) (F : Stop.Interp) :
    ReturnsInHanded {} Tryz.checked os 6 .any ((Rows.OpenSpec.upto Rows.shadowsSureSpec).preRow enc Tryz.prog Tryz.f6 Rows.shadowsSureUptoRow.domain false Rows.shadowsSureUptoRow.laid) (((Rows.OpenSpec.upto Rows.shadowsSureSpec).at F).post enc Tryz.prog Tryz.f6 false true false false) := by
  obtain ⟨places, hx⟩ := reads os enc
  refine returnsInHanded_of_row (C := Tryz.checked) (s := Rows.OpenSpec.upto Rows.shadowsSureSpec) own started (by kernel_rfl) Tryz.func6
    (witness_row_at (enc := enc) (C := Tryz.checked) false (laidWorldE os) #[.agg #[.slice none 0 0, .slice none 0 0, .int .u64 0, .int .i16 0]] rfl (by kernel_rfl) (by kernel_rfl) (by kernel_rfl)
      (OpenSpec.preRow_of_cond 8 hx (by kernel_rfl) (fun k hk => by cases hk; kernel_rfl) (by kernel_rfl) (laid_met os))) ?_
  intro W base args ds gs before hval hW _ hcond hz hL _ _
  have hgs : gs = [] := by obtain ⟨_, _, _, hV, _⟩ := hW; exact (trodVars_none hV).1
  subst hgs
  rw [List.append_nil, show (Rows.OpenSpec.upto Rows.shadowsSureSpec).bare.plain.varTypes Tryz.checked.prog = [] from rfl, List.append_nil] at hz
  have hu : Rows.uptoBulkAll ds ≤ 1048576 := by have := hcond _ rfl; rw [List.append_nil] at this; exact of_decide_eq_true this
  exact contract H enc W base args ds [] before hval hW (fun n hn => by simpa using List.all_eq_true.1 hz n hn) hu (tab_atE hL)

set_option maxHeartbeats 16000000 in
set_option maxRecDepth 100000 in
theorem facts : joinedFacts Tryz.pinned.checked.prog 6 Tryz.f6 (Rows.OpenSpec.upto Rows.shadowsSureSpec).bare Rows.shadowsSureUptoRow = true := by
  unfold joinedFacts
  repeat' (with_reducible refine Bool.and_eq_true_iff.2 ⟨?_, ?_⟩)
  all_goals as_aux_lemma => kernel_rfl

theorem said : Rows.ShadowsSureUptoSaid :=
  OpenClaim.holds_of_cond 6 Tryz.f6 rfl rfl rfl rfl rfl rfl rfl ⟨rfl, rfl, rfl, rfl, rfl⟩ rfl rfl rfl rfl rfl (by kernel_rfl) Tryz.func6 facts
    (of_decide_eq_true (by kernel_rfl)) (by unfold Func.isWrapper; first | (rw [if_pos (by decide +kernel)]; kernel_rfl) | (rw [if_neg (by decide +kernel)]; exact ⟨rfl, rfl⟩))
    (fun os started H enc _ F => by rw [OpenClaim.pre_eq_preRow]; exact lifted os started H enc F)

theorem plain (f : FuncId) (fn : Func) (hf : Tryz.pinned.checked.prog.funcNamed "drydock/drydocklaw18.ShadowsSure" = some f) (hfn : Tryz.pinned.checked.prog.funcs[f]? = some fn) :
    true = Tryz.pinned.checked.prog.looks [] ∧ ∀ (j : Nat) t, fn.params[j]? = some t → Tryz.pinned.checked.prog.wantsStandIn t = false := by
  obtain rfl : f = 6 := Option.some.inj ((show Tryz.prog.funcNamed "drydock/drydocklaw18.ShadowsSure" = some 6 by kernel_rfl).symm.trans hf) |>.symm
  obtain rfl : fn = Tryz.f6 := (Option.some.inj (Tryz.func6.symm.trans hfn)).symm
  refine ⟨by kernel_rfl, fun j t ht => ?_⟩
  rw [Tryz.params6] at ht
  have hm : t ∈ [54] := by simpa using Array.mem_of_getElem? ht
  have hall : ([54].all fun u => !Tryz.prog.wantsStandIn u) = true := by kernel_rfl
  exact (show Tryz.prog.wantsStandIn t = false by simpa using List.all_eq_true.1 hall t hm)

theorem card : Rows.ShadowsSureUptoCardSaid :=
  Claim7.holds_tied_plain_at .later [] _ _ _ _ said (fun _ h => by cases h) (by kernel_rfl) (fun _ h => by cases h) shadowsSureUpto_row_tie rfl ⟨rfl, rfl⟩ (by kernel_rfl) rfl plain (by kernel_rfl)
end Go.Proofs.YtpmkegbgbldpnaaGreatDoor.shadowsSure
