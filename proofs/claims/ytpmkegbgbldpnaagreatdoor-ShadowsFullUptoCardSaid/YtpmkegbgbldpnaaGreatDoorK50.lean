/-
  ShadowsFull proved: what has no room is refused, and leaves all as it was: things, free pages; what was committed is there, still, behind a failure: the given card of the form 'upto' (what is read is of bulk at most 1048576). No condition of our own.
  Package drydocklaw18 by its own text: the walk of ShadowsFull.
-/
import Derived.Test.YtpmkegbgbldpnaaGreatDoorK49
import Derived.Test.YtpmkegbgbldpnaaGreatDoorK01
import Derived.Test.YtpmkegbgbldpnaaGreatDoorK44
namespace Go.Proofs.YtpmkegbgbldpnaaGreatDoor
open Go Go.RowKit
set_option linter.unusedSimpArgs false
set_option linter.unusedVariables false
set_option maxRecDepth 100000 in
set_option maxHeartbeats 16000000 in
theorem shadowsFull_walk (w : World) (al : Option Addr) (nl cl : Nat) (l : List TgDeed) (hl : IsTgDeeds w al l) (hnl : l.length = nl) (hbl : Sh.bulk l ≤ 1000000000)
    (am : Option Addr) (nm cm : Nat) (m : List TgDeed) (hm : IsTgDeeds w am m) (hnm : m.length = nm) (hbm : Sh.bulk m ≤ 1000000000)
    (ks : Nat) (hks : ks < 256) (hTab : TabAt w) :
    Calls Tryz.prog 8 #[.slice al nl cl, .slice am nm cm, .int .u8 (ks : Nat)] w (LawPost w) := by
  have HL := Lib.hid hl
  have HNL := Lib.hid hnl
  have HM := Lib.hid hm
  have HNM := Lib.hid hnm
  have HTab := Lib.hid hTab
  have HLg := Lib.hid hl.good
  have HMg := Lib.hid hm.good
  have FL : Hid (∀ w1, Touch No w w1 → Calls Tryz.prog 18 #[.slice al nl cl] w1 fun e w' => e = .returned (.bool (decide ((Sh.bulk l : Int) ≤ 15000))) ∧ w1 = w') := fun w1 t => shFit w1 al nl cl l (hl.touch t) hnl (by omega)
  have FM : Hid (∀ w1, Touch No w w1 → Calls Tryz.prog 18 #[.slice am nm cm] w1 fun e w' => e = .returned (.bool (decide ((Sh.bulk m : Int) ≤ 15000))) ∧ w1 = w') := fun w1 t => shFit w1 am nm cm m (hm.touch t) hnm (by omega)
  have hk1 : (ks : Int) ≤ 255 := by omega
  obtain ⟨n, hn⟩ : ∃ n, n = 40 + ks := ⟨_, rfl⟩
  have hn1 : 32 ≤ n := by omega
  have hn2 : n ≤ 16384 := by omega
  have wk : IntKind.i64.wrap (ks : Int) = (ks : Int) := IntWalk.i64_in _ (by omega)
  have e40 : IntKind.i64.wrap ((40 : Int) + (ks : Nat)) = (40 : Int) + (ks : Nat) := IntWalk.i64_in _ (by omega)
  have CO := shOpened w n hn1 hn2
  rw [show ((n : Nat) : Int) = (40 : Int) + (ks : Nat) by omega] at CO
  have CO := Lib.hid CO
  have Hn1 := Lib.hid hn1
  have Hn2 := Lib.hid hn2
  clear hl hnl hm hnm hTab hbl hbm hks hn1 hn2
  go_enter Tryz.func8, Tryz.ntmps8
  go_wp2_with fail
  refine CO.out.mono ?_
  rintro e w1 ⟨d, s, f1, rfl, s1⟩
  have S1 := Lib.hid s1
  clear s1 CO e40 wk hn hk1
  obtain ⟨bl, hbl⟩ : ∃ b : Bool, decide ((Sh.bulk l : Int) ≤ 15000) = b := ⟨_, rfl⟩
  obtain ⟨bm, hbm⟩ : ∃ b : Bool, decide ((Sh.bulk m : Int) ≤ 15000) = b := ⟨_, rfl⟩
  have FL2 := FL.out w1 S1.out.end
  have FM2 := FM.out w1 S1.out.end
  rw [hbl] at FL2
  rw [hbm] at FM2
  have FL2 := Lib.hid FL2
  have FM2 := Lib.hid FM2
  have Hbl := Lib.hid hbl
  have Hbm := Lib.hid hbm
  clear hbl hbm FL FM
  have dead : Hid (Calls Tryz.prog 11 #[] w1 (LawPost w1)) := shLives w1 (HTab.out.no S1.out.end)
  have T1 : Hid (Touch No w w1) := S1.out.end
  go_wp2_with fail
  refine FL2.out.mono ?_
  rintro e w' ⟨rfl, rfl⟩
  cases bl with
  | false =>
    go_wp2_with fail
    refine dead.out.mono ?_
    rintro e wz ⟨rfl, tz⟩
    go_wp2
    go_ret
    exact ⟨rfl, T1.out.trans tz⟩
  | true =>
    go_wp2_with fail
    refine FM2.out.mono ?_
    rintro e w' ⟨rfl, rfl⟩
    cases bm with
    | false =>
      go_wp2_with fail
      refine dead.out.mono ?_
      rintro e wz ⟨rfl, tz⟩
      go_wp2
      go_ret
      exact ⟨rfl, T1.out.trans tz⟩
    | true =>
      have fl : Sh.Fits l := Sh.fits_of (by have := of_decide_eq_true Hbl.out; omega) (fun x hx => (HLg.out x hx).1)
      have fm : Sh.Fits m := Sh.fits_of (by have := of_decide_eq_true Hbm.out; omega) (fun x hx => (HMg.out x hx).1)
      have hnl30 : (nl : Int) ≤ 30 := by have := fl.len; have := HNL.out; omega
      have hnm30 : (nm : Int) ≤ 30 := by have := fm.len; have := HNM.out; omega
      obtain ⟨I, z, hI⟩ := tg_is
      have HI := Lib.hid hI
      have Fl := Lib.hid fl
      have Fm := Lib.hid fm
      have HNew := Lib.hid (Sh.part1_new Hn1.out Hn2.out l)
      obtain ⟨T0, hT0⟩ : ∃ T0, T0 = Sh.newS (Dk.new n) := ⟨_, rfl⟩
      rw [← hT0] at S1 HNew
      clear FL2 FM2 dead Hbl Hbm fl fm hI T1 hT0
      go_wp2
      go_loopg [9, 10] nl (fun g s9 s10 wr => ∃ (i : Nat) (a : Option Addr) (c nt : Nat) (th : List TgDeed) (T : Sh.Sto), i + g = nl ∧ s10 = .int .i64 ((i : Nat) : Int) ∧ s9 = .slice a nt c ∧ nt ≤ i ∧ Hid (th.length = nt) ∧ Hid (Sh.Part1 n i l th T) ∧ Hid (Sg true w wr s d f1 T [Part.tgs (.slice a nt c) th]))
      case atStart => exact ⟨0, none, 0, 0, [], T0, by omega, rfl, rfl, Nat.le_refl _, rfl, HNew.out, Sg.push S1.out (rows_nil w1 _ 2)⟩
      case round =>
        clear S1 HNew
        obtain ⟨i, a, c, nt, th, T, hig, rfl, rfl, hnt, Hnt, HP, HS⟩ := hrel
        have hnt3 : (nt : Int) ≤ 30 := by omega
        cases gk with
        | zero =>
          obtain rfl : i = nl := by omega
          have Hi30 : Hid (i ≤ 30) := by show _ ≤ _; omega
          obtain ⟨F, hF⟩ : ∃ F, (Fr.lst T.S).length = F := ⟨_, rfl⟩
          have CF := Lib.hid (Ss.freeB (c := []) (e := 0) (n := 0) HS.out hF)
          have HFF := Lib.hid hF
          have CM := Ss.commit HS.out HP.out.has.ok HTab.out (by have := HP.out.waits; omega)
          have Hgo : Hid (TgGood w th) := fun y hy => HLg.out y (HP.out.sub y hy)
          have Hbo : Hid (∀ y ∈ th, y.b.length ≤ 65536) := fun y hy => (Fl.out.each y (HP.out.sub y hy)).2
          clear hF
          go_wp2_with fail
          refine CF.out.mono ?_
          rintro e w' ⟨rfl, rfl⟩
          clear CF
          rcases HP.out.com with ⟨hne, hsame⟩ | h0
          · rw [hsame] at CM
            obtain ⟨ce, hce⟩ : ∃ ce, Sh.comE T = ce := ⟨_, rfl⟩
            rw [hce] at CM hne
            have hnei : ¬ (ce : Int) = 0 := by omega
            have CM := Lib.hid CM
            clear hsame hce hne HS
            go_wp2_with fail
            refine CM.out.mono ?_
            rintro e w2 ⟨rfl, f2, s2⟩
            have CF := Lib.hid (Ss.freeB (c := []) (e := 0) (n := 0) s2 HFF.out)
            have CE : Hid (Calls Tryz.prog 24 #[.pointer (some ⟨s, 0, none⟩)] w2 fun e w' => e = .returned (.int .u32 0) ∧ w2 = w') := by
              have := Ss.epochC s2
              rw [HP.out.ep] at this
              exact this
            have CH := Lib.hid (shHas s2 a nt c th HP.out.has (tgs_any List.mem_cons_self) Hgo.out Hnt.out (by omega) Hbo.out)
            clear s2 CM
            go_wp2_with fail
            refine CF.out.mono ?_
            rintro e w' ⟨rfl, rfl⟩
            go_wp2_with fail
            refine CE.out.mono ?_
            rintro e w' ⟨rfl, rfl⟩
            go_wp2_with fail
            refine CH.out.mono ?_
            rintro e w3 ⟨rfl, s3⟩
            have T3 := Lib.hid s3.end
            have dead : Hid (Calls Tryz.prog 11 #[] w3 (LawPost w3)) := shLives w3 (HTab.out.no T3.out)
            clear s3 CF CE CH
            go_wp2_with fail
            refine dead.out.mono ?_
            rintro e wz ⟨rfl, tz⟩
            go_wp2
            go_ret
            exact ⟨rfl, T3.out.trans tz⟩
          · rw [h0] at CM
            have CM := Lib.hid CM
            obtain ⟨U, hU⟩ : ∃ U, U = Sh.comT T := ⟨_, rfl⟩
            have hP2 := HP.out.two (m := m) Hi30.out h0
            rw [← hU] at CM hP2
            have HP2 := Lib.hid hP2
            have HU := Lib.hid hU
            have H0 := Lib.hid h0
            clear h0 hU hP2 HS HFF
            go_wp2_with fail
            refine CM.out.mono ?_
            rintro e w2 ⟨rfl, f2, s2⟩
            have S2 := Lib.hid s2
            have hrd2 : Rd w2 a (tgCells th) := by
              obtain ⟨a0, c0, e0, _, _, h0⟩ := rows_cell (s2.tgOwn List.mem_cons_self)
              simp only [Value.slice.injEq] at e0
              rw [e0.1]
              exact h0
            have hrd2 := Lib.hid hrd2
            clear s2 CM
            go_wp2_with (at_builtin; refine wpList_append_rows rfl _ _ 39 rfl 49 I z 2 32 Tryz.underlying39 HI.out.info HI.out.zero HI.out.size HI.out.bytes (by rw [HI.out.cells]; rfl) (by decide) (.slice none 0 0) 0 [] ⟨rfl, Or.inl ⟨rfl, rfl⟩⟩ rfl a nt c (tgCells th) rfl (by rw [tgCells_length, Hnt.out]) hrd2.out (tgCells_one th) (by unfold maxLen; omega) (by omega) ?_; intro a5 c5 w5 ho5 t5 hb5; have S5 : Hid (Sg true w w5 s d f2 U [Part.tgs (.slice a nt c) th, Part.tgs (.slice a5 nt c5) th]) := (Sg.perm (Sg.tgNew S2.out (by rw [Hnt.out]; simpa using ho5) (t5.mono (fun k hk h => by cases h)) (fun k hk => (hb5 k (by simpa using hk)).elim (fun h => by cases h) (fun h => h))) (List.Perm.swap _ _ _)); rw [Nat.zero_add]; clear ho5 t5 hb5 S2 hrd2)
            have Hcz : Hid (Sh.Part2 U (Sh.putC [] th) 0 (l ++ m) th U) := HP2.out
            obtain ⟨ck, hck⟩ : ∃ ck, ck = Sh.putC [] th := ⟨_, rfl⟩
            have HP2 : Hid (Sh.Part2 U ck 0 (l ++ m) th U) := by show Sh.Part2 _ _ _ _ _ _; rw [hck]; exact Hcz.out
            have Hg2 : Hid (∀ t : List TgDeed, (∀ y ∈ t, y ∈ l ++ m) → TgGood w t ∧ ∀ y ∈ t, y.b.length ≤ 65536) := fun t ht => ⟨fun y hy => (List.mem_append.1 (ht y hy)).elim (HLg.out y) (HMg.out y), fun y hy => (List.mem_append.1 (ht y hy)).elim (fun h => (Fl.out.each y h).2) (fun h => (Fm.out.each y h).2)⟩
            clear Hcz hck
            go_wp2
            go_loopg [9, 13] nm (fun g s9 s13 wr => ∃ (i2 : Nat) (a : Option Addr) (c n2 : Nat) (t2 : List TgDeed) (V : Sh.Sto), i2 + g = nm ∧ s13 = .int .i64 ((i2 : Nat) : Int) ∧ s9 = .slice a n2 c ∧ n2 ≤ 30 + i2 ∧ Hid (t2.length = n2) ∧ Hid (Sh.Part2 U ck i2 (l ++ m) t2 V) ∧ Hid (Sg true w wr s d f2 V [Part.tgs (.slice a n2 c) t2, Part.tgs (.slice a5 nt c5) th]))
            case atStart => exact ⟨0, a, c, nt, th, U, by omega, rfl, rfl, by omega, Hnt.out, HP2.out, S5.out⟩
            case round =>
              clear S5 HP2
              obtain ⟨i2, a, c, n2, t2, V, hig2, rfl, rfl, hn2', Hn2', HP2, HS⟩ := hrel
              have hn60 : (n2 : Int) ≤ 60 := by omega
              cases gk with
              | zero =>
                obtain rfl : i2 = nm := by omega
                obtain ⟨r1, r2, r3, r4, r5, r6⟩ := Sh.full_open HP.out H0.out U HU.out (HP2.out.safe.kept 0 (-1))
                have hd0 : Dd w wr d V.D (Part.sto s (some ⟨d, 0, none⟩) (some ⟨f2, 0, none⟩) true V.m :: Part.map f2 1 (1 + Sh.many V.D) V.S :: [Part.tgs (.slice a n2 c) t2, Part.tgs (.slice a5 nt c5) th]) := HS.out
                have CF := Dd.fail hd0 0 (-1) (by decide) (by have := HP2.out.waits; omega)
                obtain ⟨D2, hD2⟩ : ∃ D2, D2 = Dk.fail V.D 0 (-1) := ⟨_, rfl⟩
                rw [← hD2] at CF r1 r2 r3
                have CF : Hid (Calls Tryz.prog 25 #[.pointer (some ⟨d, 0, none⟩), .int .u64 0, .int .i64 (-1)] wr fun e w' => ∃ d', e = .returned (.tuple #[.pointer (some ⟨d', 0, none⟩), .int .i64 0]) ∧ Dd w w' d' D2 (Part.disk d V.D :: Part.sto s (some ⟨d, 0, none⟩) (some ⟨f2, 0, none⟩) true V.m :: Part.map f2 1 (1 + Sh.many V.D) V.S :: [Part.tgs (.slice a n2 c) t2, Part.tgs (.slice a5 nt c5) th])) := CF
                have R1 := Lib.hid r1
                have R2 := Lib.hid r2
                have R3 := Lib.hid r3
                have R5 := Lib.hid (And.intro r4 (And.intro r5 r6))
                clear r1 r2 r3 r4 r5 r6 hD2 hd0 HS HP2
                go_wp2_with fail
                refine CF.out.mono ?_
                rintro e w8 ⟨d2, rfl, h8⟩
                have CO := Lib.hid (shOpen_again h8 (by rw [R3.out]; exact Hn1.out) (by rw [R3.out]; exact Hn2.out) R1.out R5.out.1 R5.out.2.1 R5.out.2.2)
                clear h8 CF
                go_wp2_with fail
                refine CO.out.mono ?_
                rintro e w9 ⟨s2, f9, rfl, s9⟩
                have CH := Lib.hid (shHas s9 a5 nt c5 th R2.out (tgs_any (List.mem_cons_of_mem _ (List.mem_cons_of_mem _ (List.mem_cons_of_mem _ (List.mem_cons_of_mem _ List.mem_cons_self))))) Hgo.out Hnt.out (by omega) Hbo.out)
                clear s9 CO
                go_wp2_with fail
                refine CH.out.mono ?_
                rintro e w10 ⟨rfl, s10⟩
                have T3 := Lib.hid s10.end
                have dead : Hid (Calls Tryz.prog 11 #[] w10 (LawPost w10)) := shLives w10 (HTab.out.no T3.out)
                clear s10 CH
                go_wp2_with fail
                refine dead.out.mono ?_
                rintro e wz ⟨rfl, tz⟩
                go_wp2
                go_ret
                exact ⟨rfl, T3.out.trans tz⟩
              | succ g2 =>
                have hi1 : (i2 : Int) < (nm : Nat) := by omega
                have hil : i2 < m.length := by rw [HNM.out]; omega
                obtain ⟨x, hx⟩ : ∃ x, m[i2] = x := ⟨_, rfl⟩
                have hxm : x ∈ m := by rw [← hx]; exact List.getElem_mem hil
                obtain ⟨g0, o0, hal, hA⟩ := HM.out i2 x (by rw [List.getElem?_eq_getElem hil, hx])
                subst hal
                have HA : Hid (∀ w', Touch No w w' → w'.cell? ⟨g0, o0 + i2 * 2, none⟩ = some (.int .u32 (x.id : Nat)) ∧ w'.cell? ⟨g0, o0 + i2 * 2 + 1, none⟩ = some (.slice x.b_a x.b.length x.b_cap)) := fun w' t => ⟨(hA.touch t).cell 0 (by decide), (hA.touch t).cell 1 (by decide)⟩
                obtain ⟨c0, c1⟩ := HA.out _ HS.out.end
                have hS : wr.cell? ⟨g0, o0 + i2 * 2, none⟩ = some (.int .u32 (x.id : Nat)) ∧ wr.cell? ⟨g0, o0 + i2 * 2 + 1, none⟩ = some (.slice x.b_a x.b.length x.b_cap) := ⟨c0, c1⟩
                have hGx := HMg.out x hxm
                have hbx := (Fm.out.each x hxm).2
                have hpx := Sh.fits_len Fm.out hxm
                obtain ⟨F, hF⟩ : ∃ F, (Fr.lst V.S).length = F := ⟨_, rfl⟩
                have CF := Lib.hid (Ss.freeB (c := []) (e := 0) (n := 0) HS.out hF)
                have HFF := Lib.hid hF
                have S1 := Lib.hid (Sg.no HS.out (Touch.refl No wr).drew)
                have CP := Ss.put S1.out HP2.out.has.ok HTab.out x.id hGx.1 x.b_a x.b.length x.b_cap x.b rfl hGx.2.2.1 (by omega) (Or.inl hGx.2.1) hGx.2.2.2 (by have := HP2.out.waits; omega) (by have := HP2.out.puts; omega)
                have Hnt2 : Hid (∀ T', (Sh.putE V x.id x.b.length = 0 → T' = Sh.putT V x.id x.b → Sh.Part2 U ck (i2 + 1) (l ++ m) (t2 ++ [x]) T') ∧ (T' = V → Sh.Part2 U ck (i2 + 1) (l ++ m) t2 T')) := fun T' => ⟨fun e1 e2 => (by rw [e2]; exact HP2.out.yes (List.mem_append_right _ hxm) hGx.1 hpx e1), fun e2 => by rw [e2]; exact HP2.out.no⟩
                have hcs := Sh.putE_cases (T := V) (id := x.id) (n := x.b.length) hbx (by have := HP2.out.now; omega)
                obtain ⟨pe, hpe⟩ : ∃ pe, Sh.putE V x.id x.b.length = pe := ⟨_, rfl⟩
                have hno := fun h => Sh.putT_no (T := V) (id := x.id) (b := x.b) h
                rw [hpe] at CP Hnt2 hno hcs
                obtain ⟨T', hT'⟩ : ∃ T', T' = Sh.putT V x.id x.b := ⟨_, rfl⟩
                rw [← hT'] at CP hno
                have CP := Lib.hid CP
                have HT' := Lib.hid hT'
                have Hno := Lib.hid hno
                clear hx hil hA hGx hbx hxm hpe hno hT' hF hpx
                go_wp2_with fail
                refine CF.out.mono ?_
                rintro e w' ⟨rfl, rfl⟩
                clear CF
                go_wp2_with fail
                go_region_held3 (fun w' => w'.cell? ⟨g0, o0 + i2 * 2, none⟩ = some (.int .u32 (x.id : Nat)) ∧ w'.cell? ⟨g0, o0 + i2 * 2 + 1, none⟩ = some (.slice x.b_a x.b.length x.b_cap)) (first | exact hS | exact HA.out _ S1.out.end | exact HA.out _ s5.end) (first
                  | (go_at_call 14; refine CP.out.mono ?_; rintro e w5 ⟨rfl, s5⟩))
                all_goals
                  have S5 := Lib.hid s5
                  clear s5 S1 CP c0 c1 hS
                  rcases hcs with e0 | e0
                  · subst e0
                    have HPn := Lib.hid ((Hnt2.out T').1 rfl HT'.out)
                    obtain ⟨c0, c1⟩ := HA.out _ S5.out.end
                    have s6 : Sg true w (w5.alloc (.cells #[.int .u32 (x.id : Nat), .slice x.b_a x.b.length x.b_cap] 49)) s d f2 T' [Part.tgs (.slice a n2 c) t2, Part.tgs (.slice a5 nt c5) th] := Sg.drop (Sg.push S5.out (Born.row w5 49 #[.int .u32 (x.id : Nat), .slice x.b_a x.b.length x.b_cap]))
                    have HO1 := s6.tgOwn List.mem_cons_self
                    rw [Hn2'.out] at HO1
                    have HO1 := Lib.hid HO1
                    have S6 := Lib.hid s6
                    clear s6 S5
                    go_wp2_with (at_builtin; refine wpList_append_rows rfl _ _ 39 rfl 49 I z 2 32 Tryz.underlying39 HI.out.info HI.out.zero HI.out.size HI.out.bytes (by rw [HI.out.cells]; rfl) (by decide) (.slice a n2 c) n2 (tgCells t2) HO1.out rfl (some ⟨w5.heap.size, 0, none⟩) 1 1 (tgCells [x]) rfl (tgCells_length [x]) (rd_new w5 49 #[.int .u32 (x.id : Nat), .slice x.b_a x.b.length x.b_cap] (0, 0)) (tgCells_one [x]) (by unfold maxLen; omega) (by omega) ?_; intro a7 c7 w7 ho7 t7 hb7; have S7 : Hid (Sg true w w7 s d f2 T' [Part.tgs (.slice a7 (n2 + 1) c7) (t2 ++ [x]), Part.tgs (.slice a5 nt c5) th]) := Sg.tgGrow S6.out (by rw [List.length_append, Hn2'.out, tgCells_append]; exact ho7) t7 hb7; have CH := Lib.hid (shHas S7.out a7 (n2 + 1) c7 (t2 ++ [x]) HPn.out.has (tgs_any List.mem_cons_self) (Hg2.out _ HPn.out.sub).1 (by rw [List.length_append, Hn2'.out]; rfl) (by omega) (Hg2.out _ HPn.out.sub).2); clear ho7 t7 hb7 S6 HO1)
                    refine CH.out.mono ?_
                    rintro e w8 ⟨rfl, s8⟩
                    have S8 := Lib.hid s8
                    clear s8 CH S7
                    go_wp2
                    go_roundg g2
                    case measure => omega
                    case rel => exact ⟨i2 + 1, a7, c7, n2 + 1, t2 ++ [x], T', by omega, by go_num, rfl, by omega, by show _ = _; rw [List.length_append, Hn2'.out]; rfl, HPn.out, S8.out⟩
                  · subst e0
                    have HPn := Lib.hid ((Hnt2.out V).2 rfl)
                    have S6 : Hid (Sg true w w5 s d f2 V [Part.tgs (.slice a n2 c) t2, Part.tgs (.slice a5 nt c5) th]) := by have := S5.out; rw [Hno.out (by decide)] at this; exact this
                    have CF := Lib.hid (Ss.freeB (c := []) (e := 0) (n := 0) S6.out HFF.out)
                    have CH := Lib.hid (shHas S6.out a n2 c t2 HPn.out.has (tgs_any List.mem_cons_self) (Hg2.out _ HPn.out.sub).1 Hn2'.out (by omega) (Hg2.out _ HPn.out.sub).2)
                    clear S5
                    go_wp2_with fail
                    refine CF.out.mono ?_
                    rintro e w' ⟨rfl, rfl⟩
                    go_wp2_with fail
                    refine CH.out.mono ?_
                    rintro e w8 ⟨rfl, s8⟩
                    have S8 := Lib.hid s8
                    clear s8 CH S6 CF
                    go_wp2
                    go_roundg g2
                    case measure => omega
                    case rel => exact ⟨i2 + 1, a, c, n2, t2, V, by omega, by go_num, rfl, by omega, Hn2'.out, HPn.out, S8.out⟩
        | succ g2 =>
          have hi1 : (i : Int) < (nl : Nat) := by omega
          have hil : i < l.length := by rw [HNL.out]; omega
          obtain ⟨x, hx⟩ : ∃ x, l[i] = x := ⟨_, rfl⟩
          have hxm : x ∈ l := by rw [← hx]; exact List.getElem_mem hil
          obtain ⟨g0, o0, hal, hA⟩ := HL.out i x (by rw [List.getElem?_eq_getElem hil, hx])
          subst hal
          have HA : Hid (∀ w', Touch No w w' → w'.cell? ⟨g0, o0 + i * 2, none⟩ = some (.int .u32 (x.id : Nat)) ∧ w'.cell? ⟨g0, o0 + i * 2 + 1, none⟩ = some (.slice x.b_a x.b.length x.b_cap)) := fun w' t => ⟨(hA.touch t).cell 0 (by decide), (hA.touch t).cell 1 (by decide)⟩
          obtain ⟨c0, c1⟩ := HA.out _ HS.out.end
          have hS : wr.cell? ⟨g0, o0 + i * 2, none⟩ = some (.int .u32 (x.id : Nat)) ∧ wr.cell? ⟨g0, o0 + i * 2 + 1, none⟩ = some (.slice x.b_a x.b.length x.b_cap) := ⟨c0, c1⟩
          have hGx := HLg.out x hxm
          have S1 := Lib.hid (Sg.no HS.out (Touch.refl No wr).drew)
          have hbx := (Fl.out.each x hxm).2
          have CP := Ss.put S1.out HP.out.has.ok HTab.out x.id hGx.1 x.b_a x.b.length x.b_cap x.b rfl hGx.2.2.1 (by omega) (Or.inl hGx.2.1) hGx.2.2.2 (by have := HP.out.waits; omega) (by have := HP.out.puts; omega)
          have Hnt2 : Hid (∀ T', (Sh.putE T x.id x.b.length = 0 → T' = Sh.putT T x.id x.b → Sh.Part1 n (i + 1) l (th ++ [x]) T') ∧ (Sh.putE T x.id x.b.length ≠ 0 → T' = T → Sh.Part1 n (i + 1) l th T')) := fun T' => ⟨fun e1 e2 => (by rw [e2]; exact HP.out.yes Fl.out hxm e1), fun _ e2 => by rw [e2]; exact HP.out.no⟩
          obtain ⟨pe, hpe⟩ : ∃ pe, Sh.putE T x.id x.b.length = pe := ⟨_, rfl⟩
          have hno := fun h => Sh.putT_no (T := T) (id := x.id) (b := x.b) h
          rw [hpe] at CP Hnt2 hno
          obtain ⟨T', hT'⟩ : ∃ T', T' = Sh.putT T x.id x.b := ⟨_, rfl⟩
          rw [← hT'] at CP hno
          have CP := Lib.hid CP
          have HT' := Lib.hid hT'
          have Hno := Lib.hid hno
          have Hxl : Hid (x.b.length = x.b.length) := rfl
          clear hx hil hA hGx hbx hxm hpe hno hT'
          have hpe2 : pe = 0 ∨ ¬ pe = 0 := Nat.eq_zero_or_pos pe |>.imp id (fun h => by omega)
          go_wp2_with fail
          go_region_held3 (fun w' => w'.cell? ⟨g0, o0 + i * 2, none⟩ = some (.int .u32 (x.id : Nat)) ∧ w'.cell? ⟨g0, o0 + i * 2 + 1, none⟩ = some (.slice x.b_a x.b.length x.b_cap)) (first | exact hS | exact HA.out _ S1.out.end | exact HA.out _ s5.end) (first
            | (go_at_call 14; refine CP.out.mono ?_; rintro e w5 ⟨rfl, s5⟩))
          all_goals
            have S5 := Lib.hid s5
            clear s5 S1 CP c0 c1 hS
            rcases hpe2 with e0 | e0
            · subst e0
              have HPn := Lib.hid ((Hnt2.out T').1 rfl HT'.out)
              obtain ⟨c0, c1⟩ := HA.out _ S5.out.end
              have s6 : Sg true w (w5.alloc (.cells #[.int .u32 (x.id : Nat), .slice x.b_a x.b.length x.b_cap] 49)) s d f1 T' [Part.tgs (.slice a nt c) th] := Sg.drop (Sg.push S5.out (Born.row w5 49 #[.int .u32 (x.id : Nat), .slice x.b_a x.b.length x.b_cap]))
              have HO1 := s6.tgOwn List.mem_cons_self
              rw [Hnt.out] at HO1
              have HO1 := Lib.hid HO1
              have S6 := Lib.hid s6
              clear s6 S5
              go_wp2_with (at_builtin; refine wpList_append_rows rfl _ _ 39 rfl 49 I z 2 32 Tryz.underlying39 HI.out.info HI.out.zero HI.out.size HI.out.bytes (by rw [HI.out.cells]; rfl) (by decide) (.slice a nt c) nt (tgCells th) HO1.out rfl (some ⟨w5.heap.size, 0, none⟩) 1 1 (tgCells [x]) rfl (tgCells_length [x]) (rd_new w5 49 #[.int .u32 (x.id : Nat), .slice x.b_a x.b.length x.b_cap] (0, 0)) (tgCells_one [x]) (by unfold maxLen; omega) (by omega) ?_; intro a7 c7 w7 ho7 t7 hb7; have S7 : Hid (Sg true w w7 s d f1 T' [Part.tgs (.slice a7 (nt + 1) c7) (th ++ [x])]) := Sg.tgGrow S6.out (by rw [List.length_append, Hnt.out, tgCells_append]; exact ho7) t7 hb7; clear ho7 t7 hb7 S6 HO1)
              go_roundg g2
              case measure => omega
              case rel => exact ⟨i + 1, a7, c7, nt + 1, th ++ [x], T', by omega, by go_num, rfl, by omega, by show _ = _; rw [List.length_append, Hnt.out]; rfl, HPn.out, S7.out⟩
            · have hei : ¬ (pe : Int) = 0 := by omega
              have HPn := Lib.hid ((Hnt2.out T).2 e0 rfl)
              have S6 : Hid (Sg true w w5 s d f1 T [Part.tgs (.slice a nt c) th]) := by have := S5.out; rw [Hno.out e0] at this; exact this
              clear S5 e0
              go_wp2
              go_roundg g2
              case measure => omega
              case rel => exact ⟨i + 1, a, c, nt, th, T, by omega, by go_num, rfl, by omega, Hnt.out, HPn.out, S6.out⟩
end Go.Proofs.YtpmkegbgbldpnaaGreatDoor
namespace Go.Proofs.YtpmkegbgbldpnaaGreatDoor.shadowsFull
open Go.ChangeShapes Go.WideShapes Go.ChangeAt Go.RowKit

set_option maxRecDepth 100000 in
theorem contract (H : Type) (enc : TypeId × Value → H) (W : World) (base : Nat) (args : Array Value) (ds gs : List (DataW H)) (before : List MemPlace)
    (hval : ∀ (j : Nat) t v, Tryz.f8.params[j]? = some t → args[j]? = some v → Value.okWide Tryz.prog W .any base t v)
    (hW : DataW.Whole enc Tryz.prog Tryz.f8.params.toList Rows.shadowsFullSpec.vars false W args.toList ds gs before)
    (hz : ∀ n ∈ DataW.weightsEach Tryz.prog Tryz.f8.params.toList ds, n ≤ reachBytes) (hu : Rows.uptoBulkAll ds ≤ 1048576) (hT : TabAt W) :
    Calls Tryz.prog 8 args W fun e W' => ∃ v, e = .returned v ∧ Rows.shadowsFullSpec.post enc Tryz.prog Tryz.f8 false true false false W args v W' := by
  have hW' := hW
  obtain ⟨p, q, hA0, hV, rfl, hfz, hnd⟩ := hW
  have hA : DataW.TrodAll enc Tryz.prog W 0 (fun _ => true) true Tryz.f8.params.toList args.toList ds p := hA0
  rw [Tryz.params8] at hA hval hz
  obtain ⟨v0, vs0, d0, ds0, p0, q0, hargs, rfl, rfl, h0, r0⟩ := trodAll_cons hA
  obtain ⟨v1, vs1, d1, ds1, p1, q1, rfl, rfl, rfl, h1, r1⟩ := trodAll_cons r0
  obtain ⟨v2, vs2, d2, ds2, p2, q2, rfl, rfl, rfl, h2, r2⟩ := trodAll_cons r1
  obtain ⟨rfl, rfl, rfl⟩ := trodAll_nil r2
  obtain rfl : args = #[v0, v1, v2] := by cases args; simp_all
  obtain ⟨rfl, rfl⟩ := trodVars_none hV
  obtain ⟨a0', len0, cap0', rfl⟩ := okWide_slice Tryz.underlying39 (hval 0 39 v0 rfl rfl)
  obtain ⟨fuel0, hf0⟩ := h0
  have hm0 : Rows.uptoBulk d0 ≤ 1048576 := Nat.le_trans (bulk_part (by simp)) hu
  obtain ⟨a0, n0, c0, l0, hcs0, N0, A0, K0⟩ := open_tg_deedsB hf0 (fun k hk => hz k (by simp only [DataW.weightsEach, List.mem_append]; exact Or.inl hk))
  simp only [Value.cells, List.cons.injEq, Value.slice.injEq, and_true] at hcs0
  obtain ⟨rfl, rfl, rfl⟩ := hcs0
  have B0 : Sh.bulk l0 ≤ 1000000000 := Nat.le_trans (bulk_of_sum l0) (Nat.le_trans (Nat.mul_le_mul_left 500 (Nat.le_trans K0 hm0)) (by decide))
  obtain ⟨a1', len1, cap1', rfl⟩ := okWide_slice Tryz.underlying39 (hval 1 39 v1 rfl rfl)
  obtain ⟨fuel1, hf1⟩ := h1
  have hm1 : Rows.uptoBulk d1 ≤ 1048576 := Nat.le_trans (bulk_part (by simp)) hu
  obtain ⟨a1, n1, c1, l1, hcs1, N1, A1, K1⟩ := open_tg_deedsB hf1 (fun k hk => hz k (by simp only [DataW.weightsEach, List.mem_append]; exact Or.inr (Or.inl hk)))
  simp only [Value.cells, List.cons.injEq, Value.slice.injEq, and_true] at hcs1
  obtain ⟨rfl, rfl, rfl⟩ := hcs1
  have B1 : Sh.bulk l1 ≤ 1000000000 := Nat.le_trans (bulk_of_sum l1) (Nat.le_trans (Nat.mul_le_mul_left 500 (Nat.le_trans K1 hm1)) (by decide))
  obtain ⟨x2, rfl, rfl, rfl, w2⟩ := open_int Tryz.underlying5 (hval 2 5 v2 rfl rfl) h2
  obtain ⟨m2, rfl, hm2⟩ := wf_u8 w2
  refine (shadowsFull_walk W _ _ _ l0 A0 N0 B0 _ _ _ l1 A1 N1 B1 m2 hm2 hT).mono fun e W' ⟨he, ht⟩ => ?_
  subst he
  exact ⟨_, rfl, law_post laidOut (by kernel_rfl) rfl (by kernel_rfl) Tryz.underlying4 hW' rfl (ht.below (Nat.le_refl _) (fun _ _ f => f))⟩

theorem laid_met (os : Os) : laidMetH Tryz.prog Rows.shadowsFullUptoRow.laid ((laidWorldE os).forCall (fun _ _ => 0) ⟨#[], #[.slice none 0 0, .slice none 0 0, .int .u8 0], []⟩).memory :=
  laidMetH_of_parts (laidMet_of_run' 8 (by kernel_rfl) (by kernel_rfl)) (by kernel_rfl)
theorem reads (os : Os) {H : Type} (enc : TypeId × Value → H) : ∃ places, DataW.whole enc Tryz.prog ((laidWorldE os).forCall (fun _ _ => 0) ⟨#[], #[.slice none 0 0, .slice none 0 0, .int .u8 0], []⟩).memory Tryz.f8.params.toList Rows.shadowsFullSpec.vars false #[.slice none 0 0, .slice none 0 0, .int .u8 0].toList 8 = some ([.nil, .nil, .lit (.int .u8 0)], [], places) :=
  ⟨[], by kernel_rfl⟩

set_option maxRecDepth 100000 in
theorem lifted (os : Os) (started : os.Started) (H : Type) (enc : TypeId × Value → H) (F : Stop.Interp) :
    ReturnsInHanded {} Tryz.checked os 8 .any ((Rows.OpenSpec.upto Rows.shadowsFullSpec).preRow enc Tryz.prog Tryz.f8 Rows.shadowsFullUptoRow.domain false Rows.shadowsFullUptoRow.laid) (((Rows.OpenSpec.upto Rows.shadowsFullSpec).at F).post enc Tryz.prog Tryz.f8 false true false false) := by
  obtain ⟨places, hx⟩ := reads os enc
  refine returnsInHanded_of_row (C := Tryz.checked) (s := Rows.OpenSpec.upto Rows.shadowsFullSpec) own started (by kernel_rfl) Tryz.func8
    (witness_row_at (enc := enc) (C := Tryz.checked) false (laidWorldE os) #[.slice none 0 0, .slice none 0 0, .int .u8 0] rfl (by kernel_rfl) (by kernel_rfl) (by kernel_rfl)
      (OpenSpec.preRow_of_cond 8 hx (by kernel_rfl) (fun k hk => by cases hk; kernel_rfl) (by kernel_rfl) (laid_met os))) ?_
  intro W base args ds gs before hval hW _ hcond hz hL _ _
  have hgs : gs = [] := by obtain ⟨_, _, _, hV, _⟩ := hW; exact (trodVars_none hV).1
  subst hgs
  rw [List.append_nil, show (Rows.OpenSpec.upto Rows.shadowsFullSpec).bare.plain.varTypes Tryz.checked.prog = [] from rfl, List.append_nil] at hz
  have hu : Rows.uptoBulkAll ds ≤ 1048576 := by have := hcond _ rfl; rw [List.append_nil] at this; exact of_decide_eq_true this
  exact contract H enc W base args ds [] before hval hW (fun n hn => by simpa using List.all_eq_true.1 hz n hn) hu (tab_atE hL)

set_option maxHeartbeats 16000000 in
set_option maxRecDepth 100000 in
theorem facts : joinedFacts Tryz.pinned.checked.prog 8 Tryz.f8 (Rows.OpenSpec.upto Rows.shadowsFullSpec).bare Rows.shadowsFullUptoRow = true := by
  unfold joinedFacts
  repeat' (with_reducible refine Bool.and_eq_true_iff.2 ⟨?_, ?_⟩)
  all_goals as_aux_lemma => kernel_rfl

theorem said : Rows.ShadowsFullUptoSaid :=
  OpenClaim.holds_of_cond 8 Tryz.f8 rfl rfl rfl rfl rfl rfl rfl ⟨rfl, rfl, rfl, rfl, rfl⟩ rfl rfl rfl rfl rfl (by kernel_rfl) Tryz.func8 facts
    (of_decide_eq_true (by kernel_rfl)) (by unfold Func.isWrapper; first | (rw [if_pos (by decide +kernel)]; kernel_rfl) | (rw [if_neg (by decide +kernel)]; exact ⟨rfl, rfl⟩))
    (fun os started H enc _ F => by rw [OpenClaim.pre_eq_preRow]; exact lifted os started H enc F)

theorem plain (f : FuncId) (fn : Func) (hf : Tryz.pinned.checked.prog.funcNamed "drydock/drydocklaw18.ShadowsFull" = some f) (hfn : Tryz.pinned.checked.prog.funcs[f]? = some fn) :
    true = Tryz.pinned.checked.prog.looks [] ∧ ∀ (j : Nat) t, fn.params[j]? = some t → Tryz.pinned.checked.prog.wantsStandIn t = false := by
  obtain rfl : f = 8 := Option.some.inj ((show Tryz.prog.funcNamed "drydock/drydocklaw18.ShadowsFull" = some 8 by kernel_rfl).symm.trans hf) |>.symm
  obtain rfl : fn = Tryz.f8 := (Option.some.inj (Tryz.func8.symm.trans hfn)).symm
  refine ⟨by kernel_rfl, fun j t ht => ?_⟩
  rw [Tryz.params8] at ht
  have hm : t ∈ [39, 39, 5] := by simpa using Array.mem_of_getElem? ht
  have hall : ([39, 39, 5].all fun u => !Tryz.prog.wantsStandIn u) = true := by kernel_rfl
  exact (show Tryz.prog.wantsStandIn t = false by simpa using List.all_eq_true.1 hall t hm)

theorem card : Rows.ShadowsFullUptoCardSaid :=
  Claim7.holds_tied_plain_at .later [] _ _ _ _ said (fun _ h => by cases h) (by kernel_rfl) (fun _ h => by cases h) shadowsFullUpto_row_tie rfl ⟨rfl, rfl⟩ (by kernel_rfl) rfl plain (by kernel_rfl)
end Go.Proofs.YtpmkegbgbldpnaaGreatDoor.shadowsFull
