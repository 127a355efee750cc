/-
  ShadowsApart proved: a thing's bytes hang on what was put for its id alone; one that goes leaves the others: the given card of the form 'upto' (what is read is of bulk at most 1048576). No condition of our own.
  Package drydocklaw18 by its own text: the walk of ShadowsApart.
-/
import Derived.Test.YtpmkegbgbldpnaaGreatDoorK49
import Derived.Test.YtpmkegbgbldpnaaGreatDoorK02
import Derived.Test.YtpmkegbgbldpnaaGreatDoorK48
namespace Go.Proofs.YtpmkegbgbldpnaaGreatDoor
open Go Go.RowKit
set_option linter.unusedSimpArgs false
set_option linter.unusedVariables false
section
variable {w0 w w' : World} {s d f : Nat} {T : Sh.Sto} {E : List Part}
theorem Ss.delK {r : Nat} (h : Sg true w0 w s d f T E) (hT : Sh.Ok T) (id : Nat) (hid : id < 4294967296) (hr : Sh.delE T id = r) :
    Calls Tryz.prog 21 #[.pointer (some ⟨s, 0, none⟩), .int .u32 (id : Nat)] w fun e w' => e = .returned (.int .i64 (r : Nat)) ∧ Sg true w0 w' s d f (Sh.delT T id) E := by
  have := Ss.del h hT id hid
  rw [hr] at this
  exact this
end
set_option maxRecDepth 100000 in
set_option maxHeartbeats 16000000 in
theorem shadowsApart_walk (w : World) (al : Option Addr) (nl cl : Nat) (l : List TgDeed) (hl : IsTgDeeds w al l) (hnl : l.length = nl) (hbl : Sh.bulk l ≤ 1000000000)
    (id : Nat) (hid : id < 4294967296) (ag : Option Addr) (ng cg : Nat) (gs : List Nat) (hg : Bytes w ag ng cg gs) (hTab : TabAt w) :
    Calls Tryz.prog 5 #[.slice al nl cl, .int .u32 (id : Nat), .slice ag ng cg] w (LawPost w) := by
  have HL := Lib.hid hl
  have HNL := Lib.hid hnl
  have HG := Lib.hid hg
  have HTab := Lib.hid hTab
  have HLg := Lib.hid hl.good
  have Hid0 := Lib.hid hid
  have FL : Hid (∀ w1, Touch No w w1 → Calls Tryz.prog 18 #[.slice al nl cl] w1 fun e w' => e = .returned (.bool (decide ((Sh.bulk l : Int) ≤ 15000))) ∧ w1 = w') := fun w1 t => shFit w1 al nl cl l (hl.touch t) hnl (by omega)
  have hgn : (ng : Int) ≤ 140737488351232 := hg.nlow
  clear hl hnl hg hTab hbl hid
  go_enter Tryz.func5, Tryz.ntmps5
  go_wp2_with fail
  refine (shOpened w 1200 (by decide) (by decide)).mono ?_
  rintro e w1 ⟨d, s, f1, rfl, s1⟩
  have S1 := Lib.hid s1
  clear s1
  obtain ⟨bl, hbl⟩ : ∃ b : Bool, decide ((Sh.bulk l : Int) ≤ 15000) = b := ⟨_, rfl⟩
  have FL2 := FL.out w1 S1.out.end
  rw [hbl] at FL2
  have FL2 := Lib.hid FL2
  have Hbl := Lib.hid hbl
  clear hbl FL
  have dead : Hid (Calls Tryz.prog 11 #[] w1 (LawPost w1)) := shLives w1 (HTab.out.no S1.out.end)
  have T1 : Hid (Touch No w w1) := S1.out.end
  go_wp2_with fail
  refine FL2.out.mono ?_
  rintro e w' ⟨rfl, rfl⟩
  cases bl with
  | false =>
    go_wp2_with fail
    refine dead.out.mono ?_
    rintro e wz ⟨rfl, tz⟩
    go_wp2
    go_ret
    exact ⟨rfl, T1.out.trans tz⟩
  | true =>
    by_cases hg60 : (4000 : Int) < (ng : Nat)
    · go_wp2_with fail
      refine dead.out.mono ?_
      rintro e wz ⟨rfl, tz⟩
      go_wp2
      go_ret
      exact ⟨rfl, T1.out.trans tz⟩
    · have fl : Sh.Fits l := Sh.fits_of (by have := of_decide_eq_true Hbl.out; omega) (fun x hx => (HLg.out x hx).1)
      have hnl30 : (nl : Int) ≤ 30 := by have := fl.len; have := HNL.out; omega
      obtain ⟨I, z, hI⟩ := tg_is
      have HI := Lib.hid hI
      have Fl := Lib.hid fl
      have Hng : Hid (ng ≤ 4000) := by show _ ≤ _; omega
      clear FL2 dead Hbl fl hI T1
      go_wp2
      go_loopg [9, 10] nl (fun g s9 s10 wr => ∃ (i : Nat) (a : Option Addr) (c : Nat), i + g = nl ∧ s10 = .int .i64 ((i : Nat) : Int) ∧ s9 = .slice a (Sh.but id (l.take i)).length c ∧ Hid (Sg true w wr s d f1 (Sh.newS (Dk.new 1200)) [Part.tgs (.slice a (Sh.but id (l.take i)).length c) (Sh.but id (l.take i))]))
      case atStart =>
        refine ⟨0, none, 0, by omega, rfl, by rw [List.take_zero]; rfl, ?_⟩
        rw [List.take_zero]
        exact Sg.push S1.out (rows_nil w1 _ 2)
      case round =>
        clear S1
        obtain ⟨i, a, c, hig, rfl, rfl, HS⟩ := hrel
        obtain ⟨o, ho⟩ : ∃ o, Sh.but id (l.take i) = o := ⟨_, rfl⟩
        obtain ⟨no, hno⟩ : ∃ no, o.length = no := ⟨_, rfl⟩
        have hno2 : no ≤ i := by rw [← hno, ← ho]; exact Nat.le_trans (Sh.but_len _ _) (by rw [List.length_take]; exact Nat.min_le_left _ _)
        have hno3 : (no : Int) ≤ 30 := by omega
        rw [ho] at HS
        rw [ho]
        rw [hno] at HS
        rw [hno]
        have Hno := Lib.hid hno
        have Ho := Lib.hid ho
        clear hno ho
        cases gk with
        | zero =>
          obtain rfl : i = nl := by omega
          have e1 : l.take i = l := List.take_of_length_le (by rw [HNL.out]; exact Nat.le_refl _)
          have Ho2 : Hid (Sh.but id l = o) := by have := Ho.out; rw [e1] at this; exact this
          obtain ⟨x, hx⟩ : ∃ x : TgDeed, x = ⟨id, gs, ag, cg⟩ := ⟨_, rfl⟩
          have hxi : x.id = id := by rw [hx]
          have hxb : x.b = gs := by rw [hx]
          have hol : o.length ≤ 30 := by rw [← Ho2.out]; exact Nat.le_trans (Sh.but_len _ _) Fl.out.len
          have hop : Sh.pgSum o ≤ 62 := by rw [← Ho2.out]; exact Nat.le_trans (Sh.but_pgs _ _) Fl.out.pgs
          have hoe : ∀ y ∈ o, y ∈ l := fun y hy => by rw [← Ho2.out] at hy; exact (List.mem_filter.1 hy).1
          have hpx : Ex.pages x.b.length ≤ 17 := by rw [hxb, HG.out.len]; have := Hng.out; unfold Ex.pages; omega
          obtain ⟨p1, p2⟩ := Sh.first_put (l := o ++ [x]) (by rw [List.length_append]; show _ + 1 ≤ _; omega) (by rw [Sh.pgSum_snoc]; omega) (fun y hy => by
            rcases List.mem_append.1 hy with h | h
            · exact Fl.out.each y (hoe y h)
            · obtain rfl := List.mem_singleton.1 h
              rw [hxi, hxb, HG.out.len]
              exact ⟨Hid0.out, by have := Hng.out; omega⟩)
          obtain ⟨h1, h2, h3, h4⟩ := p2 _ rfl
          obtain ⟨q1, q2, q3, q4⟩ := p1.last
          rw [hxi, hxb] at q2
          have hgo : TgGood w o := fun y hy => HLg.out y (hoe y hy)
          have CP := Lib.hid (shPutAll HS.out HTab.out a no c o (tgs_any List.mem_cons_self) hgo Hno.out (by omega) p1.left)
          rw [Sh.putAll_append] at h1 h2 h3 h4
          obtain ⟨T1, hT1⟩ : ∃ T1, T1 = Sh.putAll (Sh.newS (Dk.new 1200)) o := ⟨_, rfl⟩
          rw [← hT1] at CP h1 h2 h3 h4 q1 q2 q3 q4
          have hput : Sh.putAll T1 [x] = Sh.putT T1 id gs := by rw [← hxi, ← hxb]; rfl
          rw [hput] at h1 h2 h3 h4
          obtain ⟨T2, hT2⟩ : ∃ T2, T2 = Sh.putT T1 id gs := ⟨_, rfl⟩
          have HX := Lib.hid hx
          rw [← hT2] at h1 h2 h3 h4
          have Hq : Hid (Sh.Ok T1 ∧ Sh.putE T1 id gs.length = 0 ∧ T1.D.waits.length ≤ 90000 ∧ T1.puts ≤ 1000000) := ⟨q1, q2, q3, q4⟩
          have HT2 := Lib.hid hT2
          have H1 := Lib.hid h1
          have H2 := Lib.hid h2
          have H3 := Lib.hid h3
          have H4 := Lib.hid h4
          have Hgo := Lib.hid hgo
          have Hoe := Lib.hid hoe
          have Hsm : Hid (Sh.Small (Sh.putC [] o) 31 79) := (Sh.small_put Sh.small_nil).mono (by omega) (by omega)
          have Hsm2 : Hid (Sh.Small (Sh.putC [] (o ++ [x])) 31 79) := (Sh.small_put Sh.small_nil).mono (by rw [List.length_append]; show 0 + (_ + 1) ≤ _; omega) (by rw [Sh.pgSum_snoc]; omega)
          have Hln : Hid (Mp.look (Sh.putC [] o) id = none) := by show _ = _; rw [← Ho2.out]; exact Sh.look_but id l
          have Hc2 : Hid (Sh.putC [] (o ++ [x]) = Mp.put (Sh.putC [] o) id gs) := by show _ = _; rw [Sh.putC_snoc, hxi, hxb]
          have Hdel : Hid (Mp.del (Sh.putC [] (o ++ [x])) id = Sh.putC [] o) := by show _ = _; rw [Hc2.out]; exact Sh.del_put (Sh.putC_up o List.Pairwise.nil) Hln.out gs
          clear p1 p2 h1 h2 h3 h4 q1 q2 q3 q4 hT1 hT2 hput hxi hxb hol hop hpx hoe hgo hx e1
          go_wp2_with fail
          refine CP.out.mono ?_
          rintro e w2 ⟨rfl, s2⟩
          have CP2 : Hid (Calls Tryz.prog 14 #[.pointer (some ⟨s, 0, none⟩), .int .u32 (id : Nat), .slice ag ng cg] w2 fun e w' => e = .returned (.int .i64 0) ∧ Sg true w w' s d f1 T2 [Part.tgs (.slice a no c) o]) := by
            have := Ss.put s2 Hq.out.1 HTab.out id Hid0.out ag ng cg gs HG.out.len HG.out.cap (by have := Hng.out; omega) (Or.inl HG.out.rd) HG.out.lt Hq.out.2.2.1 Hq.out.2.2.2
            rw [← HG.out.len, Hq.out.2.1, ← HT2.out, HG.out.len] at this
            exact this
          clear s2 CP HS
          go_wp2_with fail
          refine CP2.out.mono ?_
          rintro e w3 ⟨rfl, s3⟩
          have CC : Hid (Calls Tryz.prog 16 #[.pointer (some ⟨s, 0, none⟩)] w3 fun e w' => e = .returned (.int .i64 0) ∧ ∃ f', Sg true w w' s d f' (Sh.comT T2) [Part.tgs (.slice a no c) o]) := by
            have := Ss.commit s3 H1.out.ok HTab.out (by have := H2.out; omega)
            rw [H3.out] at this
            exact this
          clear s3 CP2
          go_wp2_with fail
          refine CC.out.mono ?_
          rintro e w4 ⟨rfl, f2, s4⟩
          have S4 := Lib.hid s4
          have hrd4 : Rd w4 a (tgCells o) := by
            obtain ⟨a0, c0, e0, _, _, h0⟩ := rows_cell (s4.tgOwn List.mem_cons_self)
            simp only [Value.slice.injEq] at e0
            rw [e0.1]
            exact h0
          have hrd4 := Lib.hid hrd4
          clear s4 CC
          go_wp2_with (at_builtin; refine wpList_append_rowsG ?_ _ _ 39 rfl 49 I z 2 32 Tryz.underlying39 HI.out.info HI.out.zero HI.out.size HI.out.bytes (by rw [HI.out.cells]; rfl) (by decide) (.slice none 0 0) 0 [] ⟨rfl, Or.inl ⟨rfl, rfl⟩⟩ rfl a no c (tgCells o) rfl (by rw [tgCells_length, Hno.out]) hrd4.out (tgCells_one o) (by unfold maxLen; omega) (by omega) ?_; rfl)
          intro a5 c5 w5 ho5 t5 hb5
          have s5 : Sg true w w5 s d f2 (Sh.comT T2) [Part.tgs (.slice a5 no c5) o, Part.tgs (.slice a no c) o] := Sg.tgNew S4.out (by rw [Hno.out]; exact ho5) (t5.mono (fun k hk h => by cases h)) (fun k hk => (hb5 k hk).elim (fun h => by cases h) (fun h => h))
          have S5 := Lib.hid s5
          clear s5 ho5 t5 hb5 S4 hrd4
          have hxc : (#[Value.int .u32 (id : Nat), .slice ag ng cg] : Array Value).toList = tgCells [x] := by rw [HX.out, ← HG.out.len]; rfl
          have s6 : Sg true w (w5.alloc (.cells #[.int .u32 (id : Nat), .slice ag ng cg] 49)) s d f2 (Sh.comT T2) [Part.tgs (.slice a5 no c5) o, Part.tgs (.slice a no c) o] := Sg.drop (Sg.push S5.out (Born.row w5 49 #[.int .u32 (id : Nat), .slice ag ng cg]))
          have HR6 : Hid (Rd (w5.alloc (.cells #[.int .u32 (id : Nat), .slice ag ng cg] 49)) (some ⟨w5.heap.size, 0, none⟩) (tgCells [x])) := by
            show Rd _ _ _
            rw [← hxc]; exact rd_new w5 49 #[.int .u32 (id : Nat), .slice ag ng cg] (0, 0)
          have HO6 := s6.tgOwn List.mem_cons_self
          rw [Hno.out] at HO6
          have HO6 := Lib.hid HO6
          have S6 := Lib.hid s6
          clear s6 hxc S5
          go_wp2_with (at_builtin; refine wpList_append_rowsG ?_ _ _ 39 rfl 49 I z 2 32 Tryz.underlying39 HI.out.info HI.out.zero HI.out.size HI.out.bytes (by rw [HI.out.cells]; rfl) (by decide) (.slice a5 no c5) no (tgCells o) HO6.out rfl (some ⟨w5.heap.size, 0, none⟩) 1 1 (tgCells [x]) rfl (tgCells_length [x]) HR6.out (tgCells_one [x]) (by unfold maxLen; omega) (by omega) ?_; rfl)
          intro a7 c7 w7 ho7 t7 hb7
          have s7 : Sg true w w7 s d f2 (Sh.comT T2) [Part.tgs (.slice a7 (no + 1) c7) (o ++ [x]), Part.tgs (.slice a no c) o] := Sg.tgGrow S6.out (by rw [List.length_append, Hno.out, tgCells_append]; exact ho7) t7 (fun k hk => (hb7 k hk).imp (fun h => h) (fun h => by simpa using h))
          have Hgx : Hid (TgGood w (o ++ [x])) := fun y hy => by
            rcases List.mem_append.1 hy with h | h
            · exact Hgo.out y h
            · obtain rfl := List.mem_singleton.1 h
              rw [HX.out]
              exact ⟨Hid0.out, HG.out.rd, by show gs.length ≤ _; rw [HG.out.len]; exact HG.out.cap, HG.out.lt⟩
          have Hbx : Hid (∀ y ∈ o ++ [x], y.b.length ≤ 65536) := fun y hy => by
            rcases List.mem_append.1 hy with h | h
            · exact (Fl.out.each y (Hoe.out y h)).2
            · obtain rfl := List.mem_singleton.1 h
              rw [HX.out]
              show gs.length ≤ _
              rw [HG.out.len]; have := Hng.out; omega
          have Hbo : Hid (∀ y ∈ o, y.b.length ≤ 65536) := fun y hy => (Fl.out.each y (Hoe.out y hy)).2
          have CH := Lib.hid (shHas s7 a7 (no + 1) c7 (o ++ [x]) H4.out.has (tgs_any List.mem_cons_self) Hgx.out (by rw [List.length_append, Hno.out]; rfl) (by omega) Hbx.out)
          clear s7 ho7 t7 hb7 S6 HO6 HR6
          go_wp2_with fail
          refine CH.out.mono ?_
          rintro e w8 ⟨rfl, s8⟩
          have B8 := H4.out.busy
          have hde : Sh.delE (Sh.comT T2) id = 0 := by
            rw [B8.has.del_e, Hc2.out, Mp.look_put_same]; rfl
          have CD := Lib.hid (Ss.delK s8 B8.has.ok id Hid0.out hde)
          have B9 := B8.del id
          rw [Hdel.out] at B9
          have B9 := Lib.hid B9
          clear B8 hde s8 CH
          go_wp2_with fail
          refine CD.out.mono ?_
          rintro e w9 ⟨rfl, s9⟩
          have CH := Lib.hid (shHas s9 a no c o B9.out.has (tgs_any (List.mem_cons_of_mem _ List.mem_cons_self)) Hgo.out Hno.out (by omega) Hbo.out)
          clear s9 CD
          go_wp2_with fail
          refine CH.out.mono ?_
          rintro e w10 ⟨rfl, s10⟩
          obtain ⟨k1, k2⟩ := B9.out.com Hsm.out Hsm2.out (by decide)
          have CM := Lib.hid (Ss.comB s10 B9.out k1 (by decide) HTab.out)
          have K2 := Lib.hid k2
          clear s10 CH k1 k2
          go_wp2_with fail
          refine CM.out.mono ?_
          rintro e w11 ⟨rfl, f11, s11⟩
          have CH := Lib.hid (shHas s11 a no c o K2.out.has (tgs_any (List.mem_cons_of_mem _ List.mem_cons_self)) Hgo.out Hno.out (by omega) Hbo.out)
          clear s11 CM
          go_wp2_with fail
          refine CH.out.mono ?_
          rintro e w12 ⟨rfl, s12⟩
          have hde : Sh.delE (Sh.comT (Sh.delT (Sh.comT T2) id)) id = 7 := by
            rw [K2.out.has.del_e, Hln.out]; rfl
          have CD := Lib.hid (Ss.delK s12 K2.out.has.ok id Hid0.out hde)
          clear s12 CH hde
          go_wp2_with fail
          refine CD.out.mono ?_
          rintro e w13 ⟨rfl, s13⟩
          have T13 := Lib.hid s13.end
          have dead : Hid (Calls Tryz.prog 11 #[] w13 (LawPost w13)) := shLives w13 (HTab.out.no T13.out)
          clear s13 CD
          go_wp2_with fail
          refine dead.out.mono ?_
          rintro e wz ⟨rfl, tz⟩
          go_wp2
          go_ret
          exact ⟨rfl, T13.out.trans tz⟩
        | succ g2 =>
          have hi1 : (i : Int) < (nl : Nat) := by omega
          have hil : i < l.length := by rw [HNL.out]; omega
          have hsn := Sh.but_snoc (id := id) hil
          obtain ⟨x, hx⟩ : ∃ x, l[i] = x := ⟨_, rfl⟩
          rw [hx, Ho.out] at hsn
          obtain ⟨g0, o0, hal, hA⟩ := HL.out i x (by rw [List.getElem?_eq_getElem hil, hx])
          subst hal
          have hA2 := hA.touch HS.out.end
          have c0 : wr.cell? ⟨g0, o0 + i * 2, none⟩ = some (.int .u32 (x.id : Nat)) := hA2.cell 0 (by decide)
          have c1 : wr.cell? ⟨g0, o0 + i * 2 + 1, none⟩ = some (.slice x.b_a x.b.length x.b_cap) := hA2.cell 1 (by decide)
          have Hsn := Lib.hid hsn
          clear hsn hx hil hA hA2
          by_cases e : x.id = id
          · have ei : (x.id : Int) = (id : Int) := by omega
            have Hk : Hid (Sh.but id (l.take (i + 1)) = o) := by show _ = _; rw [Hsn.out, if_pos e, List.append_nil]
            clear Hsn e
            go_wp2
            go_roundg g2
            case measure => omega
            case rel => exact ⟨i + 1, a, c, by omega, by go_num, by rw [Hk.out, Hno.out], by rw [Hk.out, Hno.out]; exact HS.out⟩
          · have ei : ((x.id : Int) != (id : Int)) = true := by simp; omega
            have Hk : Hid (Sh.but id (l.take (i + 1)) = o ++ [x]) := by show _ = _; rw [Hsn.out, if_neg e]
            have Hne := Lib.hid e
            clear Hsn e
            have s1 : Sg true w (wr.alloc (.cells #[.int .u32 (x.id : Nat), .slice x.b_a x.b.length x.b_cap] 49)) s d f1 (Sh.newS (Dk.new 1200)) [Part.tgs (.slice a no c) o] := Sg.drop (Sg.push HS.out (Born.row wr 49 #[.int .u32 (x.id : Nat), .slice x.b_a x.b.length x.b_cap]))
            have HO1 := s1.tgOwn List.mem_cons_self
            rw [Hno.out] at HO1
            have HO1 := Lib.hid HO1
            have S1 := Lib.hid s1
            clear s1 HS
            go_wp2_with (at_builtin; refine wpList_append_rows rfl _ _ 39 rfl 49 I z 2 32 Tryz.underlying39 HI.out.info HI.out.zero HI.out.size HI.out.bytes (by rw [HI.out.cells]; rfl) (by decide) (.slice a no c) no (tgCells o) HO1.out rfl (some ⟨wr.heap.size, 0, none⟩) 1 1 (tgCells [x]) rfl (tgCells_length [x]) (rd_new wr 49 #[.int .u32 (x.id : Nat), .slice x.b_a x.b.length x.b_cap] (0, 0)) (tgCells_one [x]) (by unfold maxLen; omega) (by omega) ?_; intro a5 c5 w5 ho5 t5 hb5; have S5 : Hid (Sg true w w5 s d f1 (Sh.newS (Dk.new 1200)) [Part.tgs (.slice a5 (no + 1) c5) (o ++ [x])]) := Sg.tgGrow S1.out (by rw [List.length_append, Hno.out, tgCells_append]; exact ho5) t5 hb5; clear ho5 t5 hb5 S1 HO1)
            go_roundg g2
            case measure => omega
            case rel => exact ⟨i + 1, a5, c5, by omega, by go_num, by rw [Hk.out, List.length_append, Hno.out]; rfl, by rw [Hk.out, List.length_append, Hno.out]; exact S5.out⟩
end Go.Proofs.YtpmkegbgbldpnaaGreatDoor
namespace Go.Proofs.YtpmkegbgbldpnaaGreatDoor.shadowsApart
open Go.ChangeShapes Go.WideShapes Go.ChangeAt Go.RowKit

set_option maxRecDepth 100000 in
theorem contract (H : Type) (enc : TypeId × Value → H) (W : World) (base : Nat) (args : Array Value) (ds gs : List (DataW H)) (before : List MemPlace)
    (hval : ∀ (j : Nat) t v, Tryz.f5.params[j]? = some t → args[j]? = some v → Value.okWide Tryz.prog W .any base t v)
    (hW : DataW.Whole enc Tryz.prog Tryz.f5.params.toList Rows.shadowsApartSpec.vars false W args.toList ds gs before)
    (hz : ∀ n ∈ DataW.weightsEach Tryz.prog Tryz.f5.params.toList ds, n ≤ reachBytes) (hu : Rows.uptoBulkAll ds ≤ 1048576) (hT : TabAt W) :
    Calls Tryz.prog 5 args W fun e W' => ∃ v, e = .returned v ∧ Rows.shadowsApartSpec.post enc Tryz.prog Tryz.f5 false true false false W args v W' := by
  have hW' := hW
  obtain ⟨p, q, hA0, hV, rfl, hfz, hnd⟩ := hW
  have hA : DataW.TrodAll enc Tryz.prog W 0 (fun _ => true) true Tryz.f5.params.toList args.toList ds p := hA0
  rw [Tryz.params5] at hA hval hz
  obtain ⟨v0, vs0, d0, ds0, p0, q0, hargs, rfl, rfl, h0, r0⟩ := trodAll_cons hA
  obtain ⟨v1, vs1, d1, ds1, p1, q1, rfl, rfl, rfl, h1, r1⟩ := trodAll_cons r0
  obtain ⟨v2, vs2, d2, ds2, p2, q2, rfl, rfl, rfl, h2, r2⟩ := trodAll_cons r1
  obtain ⟨rfl, rfl, rfl⟩ := trodAll_nil r2
  obtain rfl : args = #[v0, v1, v2] := by cases args; simp_all
  obtain ⟨rfl, rfl⟩ := trodVars_none hV
  obtain ⟨a0', len0, cap0', rfl⟩ := okWide_slice Tryz.underlying39 (hval 0 39 v0 rfl rfl)
  obtain ⟨fuel0, hf0⟩ := h0
  have hm0 : Rows.uptoBulk d0 ≤ 1048576 := Nat.le_trans (bulk_part (by simp)) hu
  obtain ⟨a0, n0, c0, l0, hcs0, N0, A0, K0⟩ := open_tg_deedsB hf0 (fun k hk => hz k (by simp only [DataW.weightsEach, List.mem_append]; exact Or.inl hk))
  simp only [Value.cells, List.cons.injEq, Value.slice.injEq, and_true] at hcs0
  obtain ⟨rfl, rfl, rfl⟩ := hcs0
  have B0 : Sh.bulk l0 ≤ 1000000000 := Nat.le_trans (bulk_of_sum l0) (Nat.le_trans (Nat.mul_le_mul_left 500 (Nat.le_trans K0 hm0)) (by decide))
  obtain ⟨x1, rfl, rfl, rfl, w1⟩ := open_int Tryz.underlying24 (hval 1 24 v1 rfl rfl) h1
  obtain ⟨m1, rfl, hm1⟩ := wf_u32 w1
  obtain ⟨a2', len2, cap2', rfl⟩ := okWide_slice Tryz.underlying22 (hval 2 22 v2 rfl rfl)
  obtain ⟨fuel2, hf2⟩ := h2
  obtain ⟨a2, n2, c2, b2, hcs2, B2⟩ := open_bytes hf2 (fun n hn => hz n (by simp only [DataW.weightsEach, List.mem_append]; have hk := hn; exact Or.inr (Or.inr (Or.inl hk))))
  simp only [Value.cells, List.cons.injEq, Value.slice.injEq, and_true] at hcs2
  obtain ⟨rfl, rfl, rfl⟩ := hcs2
  refine (shadowsApart_walk W _ _ _ l0 A0 N0 B0 m1 hm1 _ _ _ b2 B2 hT).mono fun e W' ⟨he, ht⟩ => ?_
  subst he
  exact ⟨_, rfl, law_post laidOut (by kernel_rfl) rfl (by kernel_rfl) Tryz.underlying4 hW' rfl (ht.below (Nat.le_refl _) (fun _ _ f => f))⟩

theorem laid_met (os : Os) : laidMetH Tryz.prog Rows.shadowsApartUptoRow.laid ((laidWorldE os).forCall (fun _ _ => 0) ⟨#[], #[.slice none 0 0, .int .u32 0, .slice none 0 0], []⟩).memory :=
  laidMetH_of_parts (laidMet_of_run' 8 (by kernel_rfl) (by kernel_rfl)) (by kernel_rfl)
theorem reads (os : Os) {H : Type} (enc : TypeId × Value → H) : ∃ places, DataW.whole enc Tryz.prog ((laidWorldE os).forCall (fun _ _ => 0) ⟨#[], #[.slice none 0 0, .int .u32 0, .slice none 0 0], []⟩).memory Tryz.f5.params.toList Rows.shadowsApartSpec.vars false #[.slice none 0 0, .int .u32 0, .slice none 0 0].toList 8 = some ([.nil, .lit (.int .u32 0), .nil], [], places) :=
  ⟨[], by kernel_rfl⟩

set_option maxRecDepth 100000 in
theorem lifted (os : Os) (started : os.Started) (H : Type) (enc : TypeId × Value → H) (F : Stop.Interp) :
    ReturnsInHanded {} Tryz.checked os 5 .any ((Rows.OpenSpec.upto Rows.shadowsApartSpec).preRow enc Tryz.prog Tryz.f5 Rows.shadowsApartUptoRow.domain false Rows.shadowsApartUptoRow.laid) (((Rows.OpenSpec.upto Rows.shadowsApartSpec).at F).post enc Tryz.prog Tryz.f5 false true false false) := by
  obtain ⟨places, hx⟩ := reads os enc
  refine returnsInHanded_of_row (C := Tryz.checked) (s := Rows.OpenSpec.upto Rows.shadowsApartSpec) own started (by kernel_rfl) Tryz.func5
    (witness_row_at (enc := enc) (C := Tryz.checked) false (laidWorldE os) #[.slice none 0 0, .int .u32 0, .slice none 0 0] rfl (by kernel_rfl) (by kernel_rfl) (by kernel_rfl)
      (OpenSpec.preRow_of_cond 8 hx (by kernel_rfl) (fun k hk => by cases hk; kernel_rfl) (by kernel_rfl) (laid_met os))) ?_
  intro W base args ds gs before hval hW _ hcond hz hL _ _
  have hgs : gs = [] := by obtain ⟨_, _, _, hV, _⟩ := hW; exact (trodVars_none hV).1
  subst hgs
  rw [List.append_nil, show (Rows.OpenSpec.upto Rows.shadowsApartSpec).bare.plain.varTypes Tryz.checked.prog = [] from rfl, List.append_nil] at hz
  have hu : Rows.uptoBulkAll ds ≤ 1048576 := by have := hcond _ rfl; rw [List.append_nil] at this; exact of_decide_eq_true this
  exact contract H enc W base args ds [] before hval hW (fun n hn => by simpa using List.all_eq_true.1 hz n hn) hu (tab_atE hL)

set_option maxHeartbeats 16000000 in
set_option maxRecDepth 100000 in
theorem facts : joinedFacts Tryz.pinned.checked.prog 5 Tryz.f5 (Rows.OpenSpec.upto Rows.shadowsApartSpec).bare Rows.shadowsApartUptoRow = true := by
  unfold joinedFacts
  repeat' (with_reducible refine Bool.and_eq_true_iff.2 ⟨?_, ?_⟩)
  all_goals as_aux_lemma => kernel_rfl

theorem said : Rows.ShadowsApartUptoSaid :=
  OpenClaim.holds_of_cond 5 Tryz.f5 rfl rfl rfl rfl rfl rfl rfl ⟨rfl, rfl, rfl, rfl, rfl⟩ rfl rfl rfl rfl rfl (by kernel_rfl) Tryz.func5 facts
    (of_decide_eq_true (by kernel_rfl)) (by unfold Func.isWrapper; first | (rw [if_pos (by decide +kernel)]; kernel_rfl) | (rw [if_neg (by decide +kernel)]; exact ⟨rfl, rfl⟩))
    (fun os started H enc _ F => by rw [OpenClaim.pre_eq_preRow]; exact lifted os started H enc F)

theorem plain (f : FuncId) (fn : Func) (hf : Tryz.pinned.checked.prog.funcNamed "drydock/drydocklaw18.ShadowsApart" = some f) (hfn : Tryz.pinned.checked.prog.funcs[f]? = some fn) :
    true = Tryz.pinned.checked.prog.looks [] ∧ ∀ (j : Nat) t, fn.params[j]? = some t → Tryz.pinned.checked.prog.wantsStandIn t = false := by
  obtain rfl : f = 5 := Option.some.inj ((show Tryz.prog.funcNamed "drydock/drydocklaw18.ShadowsApart" = some 5 by kernel_rfl).symm.trans hf) |>.symm
  obtain rfl : fn = Tryz.f5 := (Option.some.inj (Tryz.func5.symm.trans hfn)).symm
  refine ⟨by kernel_rfl, fun j t ht => ?_⟩
  rw [Tryz.params5] at ht
  have hm : t ∈ [39, 24, 22] := by simpa using Array.mem_of_getElem? ht
  have hall : ([39, 24, 22].all fun u => !Tryz.prog.wantsStandIn u) = true := by kernel_rfl
  exact (show Tryz.prog.wantsStandIn t = false by simpa using List.all_eq_true.1 hall t hm)

theorem card : Rows.ShadowsApartUptoCardSaid :=
  Claim7.holds_tied_plain_at .later [] _ _ _ _ said (fun _ h => by cases h) (by kernel_rfl) (fun _ h => by cases h) shadowsApartUpto_row_tie rfl ⟨rfl, rfl⟩ (by kernel_rfl) rfl plain (by kernel_rfl)
end Go.Proofs.YtpmkegbgbldpnaaGreatDoor.shadowsApart
