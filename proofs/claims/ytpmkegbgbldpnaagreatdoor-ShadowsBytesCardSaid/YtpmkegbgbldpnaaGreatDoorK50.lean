/-
  ShadowsBytes proved: of a disk whose sectors have any bytes Open answers; what is opened goes on: for every input, the given card. No condition of our own.
  Package drydocklaw18 by its own text: the walk of ShadowsBytes.
  What comes in, opened: lists of bytes. What the rows' list gives: the table and the handle of the type 'error'.
-/
import Derived.Test.YtpmkegbgbldpnaaGreatDoorK49
import Derived.Test.YtpmkegbgbldpnaaGreatDoorK02
import Derived.Lib.SmallJoins
namespace Go.Proofs.YtpmkegbgbldpnaaGreatDoor
open Go Go.RowKit
set_option linter.unusedSimpArgs false
set_option linter.unusedVariables false
theorem writeA_seen (D : Dk.Disk) (n : Int) (b : List Nat) : (Dk.writeA D n b).seen.length = D.seen.length := by
  unfold Dk.writeA; split
  · simp [Dk.write]
  · rfl
theorem writeA_waits (D : Dk.Disk) (n : Int) (b : List Nat) : (Dk.writeA D n b).waits.length ≤ D.waits.length + 1 := by
  unfold Dk.writeA; split
  · simp [Dk.write]
  · exact Nat.le_succ _
/-- lists of bytes, as they lie -/
def ListsAt (w : World) (al : Option Addr) (nl : Nat) : Prop := ∀ i, i < nl → ∃ g o a n c b, al = some ⟨g, o, none⟩ ∧ w.cell? ⟨g, o + i, none⟩ = some (.slice a n c) ∧ Bytes w a n c b
set_option maxRecDepth 100000 in
set_option maxHeartbeats 16000000 in
theorem shadowsBytes_walk (w : World) (aa : Option Addr) (na ca : Nat) (ats : List Nat) (ha : Bytes w aa na ca ats) (al : Option Addr) (nl cl : Nat) (hl : ListsAt w al nl) (hnl : (nl : Int) ≤ 9223372036854775807) (id : Nat) (hid : id < 4294967296) (hTab : TabAt w) (hE : ErrAt w) :
    Calls Tryz.prog 3 #[.slice aa na ca, .slice al nl cl, .int .u32 (id : Nat)] w (LawPost w) := by
  have HA := Lib.hid ha
  have HL := Lib.hid hl
  have HTab := Lib.hid hTab
  have HE := Lib.hid hE
  have Hid0 := Lib.hid hid
  have hna : (na : Int) ≤ 140737488351232 := ha.nlow
  clear ha hl hTab hE hid
  go_enter Tryz.func3, Tryz.ntmps3
  go_wp2_with fail
  refine (new_k w 64 (by decide) (by decide)).mono ?_
  rintro e w1 ⟨d, rfl, hm⟩
  have S1 : Hid (Dd w w1 d (Dk.new 64) []) := Sl.push (Sl.nil (Touch.refl No w)) (born_disk hm)
  have dead : Hid (Calls Tryz.prog 11 #[] w1 (LawPost w1)) := shLives w1 (HTab.out.no S1.out.end)
  clear hm
  by_cases h60 : (60 : Int) < (na : Nat)
  · go_wp2_with fail
    refine dead.out.mono ?_
    rintro e wz ⟨rfl, tz⟩
    go_wp2
    go_ret
    exact ⟨rfl, S1.out.end.trans tz⟩
  · have hna60 : (na : Int) ≤ 60 := by omega
    have Hs0 : Hid ((Dk.new 64).seen.length = 64) := by show _ = _; simp [Dk.new]
    have Hw0 : Hid ((Dk.new 64).waits.length = 0) := rfl
    obtain ⟨D0, hD0⟩ : ∃ D0, D0 = Dk.new 64 := ⟨_, rfl⟩
    rw [← hD0] at S1 Hs0 Hw0
    clear dead hD0
    go_wp2
    go_loopg [9] na (fun g s9 wr => ∃ (i : Nat) (D : Dk.Disk), i + g = na ∧ s9 = .int .i64 ((i : Nat) : Int) ∧ Hid (Dd w wr d D []) ∧ Hid (D.seen.length = 64) ∧ Hid (D.waits.length ≤ i))
    case atStart => exact ⟨0, D0, by omega, rfl, S1.out, Hs0.out, by show _ ≤ _; rw [Hw0.out]; exact Nat.le_refl _⟩
    case round =>
      clear S1 Hs0 Hw0
      obtain ⟨i, D, hig, rfl, HD, HS, HW⟩ := hrel
      by_cases hgo : i < na ∧ i < nl
      · cases gk with
        | zero => omega
        | succ g =>
          have hi1 : (i : Int) < (na : Nat) := by omega
          have hi2 : (i : Int) < (nl : Nat) := by omega
          obtain ⟨ga, oa, rfl, hca⟩ := (HA.out.rd.no HD.out.end).num (i := i) (by rw [HA.out.len]; exact hgo.1)
          obtain ⟨x, hx⟩ : ∃ x, ats.getD i 0 = x := ⟨_, rfl⟩
          have hx256 : x < 256 := by
            rw [← hx, List.getD_eq_getElem?_getD, List.getElem?_eq_getElem (by rw [HA.out.len]; exact hgo.1)]
            exact HA.out.lt _ (List.getElem_mem _)
          rw [hx] at hca
          obtain ⟨gl, ol, a, n, c, b, rfl, hcl, hb⟩ := HL.out i hgo.2
          have HB := Lib.hid hb
          have HC : Hid (∀ w', Touch No w w' → w'.cell? ⟨ga, oa + i, none⟩ = some (.int .u8 (x : Nat)) ∧ w'.cell? ⟨gl, ol + i, none⟩ = some (.slice a n c)) := fun w' t => ⟨by
            obtain ⟨g2, o2, e2, h2⟩ := (HA.out.rd.no t).num (i := i) (by rw [HA.out.len]; exact hgo.1)
            rw [hx] at h2; cases e2; exact h2, t.cell (fun f => f) hcl⟩
          obtain ⟨c0, c1⟩ := HC.out _ HD.out.end
          have hS : wr.cell? ⟨ga, oa + i, none⟩ = some (.int .u8 (x : Nat)) ∧ wr.cell? ⟨gl, ol + i, none⟩ = some (.slice a n c) := ⟨c0, c1⟩
          have HDd := Lib.hid (HD.out.no (Touch.refl No wr).drew)
          have CW : Hid (∀ z : Int, Calls Tryz.prog 12 #[.pointer (some ⟨d, 0, none⟩), .int .i64 z, .slice a n c] wr.drew fun e w' => ∃ r D', e = .returned (.int .i64 r) ∧ Dd w w' d D' [] ∧ D'.seen.length = 64 ∧ D'.waits.length ≤ i + 1) := fun z => by
            refine (Dd.write HDd.out z a n c b HB.out.len HB.out.lt (HB.out.rd.no HDd.out.end) (by have := HW.out; omega)).mono ?_
            rintro e w' ⟨he, hd⟩
            exact ⟨_, _, he, hd, by rw [writeA_seen]; exact HS.out, by have := writeA_waits D z b; have := HW.out; omega⟩
          have wx : IntKind.i64.wrap (x : Int) = (x : Int) := IntWalk.i64_in _ (by omega)
          clear hx hcl hb hca HD hgo
          go_wp2_with fail
          go_region_held3 (fun w' => w'.cell? ⟨ga, oa + i, none⟩ = some (.int .u8 (x : Nat)) ∧ w'.cell? ⟨gl, ol + i, none⟩ = some (.slice a n c)) (first | exact hS | exact HC.out _ HDd.out.end | exact HC.out _ s5.end) (first
            | (go_at_call 12; refine (CW.out _).mono ?_; rintro e w5 ⟨r5, D5, rfl, s5, l5, q5⟩))
          all_goals
            have S5 := Lib.hid s5
            have L5 := Lib.hid l5
            have Q5 := Lib.hid q5
            clear s5 l5 q5 CW HDd c0 c1 hS
            go_wp2
            go_roundg g
            case measure => omega
            case rel => exact ⟨i + 1, D5, by omega, by go_num, S5.out, L5.out, Q5.out⟩
      · have Exit : Hid (i = na ∨ nl ≤ i) := by show _ ∨ _; omega
        cases hR : Sh.readsP D with
        | error k =>
          have HR := Lib.hid hR
          have CO := Lib.hid (shOpen_bad HD.out (by rw [HS.out]; decide) (by rw [HS.out]; decide) k hR HE.out)
          have hk0 := Sh.reads_err hR
          have hki : ¬ (k : Int) = 0 := by omega
          clear hk0 hR
          have hcond : ¬ ((i : Int) < (na : Nat)) ∨ ((i : Int) < (na : Nat) ∧ ¬ ((i : Int) < (nl : Nat))) := by omega
          clear hgo
          rcases hcond with hc | ⟨hc, hc2⟩
          all_goals
            go_wp2_with fail
            refine CO.out.mono ?_
            rintro e w2 ⟨rfl, h2⟩
            have T2 := Lib.hid h2.end
            have dead : Hid (Calls Tryz.prog 11 #[] w2 (LawPost w2)) := shLives w2 (HTab.out.no T2.out)
            clear h2
            go_wp2_with fail
            refine dead.out.mono ?_
            rintro e wz ⟨rfl, tz⟩
            go_wp2
            go_ret
            exact ⟨rfl, T2.out.trans tz⟩
        | ok T =>
          have hok : Dk.Ok D := HD.out.ok
          obtain ⟨fit, eV, hAt, hTD⟩ := Sh.opened_fit hR hok (by rw [HS.out]; decide) (by rw [HS.out]; decide)
          have CO := shOpen_again HD.out (by rw [HS.out]; decide) (by rw [HS.out]; decide) hR fit.up (fun p hp => (fit.th p hp).id) fit.len
          rw [eV] at CO
          obtain ⟨V, hV⟩ : ∃ V, V = Sh.settle D T.epoch T.table T.kept := ⟨_, rfl⟩
          rw [← hV] at CO
          have HOk : Hid (Sh.Ok V) := by show Sh.Ok V; rw [hV]; exact fit.ok
          have HVD : Hid (V.D.waits.length ≤ 60) := by show _ ≤ _; rw [hV]; show D.waits.length ≤ 60; have := HW.out; omega
          have HVA : Hid (Rt.At V.D V.epoch) := by show Rt.At _ _; rw [hV]; exact hAt
          have HVP : Hid (V.puts = 64) := by show _ = _; rw [hV]; rfl
          have CO := Lib.hid CO
          have hcond : ¬ ((i : Int) < (na : Nat)) ∨ ((i : Int) < (na : Nat) ∧ ¬ ((i : Int) < (nl : Nat))) := by omega
          have hpe := Sh.putE_any (T := V) (id := id) (n := 2) (by decide)
          obtain ⟨pe, hpe2⟩ : ∃ pe, Sh.putE V id 2 = pe := ⟨_, rfl⟩
          rw [hpe2] at hpe
          have HPe := Lib.hid hpe2
          have HGet : Hid (pe = 0 → Sh.getE (Sh.putT V id [1, 2]) id = 0 ∧ Sh.getB (Sh.putT V id [1, 2]) id = [1, 2]) := fun e => Sh.ok_get HOk.out Hid0.out (b := [1, 2]) (by show Sh.putE V id 2 = 0; rw [hpe2]; exact e)
          obtain ⟨V1, hV1⟩ : ∃ V1, V1 = Sh.putT V id [1, 2] := ⟨_, rfl⟩
          rw [← hV1] at HGet
          have HOk1 : Hid (Sh.Ok V1) := by show Sh.Ok _; rw [hV1]; exact HOk.out.put Hid0.out _
          have HC1 : Hid (Sh.comE V1 = 0 ∨ Sh.comE V1 = 6 ∨ Sh.comE V1 = 1) := by show _ ∨ _; rw [hV1]; exact Sh.ok_comE (HOk.out.put Hid0.out _) (Sh.ok_root_put HOk.out HVA.out _ _)
          have HW1 : Hid (V1.D.waits.length ≤ 64) := by show _ ≤ _; rw [hV1]; have h1 := Sh.waits_put V id [1, 2]; have h2 := HVD.out; have h3 : Ex.pages [1, 2].length = 1 := rfl; omega
          have HV1 := Lib.hid hV1
          clear hok fit eV hAt hTD hV hR hpe2 hV1 hgo HD HVA
          rcases hcond with hc | ⟨hc, hc2⟩
          all_goals
            go_wp2_with fail
            refine CO.out.mono ?_
            rintro e w2 ⟨s, f, rfl, s2⟩
            have S2 := Lib.hid s2
            clear s2 CO
            go_wp2_with fail
            obtain ⟨w3, hw3⟩ : ∃ w3, w3 = w2.alloc (.cells #[.int .u8 1, .int .u8 2] 5) := ⟨_, rfl⟩
            obtain ⟨G, hG⟩ : ∃ G, G = w2.heap.size := ⟨_, rfl⟩
            have S3 : Hid (Sg true w w3 s d f V [Part.row G 5 (nums .u8 [1, 2])]) := by
              show Sg _ _ _ _ _ _ _ _
              rw [hw3, hG]
              exact Sg.push S2.out (Born.row w2 5 #[.int .u8 1, .int .u8 2])
            rw [← hw3, ← hG]
            have CP := Ss.put S3.out HOk.out HTab.out id Hid0.out (some ⟨G, 0, none⟩) 2 2 [1, 2] rfl (by decide) (by decide) (Or.inr (Or.inr (Or.inl ⟨G, _, rfl, List.mem_cons_self⟩))) (by decide) (by have := HVD.out; omega) (by rw [HVP.out]; decide)
            have CP : Hid (Calls Tryz.prog 14 #[.pointer (some ⟨s, 0, none⟩), .int .u32 (id : Nat), .slice (some ⟨G, 0, none⟩) 2 2] w3 fun e w' => e = .returned (.int .i64 (pe : Nat)) ∧ Sg true w w' s d f V1 [Part.row G 5 (nums .u8 [1, 2])]) := by
              have h2 : ([1, 2] : List Nat).length = 2 := rfl
              rw [HPe.out, ← HV1.out] at CP
              exact CP
            clear hw3 hG S2 S3
            refine CP.out.mono ?_
            rintro e w4 ⟨rfl, s4⟩
            have CG := Ss.get s4 HOk1.out id Hid0.out
            clear s4 CP
            rcases hpe with e0 | e0 | e0
            · subst e0
              obtain ⟨g1, g2⟩ := HGet.out rfl
              have CG : Hid (Calls Tryz.prog 15 #[.pointer (some ⟨s, 0, none⟩), .int .u32 (id : Nat)] w4 fun e w' => ∃ b, e = .returned (.tuple #[.slice b 2 2, .int .i64 0]) ∧ Sg true w w' s d f V1 (Part.sl 5 b 2 2 (nums .u8 [1, 2]) :: [Part.row G 5 (nums .u8 [1, 2])])) := by
                refine CG.mono ?_
                rintro e w' ⟨b, k, he, hk, h⟩
                rw [g2] at hk h
                rw [g1] at he
                have hk : 2 = k := hk
                subst hk
                exact ⟨b, he, h⟩
              clear g1 g2
              go_wp2_with fail
              refine CG.out.mono ?_
              rintro e w5 ⟨b, rfl, s5⟩
              obtain ⟨gb, go, hb, hc5⟩ := (s5.rd List.mem_cons_self).num (i := 1) (by show 1 < 2; decide)
              subst hb
              have hc5' : w5.cell? ⟨gb, go + 1, none⟩ = some (.int .u8 2) := hc5
              have CM := Ss.commit s5.drop HOk1.out HTab.out (by have := HW1.out; omega)
              obtain ⟨ce, hce⟩ : ∃ ce, Sh.comE V1 = ce := ⟨_, rfl⟩
              have hcs := HC1.out
              rw [hce] at CM hcs
              have CM := Lib.hid CM
              clear s5 CG hc5 hce
              go_wp2_with fail
              refine CM.out.mono ?_
              rintro e w6 ⟨rfl, f6, s6⟩
              have T6 := Lib.hid s6.end
              have dead : Hid (Calls Tryz.prog 11 #[] w6 (LawPost w6)) := shLives w6 (HTab.out.no T6.out)
              clear s6 CM hc5'
              rcases hcs with e1 | e1 | e1
              all_goals
                subst e1
                go_wp2_with fail
                refine dead.out.mono ?_
                rintro e wz ⟨rfl, tz⟩
                go_wp2
                go_ret
                exact ⟨rfl, T6.out.trans tz⟩
            all_goals
              subst e0
              go_wp2_with fail
              refine CG.mono ?_
              rintro e w5 ⟨b, k, rfl, hk, s5⟩
              obtain ⟨ge, hge⟩ : ∃ ge, Sh.getE V1 id = ge := ⟨_, rfl⟩
              rw [hge]
              have CM := Ss.commit (Sg.drop s5) HOk1.out HTab.out (by have := HW1.out; omega)
              obtain ⟨ce, hce⟩ : ∃ ce, Sh.comE V1 = ce := ⟨_, rfl⟩
              have hcs := HC1.out
              rw [hce] at CM hcs
              have CM := Lib.hid CM
              clear s5 hce hge hk
              go_wp2_with fail
              refine CM.out.mono ?_
              rintro e w6 ⟨rfl, f6, s6⟩
              have T6 := Lib.hid s6.end
              have dead : Hid (Calls Tryz.prog 11 #[] w6 (LawPost w6)) := shLives w6 (HTab.out.no T6.out)
              clear s6 CM
              rcases hcs with e1 | e1 | e1
              all_goals
                subst e1
                go_wp2_with fail
                refine dead.out.mono ?_
                rintro e wz ⟨rfl, tz⟩
                go_wp2
                go_ret
                exact ⟨rfl, T6.out.trans tz⟩
end Go.Proofs.YtpmkegbgbldpnaaGreatDoor
namespace Go.Proofs.YtpmkegbgbldpnaaGreatDoor
open Go.ChangeShapes Go.WideShapes Go.ChangeAt Go.RowKit
set_option linter.unusedSimpArgs false
set_option linter.unusedVariables false
section
variable {H : Type} {enc : TypeId × Value → H} {w : World}
theorem cells_bb : Tryz.prog.cellsOf 22 = 1 := by kernel_rfl
set_option maxRecDepth 100000 in
theorem open_lists {fuel : Nat} {cs : List Value} {x : DataW H × List MemPlace}
    (h : DataW.trod enc Tryz.prog w 0 (fun _ => true) true fuel 23 cs = some x) (hz : ∀ n ∈ DataW.weights Tryz.prog 23 x.1, n ≤ reachBytes) :
    ∃ al nl cl, cs = [.slice al nl cl] ∧ (nl : Int) ≤ 9223372036854775807 ∧ ListsAt w al nl := by
  rcases DataW.trod_slice Tryz.underlying23 h with ⟨rfl, rfl⟩ | ⟨a, len, cap, elems, rest, n, rfl, rfl, rfl, hb, hl, hm, hlen, hel, _, _⟩
  · exact ⟨none, 0, 0, rfl, by decide, fun i hi => by omega⟩
  · rw [cells_bb] at hel
    refine ⟨some a, len, cap, rfl, by unfold maxLen at hm; omega, fun i hi => ?_⟩
    have h1 := hel i hi
    rw [List.getElem?_eq_getElem (by omega)] at h1
    obtain ⟨cs, hcs, htr⟩ := Option.bind_eq_some_iff.1 h1
    have hsp0 : a = ⟨a.block, a.off, none⟩ := by
      have h0 := hel 0 (by omega)
      rw [List.getElem?_eq_getElem (by omega)] at h0
      obtain ⟨cs0, hcs0, _⟩ := Option.bind_eq_some_iff.1 h0
      have := (cells_elem hcs0 (by decide)).2.1
      simpa [Addr.add] using this
    have hadd : a.add (i * 1) = ⟨a.block, a.off + i * 1, none⟩ := by rw [hsp0, add_plain]
    rw [hadd] at hcs
    obtain ⟨_, _, hcell⟩ := cells_elem hcs (by decide)
    obtain ⟨q, m, c, bs, h2, B2⟩ := open_bytes htr (fun k hk => hz k (by
      have hw : ∀ (l : List (DataW H × List MemPlace)) (y : DataW H × List MemPlace), y ∈ l → k ∈ DataW.weights Tryz.prog 22 y.1 → k ∈ DataW.weightsAll Tryz.prog 22 (l.map (·.1)) := by
        intro l
        induction l with
        | nil => intro y hy; cases hy
        | cons z l ih =>
          intro y hy hm2
          simp only [List.map_cons, DataW.weightsAll, List.mem_append]
          rcases List.mem_cons.1 hy with rfl | hy
          · exact Or.inl hm2
          · exact Or.inr (ih y hy hm2)
      simp only [DataW.weights, Tryz.underlying23, List.mem_cons, List.mem_append]
      exact Or.inr (Or.inl (hw elems _ (List.getElem_mem _) hk))))
    refine ⟨a.block, a.off, q, m, c, bs, by rw [← hsp0], ?_, B2⟩
    have := hcell 0 (by decide)
    rw [h2, Nat.add_zero, Nat.mul_one] at this
    exact this
end
theorem errRt : (Tryz.prog.cutTypes.find? (·.1 == "internal/reflectlite.rtype")).map (·.2) = some 336 := by kernel_rfl
theorem errG : Tryz.prog.globalNamed "errors.errorType" = some 0 := by kernel_rfl
theorem errRow : ((List.range Tryz.prog.types.size).filter fun t => Tryz.prog.rowNamed t [101, 114, 114, 111, 114]) = [128] := by kernel_rfl
theorem tab_errE {W : World} (h : laidMetH Tryz.prog [("math/bits.deBruijn64tab", Rows.laid_math_bits_deBruijn64tab), ("unicode/utf8.acceptRanges", Rows.laid_unicode_utf8_acceptRanges), ("errors.errorType", Rows.laid_errors_errorType), ("unicode/utf8.first", Rows.laid_unicode_utf8_first)] W) : TabAt W ∧ ErrAt W := by
  have h' : laidMet Tryz.prog [("math/bits.deBruijn64tab", Rows.laid_math_bits_deBruijn64tab), ("unicode/utf8.acceptRanges", Rows.laid_unicode_utf8_acceptRanges), ("unicode/utf8.first", Rows.laid_unicode_utf8_first)] W ∧ handlesMet Tryz.prog [("errors.errorType", Rows.laid_errors_errorType)] W := h
  refine ⟨tab_of h'.1, ?_⟩
  obtain ⟨name, u, ty, e1, e2, e3, e4, e5⟩ := h'.2 _ (List.mem_singleton.2 rfl)
  have en : name = [101, 114, 114, 111, 114] := (Option.some.inj e1).symm
  subst en
  obtain rfl := Option.some.inj (errRt.symm.trans e2)
  have hm : ty ∈ (List.range Tryz.prog.types.size).filter fun t => Tryz.prog.rowNamed t [101, 114, 114, 111, 114] := List.mem_filter.2 ⟨List.mem_range.2 e3, e4⟩
  rw [errRow] at hm
  obtain rfl := List.mem_singleton.1 hm
  have hh : typeHandle Tryz.prog 128 = .pointer (some ⟨6, 128, none⟩) := by kernel_rfl
  rw [hh] at e5
  have := World.var?_cell errG e5 0
  unfold ErrAt
  simpa using this
end Go.Proofs.YtpmkegbgbldpnaaGreatDoor
namespace Go.Proofs.YtpmkegbgbldpnaaGreatDoor.shadowsBytes
open Go.ChangeShapes Go.WideShapes Go.ChangeAt Go.RowKit

set_option maxRecDepth 100000 in
theorem contract (H : Type) (enc : TypeId × Value → H) (W : World) (base : Nat) (args : Array Value) (ds gs : List (DataW H)) (before : List MemPlace)
    (hval : ∀ (j : Nat) t v, Tryz.f3.params[j]? = some t → args[j]? = some v → Value.okWide Tryz.prog W .any base t v)
    (hW : DataW.Whole enc Tryz.prog Tryz.f3.params.toList Rows.shadowsBytesSpec.vars false W args.toList ds gs before)
    (hz : ∀ n ∈ DataW.weightsEach Tryz.prog Tryz.f3.params.toList ds, n ≤ reachBytes) (hTE : TabAt W ∧ ErrAt W) :
    Calls Tryz.prog 3 args W fun e W' => ∃ v, e = .returned v ∧ Rows.shadowsBytesSpec.post enc Tryz.prog Tryz.f3 false true false false W args v W' := by
  have hW' := hW
  obtain ⟨p, q, hA0, hV, rfl, hfz, hnd⟩ := hW
  have hA : DataW.TrodAll enc Tryz.prog W 0 (fun _ => true) true Tryz.f3.params.toList args.toList ds p := hA0
  rw [Tryz.params3] at hA hval hz
  obtain ⟨v0, vs0, d0, ds0, p0, q0, hargs, rfl, rfl, h0, r0⟩ := trodAll_cons hA
  obtain ⟨v1, vs1, d1, ds1, p1, q1, rfl, rfl, rfl, h1, r1⟩ := trodAll_cons r0
  obtain ⟨v2, vs2, d2, ds2, p2, q2, rfl, rfl, rfl, h2, r2⟩ := trodAll_cons r1
  obtain ⟨rfl, rfl, rfl⟩ := trodAll_nil r2
  obtain rfl : args = #[v0, v1, v2] := by cases args; simp_all
  obtain ⟨rfl, rfl⟩ := trodVars_none hV
  obtain ⟨a0', len0, cap0', rfl⟩ := okWide_slice Tryz.underlying22 (hval 0 22 v0 rfl rfl)
  obtain ⟨fuel0, hf0⟩ := h0
  obtain ⟨a0, n0, c0, b0, hcs0, B0⟩ := open_bytes hf0 (fun n hn => hz n (by simp only [DataW.weightsEach, List.mem_append]; have hk := hn; exact Or.inl hk))
  simp only [Value.cells, List.cons.injEq, Value.slice.injEq, and_true] at hcs0
  obtain ⟨rfl, rfl, rfl⟩ := hcs0
  obtain ⟨a1', len1, cap1', rfl⟩ := okWide_slice Tryz.underlying23 (hval 1 23 v1 rfl rfl)
  obtain ⟨fuel1, hf1⟩ := h1
  obtain ⟨a1, n1, c1, hcs1, M1, L1⟩ := open_lists hf1 (fun n hn => hz n (by simp only [DataW.weightsEach, List.mem_append]; have hk := hn; exact Or.inr (Or.inl hk)))
  simp only [Value.cells, List.cons.injEq, Value.slice.injEq, and_true] at hcs1
  obtain ⟨rfl, rfl, rfl⟩ := hcs1
  obtain ⟨x2, rfl, rfl, rfl, w2⟩ := open_int Tryz.underlying24 (hval 2 24 v2 rfl rfl) h2
  obtain ⟨m2, rfl, hm2⟩ := wf_u32 w2
  refine (shadowsBytes_walk W _ _ _ b0 B0 _ _ _ L1 M1 m2 hm2 hTE.1 hTE.2).mono fun e W' ⟨he, ht⟩ => ?_
  subst he
  exact ⟨_, rfl, law_post laidOut (by kernel_rfl) rfl (by kernel_rfl) Tryz.underlying4 hW' rfl (ht.below (Nat.le_refl _) (fun _ _ f => f))⟩

theorem laid_met (os : Os) : laidMetH Tryz.prog Rows.shadowsBytesRow.laid ((laidWorldE os).forCall (fun _ _ => 0) ⟨#[], #[.slice none 0 0, .slice none 0 0, .int .u32 0], []⟩).memory :=
  laidMetH_of_parts (laidMet_of_run' 8 (by kernel_rfl) (by kernel_rfl)) (by kernel_rfl)
theorem reads (os : Os) {H : Type} (enc : TypeId × Value → H) : ∃ places, DataW.whole enc Tryz.prog ((laidWorldE os).forCall (fun _ _ => 0) ⟨#[], #[.slice none 0 0, .slice none 0 0, .int .u32 0], []⟩).memory Tryz.f3.params.toList Rows.shadowsBytesSpec.vars false #[.slice none 0 0, .slice none 0 0, .int .u32 0].toList 8 = some ([.nil, .nil, .lit (.int .u32 0)], [], places) :=
  ⟨[], by kernel_rfl⟩

set_option maxRecDepth 100000 in
theorem lifted (os : Os) (started : os.Started) (H : Type) (enc : TypeId × Value → H) (F : Stop.Interp) :
    ReturnsInHanded {} Tryz.checked os 3 .any ((OpenSpec.ofChange Rows.shadowsBytesSpec).preRow enc Tryz.prog Tryz.f3 Rows.shadowsBytesRow.domain false Rows.shadowsBytesRow.laid) (((OpenSpec.ofChange Rows.shadowsBytesSpec).at F).post enc Tryz.prog Tryz.f3 false true false false) := by
  obtain ⟨places, hx⟩ := reads os enc
  refine returnsInHanded_of_row (C := Tryz.checked) (s := OpenSpec.ofChange Rows.shadowsBytesSpec) own started (by kernel_rfl) Tryz.func3
    (witness_row_at (enc := enc) (C := Tryz.checked) false (laidWorldE os) #[.slice none 0 0, .slice none 0 0, .int .u32 0] rfl (by kernel_rfl) (by kernel_rfl) (by kernel_rfl)
      (OpenSpec.preRow_of_cond 8 hx (by kernel_rfl) (fun k hk => by cases hk) (by kernel_rfl) (laid_met os))) ?_
  intro W base args ds gs before hval hW _ _ hz hL _ _
  have hgs : gs = [] := by obtain ⟨_, _, _, hV, _⟩ := hW; exact (trodVars_none hV).1
  subst hgs
  rw [List.append_nil, show (OpenSpec.ofChange Rows.shadowsBytesSpec).bare.plain.varTypes Tryz.checked.prog = [] from rfl, List.append_nil] at hz
  exact contract H enc W base args ds [] before hval hW (fun n hn => by simpa using List.all_eq_true.1 hz n hn) (tab_errE hL)

set_option maxHeartbeats 16000000 in
set_option maxRecDepth 100000 in
theorem facts : joinedFacts Tryz.pinned.checked.prog 3 Tryz.f3 (OpenSpec.ofChange Rows.shadowsBytesSpec).bare Rows.shadowsBytesRow = true := by
  unfold joinedFacts
  repeat' (with_reducible refine Bool.and_eq_true_iff.2 ⟨?_, ?_⟩)
  all_goals as_aux_lemma => kernel_rfl

theorem said : Rows.ShadowsBytesSaid :=
  OpenClaim.holds_of_cond 3 Tryz.f3 rfl rfl rfl rfl rfl rfl rfl ⟨rfl, rfl, rfl, rfl, rfl⟩ rfl rfl rfl rfl rfl (by kernel_rfl) Tryz.func3 facts
    (of_decide_eq_true (by kernel_rfl)) (by unfold Func.isWrapper; first | (rw [if_pos (by decide +kernel)]; kernel_rfl) | (rw [if_neg (by decide +kernel)]; exact ⟨rfl, rfl⟩))
    (fun os started H enc _ F => by rw [OpenClaim.pre_eq_preRow]; exact lifted os started H enc F)

theorem plain (f : FuncId) (fn : Func) (hf : Tryz.pinned.checked.prog.funcNamed "drydock/drydocklaw18.ShadowsBytes" = some f) (hfn : Tryz.pinned.checked.prog.funcs[f]? = some fn) :
    true = Tryz.pinned.checked.prog.looks [] ∧ ∀ (j : Nat) t, fn.params[j]? = some t → Tryz.pinned.checked.prog.wantsStandIn t = false := by
  obtain rfl : f = 3 := Option.some.inj ((show Tryz.prog.funcNamed "drydock/drydocklaw18.ShadowsBytes" = some 3 by kernel_rfl).symm.trans hf) |>.symm
  obtain rfl : fn = Tryz.f3 := (Option.some.inj (Tryz.func3.symm.trans hfn)).symm
  refine ⟨by kernel_rfl, fun j t ht => ?_⟩
  rw [Tryz.params3] at ht
  have hm : t ∈ [22, 23, 24] := by simpa using Array.mem_of_getElem? ht
  have hall : ([22, 23, 24].all fun u => !Tryz.prog.wantsStandIn u) = true := by kernel_rfl
  exact (show Tryz.prog.wantsStandIn t = false by simpa using List.all_eq_true.1 hall t hm)

theorem card : Rows.ShadowsBytesCardSaid :=
  Claim7.holds_tied_plain_at .later [] _ _ _ _ said (fun _ h => by cases h) (by kernel_rfl) (fun _ h => by cases h) shadowsBytes_row_tie rfl ⟨rfl, rfl⟩ (by kernel_rfl) rfl plain (by kernel_rfl)
end Go.Proofs.YtpmkegbgbldpnaaGreatDoor.shadowsBytes
