/-
  ShadowsTurned proved: when one byte of the disk turns, a store that is opened again says so, or has all that was committed, but for things that it says can't be read: the given card of the form 'upto' (what is read is of bulk at most 1048576). No condition of our own.
  Package drydocklaw18 by its own text: the walk of ShadowsTurned.
-/
import Derived.Test.YtnffigfafalocaaGreatDoorK49
import Derived.Test.YtnffigfafalocaaGreatDoorK48
namespace Go.Proofs.YtnffigfafalocaaGreatDoor
open Go Go.RowKit
set_option linter.unusedSimpArgs false
set_option linter.unusedVariables false
namespace Sh
/-- a store that was committed, a byte of its disk turned, opened again -/
structure Turned (l : List TgDeed) (U : Sto) (D : Dk.Disk) : Prop where
  len : D.seen.length = 1200
  reads : readsP D = .error 4 ∨ readsP D = .error 11 ∨ readsP D = .ok { U with D := D, now := [], puts := 0 }
  ok : Ok { U with D := D, now := U.kept, puts := 64 }
  epoch : U.epoch = 1
  has : ∃ β : Nat, ∀ id b, Mp.look (putC [] l) id = some b → (∀ y ∈ b, y < 256) →
      (getE { U with D := D, now := U.kept, puts := 64 } id = 0 ∧ getB { U with D := D, now := U.kept, puts := 64 } id = b) ∨
      (id = β ∧ (getE { U with D := D, now := U.kept, puts := 64 } id = 4 ∨ getE { U with D := D, now := U.kept, puts := 64 } id = 11))
  up : Mp.Up U.kept
  ids : ∀ p ∈ U.kept, p.1 < 4294967296
  many : U.kept.length ≤ 64
theorem at_new {n m : Nat} (h : m < n) : Dk.at_ (Dk.new n).seen m = Dk.noughts := by
  show (List.replicate n Dk.noughts).getD m _ = _
  rw [List.getD_eq_getElem?_getD, List.getElem?_replicate, if_pos h]; rfl
set_option maxRecDepth 100000 in
theorem turned_open {l : List TgDeed} (hl : Fits l) (U : Sto) (hU : U = comT (putAll (newS (Dk.new 1200)) l)) {n p x : Nat} (hnl : n < 1200) (hp : p < 64) (hx : x < 256) (hx0 : x ≠ 0) :
    U.D.seen.length = 1200 ∧ U.D.waits = [] ∧ Turned l U (Dk.rot U.D n p x) := by
  have e0 : (newS (Dk.new 1200)).table.length = 0 := rfl
  have e1 : takes ([] : List (Nat × List Nat)) = 0 := rfl
  have e2 : (newS (Dk.new 1200)).D.waits.length = 0 := rfl
  have e3 : (newS (Dk.new 1200)).puts = 64 := rfl
  have hn := hl.len
  have hpg := hl.pgs
  obtain ⟨i1, i2, i3, i4, i5, i6, i7, i8, i9, i10⟩ := putAll_is l new_has (root_new (by decide)) hl.each (by rw [new_many, e0, e1]; omega) (by simp; omega) (by rw [e2]; omega) (by rw [e3]; omega)
  obtain ⟨p1, p2⟩ := first_put (by omega) (by omega) hl.each
  obtain ⟨h1, h2, h3, h4⟩ := p2 _ rfl
  have hep := (Eps.new (Dk.new 1200)).all (by decide) l
  have h5 : (putAll (newS (Dk.new 1200)) l).epoch = 0 := hep.2
  have hsf := (Safe.all i1 (Safe.start (D2 := Dk.new 1200) (P := Prot (newS (Dk.new 1200)).table (newS (Dk.new 1200)).kept) rfl rfl)).1
  have hlen : (putAll (newS (Dk.new 1200)) l).D.seen.length = 1200 := by rw [hsf.len]; simp [Dk.new]
  have a0 := (hsf.seen 0 (Or.inl (by decide))).trans (at_new (by decide))
  have a1 := (hsf.seen 1 (Or.inl (by decide))).trans (at_new (by decide))
  have hf := comE_full h3
  have hP := com_parts i2 i3 hf (by rw [h5]; decide)
  have r1 := reads_turned i2 i3 hf (by rw [h5]; decide) hep.1 a0 a1 (n := n) (p := p) (x := x) (by rw [hlen]; exact hnl) hp hx hx0
  obtain ⟨β, r2, r3⟩ := turned_has i2 i3 hf (by rw [h5]; decide) (n := n) (p := p) (x := x) (by rw [hlen]; exact hnl) hp hx hx0
  have hl2 := hP.len
  have hcd := com_calm_disk h3
  rw [← hU] at r1 r2 r3 h4 hl2 hcd
  refine ⟨hl2.trans hlen, hcd.2, ⟨by rw [Ex.rot_len]; exact hl2.trans hlen, r1, r2, h4.ep, ⟨β, r3⟩, h4.has.ok.upk, fun p hp => (h4.has.ok.thk p hp).id, h4.has.ok.lenk⟩⟩
end Sh
set_option maxRecDepth 100000 in
set_option maxHeartbeats 16000000 in
theorem shadowsTurned_walk (w : World) (al : Option Addr) (nl cl : Nat) (l : List TgDeed) (hl : IsTgDeeds w al l) (hnl : l.length = nl) (hbl : Sh.bulk l ≤ 1000000000)
    (sec at_ x : Nat) (hsec : sec < 65536) (hat : at_ < 256) (hx : x < 256) (hTab : TabAt w) (hE : ErrAt w) :
    Calls Tryz.prog 3 #[.agg #[.slice al nl cl, .int .u16 (sec : Nat), .int .u8 (at_ : Nat), .int .u8 (x : Nat)]] w (LawPost w) := by
  have HL := Lib.hid hl
  have HNL := Lib.hid hnl
  have HTab := Lib.hid hTab
  have HE := Lib.hid hE
  have HLg := Lib.hid hl.good
  have FL : Hid (∀ w1, Touch No w w1 → Calls Tryz.prog 6 #[.slice al nl cl] w1 fun e w' => e = .returned (.bool (decide ((Sh.bulk l : Int) ≤ 15000))) ∧ w1 = w') := fun w1 t => shFit w1 al nl cl l (hl.touch t) hnl (by omega)
  have wsec : IntKind.i64.wrap (sec : Int) = (sec : Int) := IntWalk.i64_in _ (by omega)
  have wat : IntKind.i64.wrap (at_ : Int) = (at_ : Int) := IntWalk.i64_in _ (by omega)
  clear hl hnl hTab hbl hE
  go_enter Tryz.func3, Tryz.ntmps3
  go_upto_region 5 with fail
  obtain ⟨wb, hwb⟩ : ∃ wb, wb = w.alloc (.cells #[.slice al nl cl, .int .u16 (sec : Nat), .int .u8 (at_ : Nat), .int .u8 (x : Nat)] 25) := ⟨_, rfl⟩
  have Tb : Hid (Touch No w wb) := by show Touch _ _ _; rw [hwb]; exact (Touch.refl No w).alloc _
  rw [← hwb]
  clear hwb
  go_wp2_with fail
  refine (shOpened wb 1200 (by decide) (by decide)).mono ?_
  rintro e w1 ⟨d, s, f1, rfl, s1⟩
  have S1 := Lib.hid s1
  clear s1
  obtain ⟨bl, hbl⟩ : ∃ b : Bool, decide ((Sh.bulk l : Int) ≤ 15000) = b := ⟨_, rfl⟩
  have FL2 := FL.out w1 (Tb.out.trans S1.out.end)
  rw [hbl] at FL2
  have FL2 := Lib.hid FL2
  have Hbl := Lib.hid hbl
  clear hbl FL
  have HTab1 : Hid (TabAt wb) := HTab.out.no Tb.out
  have HE1 : Hid (ErrAt wb) := HE.out.no Tb.out
  have dead : Hid (Calls Tryz.prog 7 #[] w1 (LawPost w1)) := shLives w1 (HTab1.out.no S1.out.end)
  have T1 : Hid (Touch No w w1) := Tb.out.trans S1.out.end
  have HLb : Hid (IsTgDeeds wb al l) := HL.out.touch Tb.out
  go_wp2_with fail
  refine FL2.out.mono ?_
  rintro e w' ⟨rfl, rfl⟩
  cases bl with
  | false =>
    go_wp2_with fail
    refine dead.out.mono ?_
    rintro e wz ⟨rfl, tz⟩
    go_wp2
    go_ret
    exact ⟨rfl, T1.out.trans tz⟩
  | true =>
    by_cases hx0 : x = 0
    · subst hx0
      go_wp2_with fail
      refine dead.out.mono ?_
      rintro e wz ⟨rfl, tz⟩
      go_wp2
      go_ret
      exact ⟨rfl, T1.out.trans tz⟩
    · have hxi : ¬ (x : Int) = 0 := by omega
      have fl : Sh.Fits l := Sh.fits_of (by have := of_decide_eq_true Hbl.out; omega) (fun x hx => (HLg.out x hx).1)
      obtain ⟨p1, p2⟩ := Sh.first_put (by have := fl.len; omega) (by have := fl.pgs; omega) fl.each
      obtain ⟨h1, h2, h3, h4⟩ := p2 _ rfl
      have hnl30 : (nl : Int) ≤ 30 := by have := fl.len; have := HNL.out; omega
      have hok1 := h1.ok
      have CP := Lib.hid (shPutAll S1.out HTab1.out al nl cl l HLb.out.any HLb.out.good HNL.out (by omega) p1)
      obtain ⟨U, hU⟩ : ∃ U, U = Sh.comT (Sh.putAll (Sh.newS (Dk.new 1200)) l) := ⟨_, rfl⟩
      have CCm : Hid (∀ w2, Sg true wb w2 s d f1 (Sh.putAll (Sh.newS (Dk.new 1200)) l) [] → Calls Tryz.prog 9 #[.pointer (some ⟨s, 0, none⟩)] w2 fun e w' => e = .returned (.int .i64 0) ∧ ∃ f', Sg true wb w' s d f' U []) := fun w2 s2 => by
        have := Ss.commit s2 hok1 HTab1.out (by omega)
        rw [h3, ← hU] at this
        exact this
      have HTu : Hid (∀ n p : Nat, n < 1200 → p < 64 → U.D.seen.length = 1200 ∧ U.D.waits = [] ∧ Sh.Turned l U (Dk.rot U.D n p x)) := fun n p hn hp => Sh.turned_open fl U hU hn hp hx hx0
      have CRm : Hid (∀ w3 f', Sg true wb w3 s d f' U [] → ∀ n p : Int, 0 ≤ n → n < 1200 → 0 ≤ p → p < 64 → Calls Tryz.prog 10 #[.pointer (some ⟨d, 0, none⟩), .int .i64 n, .int .i64 p, .int .u8 (x : Nat)] w3 fun e w' => e = .returned (.int .i64 0) ∧ ∃ D E, Sh.Turned l U D ∧ Dd wb w' d D E) := fun w3 f' s3 n p n0 n1 q0 q1 => by
        obtain ⟨z1, z2, z3⟩ := HTu.out n.toNat p.toNat (by omega) (by omega)
        have h3 : Dd wb w3 d U.D (Part.sto s (some ⟨d, 0, none⟩) (some ⟨f', 0, none⟩) true U.m :: Part.map f' 1 (1 + Sh.many U.D) U.S :: []) := s3
        refine (h3.rot n p x hx (by rw [z2]; exact Nat.zero_le _)).mono ?_
        rintro e w' ⟨he, hd⟩
        have hc : (0 ≤ n ∧ n < (U.D.seen.length : Nat)) ∧ (0 ≤ p ∧ p < 64) := by rw [z1]; omega
        rw [Dk.rotR, if_pos hc] at he
        rw [Dk.rotA, if_pos hc] at hd
        exact ⟨he, _, _, z3, hd⟩
      have Fl := Lib.hid fl
      have Hx0 := Lib.hid hx0
      clear p1 p2 h1 h2 h3 h4 hU fl FL2 dead Hbl hok1 T1 HL HTu hx0
      go_wp2_with fail
      refine CP.out.mono ?_
      rintro e w2 ⟨rfl, s2⟩
      have CC := Lib.hid (CCm.out w2 s2)
      clear s2 CP S1 CCm
      go_wp2_with fail
      refine CC.out.mono ?_
      rintro e w3 ⟨rfl, f3, s3⟩
      have CR := Lib.hid (CRm.out w3 f3 s3)
      clear s3 CC CRm
      go_wp2_with fail
      refine (CR.out _ _ (by omega) (by omega) (by omega) (by omega)).mono ?_
      rintro e w4 ⟨rfl, D, E, ht, h4⟩
      have HT := Lib.hid ht
      have H4 := Lib.hid h4
      clear ht h4 CR
      rcases HT.out.reads with hR | hR | hR
      · have CO := Lib.hid (shOpen_bad H4.out (by rw [HT.out.len]; decide) (by rw [HT.out.len]; decide) 4 hR HE1.out)
        clear hR H4
        go_wp2_with fail
        refine CO.out.mono ?_
        rintro e w5 ⟨rfl, h5⟩
        have T5 : Hid (Touch No w w5) := Tb.out.trans h5.end
        have dead : Hid (Calls Tryz.prog 7 #[] w5 (LawPost w5)) := shLives w5 (HTab1.out.no h5.end)
        clear h5 CO
        go_wp2_with fail
        refine dead.out.mono ?_
        rintro e wz ⟨rfl, tz⟩
        go_wp2
        go_ret
        exact ⟨rfl, T5.out.trans tz⟩
      · have CO := Lib.hid (shOpen_bad H4.out (by rw [HT.out.len]; decide) (by rw [HT.out.len]; decide) 11 hR HE1.out)
        clear hR H4
        go_wp2_with fail
        refine CO.out.mono ?_
        rintro e w5 ⟨rfl, h5⟩
        have T5 : Hid (Touch No w w5) := Tb.out.trans h5.end
        have dead : Hid (Calls Tryz.prog 7 #[] w5 (LawPost w5)) := shLives w5 (HTab1.out.no h5.end)
        clear h5 CO
        go_wp2_with fail
        refine dead.out.mono ?_
        rintro e wz ⟨rfl, tz⟩
        go_wp2
        go_ret
        exact ⟨rfl, T5.out.trans tz⟩
      · obtain ⟨V, hV⟩ : ∃ V, V = ({ U with D := D, now := U.kept, puts := 64 } : Sh.Sto) := ⟨_, rfl⟩
        have hVo := HT.out.ok
        have hVe : V.epoch = 1 := by rw [hV]; exact HT.out.epoch
        obtain ⟨β, hβ⟩ := HT.out.has
        rw [← hV] at hVo hβ
        have HVo := Lib.hid hVo
        have HVe := Lib.hid hVe
        have HVb := Lib.hid hβ
        have CO := (shOpen_again H4.out (by rw [HT.out.len]; decide) (by rw [HT.out.len]; decide) hR HT.out.up HT.out.ids HT.out.many)
        rw [← hV] at CO
        have CO := Lib.hid CO
        clear hR H4 hV hVo hVe hβ HT
        go_wp2_with fail
        refine CO.out.mono ?_
        rintro e w5 ⟨s2, f2, rfl, s5⟩
        have S5 := Lib.hid s5
        clear s5 CO
        go_wp2
        go_loopg [11, 12] nl (fun g s11 s12 wr => ∃ k m : Nat, ∃ E : List Part, k + g = nl ∧ s12 = .int .i64 ((k : Nat) : Int) ∧ s11 = .int .i64 ((m : Nat) : Int) ∧ Hid (m = 0 ∨ (m = 1 ∧ (l.drop k).any (fun y => y.id == β) = false)) ∧ Hid (Sg true wb wr s2 d f2 V E))
        case atStart => exact ⟨0, 0, _, by omega, rfl, rfl, Or.inl rfl, S5.out⟩
        case round =>
          clear S5
          obtain ⟨k, m, E, hkn, rfl, rfl, HM, HS⟩ := hrel
          cases gk with
          | zero =>
            obtain rfl : k = nl := by omega
            have hm1 : (m : Int) ≤ 1 := by have := HM.out; omega
            have CE : Hid (Calls Tryz.prog 14 #[.pointer (some ⟨s2, 0, none⟩)] wr fun e w' => e = .returned (.int .u32 1) ∧ wr = w') := by
              have := Ss.epochC HS.out
              rw [HVe.out] at this
              exact this
            have T9 : Hid (Touch No w wr) := Tb.out.trans HS.out.end
            have dead : Hid (Calls Tryz.prog 7 #[] wr (LawPost wr)) := shLives wr (HTab1.out.no HS.out.end)
            go_wp2_with fail
            refine CE.out.mono ?_
            rintro e w' ⟨rfl, rfl⟩
            go_wp2_with fail
            refine dead.out.mono ?_
            rintro e wz ⟨rfl, tz⟩
            go_wp2
            go_ret
            exact ⟨rfl, T9.out.trans tz⟩
          | succ g =>
            have hki : (k : Int) < (nl : Nat) := by omega
            have hkl : k < l.length := by rw [HNL.out]; omega
            obtain ⟨x1, hx1⟩ : ∃ x1, l[k] = x1 := ⟨_, rfl⟩
            have hlk := Sh.look_last hkl
            have hbk := Sh.any_drop hkl β
            rw [hx1] at hlk hbk
            have hLA : TgAny wb s2 d E al l := HLb.out.any
            have HLA := Lib.hid hLA
            obtain ⟨g0, o0, ha, hA⟩ := HLA.out _ _ _ HS.out k x1 (by rw [List.getElem?_eq_getElem hkl, hx1])
            subst ha
            have hmem : x1 ∈ l := by rw [← hx1]; exact List.getElem_mem hkl
            have hGx := HLb.out.good x1 hmem
            have HBx : Hid (x1.b.length ≤ 65536) := (Fl.out.each x1 hmem).2
            have HAn : Hid (∀ w' f' T', Sg true wb w' s2 d f' T' E → ∀ i, i < nl → ∃ y : Nat, (∀ hi : i < l.length, l[i].id = y) ∧ w'.cell? ⟨g0, o0 + i * 2, none⟩ = some (.int .u32 (y : Nat))) := fun w' f' T' h i hi => by
              have hil : i < l.length := by rw [HNL.out]; exact hi
              obtain ⟨c, o, e, hc⟩ := HLA.out _ _ _ h i l[i] (by rw [List.getElem?_eq_getElem hil])
              simp only [Option.some.injEq, Addr.mk.injEq, and_true] at e
              obtain ⟨rfl, rfl⟩ := e
              exact ⟨l[i].id, fun _ => rfl, hc 0 (by decide)⟩
            have HX : Hid (∀ w' f' T', Sg true wb w' s2 d f' T' E → w'.cell? ⟨g0, o0 + k * 2, none⟩ = some (.int .u32 (x1.id : Nat)) ∧ w'.cell? ⟨g0, o0 + k * 2 + 1, none⟩ = some (.slice x1.b_a x1.b.length x1.b_cap)) := fun w' f' T' h => by
              obtain ⟨c, o, e, hc⟩ := HLA.out _ _ _ h k x1 (by rw [List.getElem?_eq_getElem hkl, hx1])
              simp only [Option.some.injEq, Addr.mk.injEq, and_true] at e
              obtain ⟨rfl, rfl⟩ := e
              exact ⟨hc 0 (by decide), hc 1 (by decide)⟩
            have HLK := Lib.hid hlk
            have HBK := Lib.hid hbk
            have HGx := Lib.hid hGx
            have HKL := Lib.hid hkl
            clear hA hlk hbk hGx hmem hx1 hkl hLA HLA
            go_wp2
            obtain ⟨wo, rfl⟩ : ∃ wo : World, wo = wr := ⟨_, rfl⟩
            go_loopg [13, 14] (nl - (k + 1)) (fun g2 s7 s8 wy => ∃ (j : Nat) (b : Bool), j + g2 = nl ∧ k < j ∧ s7 = .bool b ∧ s8 = .int .i64 ((j : Nat) : Int) ∧ Hid ((b || (l.drop j).any (fun y => y.id == x1.id)) = (l.drop (k + 1)).any (fun y => y.id == x1.id)) ∧ Hid (Sg true wb wy s2 d f2 V E))
            case atStart => exact ⟨k + 1, false, by omega, by omega, rfl, by go_num, by show _ = _; rw [Bool.false_or], HS.out⟩
            case round =>
              clear HS
              obtain ⟨j, b, hjn, hkj, rfl, rfl, HJ, HS⟩ := hrel
              cases gk with
              | zero =>
                obtain rfl : j = nl := by omega
                have hlast : (l.drop (k + 1)).any (fun y => y.id == x1.id) = b := by
                  have := HJ.out
                  rw [List.drop_of_length_le (by rw [HNL.out]; exact Nat.le_refl _)] at this
                  simpa using this.symm
                have hK := HLK.out
                rw [hlast] at hK
                have HLast := Lib.hid hlast
                clear HJ hlast HLK
                have HM2 : Hid (m = 0 ∨ (m = 1 ∧ (l.drop (k + 1)).any (fun y => y.id == β) = false)) := by
                  rcases HM.out with h | ⟨h, h2⟩
                  · exact Or.inl h
                  · refine Or.inr ⟨h, ?_⟩
                    rw [HBK.out] at h2
                    exact (Bool.or_eq_false_iff.1 h2).2
                cases b with
                | true =>
                  clear hK HM
                  go_wp2
                  go_roundg g
                  case measure => omega
                  case rel => exact ⟨k + 1, m, E, by omega, by go_num, rfl, HM2.out, HS.out⟩
                | false =>
                  have hget := HVb.out x1.id x1.b (hK rfl) HGx.out.2.2.2
                  have CG := Ss.get HS.out HVo.out x1.id HGx.out.1
                  obtain ⟨c0, c1⟩ := HX.out _ _ _ HS.out
                  rcases hget with ⟨g1, g2⟩ | ⟨hid, g1⟩
                  · have CG : Hid (Calls Tryz.prog 12 #[.pointer (some ⟨s2, 0, none⟩), .int .u32 (x1.id : Nat)] wr fun e w' => ∃ b, e = .returned (.tuple #[.slice b x1.b.length x1.b.length, .int .i64 0]) ∧ Sg true wb w' s2 d f2 V (Part.sl 5 b x1.b.length x1.b.length (nums .u8 x1.b) :: E)) := by
                      refine CG.mono ?_
                      rintro e w' ⟨b, k, he, hk, h⟩
                      rw [g2] at hk h
                      rw [g1] at he
                      subst hk
                      exact ⟨b, he, h⟩
                    clear hK HM g1 g2
                    obtain ⟨nb, hnb⟩ : ∃ nb, x1.b.length = nb := ⟨_, rfl⟩
                    have Hnb := Lib.hid hnb
                    rw [hnb] at CG c1
                    clear hnb
                    go_wp2_with fail
                    refine CG.out.mono ?_
                    rintro e w6 ⟨b1, rfl, s6⟩
                    obtain ⟨c0, c1⟩ := HX.out _ _ _ (Sg.drop s6)
                    rw [Hnb.out] at c1
                    have C2 := Lib.hid (sameB_any w6 b1 x1.b_a nb nb x1.b_cap x1.b Hnb.out (by have := HBx.out; have := Hnb.out; omega) (s6.rd List.mem_cons_self) (HGx.out.2.1.no s6.end))
                    have S6 := Lib.hid (Sg.drop s6)
                    clear s6 CG HS
                    go_wp2_with fail
                    refine C2.out.mono ?_
                    rintro e w7 ⟨rfl, t7⟩
                    have S7 := Lib.hid (S6.out.no t7)
                    clear t7 C2 S6 c0 c1
                    go_wp2
                    go_roundg g
                    case measure => omega
                    case rel => exact ⟨k + 1, m, E, by omega, by go_num, by go_num, HM2.out, S7.out⟩
                  · have hm0 : m = 0 := by
                      rcases HM.out with h | ⟨_, h2⟩
                      · exact h
                      · rw [HBK.out, hid, decide_eq_true rfl] at h2
                        cases h2
                    subst hm0
                    have HM3 : Hid ((l.drop (k + 1)).any (fun y => y.id == β) = false) := by show _ = _; rw [← hid]; exact HLast.out
                    clear hK HM HM2
                    rcases g1 with g1 | g1
                    · have CG : Hid (Calls Tryz.prog 12 #[.pointer (some ⟨s2, 0, none⟩), .int .u32 (x1.id : Nat)] wr fun e w' => ∃ b k, e = .returned (.tuple #[.slice b k k, .int .i64 4]) ∧ Sg true wb w' s2 d f2 V E) := by
                        refine CG.mono ?_
                        rintro e w' ⟨b, k, he, hk, h⟩
                        rw [g1] at he
                        exact ⟨b, k, he, Sg.drop h⟩
                      clear g1
                      obtain ⟨xi, hxi⟩ : ∃ xi, x1.id = xi := ⟨_, rfl⟩
                      rw [hxi] at CG c0
                      clear hxi hid HLast c1
                      go_wp2_with fail
                      refine CG.out.mono ?_
                      rintro e w6 ⟨b1, k1, rfl, s6⟩
                      have S6 := Lib.hid s6
                      clear s6 CG HS c0
                      go_wp2
                      go_roundg g
                      case measure => omega
                      case rel => exact ⟨k + 1, 1, E, by omega, by go_num, by go_num, Or.inr ⟨rfl, HM3.out⟩, S6.out⟩
                    · have CG : Hid (Calls Tryz.prog 12 #[.pointer (some ⟨s2, 0, none⟩), .int .u32 (x1.id : Nat)] wr fun e w' => ∃ b k, e = .returned (.tuple #[.slice b k k, .int .i64 11]) ∧ Sg true wb w' s2 d f2 V E) := by
                        refine CG.mono ?_
                        rintro e w' ⟨b, k, he, hk, h⟩
                        rw [g1] at he
                        exact ⟨b, k, he, Sg.drop h⟩
                      clear g1
                      obtain ⟨xi, hxi⟩ : ∃ xi, x1.id = xi := ⟨_, rfl⟩
                      rw [hxi] at CG c0
                      clear hxi hid HLast c1
                      go_wp2_with fail
                      refine CG.out.mono ?_
                      rintro e w6 ⟨b1, k1, rfl, s6⟩
                      have S6 := Lib.hid s6
                      clear s6 CG HS c0
                      go_wp2
                      go_roundg g
                      case measure => omega
                      case rel => exact ⟨k + 1, 1, E, by omega, by go_num, by go_num, Or.inr ⟨rfl, HM3.out⟩, S6.out⟩
              | succ g2 =>
                have hjl : j < l.length := by rw [HNL.out]; omega
                obtain ⟨y, hy, cy⟩ := HAn.out _ _ _ HS.out j (by omega)
                obtain ⟨c0, c1⟩ := HX.out _ _ _ HS.out
                have hdr := Sh.any_drop hjl x1.id
                rw [hy hjl] at hdr
                have hj1 : (j : Int) < (nl : Nat) := by omega
                have HJ2 : Hid ((b || (decide (y = x1.id) || (l.drop (j + 1)).any (fun y => y.id == x1.id))) = (l.drop (k + 1)).any (fun y => y.id == x1.id)) := by show _ = _; rw [← hdr]; exact HJ.out
                have HSd := Lib.hid (HS.out.no (Touch.refl No wr).drew)
                clear hdr hy hjl HJ
                obtain ⟨xi, hxi⟩ : ∃ xi, x1.id = xi := ⟨_, rfl⟩
                have Hxi := Lib.hid hxi
                rw [hxi] at c0 HJ2
                clear hxi
                cases b with
                | true =>
                  go_wp2_with fail
                  go_quiet (fail)
                  go_wp2
                  go_roundg g2
                  case measure => omega
                  case rel => exact ⟨j + 1, true, by omega, by omega, rfl, by go_num, by have := HJ2.out; rw [← Hxi.out] at this; rw [Bool.true_or] at this ⊢; exact this, by first | exact HSd.out | exact HS.out.no ((Touch.refl No _).drewN _)⟩
                | false =>
                  by_cases e : y = xi
                  · subst e
                    have HJ3 : Hid ((true || (l.drop (j + 1)).any (fun z => z.id == x1.id)) = (l.drop (k + 1)).any (fun z => z.id == x1.id)) := by have := HJ2.out; rw [decide_eq_true rfl, Bool.false_or, ← Hxi.out] at this; exact this
                    clear HJ2
                    go_wp2_with fail
                    go_quiet (fail)
                    go_wp2
                    go_roundg g2
                    case measure => omega
                    case rel => exact ⟨j + 1, true, by omega, by omega, rfl, by go_num, HJ3.out, by first | exact HSd.out | exact HS.out.no ((Touch.refl No _).drewN _)⟩
                  · have HJ3 : Hid ((false || (l.drop (j + 1)).any (fun z => z.id == x1.id)) = (l.drop (k + 1)).any (fun z => z.id == x1.id)) := by have := HJ2.out; rw [decide_eq_false e, Bool.false_or, ← Hxi.out] at this; exact this
                    have hne : ((y : Int) == (xi : Int)) = false := by simp; omega
                    have He := Lib.hid e
                    clear HJ2 e
                    go_wp2_with fail
                    go_quiet (fail)
                    go_wp2
                    go_roundg g2
                    case measure => omega
                    case rel => exact ⟨j + 1, false, by omega, by omega, rfl, by go_num, HJ3.out, by first | exact HSd.out | exact HS.out.no ((Touch.refl No _).drewN _)⟩
end Go.Proofs.YtnffigfafalocaaGreatDoor
namespace Go.Proofs.YtnffigfafalocaaGreatDoor.shadowsTurned
open Go.ChangeShapes Go.WideShapes Go.ChangeAt Go.RowKit

set_option maxRecDepth 100000 in
theorem contract (H : Type) (enc : TypeId × Value → H) (W : World) (base : Nat) (args : Array Value) (ds gs : List (DataW H)) (before : List MemPlace)
    (hval : ∀ (j : Nat) t v, Tryz.f3.params[j]? = some t → args[j]? = some v → Value.okWide Tryz.prog W .any base t v)
    (hW : DataW.Whole enc Tryz.prog Tryz.f3.params.toList Rows.shadowsTurnedSpec.vars false W args.toList ds gs before)
    (hz : ∀ n ∈ DataW.weightsEach Tryz.prog Tryz.f3.params.toList ds, n ≤ reachBytes) (hu : Rows.uptoBulkAll ds ≤ 1048576) (hTE : TabAt W ∧ ErrAt W) :
    Calls Tryz.prog 3 args W fun e W' => ∃ v, e = .returned v ∧ Rows.shadowsTurnedSpec.post enc Tryz.prog Tryz.f3 false true false false W args v W' := by
  have hW' := hW
  obtain ⟨p, q, hA0, hV, rfl, hfz, hnd⟩ := hW
  have hA : DataW.TrodAll enc Tryz.prog W 0 (fun _ => true) true Tryz.f3.params.toList args.toList ds p := hA0
  rw [Tryz.params3] at hA hval hz
  obtain ⟨v0, vs0, d0, ds0, p0, q0, hargs, rfl, rfl, h0, r0⟩ := trodAll_cons hA
  obtain ⟨rfl, rfl, rfl⟩ := trodAll_nil r0
  obtain rfl : args = #[v0] := by cases args; simp_all
  obtain ⟨rfl, rfl⟩ := trodVars_none hV
  obtain ⟨a0, n0, c0, l0, s0, t0, x0, rfl, A0, N0, B0, hs0, ht0, hx0⟩ := open_turned (hval 0 25 v0 rfl rfl) h0 (fun k hk => hz k (by simp only [DataW.weightsEach, List.mem_append]; exact Or.inl hk)) (Nat.le_trans (bulk_part (by simp)) hu)
  refine (shadowsTurned_walk W _ _ _ l0 A0 N0 B0 s0 t0 x0 hs0 ht0 hx0 hTE.1 hTE.2).mono fun e W' ⟨he, ht⟩ => ?_
  subst he
  exact ⟨_, rfl, law_post laidOut (by kernel_rfl) rfl (by kernel_rfl) Tryz.underlying4 hW' rfl (ht.below (Nat.le_refl _) (fun _ _ f => f))⟩

theorem laid_met (os : Os) : laidMetH Tryz.prog Rows.shadowsTurnedUptoRow.laid ((laidWorldE os).forCall (fun _ _ => 0) ⟨#[], #[.agg #[.slice none 0 0, .int .u16 0, .int .u8 0, .int .u8 0]], []⟩).memory :=
  laidMetH_of_parts (laidMet_of_run' 8 (by kernel_rfl) (by kernel_rfl)) (by kernel_rfl)
theorem reads (os : Os) {H : Type} (enc : TypeId × Value → H) : ∃ places, DataW.whole enc Tryz.prog ((laidWorldE os).forCall (fun _ _ => 0) ⟨#[], #[.agg #[.slice none 0 0, .int .u16 0, .int .u8 0, .int .u8 0]], []⟩).memory Tryz.f3.params.toList Rows.shadowsTurnedSpec.vars false #[.agg #[.slice none 0 0, .int .u16 0, .int .u8 0, .int .u8 0]].toList 8 = some ([.agg [.nil, .lit (.int .u16 0), .lit (.int .u8 0), .lit (.int .u8 0)]], [], places) :=
  ⟨[], by kernel_rfl⟩

set_option maxRecDepth 100000 in
theorem lifted (os : Os) (started : os.Started) (H : Type) (enc : TypeId × Value → H) (F : Stop.Interp) :
    ReturnsInHanded {} Tryz.checked os 3 .any ((Rows.OpenSpec.upto Rows.shadowsTurnedSpec).preRow enc Tryz.prog Tryz.f3 Rows.shadowsTurnedUptoRow.domain false Rows.shadowsTurnedUptoRow.laid) (((Rows.OpenSpec.upto Rows.shadowsTurnedSpec).at F).post enc Tryz.prog Tryz.f3 false true false false) := by
  obtain ⟨places, hx⟩ := reads os enc
  refine returnsInHanded_of_row (C := Tryz.checked) (s := Rows.OpenSpec.upto Rows.shadowsTurnedSpec) own started (by kernel_rfl) Tryz.func3
    (witness_row_at (enc := enc) (C := Tryz.checked) false (laidWorldE os) #[.agg #[.slice none 0 0, .int .u16 0, .int .u8 0, .int .u8 0]] rfl (by kernel_rfl) (by kernel_rfl) (by kernel_rfl)
      (OpenSpec.preRow_of_cond 8 hx (by kernel_rfl) (fun k hk => by cases hk; kernel_rfl) (by kernel_rfl) (laid_met os))) ?_
  intro W base args ds gs before hval hW _ hcond hz hL _ _
  have hgs : gs = [] := by obtain ⟨_, _, _, hV, _⟩ := hW; exact (trodVars_none hV).1
  subst hgs
  rw [List.append_nil, show (Rows.OpenSpec.upto Rows.shadowsTurnedSpec).bare.plain.varTypes Tryz.checked.prog = [] from rfl, List.append_nil] at hz
  have hu : Rows.uptoBulkAll ds ≤ 1048576 := by have := hcond _ rfl; rw [List.append_nil] at this; exact of_decide_eq_true this
  exact contract H enc W base args ds [] before hval hW (fun n hn => by simpa using List.all_eq_true.1 hz n hn) hu (tab_errE hL)

set_option maxHeartbeats 16000000 in
set_option maxRecDepth 100000 in
theorem facts : joinedFacts Tryz.pinned.checked.prog 3 Tryz.f3 (Rows.OpenSpec.upto Rows.shadowsTurnedSpec).bare Rows.shadowsTurnedUptoRow = true := by
  unfold joinedFacts
  repeat' (with_reducible refine Bool.and_eq_true_iff.2 ⟨?_, ?_⟩)
  all_goals as_aux_lemma => kernel_rfl

theorem said : Rows.ShadowsTurnedUptoSaid :=
  OpenClaim.holds_of_cond 3 Tryz.f3 rfl rfl rfl rfl rfl rfl rfl ⟨rfl, rfl, rfl, rfl, rfl⟩ rfl rfl rfl rfl rfl (by kernel_rfl) Tryz.func3 facts
    (of_decide_eq_true (by kernel_rfl)) (by unfold Func.isWrapper; first | (rw [if_pos (by decide +kernel)]; kernel_rfl) | (rw [if_neg (by decide +kernel)]; exact ⟨rfl, rfl⟩))
    (fun os started H enc _ F => by rw [OpenClaim.pre_eq_preRow]; exact lifted os started H enc F)

theorem plain (f : FuncId) (fn : Func) (hf : Tryz.pinned.checked.prog.funcNamed "drydock/drydocklaw18.ShadowsTurned" = some f) (hfn : Tryz.pinned.checked.prog.funcs[f]? = some fn) :
    true = Tryz.pinned.checked.prog.looks [] ∧ ∀ (j : Nat) t, fn.params[j]? = some t → Tryz.pinned.checked.prog.wantsStandIn t = false := by
  obtain rfl : f = 3 := Option.some.inj ((show Tryz.prog.funcNamed "drydock/drydocklaw18.ShadowsTurned" = some 3 by kernel_rfl).symm.trans hf) |>.symm
  obtain rfl : fn = Tryz.f3 := (Option.some.inj (Tryz.func3.symm.trans hfn)).symm
  refine ⟨by kernel_rfl, fun j t ht => ?_⟩
  rw [Tryz.params3] at ht
  have hm : t ∈ [25] := by simpa using Array.mem_of_getElem? ht
  have hall : ([25].all fun u => !Tryz.prog.wantsStandIn u) = true := by kernel_rfl
  exact (show Tryz.prog.wantsStandIn t = false by simpa using List.all_eq_true.1 hall t hm)

theorem card : Rows.ShadowsTurnedUptoCardSaid :=
  Claim7.holds_tied_plain_at .later [] _ _ _ _ said (fun _ h => by cases h) (by kernel_rfl) (fun _ h => by cases h) shadowsTurnedUpto_row_tie rfl ⟨rfl, rfl⟩ (by kernel_rfl) rfl plain (by kernel_rfl)
end Go.Proofs.YtnffigfafalocaaGreatDoor.shadowsTurned
