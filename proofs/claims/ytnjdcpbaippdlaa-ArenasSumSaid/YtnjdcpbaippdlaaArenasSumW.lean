/-
  Package drydocklaw24 by its own text: the walk of ArenasSum.
-/
import Derived.Test.YtnjdcpbaippdlaaArHas
import Derived.Test.YtnjdcpbaippdlaaAAct
import Derived.Deep.DeepCutAuto
import Derived.Deep.CutBlock
import Derived.Lib.SmallJoins
namespace Go.Proofs.Ytnjdcpbaippdlaa
open Go Go.RowKit Go.Maps
set_option linter.unusedSimpArgs false
set_option linter.unusedVariables false

def sumIds (acts : List ADeed) : List Nat := acts.map (·.id)
theorem sumIds_at {acts : List ADeed} {k : Nat} {x : ADeed} (h : acts[k]? = some x) : (sumIds acts).getD k 0 = x.id := by
  rw [sumIds, List.getD_eq_getElem?_getD, List.getElem?_map, h]; rfl
/-- the ids, wherever the walk is -/
def IdCell (w : World) (ad : Option Addr) (acts : List ADeed) : Prop := ∀ k, k < acts.length → ∃ c o, ad = some ⟨c, o, none⟩ ∧ (sumIds acts).getD k 0 < 4294967296 ∧ ∀ w', Touch No w w' → w'.cell? ⟨c, o + k * 5 + 1, none⟩ = some (.int .u32 ((sumIds acts).getD k 0 : Nat))
theorem idCell {w : World} {ad : Option Addr} {acts : List ADeed} (h : IsADeeds w ad acts) : IdCell w ad acts := fun k hk => by
  obtain ⟨x, hx⟩ : ∃ x, acts[k]? = some x := ⟨_, List.getElem?_eq_getElem hk⟩
  obtain ⟨c, o, e, ha⟩ := h k x hx
  refine ⟨c, o, e, by rw [sumIds_at hx]; exact ha.id_lt, fun w' t => ?_⟩
  rw [sumIds_at hx]
  exact (ha.touch t).cell 1 (by decide)

set_option maxRecDepth 100000 in
set_option maxHeartbeats 1000000 in
theorem great24_any (w : World) (ad : Option Addr) (n cap : Nat) (acts : List ADeed) (hn : acts.length = n) (hmax : (n : Int) ≤ 9223372036854775807) (h : IsADeeds w ad acts) :
    Calls Try.prog 4 #[.slice ad n cap] w fun e w' => (∃ b, e = .returned (.bool b)) ∧ Touch No w w' := by
  have H := Lib.hid h; clear h
  have HN := Lib.hid hn; clear hn
  go_enter Try.func4, Try.ntmps4
  go_wp2
  go_loopg [3, 4] n (fun g s3 s4 wr => ∃ (k : Nat) (z : Int), k + g = n ∧ s4 = .int .i64 ((k : Nat) : Int) ∧ s3 = .int .i64 z ∧ Hid (Touch No w wr))
  case atStart => exact ⟨0, 0, by omega, rfl, rfl, Touch.refl No w⟩
  case round =>
    obtain ⟨k, z, hkg, rfl, rfl, T⟩ := hrel
    cases gk with
    | zero =>
      obtain rfl : k = n := by omega
      by_cases hz : (6000 : Int) < z
      all_goals
        go_wp2
        go_ret
        first
          | exact ⟨⟨_, rfl⟩, T.out⟩
          | exact ⟨Or.inl rfl, T.out⟩
          | exact ⟨Or.inr rfl, T.out⟩
    | succ g =>
      have hlt : (k : Int) < n := by omega
      obtain ⟨x, hx⟩ : ∃ x, acts[k]? = some x := ⟨_, List.getElem?_eq_getElem (by have := HN.out; omega)⟩
      obtain ⟨c, o, rfl, ha⟩ := (H.out.touch T.out) k x hx
      have hl : wr.cell? ⟨c, o + k * 5 + 3, none⟩ = some (.slice x.t_s_a x.t_s.length x.t_s_cap) := ha.cell 3 (by decide)
      have hl2 : wr.cell? ⟨c, o + k * 5 + 4, none⟩ = some (.slice x.t_l_a x.t_l.length x.t_l_cap) := ha.cell 4 (by decide)
      clear ha hx
      generalize x.t_s.length = q at *
      generalize x.t_s_a = qa at *
      generalize x.t_s_cap = qc at *
      generalize x.t_l.length = q' at *
      generalize x.t_l_a = qa' at *
      generalize x.t_l_cap = qc' at *
      go_wp2
      go_quiet (fail)
      go_wp2
      have T2 := Lib.hid (T.out.drewN nq)
      go_roundg g
      case measure => omega
      case rel => exact ⟨k + 1, _, by omega, by go_num, rfl, T2.out⟩

set_option maxRecDepth 100000 in
set_option maxHeartbeats 16000000 in
theorem arenasSum_walk (w : World) (room : Nat) (hroom : room < 65536) (ad : Option Addr) (n cap : Nat) (acts : List ADeed) (hn : acts.length = n) (hmax : (n : Int) ≤ 9223372036854775807) (hd : IsADeeds w ad acts) :
    Calls Try.prog 3 #[.int .u16 (room : Nat), .slice ad n cap] w (LawPost w) := by
  have hmm := @run_makeMap Try.prog
  have HN := Lib.hid hn
  have HD := Lib.hid hd
  have HC := Lib.hid (idCell hd)
  have HG := Lib.hid (great24_any w ad n cap acts hn hmax hd)
  obtain ⟨L, hL⟩ : ∃ L, L = sumIds acts := ⟨_, rfl⟩
  have HL := Lib.hid hL
  have HLn : Hid (L.length = n) := by show _ = _; rw [hL, sumIds, List.length_map, hn]
  clear hn hd hL
  have go : ∀ (b : Bool) (w1 : World), Hid (Touch No w w1) → True := fun _ _ _ => trivial
  clear go
  go_enter Try.func3, Try.ntmps3
  go_wp2_with fail
  refine HG.out.mono ?_
  rintro e w1 ⟨⟨bb, rfl⟩, t1⟩
  have T1 := Lib.hid t1
  clear t1 HG
  by_cases hbig : bb = true ∨ 150 < n
  · have hb2 : (bb || decide ((150 : Int) < (n : Nat))) = true := by rcases hbig with h | h <;> simp [h] <;> omega
    by_cases hb1 : bb = true
    · subst hb1
      clear hbig hb2
      go_wp2_with fail
      refine (lives_is _).mono ?_
      rintro e wz ⟨rfl, tz⟩
      go_wp2
      go_ret
      exact ⟨rfl, T1.out.trans tz⟩
    · have hb3 : bb = false := by simpa using hb1
      have hb4 : (150 : Int) < (n : Nat) := by rcases hbig with h | h; exact absurd h hb1; omega
      subst hb3
      clear hbig hb2 hb1
      go_wp2_with fail
      refine (lives_is _).mono ?_
      rintro e wz ⟨rfl, tz⟩
      go_wp2
      go_ret
      exact ⟨rfl, T1.out.trans tz⟩
  · have hb3 : bb = false := by cases bb; rfl; exact absurd (Or.inl rfl) hbig
    have hb4 : ¬ (150 : Int) < (n : Nat) := by omega
    have Hn150 : Hid (n ≤ 150) := by show _ ≤ _; omega
    subst hb3
    clear hbig
    go_wp2_with fail
    refine (ars_newK w w1 T1.out room (room : Nat) rfl (by omega)).mono ?_
    rintro e w2 ⟨g, rfl, q1⟩
    have H1 := Lib.hid q1
    clear q1 T1
    go_wp2
    obtain ⟨b, hb⟩ : ∃ b, b = w2.heap.size := ⟨_, rfl⟩
    rw [← hb]
    have Hb := Lib.hid hb
    clear hb
    go_loopg [8] n (fun gh s8 wr => ∃ (i : Nat) (A : Ar.Arena), i + gh = n ∧ s8 = .int .i64 ((i : Nat) : Int) ∧ Hid (Ar.Sum room L i A) ∧ Hid (Ars w wr g A [Part.has b (Ar.hasOf A.its) i]))
    case atStart =>
      refine ⟨0, _, by omega, rfl, Ar.sum_new (by omega) L, ?_⟩
      show Ars _ _ _ _ _
      rw [Hb.out]
      exact H1.out.hasNew (World.ownsMap_made _ _ _ _) ((Touch.refl No w2).alloc _) (by simp)
    case round =>
      clear H1 Hb
      obtain ⟨i, A, hig, rfl, HS, HA⟩ := hrel
      cases gk with
      | zero =>
        obtain rfl : i = n := by omega
        have hlen : Hid (A.its.length ≤ 150) := by show _ ≤ _; have := HS.out.len; have := Hn150.out; omega
        go_wp2_with fail
        have hI := HA.out.ids (by have := hlen.out; omega)
        refine hI.mono ?_
        clear hI
        rintro e w5 ⟨a, rfl, q5⟩
        obtain ⟨ln, hln⟩ : ∃ ln, A.its.length = ln := ⟨_, rfl⟩
        have Hln := Lib.hid hln
        have hln150 : ln ≤ 150 := by have := hlen.out; omega
        have H5 := Lib.hid q5
        rw [hln]
        clear q5 HA hln
        go_wp2
        go_loopg [15] ln (fun gh s15 wy => ∃ k : Nat, k + gh = ln ∧ s15 = .int .i64 ((k : Nat) : Int) ∧ Hid (Ars w wy g (Ar.gives k A) [Part.rd2 a (ints .u32 (Ar.ids A.its)) none [], Part.has b (Ar.hasOf A.its) i]))
        case atStart => exact ⟨0, by omega, rfl, H5.out⟩
        case round =>
          clear H5
          obtain ⟨k, hkl, rfl, HB⟩ := hrel
          cases gk with
          | zero =>
            obtain rfl : k = ln := by omega
            obtain ⟨z1, z2⟩ := Ar.gives_all HS.out.ok
            rw [Hln.out] at z1 z2
            have Z1 := Lib.hid z1
            have Z2 : Hid ((Ar.gives k A).its.length = 0) := by show _ = _; rw [z2]; rfl
            clear z1 z2
            go_wp2_with fail
            refine (HB.out.usedK 0 (by rw [Z1.out]; rfl)).mono ?_
            rintro e w6 ⟨rfl, q6⟩
            have H6 := Lib.hid q6
            clear q6 HB
            go_wp2_with fail
            have hI := H6.out.ids (by rw [Z2.out]; decide)
            rw [Z2.out] at hI
            refine hI.mono ?_
            clear hI
            rintro e w7 ⟨a7, rfl, q7⟩
            have H7 := Lib.hid q7.end
            clear q7 H6
            go_wp2_with fail
            refine (lives_is _).mono ?_
            rintro e wz ⟨rfl, tz⟩
            go_wp2
            go_ret
            exact ⟨rfl, H7.out.trans tz⟩
          | succ g2 =>
            have hk1 : (k : Int) < (ln : Nat) := by omega
            have hkl2 : k < A.its.length := by rw [Hln.out]; omega
            have hstep := Ar.gives_step HS.out.ok hkl2
            have hidl : Ar.idAt A.its k < 4294967296 := by rw [Ar.idAt_eq hkl2]; exact HS.out.ok.ids _ (List.getElem_mem _)
            obtain ⟨gb, go, rfl, hc⟩ := (HB.out.rd2 List.mem_cons_self).1.int (i := k) (by simp [Ar.ids]; omega)
            obtain ⟨y, hy⟩ : ∃ y, Ar.idAt A.its k = y := ⟨_, rfl⟩
            have hc2 : wr.cell? ⟨gb, go + k, none⟩ = some (.int .u32 (y : Nat)) := by
              rw [hc, ← hy, Ar.idAt, Ar.ids]
              simp [List.getD_eq_getElem?_getD, List.getElem?_eq_getElem hkl2]
            rw [hy] at hstep hidl
            have hgs : Ar.giveA (Ar.gives k A) y = Ar.gives (k + 1) A := by rw [← hy]; rfl
            have Hgs := Lib.hid hgs
            have Hst := Lib.hid hstep
            have Hil := Lib.hid hidl
            clear hc hstep hidl hy hgs hkl2
            go_wp2_with fail
            refine (HB.out.giveK (y : Nat) y rfl Hil.out 0 (by rw [Hst.out]; rfl) _ Hgs.out).mono ?_
            rintro e w6 ⟨rfl, q6⟩
            have H6 := Lib.hid q6
            clear q6 HB hc2
            go_wp2
            go_roundg g2
            case measure => omega
            case rel => exact ⟨k + 1, by omega, by go_num, H6.out⟩
      | succ g1 =>
        have hin : (i : Int) < (n : Nat) := by omega
        obtain ⟨x, hx⟩ : ∃ x, acts[i]? = some x := ⟨_, List.getElem?_eq_getElem (by have := HN.out; omega)⟩
        have hid : L.getD i 0 = x.id := by rw [HL.out]; exact sumIds_at hx
        obtain ⟨c, o, rfl, ha⟩ := (HD.out.touch HA.out.end) i x hx
        obtain ⟨xk, xd, xb, ts, tsa, tsc, tl, tla, tlc⟩ := x
        have Hid1 : Hid (L.getD i 0 = xd) := hid
        obtain ⟨ns, hns⟩ : ∃ ns, ts.length = ns := ⟨_, rfl⟩
        obtain ⟨nl, hnl⟩ : ∃ nl, tl.length = nl := ⟨_, rfl⟩
        have c0 : wr.cell? ⟨c, o + i * 5, none⟩ = some (.int .u8 (xk : Nat)) := ha.cell 0 (by decide)
        have c1 : wr.cell? ⟨c, o + i * 5 + 1, none⟩ = some (.int .u32 (xd : Nat)) := ha.cell 1 (by decide)
        have c2 : wr.cell? ⟨c, o + i * 5 + 2, none⟩ = some (.int .i64 xb) := ha.cell 2 (by decide)
        have c3 : wr.cell? ⟨c, o + i * 5 + 3, none⟩ = some (.slice tsa ns tsc) := by rw [← hns]; exact ha.cell 3 (by decide)
        have c4 : wr.cell? ⟨c, o + i * 5 + 4, none⟩ = some (.slice tla nl tlc) := by rw [← hnl]; exact ha.cell 4 (by decide)
        have Hd4 : Hid (xd < 4294967296) := ha.id_lt
        have Hbi : Hid (-9223372036854775808 ≤ xb ∧ xb ≤ 9223372036854775807) := ha.bytes_in
        have hk8 : xk < 256 := ha.kind_lt
        clear ha hns hnl hx hid
        go_upto_region 11 with fail
        obtain ⟨X, hX⟩ : ∃ X, X = wr.heap.size := ⟨_, rfl⟩
        obtain ⟨w3, hw3⟩ : ∃ w3, w3 = wr.alloc (.cells #[.int .u8 (xk : Nat), .int .u32 (xd : Nat), .int .i64 xb, .slice tsa ns tsc, .slice tla nl tlc] 37) := ⟨_, rfl⟩
        have S2 : Hid (Ars w w3 g A [Part.row X 37 [.int .u8 (xk : Nat), .int .u32 (xd : Nat), .int .i64 xb, .slice tsa ns tsc, .slice tla nl tlc], Part.has b (Ar.hasOf A.its) i]) := by
          show Ars _ _ _ _ _
          rw [hw3, hX]
          exact HA.out.push (Born.row wr 37 #[.int .u8 (xk : Nat), .int .u32 (xd : Nat), .int .i64 xb, .slice tsa ns tsc, .slice tla nl tlc])
        rw [← hw3, ← hX]
        clear hw3 hX HA c0 c1 c2 c3 c4
        have HX : Hid (∀ (w' : World) (A' : Ar.Arena) (E' : List Part), Ars w w' g A' (Part.row X 37 [.int .u8 (xk : Nat), .int .u32 (xd : Nat), .int .i64 xb, .slice tsa ns tsc, .slice tla nl tlc] :: E') → w'.cell? ⟨X, 1, none⟩ = some (.int .u32 (xd : Nat)) ∧ w'.cell? ⟨X, 2, none⟩ = some (.int .i64 xb)) := fun w' A' E' h => ⟨(h.row List.mem_cons_self).cell 1, (h.row List.mem_cons_self).cell 2⟩
        have k0 : w3.cell? ⟨X, 0, none⟩ = some (.int .u8 (xk : Nat)) := (S2.out.row List.mem_cons_self).cell 0
        obtain ⟨q, hq⟩ : ∃ q, xk % 2 = q := ⟨_, rfl⟩
        have hq2 : q < 2 := by rw [← hq]; exact Nat.mod_lt _ (by decide)
        have hkq : ((xk : Nat) : Int) % 2 = (q : Nat) := by omega
        clear hq
        go_upto_if 46 with fail
        go_cut [46] (fun s46 wx => ∃ (A' : Ar.Arena), Hid (Ar.Sum room L (i + 1) A') ∧ Hid (Ars w wx g A' [Part.has b (Ar.hasOf A'.its) (i + 1)]))
        case first =>
          obtain ⟨wc, hwc⟩ : ∃ wc, wc = w3 := ⟨_, rfl⟩
          subst hwc
          have hcases : q = 0 ∨ q = 1 := by omega
          have Hi150 : Hid (i < n) := by show _ < _; omega
          have hkey : keyOf Try.prog 31 (.int .u32 (xd : Nat)) = some (.int .u32 (xd : Nat)) := keyOf_id Hd4.out
          have HLi : Hid (i < L.length) := by show _ < _; rw [HLn.out]; omega
          have Hpu : Hid (A.puts < 1000000000) := by show _ < _; have := HS.out.puts; have := Hn150.out; omega
          clear hq2
          rcases hcases with rfl | rfl
          · have k1 : wc.cell? ⟨X, 1, none⟩ = some (.int .u32 (xd : Nat)) := (HX.out _ _ _ S2.out).1
            have k2 : wc.cell? ⟨X, 2, none⟩ = some (.int .i64 xb) := (HX.out _ _ _ S2.out).2
            by_cases h0 : Ar.takeE A xd xb = 0
            · obtain ⟨z1, z2, _⟩ := Ar.hasOf_take h0 0
              obtain ⟨m, rfl⟩ : ∃ m : Nat, xb = (m : Nat) := ⟨xb.toNat, by omega⟩
              have hm : (m : Int) ≤ 65535 := by have := HS.out.room; omega
              have HT : Hid (∀ y, Ar.hasOf (Ar.takeA A xd (m : Nat)).its y = if y = xd then m + 1 else Ar.hasOf A.its y) := fun y => by have := (Ar.hasOf_take h0 y).2.2; rw [Int.toNat_natCast] at this; exact this
              have HS2 : Hid (Ar.Sum room L (i + 1) (Ar.takeA A xd (m : Nat))) := by
                have := HS.out.take HLi.out (by rw [Hid1.out]; exact Hd4.out) (m : Nat)
                rw [Hid1.out] at this
                exact this
              have H0 := Lib.hid h0
              clear h0 z1 z2
              go_wp2_with fail
              refine (S2.out.takeK (xd : Nat) xd rfl Hd4.out (m : Nat) Hbi.out Hpu.out 0 (by rw [H0.out]; rfl) _ rfl).mono ?_
              rintro e w4 ⟨rfl, q4⟩
              have k1 : w4.cell? ⟨X, 1, none⟩ = some (.int .u32 (xd : Nat)) := (HX.out _ _ _ q4).1
              have k2 : w4.cell? ⟨X, 2, none⟩ = some (.int .i64 (m : Nat)) := (HX.out _ _ _ q4).2
              obtain ⟨nn, D, hnn, hown, hD⟩ := (Ars.drop q4).hasIn
              have S4 := Lib.hid (Ars.drop q4)
              have HDD := Lib.hid hD
              have hnn2 : nn < 1000 := by have := Hi150.out; have := Hn150.out; omega
              have Hnn := Lib.hid hnn
              clear q4 S2 hD hnn
              go_wp2_with (at_mapUpdate; refine wpList_mapUpdate_own _ rfl _ _ _ 30 rfl 31 3 keyU32 Try.underlying30 _ b nn _ rfl hown (by unfold maxLen; omega) _ _ _ rfl rfl hkey _ [] (plainElem_int Try.underlying3 (WalkArith.wf_i64 (by omega))) ?_; intro w5 hown5 hgrow5; clear hown)
              go_meet
              refine ⟨_, HS2.out, ?_⟩
              refine S4.out.hasPut (by have := Hnn.out; omega) (HDD.out.put xd (m + 1) HT.out) hown5 ?_
              exact (Touch.refl _ w4).grown hgrow5 (fun i e _ => by cases e; rfl)
            · obtain ⟨v, hv⟩ : ∃ v, Ar.takeE A xd xb = v := ⟨_, rfl⟩
              have hv0 : ¬ (v : Int) = 0 := by omega
              have HT : Hid (Ar.takeA A xd xb = A) := Ar.take_not h0
              have HS2 : Hid (Ar.Sum room L (i + 1) A) := by
                have := HS.out.take HLi.out (by rw [Hid1.out]; exact Hd4.out) xb
                rw [Hid1.out, HT.out] at this
                exact this
              have HV := Lib.hid hv
              clear h0 hv
              go_wp2_with fail
              refine (S2.out.takeK (xd : Nat) xd rfl Hd4.out xb Hbi.out Hpu.out (v : Int) (by rw [HV.out]) A HT.out).mono ?_
              rintro e w4 ⟨rfl, q4⟩
              have S4 := Lib.hid (Ars.drop q4)
              clear q4 S2
              go_wp2_with fail
              go_meet
              exact ⟨_, HS2.out, S4.out.hasAs (by omega) (fun _ => rfl)⟩
          · have k1 : wc.cell? ⟨X, 1, none⟩ = some (.int .u32 (xd : Nat)) := (HX.out _ _ _ S2.out).1
            have HS2 : Hid (Ar.Sum room L (i + 1) (Ar.giveA A xd)) := HS.out.give xd
            have HT : Hid (∀ y, Ar.hasOf (Ar.giveA A xd).its y = if y = xd then 0 else Ar.hasOf A.its y) := Ar.hasOf_give A xd
            have S2d := S2.out.no (Touch.refl No wc).drew
            have S2D := Lib.hid S2d
            obtain ⟨h, hh⟩ : ∃ h, Ar.hasOf A.its xd = h := ⟨_, rfl⟩
            obtain ⟨v, hv⟩ : ∃ v, Ar.giveE A xd = v := ⟨_, rfl⟩
            have hvh : v = 0 ↔ 0 < h := by rw [← hv, ← hh]; exact Ar.giveE_has A xd
            have HV := Lib.hid hv
            have HH := Lib.hid hh
            clear hv hh
            have hcs : (v = 0 ∧ 0 < h) ∨ (v = 7 ∧ h = 0) := by
              have h7 : v = 0 ∨ v = 7 := by
                rw [← HV.out]; unfold Ar.giveE
                split
                · exact Or.inl rfl
                · exact Or.inr rfl
              rcases Nat.eq_zero_or_pos h with e | e
              · exact Or.inr ⟨by omega, e⟩
              · exact Or.inl ⟨hvh.2 e, e⟩
            clear hvh
            rcases hcs with ⟨rfl, e2⟩ | ⟨rfl, rfl⟩
            all_goals
              try (have d2 : decide (0 < h) = true := decide_eq_true e2)
              go_wp2_with fail
              have L0 := S2d.hasLook (List.mem_cons_of_mem _ List.mem_cons_self) xd Hd4.out _ HH.out
              go_region_held3 (fun w' => w'.cell? ⟨X, 1, none⟩ = some (.int .u32 (xd : Nat))) (first | exact k1 | exact (HX.out _ _ _ q4).1 | exact (HX.out _ _ _ S2d).1) (first
                | (go_at_call 8; refine (S2D.out.giveK (xd : Nat) xd rfl Hd4.out _ (by rw [HV.out]) _ rfl).mono ?_; rintro e w4 ⟨rfl, q4⟩; have L4 := q4.hasLook (List.mem_cons_of_mem _ List.mem_cons_self) xd Hd4.out _ HH.out; obtain ⟨w5, hrun5, hs5⟩ := (Ars.drop q4).hasSet (by have := Hi150.out; have := Hn150.out; omega) xd Hd4.out 0 0 rfl (by decide); have kk1 : w4.cell? ⟨X, 1, none⟩ = some (.int .u32 (xd : Nat)) := (HX.out _ _ _ q4).1; have S5 := Lib.hid (hs5 _ HT.out); clear hs5))
              all_goals
                first
                  | (go_meet; exact ⟨_, HS2.out, S5.out⟩)
                  | (go_wp2_with fail; go_meet; exact ⟨_, HS2.out, S5.out⟩)
        case rest =>
          obtain ⟨A', HS', HA'⟩ := hcut
          clear HS S2 HX k0 hkq hq2 Hbi Hid1 Hd4 hk8
          go_wp2
          go_loopg [10, 11] (i + 1) (fun gh s10 s11 wy => ∃ k m : Nat, k + gh = i + 1 ∧ s11 = .int .i64 ((k : Nat) : Int) ∧ s10 = .int .i64 ((m : Nat) : Int) ∧ Hid (m = Ar.sumF A'.its L k) ∧ Hid (Ars w wy g A' [Part.has b (Ar.hasOf A'.its) (i + 1)]))
          case atStart => exact ⟨0, 0, by omega, rfl, rfl, rfl, HA'.out⟩
          case round =>
            clear HA'
            obtain ⟨k, m, hki, rfl, rfl, HM, HA⟩ := hrel
            cases gk with
            | zero =>
              obtain rfl : k = i + 1 := by omega
              have hum : A'.used = m := by rw [HM.out]; exact (HS'.out.sum (by rw [HLn.out]; omega)).symm
              have hp1 := HS'.out.ok.peak
              have hp2 := HS'.out.ok.room
              have hp3 := HS'.out.room
              obtain ⟨pk, hpk⟩ : ∃ pk, A'.peak = pk := ⟨_, rfl⟩
              have g1' : ¬ (pk : Int) < (m : Nat) := by omega
              have g2' : ¬ (room : Int) < (pk : Nat) := by omega
              have Hpk := Lib.hid hpk
              have Hum := Lib.hid hum
              clear hum hp1 hp2 hp3 hpk
              go_wp2_with fail
              refine (HA.out.usedK (m : Nat) (by rw [Hum.out])).mono ?_
              rintro e w5 ⟨rfl, q5⟩
              have H5 := Lib.hid q5
              clear q5 HA
              go_wp2_with fail
              refine (H5.out.peakK (pk : Nat) (by rw [Hpk.out])).mono ?_
              rintro e w6 ⟨rfl, rfl⟩
              go_wp2_with fail
              refine (H5.out.peakK (pk : Nat) (by rw [Hpk.out])).mono ?_
              rintro e w6 ⟨rfl, rfl⟩
              go_wp2
              go_roundg g1
              case measure => omega
              case rel => exact ⟨i + 1, A', by omega, by go_num, HS'.out, H5.out⟩
            | succ g2 =>
              have hk1 : (k : Int) ≤ (i : Nat) := by omega
              have hkn : k < n := by omega
              have hmr : Hid (m ≤ 65535) := by
                show _ ≤ _
                rw [HM.out]
                have h1 := Ar.sumF_le (l := A'.its) L (n := k) (m := i + 1) (by omega)
                have h2 := HS'.out.sum (by rw [HLn.out]; omega)
                have h3 := HS'.out.ok.peak
                have h4 := HS'.out.ok.room
                have h5 := HS'.out.room
                omega
              obtain ⟨c', o', ead, hxk, hck⟩ := HC.out k (by rw [HN.out]; exact hkn)
              injection ead with ead
              injection ead with e1 e2
              subst e1 e2
              obtain ⟨y, hy⟩ : ∃ y, L.getD k 0 = y := ⟨_, rfl⟩
              rw [← HL.out, hy] at hxk hck
              have HCK := Lib.hid hck
              have Hy := Lib.hid hy
              have Hxk := Lib.hid hxk
              clear hy hck hxk
              go_wp2
              go_loopg [12, 13] k (fun gh s12 s13 wz => ∃ (j : Nat) (t : Bool), j + gh = k ∧ s13 = .int .i64 ((j : Nat) : Int) ∧ s12 = .bool t ∧ Hid (t = true ↔ y ∉ L.take j) ∧ Hid (Ars w wz g A' [Part.has b (Ar.hasOf A'.its) (i + 1)]))
              case atStart => exact ⟨0, true, by omega, rfl, rfl, by simp [Hid], HA.out⟩
              case round =>
                clear HA
                obtain ⟨j, t, hjk, rfl, rfl, HT, HA⟩ := hrel
                cases gk with
                | zero =>
                  obtain rfl : j = k := by omega
                  have hkn2 : (j : Int) < (n : Nat) := by omega
                  have hck0 := HCK.out _ HA.out.end
                  obtain ⟨v, hv⟩ : ∃ v, Ar.hasOf A'.its y = v := ⟨_, rfl⟩
                  have Hv := Lib.hid hv
                  have hvr : v ≤ 65536 := by rw [← hv]; have h1 := Ar.hasOf_le HS'.out.ok y; have h2 := HS'.out.room; omega
                  have hmr2 := hmr.out
                  have hst : Hid (Ar.sumF A'.its L (j + 1) = m + if t = true then v - 1 else 0) := by
                    show _ = _
                    rw [Ar.sumF, Hy.out, ← HM.out, Hv.out]
                    by_cases e : y ∈ L.take j
                    · have ht : ¬ t = true := fun h => HT.out.1 h e
                      rw [if_pos e, if_neg ht]
                    · rw [if_neg e, if_pos (HT.out.2 e)]
                  have L0 := HA.out.hasLook List.mem_cons_self y Hxk.out v hv
                  clear hv HT
                  cases t with
                  | false =>
                    clear L0 hck0
                    go_wp2
                    go_roundg g2
                    case measure => omega
                    case rel => exact ⟨j + 1, m, by omega, by go_num, rfl, (by have := hst.out; simp at this; exact this.symm), HA.out⟩
                  | true =>
                    rcases Nat.eq_zero_or_pos v with e | e
                    · subst e
                      go_wp2
                      go_roundg g2
                      case measure => omega
                      case rel => exact ⟨j + 1, m, by omega, by go_num, rfl, (by have := hst.out; simp at this; exact this.symm), HA.out⟩
                    · have e2 : decide (0 < v) = true := decide_eq_true e
                      have e3 : decide ((0 : Int) < (v : Nat)) = true := by simp; omega
                      go_wp2
                      go_roundg g2
                      case measure => omega
                      case rel => exact ⟨j + 1, m + (v - 1), by omega, by go_num, by rw [Int.natCast_add, Int.natCast_sub (by omega)]; congr 1; omega, (by have := hst.out; simp at this; exact this.symm), HA.out⟩
                | succ g3 =>
                  have hj1 : (j : Int) < (k : Nat) := by omega
                  have hjn : (j : Int) < (n : Nat) := by omega
                  have hkn2 : (k : Int) < (n : Nat) := by omega
                  obtain ⟨c', o', ead, hxj, hcj⟩ := HC.out j (by rw [HN.out]; omega)
                  injection ead with ead
                  injection ead with e1 e2
                  subst e1 e2
                  obtain ⟨x, hx⟩ : ∃ x, L.getD j 0 = x := ⟨_, rfl⟩
                  rw [← HL.out, hx] at hxj hcj
                  have HTx : Hid ((t && decide (¬ x = y)) = true ↔ y ∉ L.take (j + 1)) := by
                    show _ ↔ _
                    rw [Ar.take_last (by rw [HLn.out]; omega), hx, Bool.and_eq_true, HT.out]
                    simp
                    exact fun _ => ⟨fun h e => h e.symm, fun h e => h e.symm⟩
                  have hcj0 := hcj _ HA.out.end
                  have hck0 := HCK.out _ HA.out.end
                  clear hx hxj hcj
                  cases t with
                  | false =>
                    clear hcj0 hck0
                    go_wp2
                    go_quiet (fail)
                    go_wp2
                    have H2 := Lib.hid (HA.out.no ((Touch.refl No wr).drewN nq))
                    go_roundg g3
                    case measure => omega
                    case rel => exact ⟨j + 1, false, by omega, by go_num, rfl, HTx.out, H2.out⟩
                  | true =>
                    go_wp2
                    go_quiet (fail)
                    go_wp2
                    have H2 := Lib.hid (HA.out.no ((Touch.refl No wr).drewN nq))
                    go_roundg g3
                    case measure => omega
                    case rel => exact ⟨j + 1, _, by omega, by go_num, rfl, (by show _ ↔ _; rw [← HTx.out]; simp; omega), H2.out⟩
end Go.Proofs.Ytnjdcpbaippdlaa
