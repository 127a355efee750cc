/-
  Package shadows by its own text: Commit.
-/
import Derived.Test.YtnffigfafalocaaGreatDoorK40
namespace Go.Proofs.YtnffigfafalocaaGreatDoor
open Go Go.RowKit Go.Maps
set_option linter.unusedSimpArgs false
set_option linter.unusedVariables false

namespace Sh
def words (p : Nat × Th) : List Nat := [p.1, p.2.bytes, p.2.epoch] ++ p.2.pages
theorem rowB_words (p : Nat × Th) : rowB p = (words p).flatMap Rt.four := by
  simp [rowB, words]
theorem words_length (p : Nat × Th) : (words p).length = 3 + p.2.pages.length := by simp [words]; omega
theorem words_lt {T : Sto} (h : Ok T) {p : Nat × Th} (hp : p ∈ T.now) : ∀ x ∈ words p, x < 4294967296 := by
  have ht := h.thn p hp
  have hb := ht.bytes
  intro x hx
  simp only [words, List.cons_append, List.nil_append, List.mem_cons] at hx
  rcases hx with rfl | rfl | rfl | hx
  · exact ht.id
  · omega
  · exact ht.epoch
  · have := (h.nrng hp hx).2
    have := many_le h.hi
    omega
theorem flat_snoc {l : List Nat} {k : Nat} (hk : k < l.length) : (l.take (k + 1)).flatMap Rt.four = (l.take k).flatMap Rt.four ++ Rt.four (l.getD k 0) := by
  rw [take_getD hk, List.flatMap_append]; simp
theorem tab_snoc {l : List (Nat × Th)} {k : Nat} (hk : k < l.length) : tabB (l.take (k + 1)) = tabB (l.take k) ++ rowB l[k] := by
  rw [tabB, List.take_add_one, List.getElem?_eq_getElem hk, List.flatMap_append]
  simp [tabB]
theorem tab_take_le {l : List (Nat × Th)} (h : ∀ p ∈ l, ThOk p) (hl : l.length ≤ 64) (k : Nat) : (tabB (l.take k)).length ≤ 70912 := by
  have := tabB_le (l := l.take k) (fun p hp => h p (List.mem_of_mem_take hp))
  have h2 : (l.take k).length ≤ l.length := by rw [List.length_take]; omega
  omega
theorem Ok.com_back {T : Sto} (h : Ok T) : giveSays 1 (1 + many (comD2 T)) (Fr.sub T.S (comL T)) (comL T) = 0 := by
  rw [giveSays, if_pos, if_pos]
  · exact fresh_true.2 ⟨comL_nodup T, fun x hx => by simp [Fr.sub, hx]⟩
  · rw [List.all_eq_true]
    intro x hx
    have := h.com_free hx
    rw [many_eq (comD2_len T)]
    simp only [inMap, Bool.and_eq_true, decide_eq_true_eq]
    omega
theorem Ok.com_back2 {T : Sto} (h : Ok T) : giveSet 1 (1 + many (comD2 T)) (Fr.sub T.S (comL T)) (comL T) = T.S := by
  rw [giveSet, if_pos h.com_back]
  exact Fr.add_sub (fun p hp => lst_pos hp) (fun p => Iff.rfl)
theorem flat_lt {l : List Nat} : ∀ x ∈ l.flatMap Rt.four, x < 256 := by
  intro x hx
  obtain ⟨y, _, hy⟩ := List.mem_flatMap.1 hx
  exact Rt.four_lt y x hy
theorem tab_lt (l : List (Nat × Th)) : ∀ x ∈ tabB l, x < 256 := by
  intro x hx
  obtain ⟨y, _, hy⟩ := List.mem_flatMap.1 hx
  rw [rowB_words] at hy
  exact flat_lt x hy
end Sh
theorem Rd.first {w : World} {g o h : Nat} {t : List Nat} (r : Rd w (some ⟨g, o, none⟩) (nums .u32 (h :: t))) : w.cell? ⟨g, o, none⟩ = some (.int .u32 (h : Nat)) := by
  obtain ⟨g', o', e, hc⟩ := r.num (i := 0) (by simp)
  cases e
  simpa using hc
theorem Sg.c4 {u : Bool} {w0 w : World} {s d f : Nat} {T : Sh.Sto} {E : List Part} (h : Sg u w0 w s d f T E) : ∃ v, w.cell? ⟨s, 4, none⟩ = some v := by
  obtain ⟨bn, bk, ta, tc, L, h⟩ := h.stoIn
  exact ⟨_, h.row.cell 4⟩
section
variable {w0 w w' : World} {s d f : Nat} {T : Sh.Sto} {E : List Part}
set_option maxRecDepth 100000 in
set_option maxHeartbeats 16000000 in
theorem Ss.commit (h : Sg true w0 w s d f T E) (hT : Sh.Ok T) (hTab : TabAt w0) (hw : T.D.waits.length ≤ 90000) :
    Calls Tryz.prog 9 #[.pointer (some ⟨s, 0, none⟩)] w fun e w' => e = .returned (.int .i64 (Sh.comE T : Nat)) ∧ ∃ f', Sg true w0 w' s d f' (Sh.comT T) E := by
  have c0 := h.c0
  obtain ⟨bn, bk, ta, tc, L, hin, hO, hLf, hk⟩ := Ss.in h
  have c2 : w.cell? ⟨s, 2, none⟩ = some (.map (some bn)) := hin.row.cell 2
  have C := Lib.hid (shSorted_any (w := w) (hin.now bn rfl).1 hT.upn (fun p hp => (hT.thn p hp).id) (by have := hT.lenn; show T.now.length ≤ _; omega))
  have H := Lib.hid h
  have HT := Lib.hid hT
  have HTab := Lib.hid hTab
  have HW := Lib.hid hw
  obtain ⟨N, hN⟩ : ∃ N, T.now.length = N := ⟨_, rfl⟩
  have HN := Lib.hid hN
  have hN64 : N ≤ 64 := by rw [← hN]; exact hT.lenn
  rw [show T.m.now.length = N from hN] at C
  clear h hin hO hLf hk hT hTab hw hN
  go_enter Tryz.func9, Tryz.ntmps9
  go_wp2_with fail
  refine (shThere_at w s d c0).mono ?_
  rintro e w' ⟨rfl, rfl⟩
  go_wp2_with fail
  refine (keys_any (some bn) w).mono ?_
  rintro e w2 ⟨rfl, rfl⟩
  go_wp2_with fail
  refine C.out.mono ?_
  rintro e w3 ⟨a3, c3, rfl, hc3, _, o3, t3⟩
  have S3 : Hid (Sg true w0 w3 s d f T (Part.sl 38 a3 N c3 (ints .u32 (Sh.ids T.now)) :: E)) := H.out.push (born_own t3 o3)
  clear t3 o3 C c0 c2 H hc3
  go_wp2
  go_loopg [3, 26] N (fun g s3 s26 wr => ∃ (k tn : Nat) (t1 : Option Addr) (t2 : Nat), k + g = N ∧ s26 = .int .i64 ((k : Nat) : Int) ∧ s3 = .slice t1 tn t2 ∧ Hid ((Sh.tabB (T.now.take k)).length = tn) ∧ Hid (tn ≤ t2) ∧ Hid (Sg true w0 wr s d f T (Part.sl 5 t1 tn t2 (nums .u8 (Sh.tabB (T.now.take k))) :: Part.sl 38 a3 N c3 (ints .u32 (Sh.ids T.now)) :: E)))
  case atStart =>
    refine ⟨0, 0, none, 0, by omega, rfl, rfl, rfl, Nat.le_refl _, ?_⟩
    exact S3.out.push (born_own (Touch.refl No _) (Own.nil _ _ _))
  case round =>
    clear S3
    obtain ⟨k, tn, t1, t2, hkN, rfl, rfl, Htn, Htc, HS⟩ := hrel
    cases gk with
    | succ g =>
      have hki : (k : Int) < (N : Nat) := by omega
      have hkl : k < T.now.length := by rw [HN.out]; omega
      obtain ⟨p, hp⟩ : ∃ p, T.now[k] = p := ⟨_, rfl⟩
      have hpm : p ∈ T.now := by rw [← hp]; exact List.getElem_mem hkl
      have hsnoc := Sh.tab_snoc hkl
      rw [hp] at hsnoc
      have hlook := Mp.look_mem HT.out.upn hpm
      have hth := HT.out.thn p hpm
      have hwlt := Sh.words_lt HT.out hpm
      obtain ⟨gb, go, rfl, hc⟩ := (HS.out.rd (List.mem_cons_of_mem _ List.mem_cons_self)).int (i := k) (by simp [Sh.ids]; omega)
      have hc2 : wr.cell? ⟨gb, go + k, none⟩ = some (.int .u32 (p.1 : Nat)) := by
        rw [hc]
        simp [Sh.ids, List.getD_eq_getElem?_getD, List.getElem?_eq_getElem hkl, hp]
      obtain ⟨bn5, bk5, p2, p3, n1, n2, n3, n4, n5, n6, n7, n8, L5, cnt5, D5, hown5, hM5⟩ := Ss.mapsC HS.out
      obtain ⟨v5, _, hl2, _, hs5⟩ := sh_look (w := wr) (p := cnt5) (L := L5) ⟨cnt5, D5, Nat.le_refl _, hown5, hM5⟩ hth.id
      obtain ⟨a5, c5, rfl, hA5⟩ := hs5 _ hlook
      obtain ⟨id, ⟨xb, xe, xp, xf⟩⟩ := p
      obtain ⟨n, hn⟩ : ∃ n, xp.length = n := ⟨_, rfl⟩
      unfold thV at hl2
      dsimp only at hl2 hc2 hA5 hwlt hsnoc hth
      rw [hn] at hl2
      have HA5 : Hid (Rd wr a5 (nums .u32 xp)) := hA5.2.2.1
      have hn274 : n ≤ 274 := by rw [← hn, hth.len]; exact Sh.pages_max hth.bytes
      have Hn := Lib.hid hn
      have Hwl := Lib.hid hwlt
      have Hsn := Lib.hid hsnoc
      obtain ⟨M, hM⟩ : ∃ M, 3 + n = M := ⟨_, rfl⟩
      have HMl : Hid ((Sh.words (id, ⟨xb, xe, xp, xf⟩)).length = M) := by show _ = _; rw [Sh.words_length]; show 3 + xp.length = M; rw [hn]; exact hM
      have HM := Lib.hid hM
      have hM277 : M ≤ 277 := by omega
      have Htl : Hid ((Sh.tabB (T.now.take (k + 1))).length ≤ 70912) := Sh.tab_take_le HT.out.thn HT.out.lenn (k + 1)
      clear hc hkl hp hpm hlook hth hwlt hsnoc n1 n2 n3 n4 n5 n6 n7 n8 hown5 hM5 hs5 hA5 hn p3 hM
      go_upto_region 8 with fail
      obtain ⟨X, hX⟩ : ∃ X, X = wr.heap.size := ⟨_, rfl⟩
      obtain ⟨w6, hw6⟩ : ∃ w6, w6 = wr.alloc (.cells #[.int .u32 (xb : Nat), .int .u32 (xe : Nat), .slice a5 n c5, .bool xf] 103) := ⟨_, rfl⟩
      have t6 : Touch No wr w6 := by rw [hw6]; exact (Touch.refl No wr).alloc _
      have row6 : Row w6 X 103 [.int .u32 (xb : Nat), .int .u32 (xe : Nat), .slice a5 n c5, .bool xf] := by rw [hw6, hX]; exact Row.new wr _ _
      rw [← hw6, ← hX]
      have S6 := Lib.hid (HS.out.no t6)
      have HR6 : Hid (Rd w6 a5 (nums .u32 xp)) := HA5.out.no t6
      have CC := Lib.hid (concat_row w6 id xb xe a5 n c5 xp Hn.out (by omega) HR6.out M HM.out)
      have x0 : w6.cell? ⟨X, 0, none⟩ = some (.int .u32 (xb : Nat)) := row6.cell 0
      have x1 : w6.cell? ⟨X, 1, none⟩ = some (.int .u32 (xe : Nat)) := row6.cell 1
      have x2a : ∀ ob, (w6.alloc ob).cell? ⟨X, 2, none⟩ = some (.slice a5 n c5) := fun ob => ((Touch.refl No w6).alloc ob).cell (fun f => f) (row6.cell 2)
      clear hw6 hX row6 t6 HS HA5 hc2 p2 hl2
      go_wp2_with fail
      refine CC.out.mono ?_
      rintro e w7 ⟨a7, c7, rfl, r7, t7⟩
      have S7 := Lib.hid (S6.out.no t7)
      have R7 : Hid (∀ wx, Touch No w7 wx → Rd wx a7 (nums .u32 (Sh.words (id, ⟨xb, xe, xp, xf⟩)))) := fun wx t => r7.no t
      clear r7 t7 CC S6 HR6 x0 x1 x2a
      go_wp2
      go_loopg [3, 50] M (fun g s3 s50 wx => ∃ (j un : Nat) (u1 : Option Addr) (u2 : Nat), j + g = M ∧ s50 = .int .i64 ((j : Nat) : Int) ∧ s3 = .slice u1 un u2 ∧ un = tn + 4 * j ∧ Hid (un ≤ u2) ∧ Hid (Touch No w7 wx) ∧ Hid (Sg true w0 wx s d f T (Part.sl 5 u1 un u2 (nums .u8 (Sh.tabB (T.now.take k) ++ ((Sh.words (id, ⟨xb, xe, xp, xf⟩)).take j).flatMap Rt.four)) :: Part.sl 38 (some ⟨gb, go, none⟩) N c3 (ints .u32 (Sh.ids T.now)) :: E)))
      case atStart => exact ⟨0, tn, t1, t2, by omega, rfl, rfl, by omega, Htc.out, Touch.refl _ _, by show Sg _ _ _ _ _ _ _ _; rw [List.take_zero, List.flatMap_nil, List.append_nil]; exact S7.out⟩
      case round =>
        clear S7
        obtain ⟨j, un, u1, u2, hjM, rfl, rfl, hun, Huc, HT8, HS8⟩ := hrel
        have Hlen8 : Hid ((Sh.tabB (T.now.take k) ++ ((Sh.words (id, ⟨xb, xe, xp, xf⟩)).take j).flatMap Rt.four).length = un) := by
          show _ = _
          rw [List.length_append, Htn.out, Sh.flat_four, List.length_take, HMl.out, hun]
          omega
        cases gk with
        | zero =>
          obtain rfl : j = M := by omega
          have e1 : Sh.tabB (T.now.take (k + 1)) = Sh.tabB (T.now.take k) ++ ((Sh.words (id, ⟨xb, xe, xp, xf⟩)).take j).flatMap Rt.four := by
            rw [show (Sh.words (id, ⟨xb, xe, xp, xf⟩)).take j = Sh.words (id, ⟨xb, xe, xp, xf⟩) from List.take_of_length_le (by rw [HMl.out]; exact Nat.le_refl _), ← Sh.rowB_words]; exact Hsn.out
          have Hlen9 : Hid ((Sh.tabB (T.now.take (k + 1))).length = un) := by show _ = _; rw [e1]; exact Hlen8.out
          have S9 : Hid (Sg true w0 wr s d f T (Part.sl 5 u1 un u2 (nums .u8 (Sh.tabB (T.now.take (k + 1)))) :: Part.sl 38 (some ⟨gb, go, none⟩) N c3 (ints .u32 (Sh.ids T.now)) :: E)) := by
            show Sg _ _ _ _ _ _ _ _
            rw [e1]; exact HS8.out
          clear e1 HS8 HT8 Hlen8 R7
          go_wp2
          go_roundg g
          case measure => omega
          case rel => exact ⟨k + 1, un, u1, u2, by omega, by go_num, rfl, Hlen9.out, Huc.out, S9.out⟩
        | succ g2 =>
          have hji : (j : Int) < (M : Nat) := by omega
          have hjl : j < (Sh.words (id, ⟨xb, xe, xp, xf⟩)).length := by rw [HMl.out]; omega
          obtain ⟨gw, gow, ha, hc⟩ := (R7.out _ HT8.out).num hjl
          subst ha
          obtain ⟨y, hy⟩ : ∃ y, (Sh.words (id, ⟨xb, xe, xp, xf⟩)).getD j 0 = y := ⟨_, rfl⟩
          have hy32 : y < 4294967296 := by rw [← hy]; exact nums_lt Hwl.out
          rw [hy] at hc
          have hun2 : (un : Int) ≤ 72020 := by
            have h1 := Htl.out
            have h2 := congrArg List.length Hsn.out
            rw [List.length_append, Htn.out, Sh.rowB_length] at h2
            simp only at h2
            have h3 := Hn.out
            have h4 := HM.out
            omega
          have C9 := Lib.hid (putFour_any wr u1 un u2 _ Hlen8.out (HS8.out.rd List.mem_cons_self) y hy32 (by omega) (un + 4) rfl)
          have hfl := Sh.flat_snoc hjl
          rw [hy] at hfl
          have Hfl := Lib.hid hfl
          have Hun := Lib.hid hun
          clear hy hjl hfl hun
          go_wp2_with fail
          refine C9.out.mono ?_
          rintro e w9 ⟨a9, c9, rfl, o9, t9⟩
          have hc9 : un + 4 ≤ c9 := by
            obtain ⟨_, _, e, hc', _⟩ := o9.form
            simp only [Value.slice.injEq] at e
            omega
          have S9 : Hid (Sg true w0 w9 s d f T (Part.sl 5 a9 (un + 4) c9 (nums .u8 (Sh.tabB (T.now.take k) ++ ((Sh.words (id, ⟨xb, xe, xp, xf⟩)).take (j + 1)).flatMap Rt.four)) :: Part.sl 38 (some ⟨gb, go, none⟩) N c3 (ints .u32 (Sh.ids T.now)) :: E)) := by
            have h1 := HS8.out.push (born_own t9 o9)
            have h2 := (h1.perm (List.Perm.swap _ _ _)).drop
            show Sg _ _ _ _ _ _ _ _
            rw [Hfl.out, ← List.append_assoc]
            exact h2
          have HT9 := Lib.hid (HT8.out.trans t9)
          have Hc9 := Lib.hid hc9
          clear o9 t9 HS8 HT8 C9 hc Hlen8 hc9
          go_wp2
          go_roundg g2
          case measure => omega
          case rel => exact ⟨j + 1, un + 4, a9, c9, by omega, by go_num, rfl, by have := Hun.out; omega, Hc9.out, HT9.out, S9.out⟩
    | zero =>
      obtain rfl : k = N := by omega
      have e1 : T.now.take k = T.now := List.take_of_length_le (by rw [HN.out]; exact Nat.le_refl _)
      rw [e1] at Htn HS
      have htl : tn ≤ 70912 := by rw [← Htn.out]; exact HT.out.tab_le
      obtain ⟨P, hP⟩ : ∃ P, Ex.pages tn = P := ⟨_, rfl⟩
      have hcn : Sh.comN T = P := by rw [Sh.comN, Htn.out, hP]
      have HP := Lib.hid hcn
      have CP : Hid (Calls Tryz.prog 49 #[.int .i64 (tn : Nat)] wr fun e w' => e = .returned (.int .i64 (P : Nat)) ∧ wr = w') := by
        have := exPages_any wr (tn : Nat) (by omega)
        rwa [Int.toNat_natCast, hP] at this
      have hPm : P ≤ 296 := by rw [← hP]; unfold Ex.pages; omega
      have S1 := Lib.hid (HS.out.perm (List.Perm.swap _ _ _)).drop
      clear e1 HS hP hcn
      go_wp2_with fail
      refine CP.out.mono ?_
      rintro e w5 ⟨rfl, rfl⟩
      clear CP
      by_cases h60 : 60 < P
      · have h60i : (60 : Int) < (P : Nat) := by omega
        have hF : ¬ Sh.comF T := fun e => by have := e.1; rw [HP.out] at this; omega
        have e1 : Sh.comE T = 6 := by rw [Sh.comE, if_neg hF]
        have e2 : Sh.comT T = T := by rw [Sh.comT, if_neg hF]
        have Fin : Hid (∃ f', Sg true w0 wr s d f' (Sh.comT T) E) := ⟨f, by rw [e2]; exact S1.out.drop⟩
        have HE := Lib.hid e1
        clear h60 hF e1 e2
        go_wp2
        go_ret
        exact ⟨by rw [HE.out]; rfl, Fin.out⟩
      · have h60i : ¬ (60 : Int) < (P : Nat) := by omega
        have k5 : wr.cell? ⟨s, 5, none⟩ = some (.pointer (some ⟨f, 0, none⟩)) := S1.out.c5
        by_cases hfull : (Fr.lst T.S).length < P + 1
        · have hF : ¬ Sh.comF T := fun e => by have := e.2; rw [HP.out] at this; omega
          have e1 : Sh.comE T = 6 := by rw [Sh.comE, if_neg hF]
          have e2 : Sh.comT T = T := by rw [Sh.comT, if_neg hF]
          have Fin : Hid (∃ f', Sg true w0 wr s d f' (Sh.comT T) E) := ⟨f, by rw [e2]; exact S1.out.drop⟩
          have HE := Lib.hid e1
          have CT := Lib.hid (S1.out.takeFull (P + 1) hfull)
          clear hfull hF e1 e2 h60
          go_wp2_with fail
          refine CT.out.mono ?_
          rintro e w6 ⟨rfl, rfl⟩
          go_wp2
          go_ret
          exact ⟨by rw [HE.out]; rfl, Fin.out⟩
        · have hF : Sh.comF T := ⟨by rw [HP.out]; omega, by rw [HP.out]; omega⟩
          have HF := Lib.hid hF
          have hLl := Sh.comL_length hF
          rw [HP.out] at hLl
          have HLl := Lib.hid hLl
          have CT : Hid (Calls Tryz.prog 50 #[.pointer (some ⟨f, 0, none⟩), .int .i64 ((P : Nat) + 1 : Int)] wr fun e w' => ∃ al cl, e = .returned (.tuple #[.slice al (P + 1) cl, .int .i64 0]) ∧ Sg true w0 w' s d f { T with S := Fr.sub T.S (Sh.comL T) } (Part.sl 38 al (P + 1) cl (nums .u32 (Sh.comL T)) :: Part.sl 5 t1 tn t2 (nums .u8 (Sh.tabB T.now)) :: E)) := by
            have := S1.out.take HTab.out (P + 1) (by omega)
            rw [show ((P + 1 : Nat) : Int) = (P : Nat) + 1 from by omega] at this
            rw [show (Fr.lst T.S).take (P + 1) = Sh.comL T from by rw [Sh.comL, HP.out]] at this
            exact this
          clear hfull hF hLl h60
          go_wp2_with fail
          refine CT.out.mono ?_
          rintro e w6 ⟨al, cl, rfl, s6⟩
          have S6 := Lib.hid s6
          clear s6 CT S1 k5
          obtain ⟨ls, hls⟩ : ∃ ls, (Sh.comL T).tail = ls := ⟨_, rfl⟩
          obtain ⟨hd, hhd⟩ : ∃ hd, Sh.comH T = hd := ⟨_, rfl⟩
          obtain ⟨S2, hS2⟩ : ∃ S2, Fr.sub T.S (Sh.comL T) = S2 := ⟨_, rfl⟩
          have hcons := Sh.comL_cons HF.out
          rw [hls, hhd] at hcons
          have hll : ls.length = P := by
            have := Sh.comL_tail HF.out
            rw [hls, HP.out] at this
            exact this
          have hlx : ∀ x ∈ Sh.comL T, x < 4294967296 := fun x hx => by
            have h1 := (HT.out.com_free hx).2.1
            have h2 := Sh.many_le HT.out.hi
            omega
          have HLX : Hid (∀ x ∈ hd :: ls, x < 4294967296) := by show ∀ x ∈ _, _; rw [← hcons]; exact hlx
          have hhd32 : hd < 4294967296 := HLX.out hd List.mem_cons_self
          have HS2 := Lib.hid hS2
          have Hls := Lib.hid hls
          have Hhd := Lib.hid hhd
          have Hcons := Lib.hid hcons
          have Hll := Lib.hid hll
          have S7 : Hid (Sg true w0 w6 s d f { T with S := S2 } (Part.sl 38 al (P + 1) cl (nums .u32 (hd :: ls)) :: Part.sl 5 t1 tn t2 (nums .u8 (Sh.tabB T.now)) :: E)) := by
            have := S6.out
            rw [hS2, hcons] at this
            exact this
          clear S6 hlx hcons hS2 hls hhd hll
          obtain ⟨g, o, rfl, hc0⟩ := (S7.out.rd List.mem_cons_self).num (i := 0) (by simp)
          clear hc0
          obtain ⟨a1, ha1⟩ : ∃ a1, cutAddr (some ⟨g, o, none⟩) cl 1 = a1 := ⟨_, rfl⟩
          obtain ⟨iu, iu0, _, iu2, _⟩ := info_parts info_u32
          have hcut : ∀ wx : World, (Instr.slice 86 (.slice (some ⟨g, o, none⟩) (P + 1) cl) (some (.int .i64 1)) none none).run Tryz.prog wx = .ok (.slice a1 P (cl - 1)) wx := fun wx => by
            have := run_cut Tryz.underlying86 iu0 iu2 (some ⟨g, o, none⟩) (P + 1) cl 1 .i64 (by omega) wx
            rw [ha1, Nat.add_sub_cancel] at this
            exact this
          have HA1 := Lib.hid ha1
          clear ha1
          go_wp2
          go_loopg [12, 79] P (fun gk s12 s79 wr => ∃ (j un : Nat) (u1 : Option Addr) (u2 : Nat), j + gk = P ∧ s79 = .int .i64 ((j : Nat) : Int) ∧ s12 = .slice u1 un u2 ∧ Hid (un = 4 * j) ∧ Hid (un ≤ u2) ∧ Hid (Sg true w0 wr s d f { T with S := S2 } (Part.sl 5 u1 un u2 (nums .u8 ((ls.take j).flatMap Rt.four)) :: Part.sl 38 (some ⟨g, o, none⟩) (P + 1) cl (nums .u32 (hd :: ls)) :: Part.sl 5 t1 tn t2 (nums .u8 (Sh.tabB T.now)) :: E)))
          case atStart => exact ⟨0, 0, none, 0, by omega, rfl, rfl, rfl, Nat.le_refl _, S7.out.push (born_own (Touch.refl No _) (Own.nil _ _ _))⟩
          case round =>
            clear S7
            obtain ⟨j, un, u1, u2, hjP, rfl, rfl, Hun, Huc, HS8⟩ := hrel
            have Hlen8 : Hid (((ls.take j).flatMap Rt.four).length = un) := by
              show _ = _
              rw [Sh.flat_four, List.length_take, Hll.out, Hun.out]
              omega
            cases gk with
            | succ g2 =>
              have hji : (j : Int) < (P : Nat) := by omega
              have hjl : j < ls.length := by rw [Hll.out]; omega
              obtain ⟨gw, gow, ha, hc⟩ := (HS8.out.rdFar (a := a1) (vs := nums .u32 ls) (Or.inr (Or.inr (Or.inr ⟨_, some ⟨g, o, none⟩, P + 1, cl, .int .u32 (hd : Nat), HA1.out.symm, List.mem_cons_of_mem _ List.mem_cons_self⟩)))).num hjl
              subst ha
              obtain ⟨y, hy⟩ : ∃ y, ls.getD j 0 = y := ⟨_, rfl⟩
              have hy32 : y < 4294967296 := by rw [← hy]; exact nums_lt (fun x hx => HLX.out x (List.mem_cons_of_mem _ hx))
              rw [hy] at hc
              have hfl := Sh.flat_snoc hjl
              rw [hy] at hfl
              have Hfl := Lib.hid hfl
              have hun2 : (un : Int) ≤ 100000 := by have := Hun.out; omega
              have C9 := Lib.hid (putFour_any wr u1 un u2 _ Hlen8.out (HS8.out.rd List.mem_cons_self) y hy32 (by omega) (un + 4) rfl)
              clear hy hjl hfl
              go_wp2_with fail
              refine C9.out.mono ?_
              rintro e w9 ⟨a9, c9, rfl, o9, t9⟩
              have hc9 : un + 4 ≤ c9 := by
                obtain ⟨_, _, e, hc', _⟩ := o9.form
                simp only [Value.slice.injEq] at e
                omega
              have S9 : Hid (Sg true w0 w9 s d f { T with S := S2 } (Part.sl 5 a9 (un + 4) c9 (nums .u8 ((ls.take (j + 1)).flatMap Rt.four)) :: Part.sl 38 (some ⟨g, o, none⟩) (P + 1) cl (nums .u32 (hd :: ls)) :: Part.sl 5 t1 tn t2 (nums .u8 (Sh.tabB T.now)) :: E)) := by
                have h1 := HS8.out.push (born_own t9 o9)
                have h2 := (h1.perm (List.Perm.swap _ _ _)).drop
                show Sg _ _ _ _ _ _ _ _
                rw [Hfl.out]
                exact h2
              have Hc9 := Lib.hid hc9
              clear o9 t9 HS8 C9 hc Hlen8 hc9
              go_wp2
              go_roundg g2
              case measure => omega
              case rel => exact ⟨j + 1, un + 4, a9, c9, by omega, by go_num, rfl, (by have := Hun.out; show _ = _; omega), Hc9.out, S9.out⟩
            | zero =>
              obtain rfl : j = P := by omega
              have eB : (ls.take j).flatMap Rt.four = Sh.comB T := by
                rw [show ls.take j = ls from List.take_of_length_le (by rw [Hll.out]; exact Nat.le_refl _), Sh.comB, Hls.out]
              rw [eB] at HS8 Hlen8
              clear eB
              have Hc : Hid ((Sh.comB T).length ≤ 240) := Sh.comB_length HF.out
              have hwe := wrap_nx T.epoch HT.out.epoch
              obtain ⟨ne, hne⟩ : ∃ ne, Sh.nx T.epoch = ne := ⟨_, rfl⟩
              have hne32 : ne < 4294967296 := by rw [← hne]; exact Sh.nx_lt _
              rw [hne] at hwe
              have HNE := Lib.hid hne
              obtain ⟨D1, hD1⟩ : ∃ D1, Sh.comD1 T = D1 := ⟨_, rfl⟩
              obtain ⟨D2, hD2⟩ : ∃ D2, Sh.comD2 T = D2 := ⟨_, rfl⟩
              have hd1 : Pg.wD T.D hd ne (Sh.comB T) = D1 := by rw [← hD1, Sh.comD1, Hhd.out, hne]
              have hd2 : Ex.wD D1 ne ls (Sh.tabB T.now) = D2 := by rw [← hD2, Sh.comD2, hD1, Hls.out, hne]
              have hr : Sh.comR T = ⟨ne, hd, tn⟩ := by rw [Sh.comR, hne, Hhd.out, Htn.out]
              obtain ⟨er, her⟩ : ∃ er, Rt.wE D2 ⟨ne, hd, tn⟩ = er := ⟨_, rfl⟩
              obtain ⟨D3, hD3⟩ : ∃ D3, Rt.wD D2 ⟨ne, hd, tn⟩ = D3 := ⟨_, rfl⟩
              have e0 := HT.out.com_head HF.out
              rw [Hhd.out] at e0
              have m0 := HT.out.com_may HF.out
              rw [hD1, Hls.out, Htn.out] at m0
              have w1 := Pg.wD_waits T.D hd ne (Sh.comB T)
              rw [hd1] at w1
              have eE : Sh.comE T = er := by rw [Sh.comE, if_pos HF.out, hD2, hr, her]
              have HeE := Lib.hid eE
              have eT : Sh.comT T = if er = 0 then Sh.settle D3 ne (hd :: ls) T.now else { T with D := D2 } := by
                rw [Sh.comT, if_pos HF.out, hD2, hr, her, hD3, hne, Hcons.out]
              have HeT := Lib.hid eT
              have Hfit : Hid (Sh.Fit D3 ne (hd :: ls) T.now) := by
                have := HT.out.com_fit HF.out
                rw [hD2, hr, hD3, hne, Hcons.out] at this
                exact this
              have Hg1 := HT.out.com_back
              have Hg2 := HT.out.com_back2
              rw [hD2, HS2.out, Hcons.out] at Hg1 Hg2
              have HG1 := Lib.hid Hg1
              have HG2 := Lib.hid Hg2
              have HD3 : Hid (er ≠ 0 → D3 = D2) := fun e => by rw [← hD3, Rt.wD, her, if_neg e]
              have C26 : Hid (∀ wx, Sg true w0 wx s d f { T with S := S2 } (Part.sl 5 u1 un u2 (nums .u8 (Sh.comB T)) :: Part.sl 38 (some ⟨g, o, none⟩) (j + 1) cl (nums .u32 (hd :: ls)) :: Part.sl 5 t1 tn t2 (nums .u8 (Sh.tabB T.now)) :: E) → Calls Tryz.prog 51 #[dskV (some ⟨d, 0, none⟩), .int .u32 (hd : Nat), .int .u32 (ne : Nat), .slice u1 un u2] wx fun e w' => e = .returned (.int .i64 0) ∧ Sg true w0 w' s d f { T with S := S2, D := D1 } (Part.sl 5 u1 un u2 (nums .u8 (Sh.comB T)) :: Part.sl 38 (some ⟨g, o, none⟩) (j + 1) cl (nums .u32 (hd :: ls)) :: Part.sl 5 t1 tn t2 (nums .u8 (Sh.tabB T.now)) :: E)) := fun wx hx => by
                have := hx.pgWrite hd ne hhd32 hne32 u1 un u2 (Sh.comB T) Hlen8.out (hx.rd List.mem_cons_self) (Sh.flat_lt) (by have := HW.out; show T.D.waits.length ≤ _; omega)
                dsimp only at this
                rw [e0, hd1] at this
                exact this
              have C27 : Hid (∀ wx, Sg true w0 wx s d f { T with S := S2, D := D1 } (Part.sl 5 u1 un u2 (nums .u8 (Sh.comB T)) :: Part.sl 38 (some ⟨g, o, none⟩) (j + 1) cl (nums .u32 (hd :: ls)) :: Part.sl 5 t1 tn t2 (nums .u8 (Sh.tabB T.now)) :: E) → Calls Tryz.prog 52 #[.pointer (some ⟨d, 0, none⟩), .int .u32 (ne : Nat), .slice a1 j (cl - 1), .slice t1 tn t2] wx fun e w' => e = .returned (.int .i64 0) ∧ Sg true w0 w' s d f { T with S := S2, D := D2 } (Part.sl 5 u1 un u2 (nums .u8 (Sh.comB T)) :: Part.sl 38 (some ⟨g, o, none⟩) (j + 1) cl (nums .u32 (hd :: ls)) :: Part.sl 5 t1 tn t2 (nums .u8 (Sh.tabB T.now)) :: E)) := fun wx hx => by
                have := hx.exWrite ne hne32 a1 j (cl - 1) ls Hll.out (by omega) (Or.inr (Or.inr (Or.inr ⟨_, some ⟨g, o, none⟩, j + 1, cl, .int .u32 (hd : Nat), HA1.out.symm, List.mem_cons_of_mem _ List.mem_cons_self⟩))) (fun x hx => HLX.out x (List.mem_cons_of_mem _ hx)) t1 tn t2 (Sh.tabB T.now) Htn.out Htc.out (by omega) (Or.inr (Or.inl ⟨_, tn, t2, [], by rw [List.append_nil]; exact List.mem_cons_of_mem _ (List.mem_cons_of_mem _ List.mem_cons_self)⟩)) (Sh.tab_lt _) (by have := HW.out; have h3 : Ex.pages tn ≤ 296 := by { unfold Ex.pages; omega }; show D1.waits.length + _ ≤ _; omega)
                dsimp only at this
                rw [Ex.wE, if_pos m0, hd2] at this
                exact this
              have C28 : Hid (∀ wx, Sg true w0 wx s d f { T with S := S2, D := D2 } (Part.sl 5 u1 un u2 (nums .u8 (Sh.comB T)) :: Part.sl 38 (some ⟨g, o, none⟩) (j + 1) cl (nums .u32 (hd :: ls)) :: Part.sl 5 t1 tn t2 (nums .u8 (Sh.tabB T.now)) :: E) → Calls Tryz.prog 53 #[.pointer (some ⟨d, 0, none⟩), .agg #[.int .u32 (ne : Nat), .int .u32 (hd : Nat), .int .u32 (tn : Nat)]] wx fun e w' => e = .returned (.int .i64 (er : Nat)) ∧ Sg true w0 w' s d f { T with S := S2, D := D3 } (Part.sl 5 u1 un u2 (nums .u8 (Sh.comB T)) :: Part.sl 38 (some ⟨g, o, none⟩) (j + 1) cl (nums .u32 (hd :: ls)) :: Part.sl 5 t1 tn t2 (nums .u8 (Sh.tabB T.now)) :: E)) := fun wx hx => by
                have := hx.rootWrite ⟨ne, hd, tn⟩ ⟨hne32, hhd32, by show tn < _; omega⟩
                dsimp only at this
                rw [her, hD3] at this
                exact this
              have hwtn : IntKind.u32.wrap ((tn : Nat) : Int) = ((tn : Nat) : Int) := by rw [IntKind.wrap_u32]; omega
              clear hne hD1 hD2 hd1 hd2 hr her hD3 e0 m0 w1 eE eT Hg1 Hg2 Hc Hlen8
              have k0 : wr.cell? ⟨s, 0, none⟩ = some (.pointer (some ⟨d, 0, none⟩)) := HS8.out.c0
              have k1 : wr.cell? ⟨s, 1, none⟩ = some (.int .u32 (T.epoch : Nat)) := HS8.out.c1
              have kl : wr.cell? ⟨g, o, none⟩ = some (.int .u32 (hd : Nat)) := (HS8.out.rd (List.mem_cons_of_mem _ List.mem_cons_self)).first
              have hS : wr.cell? ⟨s, 0, none⟩ = some (.pointer (some ⟨d, 0, none⟩)) ∧ wr.cell? ⟨s, 1, none⟩ = some (.int .u32 (T.epoch : Nat)) ∧ wr.cell? ⟨g, o, none⟩ = some (.int .u32 (hd : Nat)) := ⟨k0, k1, kl⟩
              have HS9 := Lib.hid (HS8.out.no (Touch.refl No wr).drew)
              have CW := Lib.hid (C26.out _ HS9.out)
              go_wp2_with fail
              go_region_held3 (fun w' => w'.cell? ⟨s, 0, none⟩ = some (.pointer (some ⟨d, 0, none⟩)) ∧ w'.cell? ⟨s, 1, none⟩ = some (.int .u32 (T.epoch : Nat)) ∧ w'.cell? ⟨g, o, none⟩ = some (.int .u32 (hd : Nat))) (first | exact hS | exact ⟨HS9.out.c0, HS9.out.c1, (HS9.out.rd (List.mem_cons_of_mem _ List.mem_cons_self)).first⟩ | exact ⟨s5.c0, s5.c1, (s5.rd (List.mem_cons_of_mem _ List.mem_cons_self)).first⟩) (first
                | (go_at_call 51; refine CW.out.mono ?_; rintro e w5 ⟨rfl, s5⟩))
              all_goals
                have S5 := Lib.hid s5
                clear s5 CW HS9 HS8 k0 k1 kl hS
                have S5d := Lib.hid (S5.out.no (Touch.refl No w5).drew)
                have CW := Lib.hid (C27.out _ S5d.out)
                have k0 : w5.cell? ⟨s, 0, none⟩ = some (.pointer (some ⟨d, 0, none⟩)) := S5.out.c0
                have k1 : w5.cell? ⟨s, 1, none⟩ = some (.int .u32 (T.epoch : Nat)) := S5.out.c1
                have kl : w5.cell? ⟨g, o, none⟩ = some (.int .u32 (hd : Nat)) := (S5.out.rd (List.mem_cons_of_mem _ List.mem_cons_self)).first
                have hS : w5.cell? ⟨s, 0, none⟩ = some (.pointer (some ⟨d, 0, none⟩)) ∧ w5.cell? ⟨s, 1, none⟩ = some (.int .u32 (T.epoch : Nat)) ∧ w5.cell? ⟨g, o, none⟩ = some (.int .u32 (hd : Nat)) := ⟨k0, k1, kl⟩
                go_wp2_with fail
                go_region_held3 (fun w' => w'.cell? ⟨s, 0, none⟩ = some (.pointer (some ⟨d, 0, none⟩)) ∧ w'.cell? ⟨s, 1, none⟩ = some (.int .u32 (T.epoch : Nat)) ∧ w'.cell? ⟨g, o, none⟩ = some (.int .u32 (hd : Nat))) (first | exact hS | exact ⟨S5d.out.c0, S5d.out.c1, (S5d.out.rd (List.mem_cons_of_mem _ List.mem_cons_self)).first⟩ | exact ⟨s7.c0, s7.c1, (s7.rd (List.mem_cons_of_mem _ List.mem_cons_self)).first⟩) (first
                  | (go_at_call 52; refine CW.out.mono ?_; rintro e w7 ⟨rfl, s7⟩))
                all_goals
                  have S7 := Lib.hid s7
                  clear s7 CW S5 S5d k0 k1 kl hS
                  have S7d := Lib.hid (S7.out.no (Touch.refl No w7).drew)
                  have CW := Lib.hid (C28.out _ S7d.out)
                  have k0 : w7.cell? ⟨s, 0, none⟩ = some (.pointer (some ⟨d, 0, none⟩)) := S7.out.c0
                  have k1 : w7.cell? ⟨s, 1, none⟩ = some (.int .u32 (T.epoch : Nat)) := S7.out.c1
                  have kl : w7.cell? ⟨g, o, none⟩ = some (.int .u32 (hd : Nat)) := (S7.out.rd (List.mem_cons_of_mem _ List.mem_cons_self)).first
                  have hS : w7.cell? ⟨s, 0, none⟩ = some (.pointer (some ⟨d, 0, none⟩)) ∧ w7.cell? ⟨s, 1, none⟩ = some (.int .u32 (T.epoch : Nat)) ∧ w7.cell? ⟨g, o, none⟩ = some (.int .u32 (hd : Nat)) := ⟨k0, k1, kl⟩
                  go_wp2_with fail
                  go_region_held3 (fun w' => w'.cell? ⟨s, 0, none⟩ = some (.pointer (some ⟨d, 0, none⟩)) ∧ w'.cell? ⟨s, 1, none⟩ = some (.int .u32 (T.epoch : Nat)) ∧ w'.cell? ⟨g, o, none⟩ = some (.int .u32 (hd : Nat))) (first | exact hS | exact ⟨S7d.out.c0, S7d.out.c1, (S7d.out.rd (List.mem_cons_of_mem _ List.mem_cons_self)).first⟩ | exact ⟨s8.c0, s8.c1, (s8.rd (List.mem_cons_of_mem _ List.mem_cons_self)).first⟩) (first
                    | (go_at_call 53; refine CW.out.mono ?_; rintro e w8 ⟨rfl, s8⟩))
                  all_goals
                    have S8 := Lib.hid s8
                    clear s8 CW S7 S7d k0 k1 kl hS C26 C27 C28
                    by_cases her0 : er = 0
                    · have S9 : Hid (Sg true w0 (w8.setCell ⟨s, 1, none⟩ (.int .u32 (ne : Nat))) s d f { T with S := S2, D := D3, epoch := ne } (Part.sl 5 u1 un u2 (nums .u8 (Sh.comB T)) :: Part.sl 38 (some ⟨g, o, none⟩) (j + 1) cl (nums .u32 (hd :: ls)) :: Part.sl 5 t1 tn t2 (nums .u8 (Sh.tabB T.now)) :: E)) := S8.out.setEpoch ne
                      have S10 : Hid (Sg true w0 ((w8.setCell ⟨s, 1, none⟩ (.int .u32 (ne : Nat))).setCell ⟨s, 4, none⟩ (.slice (some ⟨g, o, none⟩) (j + 1) cl)) s d f { T with S := S2, D := D3, epoch := ne, table := hd :: ls } (Part.sl 5 u1 un u2 (nums .u8 (Sh.comB T)) :: Part.sl 5 t1 tn t2 (nums .u8 (Sh.tabB T.now)) :: E)) := Sg.setTable (S9.out.perm (List.Perm.swap _ _ _)) (by rw [List.length_cons, Hll.out])
                      have k1 : w8.cell? ⟨s, 1, none⟩ = some (.int .u32 (T.epoch : Nat)) := S8.out.c1
                      obtain ⟨v4, k4⟩ := Sg.c4 S8.out
                      have f1 : w8.frozen? ⟨s, 1, none⟩ = false := S8.out.soft 1
                      have f4 : (w8.setCell ⟨s, 1, none⟩ (.int .u32 (ne : Nat))).frozen? ⟨s, 4, none⟩ = false := S9.out.soft 4
                      have CS := Lib.hid (Ss.settle S10.out Hfit.out)
                      have Hz := Lib.hid her0
                      subst her0
                      clear S8 S9 HG1 HG2
                      go_wp2_with fail
                      refine CS.out.mono ?_
                      rintro e w9 ⟨rfl, f', s9⟩
                      have Fin : Hid (∃ f', Sg true w0 w9 s d f' (Sh.comT T) E) := ⟨f', by rw [HeT.out]; first | rw [if_pos rfl]; exact s9.drop.drop | rw [if_pos trivial]; exact s9.drop.drop⟩
                      clear s9 CS S10
                      go_wp2
                      go_ret
                      exact ⟨by rw [HeE.out]; rfl, Fin.out⟩
                    · have S9 : Hid (Sg true w0 w8 s d f { T with S := S2, D := D2 } (Part.sl 5 u1 un u2 (nums .u8 (Sh.comB T)) :: Part.sl 38 (some ⟨g, o, none⟩) (j + 1) cl (nums .u32 (hd :: ls)) :: Part.sl 5 t1 tn t2 (nums .u8 (Sh.tabB T.now)) :: E)) := by
                        have := S8.out
                        rw [HD3.out her0] at this
                        exact this
                      have CG : Hid (Calls Tryz.prog 54 #[.pointer (some ⟨f, 0, none⟩), .slice (some ⟨g, o, none⟩) (j + 1) cl] w8 fun e w' => e = .returned (.int .i64 0) ∧ Sg true w0 w' s d f { T with S := T.S, D := D2 } (Part.sl 5 u1 un u2 (nums .u8 (Sh.comB T)) :: Part.sl 38 (some ⟨g, o, none⟩) (j + 1) cl (nums .u32 (hd :: ls)) :: Part.sl 5 t1 tn t2 (nums .u8 (Sh.tabB T.now)) :: E)) := by
                        have := Sg.give S9.out (List.mem_cons_of_mem _ List.mem_cons_self) (by rw [List.length_cons, Hll.out]) HLX.out
                        dsimp only at this
                        rw [HG1.out, HG2.out] at this
                        exact this
                      have k5 : w8.cell? ⟨s, 5, none⟩ = some (.pointer (some ⟨f, 0, none⟩)) := S9.out.c5
                      have heri : ¬ (er : Int) = 0 := by omega
                      have Hz := Lib.hid her0
                      clear S8 S9 her0
                      go_wp2_with fail
                      refine CG.out.mono ?_
                      rintro e w9 ⟨rfl, s9⟩
                      have Fin : Hid (∃ f', Sg true w0 w9 s d f' (Sh.comT T) E) := ⟨f, by rw [HeT.out, if_neg Hz.out]; exact s9.drop.drop.drop⟩
                      clear s9 CG k5
                      go_wp2
                      go_ret
                      exact ⟨by rw [HeE.out]; rfl, Fin.out⟩
end
end Go.Proofs.YtnffigfafalocaaGreatDoor
