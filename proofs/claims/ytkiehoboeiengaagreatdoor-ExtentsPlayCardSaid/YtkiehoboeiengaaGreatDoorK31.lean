/-
  Package drydockref03 by its own text: Rot.
  A book that has been told of lists that it does not hold yet: what is told may still be read; before it says whether they are apart it takes them.
-/
import Derived.Test.YtkiehoboeiengaaGreatDoorK29
import Derived.Test.YtkiehoboeiengaaGreatDoorK25
namespace Go.Proofs.YtkiehoboeiengaaGreatDoor
open Go Go.RowKit
set_option linter.unusedSimpArgs false
set_option linter.unusedVariables false

set_option maxRecDepth 100000 in
set_option maxHeartbeats 1000000 in
theorem refRot3_out {w : World} {g : Nat} {D : Dk.Disk} {vs vn vw : Value} (h : RdAt w g D vs vn vw) (n p x : Int) (hb : ¬ ((0 ≤ n ∧ n < D.seen.length) ∧ (0 ≤ p ∧ p < 64))) :
    Calls Tryz.prog 23 #[.pointer (some ⟨g, 0, none⟩), .int .i64 n, .int .i64 p, .int .u8 x] w fun e w' => e = .returned (.int .i64 1) ∧ w = w' := by
  obtain ⟨a, c, rfl, _⟩ := rowSlice h.seen
  have k1 : w.cell? ⟨g, 1, none⟩ = some (.slice a D.seen.length c) := h.row.cell 1
  obtain ⟨L, hL⟩ : ∃ L, D.seen.length = L := ⟨_, rfl⟩
  rw [hL] at k1 hb
  clear h hL
  by_cases h1 : n < 0
  · clear hb
    go_enter Tryz.func23, Tryz.ntmps23
    go_wp2
    go_ret
    exact ⟨rfl, rfl⟩
  by_cases h2 : (L : Int) ≤ n
  · clear hb
    go_enter Tryz.func23, Tryz.ntmps23
    go_wp2
    go_ret
    exact ⟨rfl, rfl⟩
  have h2' : n < (L : Int) := by omega
  by_cases h3 : p < 0
  · clear hb h2
    go_enter Tryz.func23, Tryz.ntmps23
    go_wp2
    go_ret
    exact ⟨rfl, rfl⟩
  have h4 : 64 ≤ p := by omega
  clear hb h2
  go_enter Tryz.func23, Tryz.ntmps23
  go_wp2
  go_ret
  exact ⟨rfl, rfl⟩
set_option maxRecDepth 100000 in
set_option maxHeartbeats 8000000 in
theorem refRot3_in (w : World) (g : Nat) (D : Dk.Disk) (A : Nat → Prop) (h : Al w [Part.rdisk g D] A) (n p x : Nat) (hn : n < D.seen.length) (hp : p < 64) (hx : x < 256) (hw : D.waits.length ≤ 1000000) :
    Calls Tryz.prog 23 #[.pointer (some ⟨g, 0, none⟩), .int .i64 (n : Nat), .int .i64 (p : Nat), .int .u8 (x : Nat)] w fun e w' => e = .returned (.int .i64 0) ∧ TurnsL w A [Part.rdisk g (Dk.rot D n p x)] w' := by
  obtain ⟨vs, vn, vw, hR, hA⟩ := al_rdisk h
  have ok := hR.ok
  have hns : n < D.sure.length := by rw [ok.len]; exact hn
  obtain ⟨gn, cn, hvn, hbn, hgl, hfz, c0, _⟩ := secs_at (g := g) hR.seen hn
  obtain ⟨gs, cs, hvs, hbs, hgsl, hfzs, s0, _⟩ := secs_at (g := g) hR.sure hns
  obtain ⟨aw, cw, hvw, hcw, _⟩ := rowSlice hR.waits
  obtain ⟨L, hL⟩ : ∃ L, D.seen.length = L := ⟨_, rfl⟩
  have hL2 : D.sure.length = L := by rw [ok.len, hL]
  obtain ⟨M, hM⟩ : ∃ M, D.waits.length = M := ⟨_, rfl⟩
  rw [hL] at hvn
  rw [hL2] at hvs
  rw [hM] at hvw
  subst hvn hvs hvw
  have k1 : w.cell? ⟨g, 1, none⟩ = some (.slice (some ⟨gn, 0, none⟩) L cn) := hR.row.cell 1
  have HA := Lib.hid hA
  have Hns := Lib.hid hns
  have hng : ¬ gn = g := fun e => hR.n0 (by rw [← e]; exact hbn)
  have hsn : ¬ gn = gs := fun e => hR.sn gs hbs (by rw [← e]; exact hbn)
  have hsg : ¬ gs = g := fun e => hR.s0 (by rw [← e]; exact hbs)
  have z0 := hfz (n * 2)
  have hn1 : (n : Int) < L := by omega
  have hn0 : ¬ (n : Int) < 0 := by omega
  have htop : (L : Int) ≤ 16384 := by have := ok.top; omega
  have hwt : (M : Int) ≤ 1000000 := by omega
  have hp1 : (p : Int) < 64 := by omega
  have hp0 : ¬ (p : Int) < 0 := by omega
  have okn := ok.seen _ (Dk.at_mem hn)
  have oks := ok.sure _ (Dk.at_mem hns)
  obtain ⟨B, hB⟩ : ∃ B, str (Dk.at_ D.seen n).b = B := ⟨_, rfl⟩
  obtain ⟨B', hB'⟩ : ∃ B', str (Dk.turnB (Dk.at_ D.seen n).b p x) = B' := ⟨_, rfl⟩
  obtain ⟨E, hE⟩ : ∃ E, str (Dk.at_ D.sure n).b = E := ⟨_, rfl⟩
  obtain ⟨E', hE'⟩ : ∃ E', str (Dk.turnB (Dk.at_ D.sure n).b p x) = E' := ⟨_, rfl⟩
  have C1 : Hid (∀ w, Calls Tryz.prog 123 #[.string B, .int .i64 (p : Nat), .int .u8 (x : Nat)] w fun e w' => e = .returned (.string B') ∧ Touch No w w') := fun w => by rw [← hB, ← hB']; exact refTurned3_any w _ okn.b p x hp hx
  have C2 : Hid (∀ w, Calls Tryz.prog 123 #[.string E, .int .i64 (p : Nat), .int .u8 (x : Nat)] w fun e w' => e = .returned (.string E') ∧ Touch No w w') := fun w => by rw [← hE, ← hE']; exact refTurned3_any w _ oks.b p x hp hx
  have CW : Hid (∀ y ∈ D.waits, ∀ w, Calls Tryz.prog 123 #[.string (str y.b), .int .i64 (p : Nat), .int .u8 (x : Nat)] w fun e w' => e = .returned (.string (str (Dk.turnB y.b p x))) ∧ Touch No w w') := fun y hy w => refTurned3_any w _ (ok.waits y hy).b p x hp hx
  rw [hB] at c0
  rw [hE] at s0
  have X1 : Hid (∀ w9, Touch No w w9 → RdAt (w9.setCell ⟨gn, n * 2, none⟩ (.string B')) g ⟨D.sure, Dk.upd D.seen n (Dk.turnS p x), D.waits⟩ (.slice (some ⟨gs, 0, none⟩) L cs) (.slice (some ⟨gn, 0, none⟩) L cn) (.slice aw M cw) ∧ Touch (RdOf g (.slice (some ⟨gs, 0, none⟩) L cs) (.slice (some ⟨gn, 0, none⟩) L cn) (.slice aw M cw)) w (w9.setCell ⟨gn, n * 2, none⟩ (.string B'))) := fun w9 t9 => by
    have X := (hR.no t9).seenSet hL (n := n) (j := 0) (y := Dk.turnS p x (Dk.at_ D.seen n)) (u := .string B') (Dk.at_get hn) (by decide) (by rw [← hB']; rfl) (Dk.turnS_ok hx okn)
    exact ⟨X.1, (t9.mono (fun _ _ f => f.elim)).then X.2 (fun _ _ h => h)⟩
  have oks' := Lib.hid (Dk.turnS_ok (p := p) hx oks)
  have HE' := Lib.hid hE'
  have HE := Lib.hid hE
  have HM := Lib.hid hM
  have Hok := Lib.hid ok
  have HL2 := Lib.hid hL2
  have Hx := Lib.hid hx
  have Hgl := Lib.hid hgl
  clear hM ok hR hA h hfz hfzs hbn hbs hL hL2 hn hw hgl hgsl hns hB hB' hE hE' okn oks hp hx s0
  go_enter Tryz.func23, Tryz.ntmps23
  go_upto_region 3 with fail
  go_cut [44] (fun s44 wx => Hid (Mid w wx g ⟨D.sure, Dk.upd D.seen n (Dk.turnS p x), D.waits⟩ (.slice (some ⟨gs, 0, none⟩) L cs) (.slice (some ⟨gn, 0, none⟩) L cn) (.slice aw M cw)))
  case first =>
    have k1d : w.drew.cell? ⟨g, 1, none⟩ = some (.slice (some ⟨gn, 0, none⟩) L cn) := k1
    have c0d : w.drew.cell? ⟨gn, n * 2, none⟩ = some (.string B) := c0
    go_region_law (first
      | (go_simp; refine (C1.out _).mono ?_; rintro e w9 ⟨rfl, t9⟩; have T9 := Lib.hid ((Touch.refl No w).drew.trans t9); have k1' := T9.out.cell id k1; have c0' := T9.out.cell id c0; have z0' := (T9.out.frozen Hgl.out id (n * 2)).trans z0; clear t9))
    all_goals
      go_wp2_with fail
      go_meet
      exact ⟨(X1.out w9 T9.out).1, (X1.out w9 T9.out).2⟩
  case rest =>
    have HQ := hcut
    obtain ⟨W1, hW1⟩ : ∃ W1, W1 = wc := ⟨_, rfl⟩
    subst hW1
    have hR1 := HQ.out.at_
    have k0 : W1.cell? ⟨g, 0, none⟩ = some (.slice (some ⟨gs, 0, none⟩) L cs) := hR1.row.cell 0
    obtain ⟨hgl1, hfz1, hc1⟩ := rows_known rsCells_length hR1.sure rfl (Dk.at_get Hns.out) (by decide)
    have s0 : W1.cell? ⟨gs, n * 2, none⟩ = some (.string E) := by rw [← HE.out]; exact hc1 0 (by decide)
    have z0s := hfz1 (n * 2)
    have X2 : Hid (∀ w9, Touch No W1 w9 → Mid w (w9.setCell ⟨gs, n * 2, none⟩ (.string E')) g ⟨Dk.upd D.sure n (Dk.turnS p x), Dk.upd D.seen n (Dk.turnS p x), mid (Dk.turnW n p x) D.waits 0⟩ (.slice (some ⟨gs, 0, none⟩) L cs) (.slice (some ⟨gn, 0, none⟩) L cn) (.slice aw M cw)) := fun w9 t9 => by
      have X := (hR1.no t9).sureSet HL2.out (n := n) (j := 0) (y := Dk.turnS p x (Dk.at_ D.sure n)) (u := .string E') (Dk.at_get Hns.out) (by decide) (by rw [← HE'.out]; rfl) oks'.out
      refine ⟨?_, (HQ.out.touch.then t9 (fun _ _ f => f.elim)).then X.2 (fun _ _ h => h)⟩
      rw [mid_zero]; exact X.1
    have Hgl1 := Lib.hid hgl1
    clear hR1 hfz1 hc1 hgl1 X1 hcut k1 c0 z0
    go_upto_region 4 with fail
    go_cut [62] (fun s62 wx => Hid (Mid w wx g ⟨Dk.upd D.sure n (Dk.turnS p x), Dk.upd D.seen n (Dk.turnS p x), mid (Dk.turnW n p x) D.waits 0⟩ (.slice (some ⟨gs, 0, none⟩) L cs) (.slice (some ⟨gn, 0, none⟩) L cn) (.slice aw M cw)))
    case first =>
      have k0d : W1.drew.cell? ⟨g, 0, none⟩ = some (.slice (some ⟨gs, 0, none⟩) L cs) := k0
      have s0d : W1.drew.cell? ⟨gs, n * 2, none⟩ = some (.string E) := s0
      go_region_law (first
        | (go_simp; refine (C2.out _).mono ?_; rintro e w9 ⟨rfl, t9⟩; have T9 := Lib.hid ((Touch.refl No W1).drew.trans t9); have k0' := T9.out.cell id k0; have s0' := T9.out.cell id s0; have z0s' := (T9.out.frozen Hgl1.out id (n * 2)).trans z0s; clear t9))
      all_goals
        go_wp2_with fail
        go_meet
        exact X2.out w9 T9.out
    case rest =>
      have HX2 := hcut
      clear hcut X2 k0 s0 z0s HQ Hgl1
      go_wp2_with fail
      go_loopg [9] M (fun gh s9 wr => ∃ k : Nat, k + gh = M ∧ s9 = .int .i64 ((k : Nat) : Int) ∧ Hid (Mid w wr g ⟨Dk.upd D.sure n (Dk.turnS p x), Dk.upd D.seen n (Dk.turnS p x), mid (Dk.turnW n p x) D.waits k⟩ (.slice (some ⟨gs, 0, none⟩) L cs) (.slice (some ⟨gn, 0, none⟩) L cn) (.slice aw M cw)))
      case atStart => exact ⟨0, by omega, rfl, HX2.out⟩
      case round =>
        clear HX2
        obtain ⟨k, hkg, rfl, HQ⟩ := hrel
        have q2 : wr.cell? ⟨g, 2, none⟩ = some (.slice aw M cw) := HQ.out.at_.row.cell 2
        cases gk with
        | zero =>
          obtain rfl : k = M := by omega
          have FIN : Hid (TurnsL w A [Part.rdisk g (Dk.rot D n p x)] wr) := by
            have := HQ.out.end HA.out
            rw [mid_all HM.out] at this
            exact this
          go_wp2
          go_ret
          exact ⟨rfl, FIN.out⟩
        | succ g' =>
          have hlt : (k : Int) < (M : Nat) := by omega
          obtain ⟨y, hy⟩ : ∃ y, D.waits[k]? = some y := ⟨_, List.getElem?_eq_getElem (by rw [HM.out]; omega)⟩
          obtain ⟨gw, c', e, hbw, hgw, hfw, hcell⟩ := rows_at rwCells_length HQ.out.at_.waits (by rfl) (mid_get hy) (by decide)
          obtain rfl : aw = some ⟨gw, 0, none⟩ := by injection e
          have e0 : wr.cell? ⟨gw, k * 3, none⟩ = some (.int .i64 (y.n : Nat)) := hcell 0 (by decide)
          have e1 : wr.cell? ⟨gw, k * 3 + 1, none⟩ = some (.string (str y.b)) := hcell 1 (by decide)
          have z1 := hfw (k * 3 + 1)
          have oky := Hok.out.waits y (List.mem_of_getElem? hy)
          obtain ⟨yn, hyn⟩ : ∃ yn, y.n = yn := ⟨_, rfl⟩
          rw [hyn] at e0
          by_cases en : yn = n
          · subst en
            obtain ⟨Y, hY⟩ : ∃ Y, str y.b = Y := ⟨_, rfl⟩
            obtain ⟨Y', hY'⟩ : ∃ Y', str (Dk.turnB y.b p x) = Y' := ⟨_, rfl⟩
            have C3 := Lib.hid (CW.out y (List.mem_of_getElem? hy))
            rw [hY, hY'] at C3
            rw [hY] at e1
            have X3 : Hid (∀ w9, Touch No wr w9 → Mid w (w9.setCell ⟨gw, k * 3 + 1, none⟩ (.string Y')) g ⟨Dk.upd D.sure yn (Dk.turnS p x), Dk.upd D.seen yn (Dk.turnS p x), mid (Dk.turnW yn p x) D.waits (k + 1)⟩ (.slice (some ⟨gs, 0, none⟩) L cs) (.slice (some ⟨gn, 0, none⟩) L cn) (.slice (some ⟨gw, 0, none⟩) M cw)) := fun w9 t9 => by
              have X := (HQ.out.at_.no t9).waitSet (by rw [mid_length]; exact HM.out) (n := k) (j := 1) (y := Dk.turnW yn p x y) (u := .string Y') (mid_get hy) (by decide) (by rw [Dk.turnW, if_pos hyn, ← hY']; rfl) (by
                have : (Dk.upd D.seen yn (Dk.turnS p x)).length = D.seen.length := Dk.upd_length _ _ _
                rw [this, Dk.turnW, if_pos hyn]
                exact ⟨oky.n, Dk.turnB_ok oky.b Hx.out, oky.elder⟩)
              refine ⟨?_, (HQ.out.touch.then t9 (fun _ _ f => f.elim)).then X.2 (fun _ _ h => h)⟩
              have h1 := X.1
              rw [mid_set hy] at h1
              exact h1
            have Hgw := Lib.hid hgw
            clear hcell hfw hy hyn oky hbw hY hY' hgw
            go_upto_region 9 with fail
            have q2d : wr.drew.cell? ⟨g, 2, none⟩ = some (.slice (some ⟨gw, 0, none⟩) _ cw) := q2
            have e1d : wr.drew.cell? ⟨gw, k * 3 + 1, none⟩ = some (.string Y) := e1
            go_region_law (first
              | (go_simp; refine (C3.out _).mono ?_; rintro e w9 ⟨rfl, t9⟩; have T9 := Lib.hid ((Touch.refl No wr).drew.trans t9); have q2' := T9.out.cell id q2; have e1' := T9.out.cell id e1; have z1' := (T9.out.frozen Hgw.out id (k * 3 + 1)).trans z1; clear t9))
            all_goals
              have HX := Lib.hid (X3.out w9 T9.out)
              go_wp2_with fail
              go_roundg g'
              case measure => omega
              case rel => exact ⟨k + 1, by omega, by go_num, HX.out⟩
          · have HX : Hid (Mid w wr g ⟨Dk.upd D.sure n (Dk.turnS p x), Dk.upd D.seen n (Dk.turnS p x), mid (Dk.turnW n p x) D.waits (k + 1)⟩ (.slice (some ⟨gs, 0, none⟩) L cs) (.slice (some ⟨gn, 0, none⟩) L cn) (.slice (some ⟨gw, 0, none⟩) M cw)) := by
              have := HQ.out
              rw [← mid_same hy (show Dk.turnW n p x y = y by rw [Dk.turnW, if_neg (by rw [hyn]; exact en)])] at this
              exact this
            have hne : ((yn : Int) == (n : Int)) = false := by simp; omega
            clear hcell hfw hy hyn oky hbw en
            go_wp2_with fail
            go_roundg g'
            case measure => omega
            case rel => exact ⟨k + 1, by omega, by go_num, HX.out⟩
end Go.Proofs.YtkiehoboeiengaaGreatDoor
namespace Go.Proofs.YtkiehoboeiengaaGreatDoor
open Go Go.RowKit
set_option linter.unusedVariables false

def preParts (g n : Nat) (vB vI vN vD : Value) (B I N D : List HE) : List Part :=
  [Part.row g 47 (bookCells n vB vI vN vD), Part.arr 197 vB B.length (heNew B), Part.arr 200 vI I.length (heNew I),
    Part.arr 202 vN N.length (heNew N), Part.arr 205 vD D.length (heNew D)]
def Part.pre (g n : Nat) (B I N D : List HE) : Part where
  P w O := (∃ vB vI vN vD, (I = [] → vI = nilSl) ∧ Al w (preParts g n vB vI vN vD B I N D) O) ∧ ∀ k, O k → k < w.heap.size
  stable := fun {F w w' O} ⟨⟨vB, vI, vN, vD, h0, h⟩, hl⟩ t hF => ⟨⟨vB, vI, vN, vD, h0, Al.stable t h hF⟩, fun k hk => Nat.lt_of_lt_of_le (hl k hk) t.size⟩
  lt := fun {w O} h => h.2
theorem born_pre (w : World) (cs : Array Value) (h : cs.toList = bookCells 0 nilSl nilSl nilSl nilSl) : Born w (Part.pre w.heap.size 0 [] [] [] []) (w.alloc (.cells cs 47)) := born_book w cs h
theorem pre_bytes (w : World) (g n : Nat) (B I N D : List HE) (a : Option Addr) (len cap : Nat) (A : Nat → Prop) (h : Al w [Part.pre g n B I N D] A) (hm : B.length ≤ 100000) (hn : n ≤ 1000000) :
    Calls Tryz.prog 15 #[.pointer (some ⟨g, 0, none⟩), .slice a len cap] w fun e w' => e = .returned (.tuple #[]) ∧ TurnsL w A [Part.pre g (n + 1) (B ++ [⟨a, len, cap, n + 1⟩]) I N D] w' := by
  obtain ⟨A1, A2, ⟨⟨vB, vI, vN, vD, h0, hb⟩, hl1⟩, _, hd, h1, h2⟩ := h
  have hall : Al w ([Part.row g 47 (bookCells n vB vI vN vD), Part.arr 197 vB B.length (heNew B)] ++ [Part.arr 200 vI I.length (heNew I), Part.arr 202 vN N.length (heNew N), Part.arr 205 vD D.length (heNew D)]) A := Al.mono hb h1
  obtain ⟨F, hF, hFA, hf⟩ := Al.frame (l := [Part.row g 47 (bookCells n vB vI vN vD), Part.arr 197 vB B.length (heNew B)]) (m := _) hall
  obtain ⟨R1, R2, ⟨hrow, hg, _⟩, ⟨R3, _, ⟨harr, hin, _⟩, _, _, hR3, _⟩, hdR, hRF, hRF2⟩ := hF
  refine (bytes_raw w g n vB vI vN vD a len cap B.length (heNew B) hrow harr (fun h => hdR g hg (hR3 g (hin g h))) hm hn).mono ?_
  rintro e w' ⟨he, v', hown, hrow', ht, hin'⟩
  refine ⟨he, ?_⟩
  have hT : TurnsL w F [Part.row g 47 (bookCells (n + 1) v' vI vN vD), Part.arr 197 v' (B ++ [(⟨a, len, cap, n + 1⟩ : HE)]).length (heNew (B ++ [⟨a, len, cap, n + 1⟩]))] w' := by
    refine ⟨ht.mono (fun k _ hk => ?_), fun k => k = g ∨ InBlock v' k, ⟨fun k => k = g, InBlock v', ⟨hrow', rfl, fun k hk => by rw [hk]; exact hrow'.lt⟩, ⟨InBlock v', fun _ => False, ⟨?_, fun _ h => h, fun k hk => (rowBlock hown hk).2⟩, trivial, fun _ _ f => f, fun _ h => h, fun _ f => f.elim⟩, fun k hk hb => ?_, fun k hk => Or.inl hk, fun k hk => Or.inr hk⟩, fun k hk => ?_⟩
    · rcases hk with rfl | hk
      · exact hRF _ hg
      · exact hRF2 k (hR3 k (hin k hk))
    · rw [heNew_snoc, List.length_append]
      exact hown
    · rw [hk] at hb
      rcases hin' g hb with h | h
      · exact hdR g hg (hR3 g (hin g h))
      · have := hrow.lt; omega
    · rcases hk with rfl | hk
      · exact Or.inl (hRF _ hg)
      · exact (hin' k hk).imp (fun h => hRF2 k (hR3 k (hin k h))) id
  have hw : TurnsL w A (preParts g (n + 1) v' vI vN vD (B ++ [(⟨a, len, cap, n + 1⟩ : HE)]) I N D) w' := hf w' _ hT
  exact TurnsL.wrap hw (fun O hO hlt => ⟨⟨v', vI, vN, vD, h0, hO⟩, hlt⟩)
theorem Sl.preBytes {w0 w : World} {g n : Nat} {B I N D : List HE} {m : List Part} (h : Sl w0 w (Part.pre g n B I N D :: m)) (a : Option Addr) (len cap : Nat) (hm : B.length ≤ 100000) (hn : n ≤ 1000000) :
    Calls Tryz.prog 15 #[.pointer (some ⟨g, 0, none⟩), .slice a len cap] w fun e w' => e = .returned (.tuple #[]) ∧ Sl w0 w' (Part.pre g (n + 1) (B ++ [⟨a, len, cap, n + 1⟩]) I N D :: m) :=
  Sl.step (l := [_]) h (fun F hF => pre_bytes w g n B I N D a len cap F hF hm hn)
/-- the book takes what it was told of -/
theorem Sl.take {w0 w : World} {g n : Nat} {B : List HE} {m : List Part} (h : Sl w0 w (Part.pre g n B [] [] [] :: (B.map (Part.room 5) ++ m))) : Sl w0 w (Part.book g n B [] [] [] :: m) := by
  obtain ⟨A, hA, _, hf⟩ := Sl.frame (l := Part.pre g n B [] [] [] :: B.map (Part.room 5)) (m := m) h
  refine hf w [Part.book g n B [] [] []] ?_
  obtain ⟨A1, A2, ⟨⟨vB, vI, vN, vD, h0, hb⟩, hl1⟩, hr, hd, h1, h2⟩ := hA
  have hj : Al w (bookParts g n vB vI vN vD B [] [] []) A := by
    have := Al.join hb hr hd h1 h2
    simpa [preParts, bookParts] using this
  exact TurnsL.wrap (l := bookParts g n vB vI vN vD B [] [] []) (TurnsL.same hj) (fun O hO hlt => ⟨⟨vB, vI, vN, vD, h0, hO⟩, hlt⟩)
/-- a slice with its room: the room alone -/
theorem sl_room {w : World} {T : TypeId} {a : Option Addr} {n c k : Nat} {vs : List Value} {A : Nat → Prop} (h : (Part.sl T a n c vs).P w A) : (Part.room T ⟨a, n, c, k⟩).P w A := ⟨vs, h⟩
end Go.Proofs.YtkiehoboeiengaaGreatDoor
