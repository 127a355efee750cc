/-
  Package drydockref03 by its own text: Bad, Rot.
-/
import Derived.Test.YtkiehoboeiengaaK31
namespace Go.Proofs.Ytkiehoboeiengaa
open Go Go.RowKit
set_option linter.unusedSimpArgs false
set_option linter.unusedVariables false

/-- the cells of the sector n, the row's form -/
theorem secs_at {w : World} {g : Nat} {T : TypeId} {v : Value} {l : List Dk.Sec} (h : w.ownsRow 0 T 2 v l.length (l.flatMap rsCells)) {n : Nat} (hn : n < l.length) : ∃ gn cn, v = .slice (some ⟨gn, 0, none⟩) l.length cn ∧ InBlock v gn ∧ gn < w.heap.size ∧ (∀ o, w.frozen? ⟨gn, o, none⟩ = false) ∧ w.cell? ⟨gn, n * 2, none⟩ = some (.string (str (Dk.at_ l n).b)) ∧ w.cell? ⟨gn, n * 2 + 1, none⟩ = some (.bool ((Dk.at_ l n).bad == 1)) := by
  obtain ⟨gn, cn, e, h1, h2, h3, h4⟩ := rows_at rsCells_length h rfl (Dk.at_get hn) (by decide)
  exact ⟨gn, cn, e, h1, h2, h3, h4 0 (by decide), h4 1 (by decide)⟩
theorem rows_known {α : Type} {f : α → List Value} {size : Nat} (hf : ∀ x, (f x).length = size) {w : World} {T : TypeId} {gn m cn n base : Nat} {xs : List α} (h : w.ownsRow base T size (.slice (some ⟨gn, 0, none⟩) m cn) n (xs.flatMap f)) (hn : xs.length = n) {i : Nat} {y : α} (hy : xs[i]? = some y) (hs : 0 < size) :
    gn < w.heap.size ∧ (∀ o, w.frozen? ⟨gn, o, none⟩ = false) ∧ ∀ j, j < size → w.cell? ⟨gn, i * size + j, none⟩ = (f y)[j]? := by
  obtain ⟨g, c, e, _, h2, h3, h4⟩ := rows_at hf h hn hy hs
  have : gn = g := by injection e with e1 _ _; injection e1 with e1; injection e1
  subst this
  exact ⟨h2, h3, h4⟩
set_option maxHeartbeats 1000000 in
theorem refBad3_out {w : World} {g : Nat} {D : Dk.Disk} {vs vn vw : Value} (h : RdAt w g D vs vn vw) (n : Int) (hb : ¬ (0 ≤ n ∧ n < D.seen.length)) :
    Calls Try.prog 13 #[.pointer (some ⟨g, 0, none⟩), .int .i64 n] w fun e w' => e = .returned (.int .i64 1) ∧ w = w' := by
  obtain ⟨a, c, rfl, _⟩ := rowSlice h.seen
  have k1 : w.cell? ⟨g, 1, none⟩ = some (.slice a D.seen.length c) := h.row.cell 1
  obtain ⟨L, hL⟩ : ∃ L, D.seen.length = L := ⟨_, rfl⟩
  rw [hL] at k1 hb
  clear h hL
  by_cases h1 : n < 0
  · clear hb
    go_enter Try.func13, Try.ntmps13
    go_wp2
    go_ret
    exact ⟨rfl, rfl⟩
  · have h2 : (L : Int) ≤ n := by omega
    clear hb
    go_enter Try.func13, Try.ntmps13
    go_wp2
    go_ret
    exact ⟨rfl, rfl⟩
/-- a disk in the midst of such a call: what was there at its beginning, what blocks it has -/
structure Mid (w wr : World) (g : Nat) (D : Dk.Disk) (vs vn vw : Value) : Prop where
  at_ : RdAt wr g D vs vn vw
  touch : Touch (RdOf g vs vn vw) w wr
theorem Mid.no {w wr w' : World} {g : Nat} {D : Dk.Disk} {vs vn vw : Value} (h : Mid w wr g D vs vn vw) (t : Touch No wr w') : Mid w w' g D vs vn vw := ⟨h.at_.no t, h.touch.then t (fun _ _ f => f.elim)⟩
theorem Mid.end {w wr : World} {g : Nat} {D : Dk.Disk} {vs vn vw : Value} {A : Nat → Prop} (h : Mid w wr g D vs vn vw) (hA : ∀ k, RdOf g vs vn vw k → A k) : TurnsL w A [Part.rdisk g D] wr := RdAt.turn hA h.at_ h.touch (fun k hk => Or.inl hk)
set_option maxRecDepth 100000 in
set_option maxHeartbeats 4000000 in
theorem refBad3_in (w : World) (g : Nat) (D : Dk.Disk) (A : Nat → Prop) (h : Al w [Part.rdisk g D] A) (n : Nat) (hn : n < D.seen.length) (hw : D.waits.length ≤ 1000000) :
    Calls Try.prog 13 #[.pointer (some ⟨g, 0, none⟩), .int .i64 (n : Nat)] w fun e w' => e = .returned (.int .i64 0) ∧ TurnsL w A [Part.rdisk g (Dk.bad D n)] w' := by
  obtain ⟨vs, vn, vw, hR, hA⟩ := al_rdisk h
  have ok := hR.ok
  have hns : n < D.sure.length := by rw [ok.len]; exact hn
  obtain ⟨gn, cn, hvn, hbn, hgl, hfz, _, c1⟩ := secs_at (g := g) hR.seen hn
  obtain ⟨gs, cs, hvs, hbs, hgsl, hfzs, _, s1⟩ := secs_at (g := g) hR.sure hns
  obtain ⟨aw, cw, hvw, hcw, _⟩ := rowSlice hR.waits
  obtain ⟨L, hL⟩ : ∃ L, D.seen.length = L := ⟨_, rfl⟩
  have hL2 : D.sure.length = L := by rw [ok.len, hL]
  obtain ⟨M, hM⟩ : ∃ M, D.waits.length = M := ⟨_, rfl⟩
  rw [hL] at hvn
  rw [hL2] at hvs
  rw [hM] at hvw
  subst hvn hvs hvw
  have k1 : w.cell? ⟨g, 1, none⟩ = some (.slice (some ⟨gn, 0, none⟩) L cn) := hR.row.cell 1
  have k0 : w.cell? ⟨g, 0, none⟩ = some (.slice (some ⟨gs, 0, none⟩) L cs) := hR.row.cell 0
  have HA := Lib.hid hA
  have Hns := Lib.hid hns
  have hng : ¬ gn = g := fun e => hR.n0 (by rw [← e]; exact hbn)
  have hsn : ¬ gn = gs := fun e => hR.sn gs hbs (by rw [← e]; exact hbn)
  have hsg : ¬ gs = g := fun e => hR.s0 (by rw [← e]; exact hbs)
  have z1 := hfz (n * 2 + 1)
  have hn1 : (n : Int) < L := by omega
  have hn0 : ¬ (n : Int) < 0 := by omega
  have htop : (L : Int) ≤ 16384 := by have := ok.top; omega
  have hwt : (M : Int) ≤ 1000000 := by omega
  have X1 := hR.seenSet hL (n := n) (j := 1) (y := Dk.badS (Dk.at_ D.seen n)) (u := .bool true) (Dk.at_get hn) (by decide) rfl (Dk.badS_ok (ok.seen _ (Dk.at_mem hn)))
  have HX1 := Lib.hid X1
  have HM := Lib.hid hM
  have Hok := Lib.hid ok
  have HL := Lib.hid hL
  have HL2 := Lib.hid hL2
  clear X1 hM ok hR hA h hfz hfzs hbn hbs hL hL2 hn hw hgl hgsl hns
  go_enter Try.func13, Try.ntmps13
  go_upto_region 4 with fail
  obtain ⟨W1, hW1⟩ : ∃ W1, W1 = w.setCell ⟨gn, n * 2 + 1, none⟩ (.bool true) := ⟨_, rfl⟩
  rw [← hW1] at HX1 ⊢
  have hR1 := HX1.out.1
  have q0 : W1.cell? ⟨g, 0, none⟩ = some (.slice (some ⟨gs, 0, none⟩) L cs) := hR1.row.cell 0
  obtain ⟨_, hfz1, hc1⟩ := rows_known rsCells_length hR1.sure rfl (Dk.at_get Hns.out) (by decide)
  have d1 : W1.cell? ⟨gs, n * 2 + 1, none⟩ = some (.bool ((Dk.at_ D.sure n).bad == 1)) := hc1 1 (by decide)
  have z2 := hfz1 (n * 2 + 1)
  have X2 := hR1.sureSet HL2.out (n := n) (j := 1) (y := Dk.badS (Dk.at_ D.sure n)) (u := .bool true) (Dk.at_get Hns.out) (by decide) rfl (Dk.badS_ok (Hok.out.sure _ (Dk.at_mem Hns.out)))
  have HX2 : Hid (Mid w (W1.setCell ⟨gs, n * 2 + 1, none⟩ (.bool true)) g ⟨Dk.upd D.sure n Dk.badS, Dk.upd D.seen n Dk.badS, mid (Dk.badW n) D.waits 0⟩ (.slice (some ⟨gs, 0, none⟩) L cs) (.slice (some ⟨gn, 0, none⟩) L cn) (.slice aw M cw)) := by
    refine ⟨?_, HX1.out.2.then X2.2 (fun _ _ h => h)⟩
    rw [mid_zero]; exact X2.1
  clear X2 hR1 hfz1 hc1 hW1 k0 k1 c1 s1 z1
  go_upto_region 5 with fail
  obtain ⟨W2, hW2⟩ : ∃ W2, W2 = W1.setCell ⟨gs, n * 2 + 1, none⟩ (.bool true) := ⟨_, rfl⟩
  rw [← hW2] at HX2 ⊢
  clear hW2 q0 d1 z2 HX1
  go_wp2_with fail
  go_loopg [5] M (fun gh s5 wr => ∃ k : Nat, k + gh = M ∧ s5 = .int .i64 ((k : Nat) : Int) ∧ Hid (Mid w wr g ⟨Dk.upd D.sure n Dk.badS, Dk.upd D.seen n Dk.badS, mid (Dk.badW n) D.waits k⟩ (.slice (some ⟨gs, 0, none⟩) L cs) (.slice (some ⟨gn, 0, none⟩) L cn) (.slice aw M cw)))
  case atStart => exact ⟨0, by omega, rfl, HX2.out⟩
  case round =>
    clear HX2
    obtain ⟨k, hkg, rfl, HQ⟩ := hrel
    have q2 : wr.cell? ⟨g, 2, none⟩ = some (.slice aw M cw) := HQ.out.at_.row.cell 2
    cases gk with
    | zero =>
      obtain rfl : k = M := by omega
      have FIN : Hid (TurnsL w A [Part.rdisk g (Dk.bad D n)] wr) := by
        have := HQ.out.end HA.out
        rw [mid_all HM.out] at this
        exact this
      go_wp2
      go_ret
      exact ⟨rfl, FIN.out⟩
    | succ g' =>
      have hlt : (k : Int) < (M : Nat) := by omega
      obtain ⟨y, hy⟩ : ∃ y, D.waits[k]? = some y := ⟨_, List.getElem?_eq_getElem (by rw [HM.out]; omega)⟩
      obtain ⟨gw, c', e, hbw, _, hfw, hcell⟩ := rows_at rwCells_length HQ.out.at_.waits (by rfl) (mid_get hy) (by decide)
      obtain rfl : aw = some ⟨gw, 0, none⟩ := by injection e
      have e0 : wr.cell? ⟨gw, k * 3, none⟩ = some (.int .i64 (y.n : Nat)) := hcell 0 (by decide)
      have e2 : wr.cell? ⟨gw, k * 3 + 2, none⟩ = some (.bool (y.elder == 1)) := hcell 2 (by decide)
      have z2 := hfw (k * 3 + 2)
      have oky := Hok.out.waits y (List.mem_of_getElem? hy)
      obtain ⟨yn, hyn⟩ : ∃ yn, y.n = yn := ⟨_, rfl⟩
      rw [hyn] at e0
      by_cases en : yn = n
      · subst en
        have X := HQ.out.at_.waitSet (by rw [mid_length]; exact HM.out) (n := k) (j := 2) (y := Dk.badW yn y) (u := .bool true) (mid_get hy) (by decide) (by rw [Dk.badW, if_pos hyn]; rfl) (by
          have : (Dk.upd D.seen yn Dk.badS).length = D.seen.length := Dk.upd_length _ _ _
          rw [this, Dk.badW, if_pos hyn]
          exact ⟨oky.n, oky.b, Nat.le_refl _⟩)
        have HX : Hid (Mid w (wr.setCell ⟨gw, k * 3 + 2, none⟩ (.bool true)) g ⟨Dk.upd D.sure yn Dk.badS, Dk.upd D.seen yn Dk.badS, mid (Dk.badW yn) D.waits (k + 1)⟩ (.slice (some ⟨gs, 0, none⟩) L cs) (.slice (some ⟨gn, 0, none⟩) L cn) (.slice (some ⟨gw, 0, none⟩) M cw)) := by
          refine ⟨?_, HQ.out.touch.then X.2 (fun _ _ h => h)⟩
          have h1 := X.1
          rw [mid_set hy] at h1
          exact h1
        clear X hcell hfw hy hyn oky hbw
        go_wp2_with fail
        go_roundg g'
        case measure => omega
        case rel => exact ⟨k + 1, by omega, by go_num, HX.out⟩
      · have HX : Hid (Mid w wr g ⟨Dk.upd D.sure n Dk.badS, Dk.upd D.seen n Dk.badS, mid (Dk.badW n) D.waits (k + 1)⟩ (.slice (some ⟨gs, 0, none⟩) L cs) (.slice (some ⟨gn, 0, none⟩) L cn) (.slice (some ⟨gw, 0, none⟩) M cw)) := by
          have := HQ.out
          rw [← mid_same hy (show Dk.badW n y = y by rw [Dk.badW, if_neg (by rw [hyn]; exact en)])] at this
          exact this
        have hne : ((yn : Int) == (n : Int)) = false := by simp; omega
        clear hcell hfw hy hyn oky hbw en
        go_wp2_with fail
        go_roundg g'
        case measure => omega
        case rel => exact ⟨k + 1, by omega, by go_num, HX.out⟩
end Go.Proofs.Ytkiehoboeiengaa
