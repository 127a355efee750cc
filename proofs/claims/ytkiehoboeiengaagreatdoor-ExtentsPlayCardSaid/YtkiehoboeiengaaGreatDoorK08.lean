/-
  Package disks by its own text: Bad.
-/
import Derived.Test.YtkiehoboeiengaaGreatDoorK06
import Derived.Test.YtkiehoboeiengaaGreatDoorK07
namespace Go.Proofs.YtkiehoboeiengaaGreatDoor
open Go Go.RowKit
set_option linter.unusedSimpArgs false

/-- one cell of a write that waits -/
theorem rows_get {w : World} {T : TypeId} {gw m cw : Nat} {l : List Dk.Wr} (h : w.ownsRow 0 T 66 (.slice (some ⟨gw, 0, none⟩) m cw) m (l.flatMap wrCells)) (hl : l.length = m) {i j : Nat} {y : Dk.Wr} (hy : l[i]? = some y) (hj : j < 66) :
    w.cell? ⟨gw, i * 66 + j, none⟩ = (wrCells y)[j]? ∧ w.frozen? ⟨gw, i * 66 + j, none⟩ = false := by
  have hi : i < m := by
    rcases Nat.lt_or_ge i l.length with h | h
    · omega
    · rw [List.getElem?_eq_none h] at hy; cases hy
  obtain ⟨g, c, r, hv, _, hR, _⟩ := ownRow h (by intro e; cases e)
  cases hv
  refine ⟨?_, hR.soft _⟩
  rw [hR.cell, List.getElem?_append_left (by
    rw [flat_length wrCells_length, hl]
    have := Nat.mul_le_mul_right 66 hi
    omega), flat_get wrCells_length l i j y hy hj]
theorem rows_set {w : World} {T : TypeId} {gw m cw : Nat} {l : List Dk.Wr} (h : w.ownsRow 0 T 66 (.slice (some ⟨gw, 0, none⟩) m cw) m (l.flatMap wrCells)) (hl : l.length = m) {i j : Nat} {y y' : Dk.Wr} {v : Value} (hy : l[i]? = some y) (hj : j < 66) (he : wrCells y' = (wrCells y).set j v) :
    (w.setCell ⟨gw, i * 66 + j, none⟩ v).ownsRow 0 T 66 (.slice (some ⟨gw, 0, none⟩) m cw) m ((l.set i y').flatMap wrCells) := by
  have hi : i < m := by
    rcases Nat.lt_or_ge i l.length with h | h
    · omega
    · rw [List.getElem?_eq_none h] at hy; cases hy
  obtain ⟨h0, h⟩ := h
  rcases h with ⟨h, _⟩ | ⟨g, cap, cur, hv, hg, hh, hn, hc, hs, ht⟩
  · cases h
  cases hv
  refine ⟨by rw [flat_length wrCells_length, List.length_set, hl], Or.inr ⟨gw, cw, cur.setIfInBounds (i * 66 + j) v, rfl, hg, ?_, hn, hc, by simpa using hs, ?_⟩⟩
  · have hR : Row w gw T cur.toList := by rw [Row, Array.toArray_toList]; exact hh
    have := hR.setCell (i * 66 + j) v
    rw [Row] at this
    rw [this]
    congr 2
    apply Array.ext'; simp
  · rw [Array.toList_setIfInBounds, List.take_set]
    rw [ht]
    have := flat_cell wrCells_length l i j y y' v [] hy hj he
    simpa using this

/-- the cells of a sector that is bad -/
theorem bad_cells (s : Dk.Sec) : secCells (Dk.badS s) = (secCells s).set 64 (.int .i64 1) := by
  rw [secCells, secCells, List.set_append_right _ _ (by simp)]; simp [Dk.badS]
theorem badW_cells (y : Dk.Wr) : wrCells ⟨y.n, y.b, 1⟩ = (wrCells y).set 65 (.int .i64 1) := by
  rw [wrCells, wrCells, List.set_cons_succ, List.set_append_right _ _ (by simp)]; simp
def badF (y : Dk.Wr) : Dk.Wr := ⟨y.n, y.b, 1⟩
/-- one cell of a sector in its row -/
theorem sec_put {w : World} {g : Nat} {T : TypeId} {l : List Dk.Sec} {r : List Value} (h : Row w g T (l.flatMap secCells ++ r)) {n j : Nat} (hn : n < l.length) (hj : j < 65) (f : Dk.Sec → Dk.Sec) {v : Value} (he : secCells (f (Dk.at_ l n)) = (secCells (Dk.at_ l n)).set j v) :
    Row (w.setCell ⟨g, n * 65 + j, none⟩ v) g T ((Dk.upd l n f).flatMap secCells ++ r) := by
  rw [Dk.upd, ← flat_cell secCells_length l n j _ _ v r (Dk.at_get hn) hj he]
  exact h.setCell _ _
theorem modify_set {α : Type} {l : List α} {i : Nat} {y : α} (f : α → α) (h : l[i]? = some y) : l.modify i f = l.set i (f y) := by
  refine List.ext_getElem? (fun j => ?_)
  rw [List.getElem?_modify, List.getElem?_set]
  by_cases e : i = j
  · subst e
    have hi : i < l.length := by
      rcases Nat.lt_or_ge i l.length with h' | h'
      · exact h'
      · rw [List.getElem?_eq_none h'] at h; cases h
    rw [h]; simp [hi]
  · simp [e]

theorem waits_base {w : World} {T : TypeId} {aw : Option Addr} {m cw : Nat} {l : List Dk.Wr} (h : w.ownsRow 0 T 66 (.slice aw m cw) m (l.flatMap wrCells)) (hl : l.length = m) :
    ∃ gw, ∀ (i : Nat) (y : Dk.Wr), l[i]? = some y → aw = some ⟨gw, 0, none⟩ := by
  cases aw with
  | none => 
    refine ⟨0, fun i y hy => ?_⟩
    obtain ⟨g, c, r, hv, _⟩ := ownRow h (by
      intro e; cases e
      have : l = [] := List.eq_nil_of_length_eq_zero hl
      rw [this] at hy; cases hy)
    cases hv
  | some a =>
    obtain ⟨g, c, r, hv, _⟩ := ownRow h (by intro e; cases e)
    cases hv
    exact ⟨g, fun _ _ _ => rfl⟩

set_option maxRecDepth 100000 in
set_option maxHeartbeats 2000000 in
theorem bad_in (w : World) (d : Nat) (D : Dk.Disk) (O : Nat → Prop) (n : Nat) (h : DiskAt w d D O) (hn : n < D.seen.length) (hw : D.waits.length ≤ 1000000) :
    Calls Tryz.prog 24 #[.pointer (some ⟨d, 0, none⟩), .int .i64 (n : Nat)] w fun e w' => e = .returned (.int .i64 0) ∧ Touch O w w' ∧ DiskAt w' d (Dk.bad D n) O := by
  have H := Lib.hid h
  have ok := h.ok
  have e1 : askSays D.seen.length n = 0 := by unfold askSays; rw [if_pos (by omega)]
  obtain ⟨gs, gn, cs, cn, rs, rn, vw, Di, o1, o2, o3, o4⟩ := h
  obtain ⟨aw, cw, rfl, hcw1, hcw2⟩ := rowSlice Di.waits
  have Hok := Lib.hid ok
  have HDi := Lib.hid Di
  have hn1 : (n : Int) < (D.seen.length : Nat) := by omega
  have hns : n < D.sure.length := by rw [ok.len]; exact hn
  have hn2 : (n : Int) < (D.sure.length : Nat) := by omega
  have hcb : w.cell? ⟨gn, n * 65 + 64, none⟩ = some (.int .i64 ((Dk.at_ D.seen n).bad : Nat)) := by
    have := Row.cell Di.seen (n * 65 + 64)
    rw [this, List.getElem?_append_left (by
      rw [flat_length secCells_length]
      have := Nat.mul_le_mul_right 65 hn
      omega), flat_get secCells_length _ n 64 _ (Dk.at_get hn) (by decide)]
    exact sec_bad _
  have hcs : w.cell? ⟨gs, n * 65 + 64, none⟩ = some (.int .i64 ((Dk.at_ D.sure n).bad : Nat)) := by
    have := Row.cell Di.sure (n * 65 + 64)
    rw [this, List.getElem?_append_left (by
      rw [flat_length secCells_length]
      have := Nat.mul_le_mul_right 65 hns
      omega), flat_get secCells_length _ n 64 _ (Dk.at_get hns) (by decide)]
    exact sec_bad _
  have hfb := Di.seen.soft (n * 65 + 64)
  have hfs := Di.sure.soft (n * 65 + 64)
  have hc0 := Di.c0
  have hc1 := Di.c1
  have hlcn := Di.lcn
  have hlcs := Di.lcs
  obtain ⟨w2, hw2⟩ : ∃ w2, w2 = (w.setCell ⟨gn, n * 65 + 64, none⟩ (.int .i64 1)).setCell ⟨gs, n * 65 + 64, none⟩ (.int .i64 1) := ⟨_, rfl⟩
  have Hw2 := Lib.hid hw2
  have Ho4 := Lib.hid o4
  have e1n : d ≠ gs := Di.ne.1
  have e2n : d ≠ gn := Di.ne.2.1
  have e3n : gs ≠ gn := Di.ne.2.2
  clear hw2 Di ok o4
  go_enter Tryz.func24, Tryz.ntmps24
  go_wp2_with fail
  refine (ask_any w d D O _ H.out).mono ?_
  rintro e w' ⟨rfl, rfl⟩
  rw [e1]
  go_wp2_with fail
  have A1 : ∀ (v : Value), (w.setCell ⟨gn, n * 65 + 64, none⟩ v).cell? ⟨d, 1, none⟩ = some (.slice (some ⟨gn, 0, none⟩) D.seen.length cn) := fun v => (cell_set_ne (Or.inl (Ne.symm e2n))).trans hc1
  have A0 : ∀ (v : Value), (w.setCell ⟨gn, n * 65 + 64, none⟩ v).cell? ⟨d, 0, none⟩ = some (.slice (some ⟨gs, 0, none⟩) D.sure.length cs) := fun v => (cell_set_ne (Or.inl (Ne.symm e2n))).trans hc0
  have k1 : ∀ (v : Value), (w.setCell ⟨gn, n * 65 + 64, none⟩ v).drew.cell? ⟨d, 1, none⟩ = some (.slice (some ⟨gn, 0, none⟩) D.seen.length cn) := A1
  have k0 : ∀ (v : Value), (w.setCell ⟨gn, n * 65 + 64, none⟩ v).drew.cell? ⟨d, 0, none⟩ = some (.slice (some ⟨gs, 0, none⟩) D.sure.length cs) := A0
  have ks : ∀ (v : Value), (w.setCell ⟨gn, n * 65 + 64, none⟩ v).cell? ⟨gs, n * 65 + 64, none⟩ = some (.int .i64 ((Dk.at_ D.sure n).bad : Nat)) := fun v => (cell_set_ne (Or.inl (Ne.symm e3n))).trans hcs
  have q1 : ∀ (v v' : Value), ((w.setCell ⟨gn, n * 65 + 64, none⟩ v).setCell ⟨gs, n * 65 + 64, none⟩ v').drew.cell? ⟨d, 1, none⟩ = some (.slice (some ⟨gn, 0, none⟩) D.seen.length cn) := fun v v' => (cell_set_ne (Or.inl (Ne.symm e1n))).trans (A1 v)
  have q0 : ∀ (v v' : Value), ((w.setCell ⟨gn, n * 65 + 64, none⟩ v).setCell ⟨gs, n * 65 + 64, none⟩ v').drew.cell? ⟨d, 0, none⟩ = some (.slice (some ⟨gs, 0, none⟩) D.sure.length cs) := fun v v' => (cell_set_ne (Or.inl (Ne.symm e1n))).trans (A0 v)
  go_region_held3 (fun w' => w'.cell? ⟨d, 1, none⟩ = some (.slice (some ⟨gn, 0, none⟩) D.seen.length cn) ∧ w'.cell? ⟨d, 0, none⟩ = some (.slice (some ⟨gs, 0, none⟩) D.sure.length cs)) (first | exact ⟨hc1, hc0⟩ | exact ⟨k1 _, k0 _⟩ | exact ⟨q1 _ _, q0 _ _⟩) (fail)
  go_wp2_with fail
  obtain ⟨W, hW⟩ : ∃ W, W = ((w.setCell ⟨gn, n * 65 + 64, none⟩ (.int .i64 1)).setCell ⟨gs, n * 65 + 64, none⟩ (.int .i64 1)).drew := ⟨_, rfl⟩
  have tW : Touch O w W := by
    rw [hW]
    exact (((Touch.refl O w).setCell (p := ⟨gn, n * 65 + 64, none⟩) (fun _ => o3) _).setCell (p := ⟨gs, n * 65 + 64, none⟩) (fun _ => o2) _).drew
  have tW' : Touch (fun k => k = gn ∨ k = gs) w W := by
    rw [hW]
    exact (((Touch.refl _ w).setCell (p := ⟨gn, n * 65 + 64, none⟩) (fun _ => Or.inl rfl) _).setCell (p := ⟨gs, n * 65 + 64, none⟩) (fun _ => Or.inr rfl) _).drew
  have hseen : Row W gn 120 ((Dk.upd D.seen n Dk.badS).flatMap secCells ++ rn) := by
    have := sec_put HDi.out.seen hn (by decide : 64 < 65) Dk.badS (bad_cells _)
    rw [hW]
    exact Row.touch (F := One gs) this ((Touch.refl (One gs) _).setCell (p := ⟨gs, n * 65 + 64, none⟩) (fun _ => rfl) _).drew (fun e => e3n e.symm)
  have hsure : Row W gs 120 ((Dk.upd D.sure n Dk.badS).flatMap secCells ++ rs) := by
    have h0 : Row (w.setCell ⟨gn, n * 65 + 64, none⟩ (.int .i64 1)) gs 120 (D.sure.flatMap secCells ++ rs) := HDi.out.sure.touch (F := One gn) ((Touch.refl (One gn) _).setCell (p := ⟨gn, n * 65 + 64, none⟩) (fun _ => rfl) _) e3n
    have := sec_put h0 hns (by decide : 64 < 65) Dk.badS (bad_cells _)
    rw [hW]
    exact this
  have hWd := tW'.cell (fun e => by rcases e with e | e; exact e2n e; exact e1n e) HDi.out.c2
  have hWw := rowTouch HDi.out.waits tW' (fun k hk e => by
    have := HDi.out.wne k hk
    rcases e with e | e
    · exact this.2.2 e
    · exact this.2.1 e)
  rw [← hW]
  obtain ⟨gw, hgw⟩ := waits_base hWw rfl
  have Hgw := Lib.hid hgw
  have Hseen := Lib.hid hseen
  have Hsure := Lib.hid hsure
  have TW := Lib.hid tW
  have TW' := Lib.hid tW'
  have HWw := Lib.hid hWw
  clear hgw hseen hsure tW tW' hWw A1 A0 k1 k0 ks q1 q0 hW hcb hcs hfb hfs hc0 hc1
  refine (to_in W d n D.waits D.waits.length aw cw gw rfl hWd hcw1 hw (fun i y hy => ⟨Hgw.out i y hy, by
    obtain rfl := Hgw.out i y hy
    have := (rows_get HWw.out rfl hy (by decide : 0 < 66)).1
    rw [Nat.add_zero] at this
    rw [this]; exact wr_n y⟩)).mono ?_
  rintro e w3 ⟨v, rfl, j1, j2⟩
  obtain ⟨q, hq⟩ : ∃ q, (Dk.hits n D.waits D.waits.length).length = q := ⟨_, rfl⟩
  obtain ⟨av, cv, rfl, hcv, _, _, hqm⟩ := j1.form' (n := q) (by rw [ptrs, List.length_map]; exact hq)
  have hq2 : q ≤ D.waits.length := by rw [← hq]; exact Dk.hits_length _ _ _
  have J1 := Lib.hid j1
  have J2 := Lib.hid j2
  have Hq := Lib.hid hq
  have Hwd := Lib.hid hWd
  clear j1 j2 hq hqm hWd
  go_wp2
  go_loopg [32] q (fun g s32 wr => ∃ k : Nat, k + g = q ∧ s32 = .int .i64 ((k : Nat) : Int) ∧ Hid (Touch (InBlock (.slice aw D.waits.length cw)) w3 wr) ∧ Hid (wr.ownsRow 0 127 66 (.slice aw D.waits.length cw) D.waits.length ((Dk.turn badF D.waits ((Dk.hits n D.waits D.waits.length).take k)).flatMap wrCells)))
  case atStart => exact ⟨0, by omega, rfl, Touch.refl _ _, by
    rw [List.take_zero]
    exact rowTouch HWw.out J2.out (fun _ _ f => f)⟩
  case round =>
    obtain ⟨k, hkg, rfl, T, R⟩ := hrel
    cases gk with
    | zero =>
      obtain rfl : k = q := by omega
      go_wp2
      go_ret
      have hR := R.out
      rw [List.take_of_length_le (by rw [Hq.out]; exact Nat.le_refl _), Dk.turn_all] at hR
      have nd : ∀ x, (x = d ∨ x = gs ∨ x = gn) → ¬ InBlock (.slice aw D.waits.length cw) x := fun x hx hk => by
        have := HDi.out.wne x hk
        rcases hx with e | e | e
        · exact this.1 e
        · exact this.2.1 e
        · exact this.2.2 e
      have tf : Touch (fun k => k = gn ∨ k = gs ∨ InBlock (.slice aw D.waits.length cw) k) w wr := (((TW'.out.mono (fun _ _ e => by rcases e with e | e; exact Or.inl e; exact Or.inr (Or.inl e))).then J2.out (fun _ _ f => f.elim)).then T.out (fun _ _ e => Or.inr (Or.inr e)))
      have c : ∀ o v, w.cell? ⟨d, o, none⟩ = some v → wr.cell? ⟨d, o, none⟩ = some v := fun o v hc => tf.cell (fun e => by
        rcases e with e | e | e
        · exact e2n e
        · exact e1n e
        · exact nd d (Or.inl rfl) e) hc
      refine ⟨rfl, (TW.out.then J2.out (fun _ _ f => f.elim)).then T.out (fun k _ e => Ho4.out k e), gs, gn, cs, cn, rs, rn, .slice aw D.waits.length cw, ⟨Dk.bad_ok Hok.out hn, ?_, ?_, c 2 _ HDi.out.c2, fun o => ?_, ?_, ?_, ?_, ?_, HDi.out.mcs, HDi.out.mcn, ?_, HDi.out.ne, HDi.out.wne⟩, o1, o2, o3, Ho4.out⟩
      · show _ = some (Value.slice _ (Dk.upd D.sure n Dk.badS).length _)
        rw [Dk.upd_length]; exact c 0 _ HDi.out.c0
      · show _ = some (Value.slice _ (Dk.upd D.seen n Dk.badS).length _)
        rw [Dk.upd_length]; exact c 1 _ HDi.out.c1
      · rw [tf.frozen HDi.out.lt (fun e => by
          rcases e with e | e | e
          · exact e2n e
          · exact e1n e
          · exact nd d (Or.inl rfl) e) o]
        exact HDi.out.soft o
      · exact (Hsure.out.touch J2.out id).touch T.out (nd _ (Or.inr (Or.inl rfl)))
      · exact (Hseen.out.touch J2.out id).touch T.out (nd _ (Or.inr (Or.inr rfl)))
      · show (Dk.upd D.sure n Dk.badS).length ≤ cs
        rw [Dk.upd_length]; exact hlcs
      · show (Dk.upd D.seen n Dk.badS).length ≤ cn
        rw [Dk.upd_length]; exact hlcn
      · show World.ownsRow _ 0 _ 66 _ (D.waits.map (Dk.badW n)).length ((D.waits.map (Dk.badW n)).flatMap wrCells)
        rw [List.length_map]
        exact hR
    | succ g =>
      have hlt : (k : Int) < (q : Nat) := by omega
      obtain ⟨i, hi⟩ : ∃ i, (Dk.hits n D.waits D.waits.length)[k]? = some i := ⟨_, List.getElem?_eq_getElem (by rw [Hq.out]; omega)⟩
      obtain ⟨him, y, hy, hyn⟩ := Dk.hits_get hi
      obtain rfl := Hgw.out i y hy
      have hown := (J1.out.touch T.out (fun b hb _ e => by
        have h1 := (rowBlock HWw.out e).2
        omega)).form
      obtain ⟨av', cv', hv', _, hrd, _⟩ := hown
      have hpi : (ptrs gw 66 (Dk.hits n D.waits D.waits.length))[k]? = some (.pointer (some ⟨gw, i * 66, none⟩)) := by rw [ptrs, List.getElem?_map, hi]; rfl
      obtain ⟨bv, ov, hav, hcl⟩ := hrd k _ hpi
      obtain rfl : av = some ⟨bv, ov, none⟩ := by cases hv'; exact hav
      clear hv' hrd hpi hav
      have hyt : (Dk.turn badF D.waits ((Dk.hits n D.waits D.waits.length).take k))[i]? = some y := (Dk.turn_at badF D.waits _ k i (Dk.hits_nodup _ _ _) hi).trans hy
      have hg := rows_get R.out (Dk.turn_length _ _ _) hyt (by decide : 65 < 66)
      have hce : wr.cell? ⟨gw, i * 66 + 65, none⟩ = some (.int .i64 (y.elder : Nat)) := hg.1.trans (wr_elder y)
      have hfe := hg.2
      have hset := rows_set R.out (Dk.turn_length _ _ _) hyt (by decide : 65 < 66) (badW_cells y)
      have hnext : (Dk.turn badF D.waits ((Dk.hits n D.waits D.waits.length).take k)).set i ⟨y.n, y.b, 1⟩ = Dk.turn badF D.waits ((Dk.hits n D.waits D.waits.length).take (k + 1)) := by
        have e1 : (Dk.hits n D.waits D.waits.length).take (k + 1) = (Dk.hits n D.waits D.waits.length).take k ++ [i] := by
          rw [List.take_add_one, hi]; rfl
        rw [e1, Dk.turn_snoc, modify_set badF hyt]
        rfl
      rw [hnext] at hset
      have Hset := Lib.hid hset
      clear hset hnext hg hyt hi hy hyn him
      go_wp2
      go_roundg g
      case measure => omega
      case rel => exact ⟨k + 1, by omega, by go_num, T.out.setCell (p := ⟨gw, i * 66 + 65, none⟩) (fun _ => rfl) _, Hset.out⟩
end Go.Proofs.YtkiehoboeiengaaGreatDoor
