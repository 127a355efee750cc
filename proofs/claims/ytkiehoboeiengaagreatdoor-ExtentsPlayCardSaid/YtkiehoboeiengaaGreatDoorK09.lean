/-
  Package disks by its own text: Rot.
-/
import Derived.Test.YtkiehoboeiengaaGreatDoorK08
import Derived.StillTailTactics
import Derived.Laws.BitsAllLaws
namespace Go.Proofs.YtkiehoboeiengaaGreatDoor
open Go Go.RowKit
set_option linter.unusedSimpArgs false

theorem map_set_cells {b : List Nat} {p v : Nat} (hl : b.length = 64) : (List.range 64).map (fun j => Value.int .u8 (((b.set p v).getD j 0 : Nat) : Int)) = ((List.range 64).map (fun j => Value.int .u8 ((b.getD j 0 : Nat) : Int))).set p (.int .u8 (v : Nat)) := by
  rw [bytes_cells (by rw [List.length_set]; exact hl), bytes_cells hl, nums, nums, List.map_set]
theorem turnS_cells (p x : Nat) (s : Dk.Sec) (hp : p < 64) (hl : s.b.length = 64) : secCells (Dk.turnS p x s) = (secCells s).set p (.int .u8 ((s.b.getD p 0 ^^^ x : Nat) : Int)) := by
  rw [secCells, secCells, List.set_append_left _ _ (by simp; omega), Dk.turnS, Dk.turnB, map_set_cells hl]
theorem turnW_cells (p x : Nat) (y : Dk.Wr) (hp : p < 64) (hl : y.b.length = 64) : wrCells ⟨y.n, Dk.turnB y.b p x, y.elder⟩ = (wrCells y).set (1 + p) (.int .u8 ((y.b.getD p 0 ^^^ x : Nat) : Int)) := by
  rw [wrCells, wrCells, Nat.add_comm 1 p, List.set_cons_succ, List.set_append_left _ _ (by simp; omega), Dk.turnB, map_set_cells hl]
def rotF (p x : Nat) (y : Dk.Wr) : Dk.Wr := ⟨y.n, Dk.turnB y.b p x, y.elder⟩
theorem byte_lt {b : List Nat} (h : Dk.Bytes b) (p : Nat) : b.getD p 0 < 256 := by
  rw [List.getD_eq_getElem?_getD]
  cases hq : b[p]? with
  | none => simp
  | some z => exact h.lt z (List.mem_of_getElem? hq)

set_option maxRecDepth 100000 in
set_option maxHeartbeats 2000000 in
theorem rot_in (w : World) (d : Nat) (D : Dk.Disk) (O : Nat → Prop) (n p x : Nat) (h : DiskAt w d D O) (hn : n < D.seen.length) (hp : p < 64) (hx : x < 256) (hw : D.waits.length ≤ 1000000) :
    Calls Tryz.prog 22 #[.pointer (some ⟨d, 0, none⟩), .int .i64 (n : Nat), .int .i64 (p : Nat), .int .u8 (x : Nat)] w fun e w' => e = .returned (.int .i64 0) ∧ Touch O w w' ∧ DiskAt w' d (Dk.rot D n p x) O := by
  have H := Lib.hid h
  have ok := h.ok
  have e1 : askSays D.seen.length n = 0 := by unfold askSays; rw [if_pos (by omega)]
  obtain ⟨gs, gn, cs, cn, rs, rn, vw, Di, o1, o2, o3, o4⟩ := h
  obtain ⟨aw, cw, rfl, hcw1, hcw2⟩ := rowSlice Di.waits
  have Hok := Lib.hid ok
  have HDi := Lib.hid Di
  have hn1 : (n : Int) < (D.seen.length : Nat) := by omega
  have hns : n < D.sure.length := by rw [ok.len]; exact hn
  have hn2 : (n : Int) < (D.sure.length : Nat) := by omega
  have hcb : w.cell? ⟨gn, n * 65 + p, none⟩ = some (.int .u8 ((Dk.at_ D.seen n).b.getD p 0 : Nat)) := by
    have := Row.cell Di.seen (n * 65 + p)
    rw [this, List.getElem?_append_left (by
      rw [flat_length secCells_length]
      have := Nat.mul_le_mul_right 65 hn
      omega), flat_get secCells_length _ n p _ (Dk.at_get hn) (by omega)]
    exact sec_cell _ hp
  have hcs : w.cell? ⟨gs, n * 65 + p, none⟩ = some (.int .u8 ((Dk.at_ D.sure n).b.getD p 0 : Nat)) := by
    have := Row.cell Di.sure (n * 65 + p)
    rw [this, List.getElem?_append_left (by
      rw [flat_length secCells_length]
      have := Nat.mul_le_mul_right 65 hns
      omega), flat_get secCells_length _ n p _ (Dk.at_get hns) (by omega)]
    exact sec_cell _ hp
  have hfb := Di.seen.soft (n * 65 + p)
  have hfs := Di.sure.soft (n * 65 + p)
  have hc0 := Di.c0
  have hc1 := Di.c1
  have hlcn := Di.lcn
  have hlcs := Di.lcs
  have okS := (ok.sure _ (Dk.at_mem hns)).b
  have okN := (ok.seen _ (Dk.at_mem hn)).b
  have hp1 : (p : Int) < 64 := by omega
  have hp2 : ¬ (64 : Int) ≤ (p : Nat) := by omega
  obtain ⟨xn, hxn⟩ : ∃ xn, (Dk.at_ D.seen n).b.getD p 0 ^^^ x = xn := ⟨_, rfl⟩
  obtain ⟨xs, hxs⟩ : ∃ xs, (Dk.at_ D.sure n).b.getD p 0 ^^^ x = xs := ⟨_, rfl⟩
  obtain ⟨yn, hyn⟩ : ∃ yn, (Dk.at_ D.seen n).b.getD p 0 = yn := ⟨_, rfl⟩
  obtain ⟨ys, hys⟩ : ∃ ys, (Dk.at_ D.sure n).b.getD p 0 = ys := ⟨_, rfl⟩
  have bn : bits BinOp.xor .u8 (yn : Int) (x : Int) = (xn : Nat) := by rw [← hxn, hyn]; exact u8_xor_nat _ _ (by rw [← hyn]; exact byte_lt okN p) hx
  have bs : bits BinOp.xor .u8 (ys : Int) (x : Int) = (xs : Nat) := by rw [← hxs, hys]; exact u8_xor_nat _ _ (by rw [← hys]; exact byte_lt okS p) hx
  rw [hyn] at hcb
  rw [hys] at hcs
  have cellS := turnS_cells p x (Dk.at_ D.sure n) hp okS.len
  have cellN := turnS_cells p x (Dk.at_ D.seen n) hp okN.len
  rw [hxn] at cellN
  rw [hxs] at cellS
  have HcS := Lib.hid cellS
  have HcN := Lib.hid cellN
  clear cellS cellN hxn hxs hyn hys okS okN
  have Ho4 := Lib.hid o4
  have e1n : d ≠ gs := Di.ne.1
  have e2n : d ≠ gn := Di.ne.2.1
  have e3n : gs ≠ gn := Di.ne.2.2
  clear Di ok o4
  go_enter Tryz.func22, Tryz.ntmps22
  go_wp2_with fail
  refine (ask_any w d D O _ H.out).mono ?_
  rintro e w' ⟨rfl, rfl⟩
  rw [e1]
  go_wp2_with fail
  go_still_tail 15, (by kernel_rfl)
  go_wp2
  obtain ⟨W1, hW1⟩ : ∃ W1, W1 = (w.setCell ⟨gn, n * 65 + p, none⟩ (.int .u8 (xn : Nat))).drew := ⟨_, rfl⟩
  rw [← hW1]
  have t1 : Touch (One gn) w W1 := by
    rw [hW1]; exact ((Touch.refl (One gn) w).setCell (p := ⟨gn, n * 65 + p, none⟩) (fun _ => rfl) _).drew
  have hseen1 : Row W1 gn 120 ((Dk.upd D.seen n (Dk.turnS p x)).flatMap secCells ++ rn) := by
    rw [hW1]; exact sec_put HDi.out.seen hn (by omega) (Dk.turnS p x) HcN.out
  have hsure1 : Row W1 gs 120 (D.sure.flatMap secCells ++ rs) := HDi.out.sure.touch t1 e3n
  have hc0' := t1.cell e2n hc0
  have hcs' := t1.cell e3n hcs
  have hfs' := hsure1.soft (n * 65 + p)
  have T1 := Lib.hid t1
  have Hseen1 := Lib.hid hseen1
  have Hsure1 := Lib.hid hsure1
  clear t1 hseen1 hsure1 hW1 hc0 hcs hfs hcb hfb hc1
  go_still_tail 15, (by kernel_rfl)
  go_wp2_with fail
  obtain ⟨W, hW⟩ : ∃ W, W = (W1.setCell ⟨gs, n * 65 + p, none⟩ (.int .u8 (xs : Nat))).drew := ⟨_, rfl⟩
  have t2 : Touch (One gs) W1 W := by
    rw [hW]; exact ((Touch.refl (One gs) W1).setCell (p := ⟨gs, n * 65 + p, none⟩) (fun _ => rfl) _).drew
  have tW : Touch O w W := (T1.out.mono (G := O) (fun _ _ e => by rw [show _ = gn from e]; exact o3)).then t2 (fun _ _ e => by rw [show _ = gs from e]; exact o2)
  have tW' : Touch (fun k => k = gn ∨ k = gs) w W := (T1.out.mono (G := fun k => k = gn ∨ k = gs) (fun _ _ e => Or.inl e)).then t2 (fun _ _ e => Or.inr e)
  have hseen : Row W gn 120 ((Dk.upd D.seen n (Dk.turnS p x)).flatMap secCells ++ rn) := Hseen1.out.touch t2 (fun e => e3n e.symm)
  have hsure : Row W gs 120 ((Dk.upd D.sure n (Dk.turnS p x)).flatMap secCells ++ rs) := by
    rw [hW]; exact sec_put Hsure1.out hns (by omega) (Dk.turnS p x) HcS.out
  have hWd := tW'.cell (fun e => by rcases e with e | e; exact e2n e; exact e1n e) HDi.out.c2
  have hWw := rowTouch HDi.out.waits tW' (fun k hk e => by
    have := HDi.out.wne k hk
    rcases e with e | e
    · exact this.2.2 e
    · exact this.2.1 e)
  rw [← hW]
  obtain ⟨gw, hgw⟩ := waits_base hWw rfl
  have Hgw := Lib.hid hgw
  have Hseen := Lib.hid hseen
  have Hsure := Lib.hid hsure
  have TW := Lib.hid tW
  have TW' := Lib.hid tW'
  have HWw := Lib.hid hWw
  have hx' : (x : Int) < 256 := by omega
  clear hgw hseen hsure tW tW' hWw hW t2 hc0' hcs' hfs' bn bs
  refine (to_in W d n D.waits D.waits.length aw cw gw rfl hWd hcw1 hw (fun i y hy => ⟨Hgw.out i y hy, by
    obtain rfl := Hgw.out i y hy
    have := (rows_get HWw.out rfl hy (by decide : 0 < 66)).1
    rw [Nat.add_zero] at this
    rw [this]; exact wr_n y⟩)).mono ?_
  rintro e w3 ⟨v, rfl, j1, j2⟩
  obtain ⟨q, hq⟩ : ∃ q, (Dk.hits n D.waits D.waits.length).length = q := ⟨_, rfl⟩
  obtain ⟨av, cv, rfl, hcv, _, _, hqm⟩ := j1.form' (n := q) (by rw [ptrs, List.length_map]; exact hq)
  have hq2 : q ≤ D.waits.length := by rw [← hq]; exact Dk.hits_length _ _ _
  have J1 := Lib.hid j1
  have J2 := Lib.hid j2
  have Hq := Lib.hid hq
  have Hwd := Lib.hid hWd
  clear j1 j2 hq hqm hWd
  go_wp2
  go_loopg [62] q (fun g s32 wr => ∃ k : Nat, k + g = q ∧ s32 = .int .i64 ((k : Nat) : Int) ∧ Hid (Touch (InBlock (.slice aw D.waits.length cw)) w3 wr) ∧ Hid (wr.ownsRow 0 127 66 (.slice aw D.waits.length cw) D.waits.length ((Dk.turn (rotF p x) D.waits ((Dk.hits n D.waits D.waits.length).take k)).flatMap wrCells)))
  case atStart => exact ⟨0, by omega, rfl, Touch.refl _ _, by
    rw [List.take_zero]
    exact rowTouch HWw.out J2.out (fun _ _ f => f)⟩
  case round =>
    obtain ⟨k, hkg, rfl, T, R⟩ := hrel
    cases gk with
    | zero =>
      obtain rfl : k = q := by omega
      go_wp2
      go_ret
      have hR := R.out
      rw [List.take_of_length_le (by rw [Hq.out]; exact Nat.le_refl _), Dk.turn_all] at hR
      have nd : ∀ x, (x = d ∨ x = gs ∨ x = gn) → ¬ InBlock (.slice aw D.waits.length cw) x := fun x hx hk => by
        have := HDi.out.wne x hk
        rcases hx with e | e | e
        · exact this.1 e
        · exact this.2.1 e
        · exact this.2.2 e
      have tf : Touch (fun k => k = gn ∨ k = gs ∨ InBlock (.slice aw D.waits.length cw) k) w wr := (((TW'.out.mono (fun _ _ e => by rcases e with e | e; exact Or.inl e; exact Or.inr (Or.inl e))).then J2.out (fun _ _ f => f.elim)).then T.out (fun _ _ e => Or.inr (Or.inr e)))
      have c : ∀ o v, w.cell? ⟨d, o, none⟩ = some v → wr.cell? ⟨d, o, none⟩ = some v := fun o v hc => tf.cell (fun e => by
        rcases e with e | e | e
        · exact e2n e
        · exact e1n e
        · exact nd d (Or.inl rfl) e) hc
      refine ⟨rfl, (TW.out.then J2.out (fun _ _ f => f.elim)).then T.out (fun k _ e => Ho4.out k e), gs, gn, cs, cn, rs, rn, .slice aw D.waits.length cw, ⟨Dk.rot_ok Hok.out hn hx, ?_, ?_, c 2 _ HDi.out.c2, fun o => ?_, ?_, ?_, ?_, ?_, HDi.out.mcs, HDi.out.mcn, ?_, HDi.out.ne, HDi.out.wne⟩, o1, o2, o3, Ho4.out⟩
      · show _ = some (Value.slice _ (Dk.upd D.sure n (Dk.turnS p x)).length _)
        rw [Dk.upd_length]; exact c 0 _ HDi.out.c0
      · show _ = some (Value.slice _ (Dk.upd D.seen n (Dk.turnS p x)).length _)
        rw [Dk.upd_length]; exact c 1 _ HDi.out.c1
      · rw [tf.frozen HDi.out.lt (fun e => by
          rcases e with e | e | e
          · exact e2n e
          · exact e1n e
          · exact nd d (Or.inl rfl) e) o]
        exact HDi.out.soft o
      · exact (Hsure.out.touch J2.out id).touch T.out (nd _ (Or.inr (Or.inl rfl)))
      · exact (Hseen.out.touch J2.out id).touch T.out (nd _ (Or.inr (Or.inr rfl)))
      · show (Dk.upd D.sure n (Dk.turnS p x)).length ≤ cs
        rw [Dk.upd_length]; exact hlcs
      · show (Dk.upd D.seen n (Dk.turnS p x)).length ≤ cn
        rw [Dk.upd_length]; exact hlcn
      · show World.ownsRow _ 0 _ 66 _ (D.waits.map (Dk.turnW n p x)).length ((D.waits.map (Dk.turnW n p x)).flatMap wrCells)
        rw [List.length_map]
        exact hR
    | succ g =>
      have hlt : (k : Int) < (q : Nat) := by omega
      obtain ⟨i, hi⟩ : ∃ i, (Dk.hits n D.waits D.waits.length)[k]? = some i := ⟨_, List.getElem?_eq_getElem (by rw [Hq.out]; omega)⟩
      obtain ⟨him, y, hy, hyn⟩ := Dk.hits_get hi
      obtain rfl := Hgw.out i y hy
      have hown := (J1.out.touch T.out (fun b hb _ e => by
        have h1 := (rowBlock HWw.out e).2
        omega)).form
      obtain ⟨av', cv', hv', _, hrd, _⟩ := hown
      have hpi : (ptrs gw 66 (Dk.hits n D.waits D.waits.length))[k]? = some (.pointer (some ⟨gw, i * 66, none⟩)) := by rw [ptrs, List.getElem?_map, hi]; rfl
      obtain ⟨bv, ov, hav, hcl⟩ := hrd k _ hpi
      obtain rfl : av = some ⟨bv, ov, none⟩ := by cases hv'; exact hav
      clear hv' hrd hpi hav
      have hyt : (Dk.turn (rotF p x) D.waits ((Dk.hits n D.waits D.waits.length).take k))[i]? = some y := (Dk.turn_at (rotF p x) D.waits _ k i (Dk.hits_nodup _ _ _) hi).trans hy
      have hg := rows_get R.out (Dk.turn_length _ _ _) hyt (show 1 + p < 66 by omega)
      have hyb := (Hok.out.waits y (List.mem_of_getElem? hy)).b
      obtain ⟨z, hz⟩ : ∃ z, y.b.getD p 0 = z := ⟨_, rfl⟩
      obtain ⟨zx, hzx⟩ : ∃ zx, y.b.getD p 0 ^^^ x = zx := ⟨_, rfl⟩
      have hce : wr.cell? ⟨gw, i * 66 + (1 + p), none⟩ = some (.int .u8 (z : Nat)) := by rw [← hz]; exact hg.1.trans (wr_cell y hp)
      have hce2 : wr.cell? ⟨gw, i * 66 + 1 + p, none⟩ = some (.int .u8 (z : Nat)) := by rw [Nat.add_assoc]; exact hce
      have hfe := hg.2
      have hfe2 : wr.frozen? ⟨gw, i * 66 + 1 + p, none⟩ = false := by rw [Nat.add_assoc]; exact hg.2
      have hset := rows_set R.out (Dk.turn_length _ _ _) hyt (show 1 + p < 66 by omega) (turnW_cells p x y hp hyb.len)
      have bz : bits BinOp.xor .u8 (z : Int) (x : Int) = (zx : Nat) := by rw [← hzx, ← hz]; exact u8_xor_nat _ _ (byte_lt hyb p) hx
      rw [hzx] at hset
      have hnext : (Dk.turn (rotF p x) D.waits ((Dk.hits n D.waits D.waits.length).take k)).set i ⟨y.n, Dk.turnB y.b p x, y.elder⟩ = Dk.turn (rotF p x) D.waits ((Dk.hits n D.waits D.waits.length).take (k + 1)) := by
        have e1 : (Dk.hits n D.waits D.waits.length).take (k + 1) = (Dk.hits n D.waits D.waits.length).take k ++ [i] := by
          rw [List.take_add_one, hi]; rfl
        rw [e1, Dk.turn_snoc, modify_set (rotF p x) hyt]
        rfl
      rw [hnext] at hset
      have Hset := Lib.hid hset
      clear hset hnext hg hyt hi hy hyn him hyb hz hzx
      have TT := T.out.setCell (p := ⟨gw, i * 66 + (1 + p), none⟩) (fun _ => rfl) (.int .u8 (zx : Nat))
      have HTT := Lib.hid TT
      clear TT
      go_wp2
      go_still_tail 11, (by kernel_rfl)
      go_wp2
      go_roundg g
      case measure => omega
      case rel =>
        refine ⟨k + 1, by omega, by go_num, ?_, ?_⟩
        · show Touch _ _ _
          rw [Nat.add_assoc]
          exact HTT.out.drew
        · rw [Nat.add_assoc]
          exact Hset.out
end Go.Proofs.YtkiehoboeiengaaGreatDoor
