/-
  Package drydockref03 by its own text: turned, Rot, Bad.
  Package drydockref03 by its own text: Bad, Rot.
-/
import Derived.Test.YtkiehoboeiengaaGreatDoorK28
import Derived.Laws.BitsAllLaws
namespace Go.Proofs.YtkiehoboeiengaaGreatDoor
open Go Go.RowKit
set_option linter.unusedSimpArgs false
set_option linter.unusedVariables false

theorem str_get (xs : List Nat) (i : Nat) (hi : i < xs.length) (hx : xs.getD i 0 < 256) (h : i < (str xs).size) : ((str xs)[i]'h).toNat = xs.getD i 0 := by
  have e : (str xs)[i]'h = (UInt8.ofNat (xs.getD i 0)) := by
    simp [str, strOfNums, ByteArray.getElem_eq_getElem_data, List.getD_eq_getElem?_getD, List.getElem?_eq_getElem hi]
  rw [e, UInt8.toNat_ofNat']
  exact Nat.mod_eq_of_lt hx
set_option maxRecDepth 100000 in
set_option maxHeartbeats 4000000 in
theorem refTurned3_any (w : World) (b : List Nat) (hb : Dk.Bytes b) (p x : Nat) (hp : p < 64) (hx : x < 256) :
    Calls Tryz.prog 123 #[.string (str b), .int .i64 (p : Nat), .int .u8 (x : Nat)] w fun e w' => e = .returned (.string (str (Dk.turnB b p x))) ∧ Touch No w w' := by
  obtain ⟨B, hB⟩ : ∃ B, str b = B := ⟨_, rfl⟩
  have hsz : B.size = 64 := by rw [← hB, str_size, hb.len]
  rw [hB]
  have hpi : (p : Int) < 64 := by omega
  have hpi1 : (p : Int) ≤ 64 := by omega
  have hpi2 : (p : Int) + 1 ≤ 64 := by omega
  have hpi3 : 0 ≤ (p : Int) + 1 := by omega
  have hwr : IntKind.i64.wrap ((p : Int) + 1) = (p : Int) + 1 := IntWalk.i64_in _ (by omega)
  obtain ⟨B1, h1⟩ : ∃ B1, B.extract 0 p = B1 := ⟨_, rfl⟩
  obtain ⟨B2, h2⟩ : ∃ B2, B.extract (p + 1) 64 = B2 := ⟨_, rfl⟩
  obtain ⟨y, hy⟩ : ∃ y, b.getD p 0 = y := ⟨_, rfl⟩
  have hy256 : y < 256 := by
    rw [← hy, List.getD_eq_getElem?_getD, List.getElem?_eq_getElem (by rw [hb.len]; exact hp)]
    exact hb.lt _ (List.getElem_mem _)
  have hget : ∀ h, (B[p]'h).toNat = y := by
    subst hB
    intro h
    rw [str_get b p (by rw [hb.len]; exact hp) (by rw [hy]; exact hy256) h, hy]
  obtain ⟨v, hv⟩ : ∃ v, y ^^^ x = v := ⟨_, rfl⟩
  have hbx : bits BinOp.xor .u8 (y : Int) (x : Int) = (v : Nat) := by
    rw [← hv]; exact u8_xor_nat _ _ hy256 hx
  obtain ⟨C, hC⟩ : ∃ C, str [v] = C := ⟨_, rfl⟩
  have hcv : (convert 49 9 (.slice (some ⟨w.heap.size, 0, none⟩) 1 1)).run Tryz.prog ((w.alloc (.cells #[.int .u8 (v : Nat)] 5)).drew) = .ok (.string C) ((w.alloc (.cells #[.int .u8 (v : Nat)] 5)).drew) := by
    rw [← hC]
    exact conv_str _ _ 1 1 [v] rfl ((rd_new w 5 #[.int .u8 (v : Nat)] (0, 0)).no (Touch.refl No _).drew)
  have e1 : B1.size = p := by
    rw [← h1, ← hB, str_take, str_size, List.length_take, hb.len]; omega
  have e2 : B2.size = 63 - p := by
    rw [← h2, ← hB, str_extract, str_size, List.length_drop, List.length_take, hb.len]; omega
  have e3 : C.size = 1 := by rw [← hC, str_size]; rfl
  have hs1 : ¬ 9223372036854775807 < p + 1 := by omega
  have hs2 : ¬ 9223372036854775807 < p + 1 + (63 - p) := by omega
  have Hres : Hid (B1 ++ C ++ B2 = str (Dk.turnB b p x)) := by
    show _ = _
    rw [← h1, ← h2, ← hC, ← hB, str_take, str_extract, str_append, str_append, Dk.turnB, hy, hv, List.take_of_length_le (i := 64) (by rw [hb.len]; exact Nat.le_refl _)]
    congr 1
    rw [List.set_eq_take_append_cons_drop, if_pos (by rw [hb.len]; exact hp)]
    simp
  clear hB hy hv hC hb
  go_enter Tryz.func123, Tryz.ntmps123
  go_wp2_with fail
  go_region_law (fail)
  all_goals
    go_wp2
    go_ret
    exact ⟨(congrArg (fun s => Ending.returned (.string s)) Hres.out : Ending.returned (.string (B1 ++ C ++ B2)) = _), ((Touch.refl No w).alloc _).drew⟩

/-! ### one piece turned -/
theorem RdAt.seenSet {w : World} {g gn cn m : Nat} {D : Dk.Disk} {vs vw : Value} (h : RdAt w g D vs (.slice (some ⟨gn, 0, none⟩) m cn) vw) (hm : D.seen.length = m) {n j : Nat} {x y : Dk.Sec} {u : Value} (hx : D.seen[n]? = some x) (hj : j < 2) (hy : rsCells y = (rsCells x).set j u) (oky : y.Ok) :
    RdAt (w.setCell ⟨gn, n * 2 + j, none⟩ u) g ⟨D.sure, D.seen.set n y, D.waits⟩ vs (.slice (some ⟨gn, 0, none⟩) m cn) vw ∧ Touch (RdOf g vs (.slice (some ⟨gn, 0, none⟩) m cn) vw) w (w.setCell ⟨gn, n * 2 + j, none⟩ u) := by
  have t : Touch (One gn) w (w.setCell ⟨gn, n * 2 + j, none⟩ u) := (Touch.refl (One gn) w).setCell (p := ⟨gn, n * 2 + j, none⟩) (fun _ => rfl) u
  have hb : InBlock (.slice (some ⟨gn, 0, none⟩) m cn) gn := rfl
  have el : (D.seen.set n y).length = D.seen.length := List.length_set
  refine ⟨⟨⟨by rw [el]; exact h.ok.len, by rw [el]; exact h.ok.pos, by rw [el]; exact h.ok.top, h.ok.sure, fun s hs => ?_, fun z hz => by rw [el]; exact h.ok.waits z hz⟩, h.row.touch t (fun e => h.n0 (by rw [show g = gn from e]; exact hb)), rowTouch h.sure t (fun k hk e => h.sn k hk (by rw [show k = gn from e]; exact hb)), ?_, rowTouch h.waits t (fun k hk e => h.nw gn hb (by rw [← show k = gn from e]; exact hk)), h.s0, h.n0, h.w0, h.sn, h.sw, h.nw⟩, t.mono (fun k _ e => by rw [show k = gn from e]; exact Or.inr (Or.inr (Or.inl hb)))⟩
  · rcases List.mem_or_eq_of_mem_set hs with h' | h'
    · exact h.ok.seen s h'
    · rw [h']; exact oky
  · rw [el, hm]
    have h1 := h.seen
    rw [hm] at h1
    exact rows_put rsCells_length h1 hm hx hj hy
theorem RdAt.sureSet {w : World} {g gs cs m : Nat} {D : Dk.Disk} {vn vw : Value} (h : RdAt w g D (.slice (some ⟨gs, 0, none⟩) m cs) vn vw) (hm : D.sure.length = m) {n j : Nat} {x y : Dk.Sec} {u : Value} (hx : D.sure[n]? = some x) (hj : j < 2) (hy : rsCells y = (rsCells x).set j u) (oky : y.Ok) :
    RdAt (w.setCell ⟨gs, n * 2 + j, none⟩ u) g ⟨D.sure.set n y, D.seen, D.waits⟩ (.slice (some ⟨gs, 0, none⟩) m cs) vn vw ∧ Touch (RdOf g (.slice (some ⟨gs, 0, none⟩) m cs) vn vw) w (w.setCell ⟨gs, n * 2 + j, none⟩ u) := by
  have t : Touch (One gs) w (w.setCell ⟨gs, n * 2 + j, none⟩ u) := (Touch.refl (One gs) w).setCell (p := ⟨gs, n * 2 + j, none⟩) (fun _ => rfl) u
  have hb : InBlock (.slice (some ⟨gs, 0, none⟩) m cs) gs := rfl
  have el : (D.sure.set n y).length = D.sure.length := List.length_set
  refine ⟨⟨⟨by rw [el]; exact h.ok.len, h.ok.pos, h.ok.top, fun s hs => ?_, h.ok.seen, h.ok.waits⟩, h.row.touch t (fun e => h.s0 (by rw [show g = gs from e]; exact hb)), ?_, rowTouch h.seen t (fun k hk e => h.sn gs hb (by rw [← show k = gs from e]; exact hk)), rowTouch h.waits t (fun k hk e => h.sw gs hb (by rw [← show k = gs from e]; exact hk)), h.s0, h.n0, h.w0, h.sn, h.sw, h.nw⟩, t.mono (fun k _ e => by rw [show k = gs from e]; exact Or.inr (Or.inl hb))⟩
  · rcases List.mem_or_eq_of_mem_set hs with h' | h'
    · exact h.ok.sure s h'
    · rw [h']; exact oky
  · rw [el, hm]
    have h1 := h.sure
    rw [hm] at h1
    exact rows_put rsCells_length h1 hm hx hj hy
theorem RdAt.waitSet {w : World} {g gw cw m : Nat} {D : Dk.Disk} {vs vn : Value} (h : RdAt w g D vs vn (.slice (some ⟨gw, 0, none⟩) m cw)) (hm : D.waits.length = m) {n j : Nat} {x y : Dk.Wr} {u : Value} (hx : D.waits[n]? = some x) (hj : j < 3) (hy : rwCells y = (rwCells x).set j u) (oky : y.Ok D.seen.length) :
    RdAt (w.setCell ⟨gw, n * 3 + j, none⟩ u) g ⟨D.sure, D.seen, D.waits.set n y⟩ vs vn (.slice (some ⟨gw, 0, none⟩) m cw) ∧ Touch (RdOf g vs vn (.slice (some ⟨gw, 0, none⟩) m cw)) w (w.setCell ⟨gw, n * 3 + j, none⟩ u) := by
  have t : Touch (One gw) w (w.setCell ⟨gw, n * 3 + j, none⟩ u) := (Touch.refl (One gw) w).setCell (p := ⟨gw, n * 3 + j, none⟩) (fun _ => rfl) u
  have hb : InBlock (.slice (some ⟨gw, 0, none⟩) m cw) gw := rfl
  have el : (D.waits.set n y).length = D.waits.length := List.length_set
  refine ⟨⟨⟨h.ok.len, h.ok.pos, h.ok.top, h.ok.sure, h.ok.seen, fun s hs => ?_⟩, h.row.touch t (fun e => h.w0 (by rw [show g = gw from e]; exact hb)), rowTouch h.sure t (fun k hk e => h.sw k hk (by rw [show k = gw from e]; exact hb)), rowTouch h.seen t (fun k hk e => h.nw k hk (by rw [show k = gw from e]; exact hb)), ?_, h.s0, h.n0, h.w0, h.sn, h.sw, h.nw⟩, t.mono (fun k _ e => by rw [show k = gw from e]; exact Or.inr (Or.inr (Or.inr hb)))⟩
  · rcases List.mem_or_eq_of_mem_set hs with h' | h'
    · exact h.ok.waits s h'
    · rw [h']; exact oky
  · rw [el, hm]
    have h1 := h.waits
    rw [hm] at h1
    exact rows_put rwCells_length h1 hm hx hj hy
/-- the first so many of a list turned -/
def mid {α : Type} (f : α → α) (l : List α) (k : Nat) : List α := (l.take k).map f ++ l.drop k
section
variable {α : Type} {f : α → α} {l : List α} {k : Nat} {y : α}
theorem mid_zero : mid f l 0 = l := by simp [mid]
theorem mid_all (h : l.length = k) : mid f l k = l.map f := by rw [mid, List.take_of_length_le (Nat.le_of_eq h), List.drop_of_length_le (Nat.le_of_eq h), List.append_nil]
theorem mid_length : (mid f l k).length = l.length := by simp [mid]; omega
theorem mid_get (h : l[k]? = some y) : (mid f l k)[k]? = some y := by
  have hk := lt_of_get h
  rw [mid, List.getElem?_append_right (by simp; omega), List.length_map, List.length_take, List.getElem?_drop]
  rw [← h]; congr 1; omega
theorem mid_set (h : l[k]? = some y) : (mid f l k).set k (f y) = mid f l (k + 1) := by
  have hk := lt_of_get h
  have hd : l.drop k = y :: l.drop (k + 1) := by
    rw [List.drop_eq_getElem_cons hk]
    rw [List.getElem?_eq_getElem hk] at h
    rw [Option.some.inj h]
  have ht : l.take (k + 1) = l.take k ++ [y] := by
    rw [List.take_add_one, h]; rfl
  rw [mid, mid, ht, hd, List.set_append_right _ _ (by simp; omega), List.length_map, List.length_take, Nat.min_eq_left (Nat.le_of_lt hk), Nat.sub_self, List.set_cons_zero, List.map_append, List.append_assoc]
  rfl
theorem mid_same (h : l[k]? = some y) (hf : f y = y) : mid f l (k + 1) = mid f l k := by
  rw [← mid_set h, hf]
  have := mid_get (f := f) h
  refine List.ext_getElem? (fun i => ?_)
  rw [List.getElem?_set]
  split
  · rename_i e; subst e
    rw [this, if_pos (lt_of_get this)]
  · rfl
end
end Go.Proofs.YtkiehoboeiengaaGreatDoor
namespace Go.Proofs.YtkiehoboeiengaaGreatDoor
open Go Go.RowKit
set_option linter.unusedSimpArgs false
set_option linter.unusedVariables false

/-- the cells of the sector n, the row's form -/
theorem secs_at {w : World} {g : Nat} {T : TypeId} {v : Value} {l : List Dk.Sec} (h : w.ownsRow 0 T 2 v l.length (l.flatMap rsCells)) {n : Nat} (hn : n < l.length) : ∃ gn cn, v = .slice (some ⟨gn, 0, none⟩) l.length cn ∧ InBlock v gn ∧ gn < w.heap.size ∧ (∀ o, w.frozen? ⟨gn, o, none⟩ = false) ∧ w.cell? ⟨gn, n * 2, none⟩ = some (.string (str (Dk.at_ l n).b)) ∧ w.cell? ⟨gn, n * 2 + 1, none⟩ = some (.bool ((Dk.at_ l n).bad == 1)) := by
  obtain ⟨gn, cn, e, h1, h2, h3, h4⟩ := rows_at rsCells_length h rfl (Dk.at_get hn) (by decide)
  exact ⟨gn, cn, e, h1, h2, h3, h4 0 (by decide), h4 1 (by decide)⟩
theorem rows_known {α : Type} {f : α → List Value} {size : Nat} (hf : ∀ x, (f x).length = size) {w : World} {T : TypeId} {gn m cn n base : Nat} {xs : List α} (h : w.ownsRow base T size (.slice (some ⟨gn, 0, none⟩) m cn) n (xs.flatMap f)) (hn : xs.length = n) {i : Nat} {y : α} (hy : xs[i]? = some y) (hs : 0 < size) :
    gn < w.heap.size ∧ (∀ o, w.frozen? ⟨gn, o, none⟩ = false) ∧ ∀ j, j < size → w.cell? ⟨gn, i * size + j, none⟩ = (f y)[j]? := by
  obtain ⟨g, c, e, _, h2, h3, h4⟩ := rows_at hf h hn hy hs
  have : gn = g := by injection e with e1 _ _; injection e1 with e1; injection e1
  subst this
  exact ⟨h2, h3, h4⟩
set_option maxHeartbeats 1000000 in
theorem refBad3_out {w : World} {g : Nat} {D : Dk.Disk} {vs vn vw : Value} (h : RdAt w g D vs vn vw) (n : Int) (hb : ¬ (0 ≤ n ∧ n < D.seen.length)) :
    Calls Tryz.prog 25 #[.pointer (some ⟨g, 0, none⟩), .int .i64 n] w fun e w' => e = .returned (.int .i64 1) ∧ w = w' := by
  obtain ⟨a, c, rfl, _⟩ := rowSlice h.seen
  have k1 : w.cell? ⟨g, 1, none⟩ = some (.slice a D.seen.length c) := h.row.cell 1
  obtain ⟨L, hL⟩ : ∃ L, D.seen.length = L := ⟨_, rfl⟩
  rw [hL] at k1 hb
  clear h hL
  by_cases h1 : n < 0
  · clear hb
    go_enter Tryz.func25, Tryz.ntmps25
    go_wp2
    go_ret
    exact ⟨rfl, rfl⟩
  · have h2 : (L : Int) ≤ n := by omega
    clear hb
    go_enter Tryz.func25, Tryz.ntmps25
    go_wp2
    go_ret
    exact ⟨rfl, rfl⟩
/-- a disk in the midst of such a call: what was there at its beginning, what blocks it has -/
structure Mid (w wr : World) (g : Nat) (D : Dk.Disk) (vs vn vw : Value) : Prop where
  at_ : RdAt wr g D vs vn vw
  touch : Touch (RdOf g vs vn vw) w wr
theorem Mid.no {w wr w' : World} {g : Nat} {D : Dk.Disk} {vs vn vw : Value} (h : Mid w wr g D vs vn vw) (t : Touch No wr w') : Mid w w' g D vs vn vw := ⟨h.at_.no t, h.touch.then t (fun _ _ f => f.elim)⟩
theorem Mid.end {w wr : World} {g : Nat} {D : Dk.Disk} {vs vn vw : Value} {A : Nat → Prop} (h : Mid w wr g D vs vn vw) (hA : ∀ k, RdOf g vs vn vw k → A k) : TurnsL w A [Part.rdisk g D] wr := RdAt.turn hA h.at_ h.touch (fun k hk => Or.inl hk)
set_option maxRecDepth 100000 in
set_option maxHeartbeats 4000000 in
theorem refBad3_in (w : World) (g : Nat) (D : Dk.Disk) (A : Nat → Prop) (h : Al w [Part.rdisk g D] A) (n : Nat) (hn : n < D.seen.length) (hw : D.waits.length ≤ 1000000) :
    Calls Tryz.prog 25 #[.pointer (some ⟨g, 0, none⟩), .int .i64 (n : Nat)] w fun e w' => e = .returned (.int .i64 0) ∧ TurnsL w A [Part.rdisk g (Dk.bad D n)] w' := by
  obtain ⟨vs, vn, vw, hR, hA⟩ := al_rdisk h
  have ok := hR.ok
  have hns : n < D.sure.length := by rw [ok.len]; exact hn
  obtain ⟨gn, cn, hvn, hbn, hgl, hfz, _, c1⟩ := secs_at (g := g) hR.seen hn
  obtain ⟨gs, cs, hvs, hbs, hgsl, hfzs, _, s1⟩ := secs_at (g := g) hR.sure hns
  obtain ⟨aw, cw, hvw, hcw, _⟩ := rowSlice hR.waits
  obtain ⟨L, hL⟩ : ∃ L, D.seen.length = L := ⟨_, rfl⟩
  have hL2 : D.sure.length = L := by rw [ok.len, hL]
  obtain ⟨M, hM⟩ : ∃ M, D.waits.length = M := ⟨_, rfl⟩
  rw [hL] at hvn
  rw [hL2] at hvs
  rw [hM] at hvw
  subst hvn hvs hvw
  have k1 : w.cell? ⟨g, 1, none⟩ = some (.slice (some ⟨gn, 0, none⟩) L cn) := hR.row.cell 1
  have k0 : w.cell? ⟨g, 0, none⟩ = some (.slice (some ⟨gs, 0, none⟩) L cs) := hR.row.cell 0
  have HA := Lib.hid hA
  have Hns := Lib.hid hns
  have hng : ¬ gn = g := fun e => hR.n0 (by rw [← e]; exact hbn)
  have hsn : ¬ gn = gs := fun e => hR.sn gs hbs (by rw [← e]; exact hbn)
  have hsg : ¬ gs = g := fun e => hR.s0 (by rw [← e]; exact hbs)
  have z1 := hfz (n * 2 + 1)
  have hn1 : (n : Int) < L := by omega
  have hn0 : ¬ (n : Int) < 0 := by omega
  have htop : (L : Int) ≤ 16384 := by have := ok.top; omega
  have hwt : (M : Int) ≤ 1000000 := by omega
  have X1 := hR.seenSet hL (n := n) (j := 1) (y := Dk.badS (Dk.at_ D.seen n)) (u := .bool true) (Dk.at_get hn) (by decide) rfl (Dk.badS_ok (ok.seen _ (Dk.at_mem hn)))
  have HX1 := Lib.hid X1
  have HM := Lib.hid hM
  have Hok := Lib.hid ok
  have HL := Lib.hid hL
  have HL2 := Lib.hid hL2
  clear X1 hM ok hR hA h hfz hfzs hbn hbs hL hL2 hn hw hgl hgsl hns
  go_enter Tryz.func25, Tryz.ntmps25
  go_upto_region 4 with fail
  obtain ⟨W1, hW1⟩ : ∃ W1, W1 = w.setCell ⟨gn, n * 2 + 1, none⟩ (.bool true) := ⟨_, rfl⟩
  rw [← hW1] at HX1 ⊢
  have hR1 := HX1.out.1
  have q0 : W1.cell? ⟨g, 0, none⟩ = some (.slice (some ⟨gs, 0, none⟩) L cs) := hR1.row.cell 0
  obtain ⟨_, hfz1, hc1⟩ := rows_known rsCells_length hR1.sure rfl (Dk.at_get Hns.out) (by decide)
  have d1 : W1.cell? ⟨gs, n * 2 + 1, none⟩ = some (.bool ((Dk.at_ D.sure n).bad == 1)) := hc1 1 (by decide)
  have z2 := hfz1 (n * 2 + 1)
  have X2 := hR1.sureSet HL2.out (n := n) (j := 1) (y := Dk.badS (Dk.at_ D.sure n)) (u := .bool true) (Dk.at_get Hns.out) (by decide) rfl (Dk.badS_ok (Hok.out.sure _ (Dk.at_mem Hns.out)))
  have HX2 : Hid (Mid w (W1.setCell ⟨gs, n * 2 + 1, none⟩ (.bool true)) g ⟨Dk.upd D.sure n Dk.badS, Dk.upd D.seen n Dk.badS, mid (Dk.badW n) D.waits 0⟩ (.slice (some ⟨gs, 0, none⟩) L cs) (.slice (some ⟨gn, 0, none⟩) L cn) (.slice aw M cw)) := by
    refine ⟨?_, HX1.out.2.then X2.2 (fun _ _ h => h)⟩
    rw [mid_zero]; exact X2.1
  clear X2 hR1 hfz1 hc1 hW1 k0 k1 c1 s1 z1
  go_upto_region 5 with fail
  obtain ⟨W2, hW2⟩ : ∃ W2, W2 = W1.setCell ⟨gs, n * 2 + 1, none⟩ (.bool true) := ⟨_, rfl⟩
  rw [← hW2] at HX2 ⊢
  clear hW2 q0 d1 z2 HX1
  go_wp2_with fail
  go_loopg [5] M (fun gh s5 wr => ∃ k : Nat, k + gh = M ∧ s5 = .int .i64 ((k : Nat) : Int) ∧ Hid (Mid w wr g ⟨Dk.upd D.sure n Dk.badS, Dk.upd D.seen n Dk.badS, mid (Dk.badW n) D.waits k⟩ (.slice (some ⟨gs, 0, none⟩) L cs) (.slice (some ⟨gn, 0, none⟩) L cn) (.slice aw M cw)))
  case atStart => exact ⟨0, by omega, rfl, HX2.out⟩
  case round =>
    clear HX2
    obtain ⟨k, hkg, rfl, HQ⟩ := hrel
    have q2 : wr.cell? ⟨g, 2, none⟩ = some (.slice aw M cw) := HQ.out.at_.row.cell 2
    cases gk with
    | zero =>
      obtain rfl : k = M := by omega
      have FIN : Hid (TurnsL w A [Part.rdisk g (Dk.bad D n)] wr) := by
        have := HQ.out.end HA.out
        rw [mid_all HM.out] at this
        exact this
      go_wp2
      go_ret
      exact ⟨rfl, FIN.out⟩
    | succ g' =>
      have hlt : (k : Int) < (M : Nat) := by omega
      obtain ⟨y, hy⟩ : ∃ y, D.waits[k]? = some y := ⟨_, List.getElem?_eq_getElem (by rw [HM.out]; omega)⟩
      obtain ⟨gw, c', e, hbw, _, hfw, hcell⟩ := rows_at rwCells_length HQ.out.at_.waits (by rfl) (mid_get hy) (by decide)
      obtain rfl : aw = some ⟨gw, 0, none⟩ := by injection e
      have e0 : wr.cell? ⟨gw, k * 3, none⟩ = some (.int .i64 (y.n : Nat)) := hcell 0 (by decide)
      have e2 : wr.cell? ⟨gw, k * 3 + 2, none⟩ = some (.bool (y.elder == 1)) := hcell 2 (by decide)
      have z2 := hfw (k * 3 + 2)
      have oky := Hok.out.waits y (List.mem_of_getElem? hy)
      obtain ⟨yn, hyn⟩ : ∃ yn, y.n = yn := ⟨_, rfl⟩
      rw [hyn] at e0
      by_cases en : yn = n
      · subst en
        have X := HQ.out.at_.waitSet (by rw [mid_length]; exact HM.out) (n := k) (j := 2) (y := Dk.badW yn y) (u := .bool true) (mid_get hy) (by decide) (by rw [Dk.badW, if_pos hyn]; rfl) (by
          have : (Dk.upd D.seen yn Dk.badS).length = D.seen.length := Dk.upd_length _ _ _
          rw [this, Dk.badW, if_pos hyn]
          exact ⟨oky.n, oky.b, Nat.le_refl _⟩)
        have HX : Hid (Mid w (wr.setCell ⟨gw, k * 3 + 2, none⟩ (.bool true)) g ⟨Dk.upd D.sure yn Dk.badS, Dk.upd D.seen yn Dk.badS, mid (Dk.badW yn) D.waits (k + 1)⟩ (.slice (some ⟨gs, 0, none⟩) L cs) (.slice (some ⟨gn, 0, none⟩) L cn) (.slice (some ⟨gw, 0, none⟩) M cw)) := by
          refine ⟨?_, HQ.out.touch.then X.2 (fun _ _ h => h)⟩
          have h1 := X.1
          rw [mid_set hy] at h1
          exact h1
        clear X hcell hfw hy hyn oky hbw
        go_wp2_with fail
        go_roundg g'
        case measure => omega
        case rel => exact ⟨k + 1, by omega, by go_num, HX.out⟩
      · have HX : Hid (Mid w wr g ⟨Dk.upd D.sure n Dk.badS, Dk.upd D.seen n Dk.badS, mid (Dk.badW n) D.waits (k + 1)⟩ (.slice (some ⟨gs, 0, none⟩) L cs) (.slice (some ⟨gn, 0, none⟩) L cn) (.slice (some ⟨gw, 0, none⟩) M cw)) := by
          have := HQ.out
          rw [← mid_same hy (show Dk.badW n y = y by rw [Dk.badW, if_neg (by rw [hyn]; exact en)])] at this
          exact this
        have hne : ((yn : Int) == (n : Int)) = false := by simp; omega
        clear hcell hfw hy hyn oky hbw en
        go_wp2_with fail
        go_roundg g'
        case measure => omega
        case rel => exact ⟨k + 1, by omega, by go_num, HX.out⟩
end Go.Proofs.YtkiehoboeiengaaGreatDoor
