/-
  Package drydockref03 by its own text: turned, Rot, Bad.
-/
import Derived.Test.YtkiehoboeiengaaK30
import Derived.Laws.BitsAllLaws
namespace Go.Proofs.Ytkiehoboeiengaa
open Go Go.RowKit
set_option linter.unusedSimpArgs false
set_option linter.unusedVariables false

theorem str_get (xs : List Nat) (i : Nat) (hi : i < xs.length) (hx : xs.getD i 0 < 256) (h : i < (str xs).size) : ((str xs)[i]'h).toNat = xs.getD i 0 := by
  have e : (str xs)[i]'h = (UInt8.ofNat (xs.getD i 0)) := by
    simp [str, strOfNums, ByteArray.getElem_eq_getElem_data, List.getD_eq_getElem?_getD, List.getElem?_eq_getElem hi]
  rw [e, UInt8.toNat_ofNat']
  exact Nat.mod_eq_of_lt hx
set_option maxRecDepth 100000 in
set_option maxHeartbeats 4000000 in
theorem refTurned3_any (w : World) (b : List Nat) (hb : Dk.Bytes b) (p x : Nat) (hp : p < 64) (hx : x < 256) :
    Calls Try.prog 39 #[.string (str b), .int .i64 (p : Nat), .int .u8 (x : Nat)] w fun e w' => e = .returned (.string (str (Dk.turnB b p x))) ∧ Touch No w w' := by
  obtain ⟨B, hB⟩ : ∃ B, str b = B := ⟨_, rfl⟩
  have hsz : B.size = 64 := by rw [← hB, str_size, hb.len]
  rw [hB]
  have hpi : (p : Int) < 64 := by omega
  have hpi1 : (p : Int) ≤ 64 := by omega
  have hpi2 : (p : Int) + 1 ≤ 64 := by omega
  have hpi3 : 0 ≤ (p : Int) + 1 := by omega
  have hwr : IntKind.i64.wrap ((p : Int) + 1) = (p : Int) + 1 := IntWalk.i64_in _ (by omega)
  obtain ⟨B1, h1⟩ : ∃ B1, B.extract 0 p = B1 := ⟨_, rfl⟩
  obtain ⟨B2, h2⟩ : ∃ B2, B.extract (p + 1) 64 = B2 := ⟨_, rfl⟩
  obtain ⟨y, hy⟩ : ∃ y, b.getD p 0 = y := ⟨_, rfl⟩
  have hy256 : y < 256 := by
    rw [← hy, List.getD_eq_getElem?_getD, List.getElem?_eq_getElem (by rw [hb.len]; exact hp)]
    exact hb.lt _ (List.getElem_mem _)
  have hget : ∀ h, (B[p]'h).toNat = y := by
    subst hB
    intro h
    rw [str_get b p (by rw [hb.len]; exact hp) (by rw [hy]; exact hy256) h, hy]
  obtain ⟨v, hv⟩ : ∃ v, y ^^^ x = v := ⟨_, rfl⟩
  have hbx : bits BinOp.xor .u8 (y : Int) (x : Int) = (v : Nat) := by
    rw [← hv]; exact u8_xor_nat _ _ hy256 hx
  obtain ⟨C, hC⟩ : ∃ C, str [v] = C := ⟨_, rfl⟩
  have hcv : (convert 34 9 (.slice (some ⟨w.heap.size, 0, none⟩) 1 1)).run Try.prog ((w.alloc (.cells #[.int .u8 (v : Nat)] 5)).drew) = .ok (.string C) ((w.alloc (.cells #[.int .u8 (v : Nat)] 5)).drew) := by
    rw [← hC]
    exact conv_str _ _ 1 1 [v] rfl ((rd_new w 5 #[.int .u8 (v : Nat)] (0, 0)).no (Touch.refl No _).drew)
  have e1 : B1.size = p := by
    rw [← h1, ← hB, str_take, str_size, List.length_take, hb.len]; omega
  have e2 : B2.size = 63 - p := by
    rw [← h2, ← hB, str_extract, str_size, List.length_drop, List.length_take, hb.len]; omega
  have e3 : C.size = 1 := by rw [← hC, str_size]; rfl
  have hs1 : ¬ 9223372036854775807 < p + 1 := by omega
  have hs2 : ¬ 9223372036854775807 < p + 1 + (63 - p) := by omega
  have Hres : Hid (B1 ++ C ++ B2 = str (Dk.turnB b p x)) := by
    show _ = _
    rw [← h1, ← h2, ← hC, ← hB, str_take, str_extract, str_append, str_append, Dk.turnB, hy, hv, List.take_of_length_le (i := 64) (by rw [hb.len]; exact Nat.le_refl _)]
    congr 1
    rw [List.set_eq_take_append_cons_drop, if_pos (by rw [hb.len]; exact hp)]
    simp
  clear hB hy hv hC hb
  go_enter Try.func39, Try.ntmps39
  go_wp2_with fail
  go_region_law (fail)
  all_goals
    go_wp2
    go_ret
    exact ⟨(congrArg (fun s => Ending.returned (.string s)) Hres.out : Ending.returned (.string (B1 ++ C ++ B2)) = _), ((Touch.refl No w).alloc _).drew⟩

/-! ### one piece turned -/
theorem RdAt.seenSet {w : World} {g gn cn m : Nat} {D : Dk.Disk} {vs vw : Value} (h : RdAt w g D vs (.slice (some ⟨gn, 0, none⟩) m cn) vw) (hm : D.seen.length = m) {n j : Nat} {x y : Dk.Sec} {u : Value} (hx : D.seen[n]? = some x) (hj : j < 2) (hy : rsCells y = (rsCells x).set j u) (oky : y.Ok) :
    RdAt (w.setCell ⟨gn, n * 2 + j, none⟩ u) g ⟨D.sure, D.seen.set n y, D.waits⟩ vs (.slice (some ⟨gn, 0, none⟩) m cn) vw ∧ Touch (RdOf g vs (.slice (some ⟨gn, 0, none⟩) m cn) vw) w (w.setCell ⟨gn, n * 2 + j, none⟩ u) := by
  have t : Touch (One gn) w (w.setCell ⟨gn, n * 2 + j, none⟩ u) := (Touch.refl (One gn) w).setCell (p := ⟨gn, n * 2 + j, none⟩) (fun _ => rfl) u
  have hb : InBlock (.slice (some ⟨gn, 0, none⟩) m cn) gn := rfl
  have el : (D.seen.set n y).length = D.seen.length := List.length_set
  refine ⟨⟨⟨by rw [el]; exact h.ok.len, by rw [el]; exact h.ok.pos, by rw [el]; exact h.ok.top, h.ok.sure, fun s hs => ?_, fun z hz => by rw [el]; exact h.ok.waits z hz⟩, h.row.touch t (fun e => h.n0 (by rw [show g = gn from e]; exact hb)), rowTouch h.sure t (fun k hk e => h.sn k hk (by rw [show k = gn from e]; exact hb)), ?_, rowTouch h.waits t (fun k hk e => h.nw gn hb (by rw [← show k = gn from e]; exact hk)), h.s0, h.n0, h.w0, h.sn, h.sw, h.nw⟩, t.mono (fun k _ e => by rw [show k = gn from e]; exact Or.inr (Or.inr (Or.inl hb)))⟩
  · rcases List.mem_or_eq_of_mem_set hs with h' | h'
    · exact h.ok.seen s h'
    · rw [h']; exact oky
  · rw [el, hm]
    have h1 := h.seen
    rw [hm] at h1
    exact rows_put rsCells_length h1 hm hx hj hy
theorem RdAt.sureSet {w : World} {g gs cs m : Nat} {D : Dk.Disk} {vn vw : Value} (h : RdAt w g D (.slice (some ⟨gs, 0, none⟩) m cs) vn vw) (hm : D.sure.length = m) {n j : Nat} {x y : Dk.Sec} {u : Value} (hx : D.sure[n]? = some x) (hj : j < 2) (hy : rsCells y = (rsCells x).set j u) (oky : y.Ok) :
    RdAt (w.setCell ⟨gs, n * 2 + j, none⟩ u) g ⟨D.sure.set n y, D.seen, D.waits⟩ (.slice (some ⟨gs, 0, none⟩) m cs) vn vw ∧ Touch (RdOf g (.slice (some ⟨gs, 0, none⟩) m cs) vn vw) w (w.setCell ⟨gs, n * 2 + j, none⟩ u) := by
  have t : Touch (One gs) w (w.setCell ⟨gs, n * 2 + j, none⟩ u) := (Touch.refl (One gs) w).setCell (p := ⟨gs, n * 2 + j, none⟩) (fun _ => rfl) u
  have hb : InBlock (.slice (some ⟨gs, 0, none⟩) m cs) gs := rfl
  have el : (D.sure.set n y).length = D.sure.length := List.length_set
  refine ⟨⟨⟨by rw [el]; exact h.ok.len, h.ok.pos, h.ok.top, fun s hs => ?_, h.ok.seen, h.ok.waits⟩, h.row.touch t (fun e => h.s0 (by rw [show g = gs from e]; exact hb)), ?_, rowTouch h.seen t (fun k hk e => h.sn gs hb (by rw [← show k = gs from e]; exact hk)), rowTouch h.waits t (fun k hk e => h.sw gs hb (by rw [← show k = gs from e]; exact hk)), h.s0, h.n0, h.w0, h.sn, h.sw, h.nw⟩, t.mono (fun k _ e => by rw [show k = gs from e]; exact Or.inr (Or.inl hb))⟩
  · rcases List.mem_or_eq_of_mem_set hs with h' | h'
    · exact h.ok.sure s h'
    · rw [h']; exact oky
  · rw [el, hm]
    have h1 := h.sure
    rw [hm] at h1
    exact rows_put rsCells_length h1 hm hx hj hy
theorem RdAt.waitSet {w : World} {g gw cw m : Nat} {D : Dk.Disk} {vs vn : Value} (h : RdAt w g D vs vn (.slice (some ⟨gw, 0, none⟩) m cw)) (hm : D.waits.length = m) {n j : Nat} {x y : Dk.Wr} {u : Value} (hx : D.waits[n]? = some x) (hj : j < 3) (hy : rwCells y = (rwCells x).set j u) (oky : y.Ok D.seen.length) :
    RdAt (w.setCell ⟨gw, n * 3 + j, none⟩ u) g ⟨D.sure, D.seen, D.waits.set n y⟩ vs vn (.slice (some ⟨gw, 0, none⟩) m cw) ∧ Touch (RdOf g vs vn (.slice (some ⟨gw, 0, none⟩) m cw)) w (w.setCell ⟨gw, n * 3 + j, none⟩ u) := by
  have t : Touch (One gw) w (w.setCell ⟨gw, n * 3 + j, none⟩ u) := (Touch.refl (One gw) w).setCell (p := ⟨gw, n * 3 + j, none⟩) (fun _ => rfl) u
  have hb : InBlock (.slice (some ⟨gw, 0, none⟩) m cw) gw := rfl
  have el : (D.waits.set n y).length = D.waits.length := List.length_set
  refine ⟨⟨⟨h.ok.len, h.ok.pos, h.ok.top, h.ok.sure, h.ok.seen, fun s hs => ?_⟩, h.row.touch t (fun e => h.w0 (by rw [show g = gw from e]; exact hb)), rowTouch h.sure t (fun k hk e => h.sw k hk (by rw [show k = gw from e]; exact hb)), rowTouch h.seen t (fun k hk e => h.nw k hk (by rw [show k = gw from e]; exact hb)), ?_, h.s0, h.n0, h.w0, h.sn, h.sw, h.nw⟩, t.mono (fun k _ e => by rw [show k = gw from e]; exact Or.inr (Or.inr (Or.inr hb)))⟩
  · rcases List.mem_or_eq_of_mem_set hs with h' | h'
    · exact h.ok.waits s h'
    · rw [h']; exact oky
  · rw [el, hm]
    have h1 := h.waits
    rw [hm] at h1
    exact rows_put rwCells_length h1 hm hx hj hy
/-- the first so many of a list turned -/
def mid {α : Type} (f : α → α) (l : List α) (k : Nat) : List α := (l.take k).map f ++ l.drop k
section
variable {α : Type} {f : α → α} {l : List α} {k : Nat} {y : α}
theorem mid_zero : mid f l 0 = l := by simp [mid]
theorem mid_all (h : l.length = k) : mid f l k = l.map f := by rw [mid, List.take_of_length_le (Nat.le_of_eq h), List.drop_of_length_le (Nat.le_of_eq h), List.append_nil]
theorem mid_length : (mid f l k).length = l.length := by simp [mid]; omega
theorem mid_get (h : l[k]? = some y) : (mid f l k)[k]? = some y := by
  have hk := lt_of_get h
  rw [mid, List.getElem?_append_right (by simp; omega), List.length_map, List.length_take, List.getElem?_drop]
  rw [← h]; congr 1; omega
theorem mid_set (h : l[k]? = some y) : (mid f l k).set k (f y) = mid f l (k + 1) := by
  have hk := lt_of_get h
  have hd : l.drop k = y :: l.drop (k + 1) := by
    rw [List.drop_eq_getElem_cons hk]
    rw [List.getElem?_eq_getElem hk] at h
    rw [Option.some.inj h]
  have ht : l.take (k + 1) = l.take k ++ [y] := by
    rw [List.take_add_one, h]; rfl
  rw [mid, mid, ht, hd, List.set_append_right _ _ (by simp; omega), List.length_map, List.length_take, Nat.min_eq_left (Nat.le_of_lt hk), Nat.sub_self, List.set_cons_zero, List.map_append, List.append_assoc]
  rfl
theorem mid_same (h : l[k]? = some y) (hf : f y = y) : mid f l (k + 1) = mid f l k := by
  rw [← mid_set h, hf]
  have := mid_get (f := f) h
  refine List.ext_getElem? (fun i => ?_)
  rw [List.getElem?_set]
  split
  · rename_i e; subst e
    rw [this, if_pos (lt_of_get this)]
  · rfl
end
end Go.Proofs.Ytkiehoboeiengaa
