/-
  Package disks by its own text: a disk in memory; ask, Len, Waits.
-/
import Derived.Test.YtkiehoboeiengaaRows
import Derived.Test.YtkiehoboeiengaaK05
import Derived.Lib.SliceRun
import Derived.Deep.LoopGhost
namespace Go.Proofs.Ytkiehoboeiengaa
open Go Go.RowKit

theorem sec_cell (s : Dk.Sec) {j : Nat} (hj : j < 64) : (secCells s)[j]? = some (.int .u8 ((s.b.getD j 0 : Nat) : Int)) := by
  rw [secCells, List.getElem?_append_left (by simp; exact hj), List.getElem?_map, List.getElem?_range hj]; rfl
theorem sec_bad (s : Dk.Sec) : (secCells s)[64]? = some (.int .i64 (s.bad : Nat)) := by
  rw [secCells, List.getElem?_append_right (by simp)]; simp
theorem wr_n (x : Dk.Wr) : (wrCells x)[0]? = some (.int .i64 (x.n : Nat)) := rfl
theorem wr_cell (x : Dk.Wr) {j : Nat} (hj : j < 64) : (wrCells x)[1 + j]? = some (.int .u8 ((x.b.getD j 0 : Nat) : Int)) := by
  rw [wrCells, Nat.add_comm, List.getElem?_cons_succ, List.getElem?_append_left (by simp; exact hj), List.getElem?_map, List.getElem?_range hj]; rfl
theorem wr_elder (x : Dk.Wr) : (wrCells x)[65]? = some (.int .i64 (x.elder : Nat)) := by
  rw [wrCells, List.getElem?_cons_succ, List.getElem?_append_right (by simp)]; simp

/-- a disk in its blocks: d itself, what is sure, what is seen, what waits -/
structure DiskIn (w : World) (d gs gn cs cn : Nat) (rs rn : List Value) (vw : Value) (D : Dk.Disk) : Prop where
  ok : Dk.Ok D
  c0 : w.cell? ⟨d, 0, none⟩ = some (.slice (some ⟨gs, 0, none⟩) D.sure.length cs)
  c1 : w.cell? ⟨d, 1, none⟩ = some (.slice (some ⟨gn, 0, none⟩) D.seen.length cn)
  c2 : w.cell? ⟨d, 2, none⟩ = some vw
  soft : ∀ o, w.frozen? ⟨d, o, none⟩ = false
  sure : Row w gs 87 (D.sure.flatMap secCells ++ rs)
  seen : Row w gn 87 (D.seen.flatMap secCells ++ rn)
  lcs : D.sure.length ≤ cs
  lcn : D.seen.length ≤ cn
  mcs : cs ≤ maxLen
  mcn : cn ≤ maxLen
  waits : w.ownsRow 0 97 66 vw D.waits.length (D.waits.flatMap wrCells)
  ne : d ≠ gs ∧ d ≠ gn ∧ gs ≠ gn
  wne : ∀ k, InBlock vw k → k ≠ d ∧ k ≠ gs ∧ k ≠ gn

/-- a disk whose blocks are among O -/
def DiskAt (w : World) (d : Nat) (D : Dk.Disk) (O : Nat → Prop) : Prop :=
  ∃ gs gn cs cn rs rn vw, DiskIn w d gs gn cs cn rs rn vw D ∧ O d ∧ O gs ∧ O gn ∧ (∀ k, InBlock vw k → O k)

theorem DiskIn.lt {w : World} {d gs gn cs cn : Nat} {rs rn : List Value} {vw : Value} {D : Dk.Disk} (h : DiskIn w d gs gn cs cn rs rn vw D) : d < w.heap.size := lt_of_cell h.c0
theorem DiskAt.lt {w : World} {d : Nat} {D : Dk.Disk} {O : Nat → Prop} (h : DiskAt w d D O) : d < w.heap.size := by
  obtain ⟨gs, gn, cs, cn, rs, rn, vw, h, _⟩ := h; exact h.lt
theorem DiskAt.ok {w : World} {d : Nat} {D : Dk.Disk} {O : Nat → Prop} (h : DiskAt w d D O) : Dk.Ok D := by
  obtain ⟨gs, gn, cs, cn, rs, rn, vw, h, _⟩ := h; exact h.ok
theorem rowTouch {F : Nat → Prop} {w w' : World} {base e size n : Nat} {v : Value} {xs : List Value} (h : w.ownsRow base e size v n xs) (t : Touch F w w') (hF : ∀ b, InBlock v b → ¬ F b) : w'.ownsRow base e size v n xs := by
  obtain ⟨hl, h⟩ := h
  refine ⟨hl, ?_⟩
  rcases h with h | ⟨g, cap, cur, hv, hg, hh, r⟩
  · exact Or.inl h
  · have hb : g < w.heap.size := by
      by_cases hb : g < w.heap.size
      · exact hb
      · simp [Array.getElem?_eq_none (Nat.le_of_not_lt hb)] at hh
    exact Or.inr ⟨g, cap, cur, hv, hg, by rw [t.block g hb (hF g (by rw [hv]; rfl))]; exact hh, r⟩
theorem rowBlock {w : World} {base e size n : Nat} {v : Value} {xs : List Value} (h : w.ownsRow base e size v n xs) {k : Nat} (hk : InBlock v k) : base ≤ k ∧ k < w.heap.size := by
  obtain ⟨hl, h⟩ := h
  rcases h with ⟨rfl, _⟩ | ⟨g, cap, cur, rfl, hg, hh, r⟩
  · cases hk
  · have e : g = k := by simpa [InBlock, Value.ownBlock] using hk
    subst e
    refine ⟨hg, ?_⟩
    by_cases hb : g < w.heap.size
    · exact hb
    · simp [Array.getElem?_eq_none (Nat.le_of_not_lt hb)] at hh
theorem DiskIn.touch {F : Nat → Prop} {w w' : World} {d gs gn cs cn : Nat} {rs rn : List Value} {vw : Value} {D : Dk.Disk} (h : DiskIn w d gs gn cs cn rs rn vw D) (t : Touch F w w') (hd : ¬ F d) (hs : ¬ F gs) (hn : ¬ F gn) (hw : ∀ k, InBlock vw k → ¬ F k) :
    DiskIn w' d gs gn cs cn rs rn vw D :=
  ⟨h.ok, t.cell hd h.c0, t.cell hd h.c1, t.cell hd h.c2, fun o => (t.frozen h.lt hd o).trans (h.soft o), h.sure.touch t hs, h.seen.touch t hn, h.lcs, h.lcn, h.mcs, h.mcn, rowTouch h.waits t hw, h.ne, h.wne⟩
theorem DiskAt.touch {F : Nat → Prop} {w w' : World} {d : Nat} {D : Dk.Disk} {O : Nat → Prop} (h : DiskAt w d D O) (t : Touch F w w') (hF : ∀ k, k < w.heap.size → O k → ¬ F k) : DiskAt w' d D O := by
  obtain ⟨gs, gn, cs, cn, rs, rn, vw, h, o1, o2, o3, o4⟩ := h
  exact ⟨gs, gn, cs, cn, rs, rn, vw, h.touch t (hF _ h.lt o1) (hF _ h.sure.lt o2) (hF _ h.seen.lt o3) (fun k hk => hF k (rowBlock h.waits hk).2 (o4 k hk)), o1, o2, o3, o4⟩
theorem DiskAt.no {w w' : World} {d : Nat} {D : Dk.Disk} {O : Nat → Prop} (h : DiskAt w d D O) (t : Touch No w w') : DiskAt w' d D O := h.touch t (fun _ _ _ f => f)

/-- p is no disk that a call made -/
def NotDisk (w : World) (p : Value) : Prop := p = .pointer none ∨ ∃ b, p = .pointer (some ⟨b, 0, none⟩) ∧ w.cell? ⟨b, 1, none⟩ = some (.slice none 0 0)

/-- what ask says of a disk -/
def askSays (len : Nat) (n : Int) : Nat := if 0 ≤ n ∧ n < len then 0 else 1

set_option maxHeartbeats 400000 in
theorem ask_not (w : World) (p : Value) (n : Int) (h : NotDisk w p) : Calls Try.prog 37 #[p, .int .i64 n] w fun e w' => e = .returned (.int .i64 2) ∧ w = w' := by
  have hq := fun wx => Lib.run_eql_slice_nil (P := Try.prog) wx 76 87 none 0 0 0 0 Try.underlying76
  rcases h with rfl | ⟨b, rfl, h⟩
  all_goals
    go_enter Try.func37, Try.ntmps37
    go_wp2
    go_ret
    exact ⟨rfl, rfl⟩

set_option maxHeartbeats 400000 in
theorem ask_any (w : World) (d : Nat) (D : Dk.Disk) (O : Nat → Prop) (n : Int) (h : DiskAt w d D O) :
    Calls Try.prog 37 #[.pointer (some ⟨d, 0, none⟩), .int .i64 n] w fun e w' => e = .returned (.int .i64 (askSays D.seen.length n : Nat)) ∧ w = w' := by
  obtain ⟨gs, gn, cs, cn, rs, rn, vw, h, _⟩ := h
  have hq := fun wx => Lib.run_eql_slice_nil (P := Try.prog) wx 76 87 (some ⟨gn, 0, none⟩) D.seen.length cn 0 0 Try.underlying76
  have hc := h.c1
  have Fin : Hid (∀ r : Nat, ((0 ≤ n ∧ n < D.seen.length) ∧ r = 0 ∨ (n < 0 ∨ D.seen.length ≤ n) ∧ r = 1) → askSays D.seen.length n = r) := fun r hr => by
    unfold askSays
    rcases hr with ⟨h1, rfl⟩ | ⟨h1, rfl⟩
    · rw [if_pos h1]
    · rw [if_neg (by omega)]
  clear h
  generalize D.seen.length = m at *
  by_cases h0 : n < 0
  · go_enter Try.func37, Try.ntmps37
    go_wp2
    go_ret
    exact ⟨by rw [Fin.out 1 (Or.inr ⟨Or.inl h0, rfl⟩)]; rfl, rfl⟩
  · by_cases h1 : n < m
    · have h1' : ¬ (m : Int) ≤ n := by omega
      go_enter Try.func37, Try.ntmps37
      go_wp2
      go_ret
      exact ⟨by rw [Fin.out 0 (Or.inl ⟨⟨by omega, h1⟩, rfl⟩)]; rfl, rfl⟩
    · have h1' : (m : Int) ≤ n := by omega
      go_enter Try.func37, Try.ntmps37
      go_wp2
      go_ret
      exact ⟨by rw [Fin.out 1 (Or.inr ⟨Or.inr h1', rfl⟩)]; rfl, rfl⟩
end Go.Proofs.Ytkiehoboeiengaa
