/-
  What comes in, opened: a list of acts as it is read (drydock/drydocklaw24.Act).
  How much a reading is ('bulk'), of lists and slices.
  What comes in, opened: acts, and how much they are together.
-/
import Derived.Test.YtnffigfafalocaaGreatDoorK01
import Derived.Test.YtnffigfafalocaaGreatDoorProg
import Derived.Laws.IdiomArrays
import Derived.Lib.SmallJoins
import Derived.Test.YtnffigfafalocaaGreatDoorRows
namespace Go.Proofs.YtnffigfafalocaaGreatDoor
open Go.ChangeShapes Go.WideShapes Go.ChangeAt Go.RowKit
set_option linter.unusedSimpArgs false

section
variable {H : Type} {enc : TypeId × Value → H} {w : World}

theorem cells_a_act : Tryz.prog.cellsOf 77 = 5 := by kernel_rfl
theorem cells_a_u8 : Tryz.prog.cellsOf 5 = 1 := by kernel_rfl
theorem cells_a_u32 : Tryz.prog.cellsOf 38 = 1 := by kernel_rfl
theorem cells_a_int : Tryz.prog.cellsOf 3 = 1 := by kernel_rfl
theorem cells_a_tensor : Tryz.prog.cellsOf 75 = 2 := by kernel_rfl
theorem cells_a_ints : Tryz.prog.cellsOf 72 = 1 := by kernel_rfl
theorem cells_a_n32 : Tryz.prog.cellsOf 73 = 1 := by kernel_rfl
theorem cells_a_ints_e : Tryz.prog.cellsOf 3 = 1 := by kernel_rfl
theorem bytes_a_ints : Tryz.prog.bytesOf 3 = 8 := by kernel_rfl
theorem cells_a_n32_e : Tryz.prog.cellsOf 21 = 1 := by kernel_rfl
theorem bytes_a_n32 : Tryz.prog.bytesOf 21 = 4 := by kernel_rfl
set_option maxRecDepth 100000 in
set_option maxHeartbeats 4000000 in
/-- one act -/
theorem open_a_deed {fuel : Nat} {cs : List Value} {x : DataW H × List MemPlace} {c o : Nat} (hc : ∀ j, j < 5 → w.cell? ⟨c, o + j, none⟩ = cs[j]?)
    (h : DataW.trod enc Tryz.prog w 0 (fun _ => true) true fuel 77 cs = some x) (hz : ∀ n ∈ DataW.weights Tryz.prog 77 x.1, n ≤ reachBytes) :
    ∃ d : ADeed, ADeedAt w c o d := by
  obtain ⟨xs, n, rfl, rfl, hlen, hxs, hf⟩ := DataW.trod_struct Tryz.underlying77 h
  rw [cells_a_act] at hlen
  have f0 : DataW.trod enc Tryz.prog w 0 (fun _ => true) true n 5 (List.take (Tryz.prog.cellsOf 5) (List.drop 0 cs)) = xs[0]? := hf 0 _ rfl
  rw [cells_a_u8] at f0
  have f1 : DataW.trod enc Tryz.prog w 0 (fun _ => true) true n 38 (List.take (Tryz.prog.cellsOf 38) (List.drop 1 cs)) = xs[1]? := hf 1 _ rfl
  rw [cells_a_u32] at f1
  have f2 : DataW.trod enc Tryz.prog w 0 (fun _ => true) true n 3 (List.take (Tryz.prog.cellsOf 3) (List.drop 2 cs)) = xs[2]? := hf 2 _ rfl
  rw [cells_a_int] at f2
  have f3 : DataW.trod enc Tryz.prog w 0 (fun _ => true) true n 75 (List.take (Tryz.prog.cellsOf 75) (List.drop 3 cs)) = xs[3]? := hf 3 _ rfl
  rw [cells_a_tensor] at f3
  match xs, hxs with
  | [x0, x1, x2, x3], _ =>
  match cs, hlen with
  | [c0, c1, c2, c3, c4], _ =>
    obtain ⟨i0, e0, _, w0⟩ := DataW.trod_int Tryz.underlying5 (show DataW.trod enc Tryz.prog w 0 (fun _ => true) true _ 5 [c0] = some x0 from f0)
    obtain ⟨i1, e1, _, w1⟩ := DataW.trod_int Tryz.underlying38 (show DataW.trod enc Tryz.prog w 0 (fun _ => true) true _ 38 [c1] = some x1 from f1)
    obtain ⟨i2, e2, _, w2⟩ := DataW.trod_int Tryz.underlying3 (show DataW.trod enc Tryz.prog w 0 (fun _ => true) true _ 3 [c2] = some x2 from f2)
    obtain ⟨ys3, n3, rfl, rfl, _, hys3, hg3⟩ := DataW.trod_struct Tryz.underlying75 (show DataW.trod enc Tryz.prog w 0 (fun _ => true) true n 75 [c3, c4] = some x3 from f3)
    have g3_0 : DataW.trod enc Tryz.prog w 0 (fun _ => true) true n3 72 (List.take (Tryz.prog.cellsOf 72) (List.drop 0 [c3, c4])) = ys3[0]? := hg3 0 _ rfl
    rw [cells_a_ints] at g3_0
    have g3_1 : DataW.trod enc Tryz.prog w 0 (fun _ => true) true n3 73 (List.take (Tryz.prog.cellsOf 73) (List.drop 1 [c3, c4])) = ys3[1]? := hg3 1 _ rfl
    rw [cells_a_n32] at g3_1
    obtain ⟨y3_0, y3_1, rfl⟩ : ∃ y3_0 y3_1, ys3 = [y3_0, y3_1] := by
      match ys3, hys3 with
      | [a0, a1], _ => exact ⟨a0, a1, rfl⟩
    obtain ⟨a3_0, cap3_0, z3_0, e3_0, hl3_0, hm3_0, hr3_0, hwf3_0, hwt3_0, _⟩ := open_list Tryz.underlying72 Tryz.underlying3 cells_a_ints_e (show DataW.trod enc Tryz.prog w 0 (fun _ => true) true _ 72 [c3] = some y3_0 from g3_0)
    obtain ⟨a3_1, cap3_1, z3_1, e3_1, hl3_1, hm3_1, hr3_1, hwf3_1, hwt3_1, _⟩ := open_list Tryz.underlying73 Tryz.underlying21 cells_a_n32_e (show DataW.trod enc Tryz.prog w 0 (fun _ => true) true _ 73 [c4] = some y3_1 from g3_1)
    simp only [List.cons.injEq, and_true] at e0 e1 e2 e3_0 e3_1
    subst e0 e1 e2 e3_0 e3_1
    have b0 := bounds_u8 w0
    have b1 := bounds_u32 w1
    have b2 := bounds_i64 w2
    have hcap3_0 : (cap3_0 : Int) * 8 ≤ 140737488355328 := by
      rcases hwt3_0 with h0 | h0
      · omega
      · have : cap3_0 * Tryz.prog.bytesOf 3 ≤ reachBytes := hz _ (by
          simp only [DataW.weights, Tryz.underlying77, Tryz.underlying75, DataW.weightsEach, List.map_cons, List.map_nil, List.mem_append]
          exact Or.inr (Or.inr (Or.inr (Or.inl (Or.inl h0)))))
        rw [bytes_a_ints] at this
        unfold reachBytes at this
        omega
    have hcap3_1 : (cap3_1 : Int) * 4 ≤ 140737488355328 := by
      rcases hwt3_1 with h0 | h0
      · omega
      · have : cap3_1 * Tryz.prog.bytesOf 21 ≤ reachBytes := hz _ (by
          simp only [DataW.weights, Tryz.underlying77, Tryz.underlying75, DataW.weightsEach, List.map_cons, List.map_nil, List.mem_append]
          exact Or.inr (Or.inr (Or.inr (Or.inl (Or.inr (Or.inl h0))))))
        rw [bytes_a_n32] at this
        unfold reachBytes at this
        omega
    refine ⟨⟨i0.toNat, i1.toNat, i2, z3_0, a3_0, cap3_0, z3_1, a3_1, cap3_1⟩, { cell := ?_, kind_lt := ?_, id_lt := ?_, bytes_in := ?_, t_s_rd := ?_, t_s_le := ?_, t_s_max := ?_, t_s_each := ?_, t_l_rd := ?_, t_l_le := ?_, t_l_max := ?_, t_l_each := ?_ }⟩
    · intro j hj
      rw [hc j hj]
      simp only [ADeed.cells, List.length_map, Int.toNat_of_nonneg b0.1, Int.toNat_of_nonneg b1.1]
    · show i0.toNat < 256
      omega
    · show i1.toNat < 4294967296
      omega
    · exact b2
    · exact hr3_0
    · exact hl3_0
    · exact hcap3_0
    · exact hwf3_0
    · exact hr3_1
    · exact hl3_1
    · exact hcap3_1
    · exact hwf3_1

end
end Go.Proofs.YtnffigfafalocaaGreatDoor
namespace Go.Proofs.YtnffigfafalocaaGreatDoor
open Go.ChangeShapes Go.WideShapes Go.ChangeAt Go.RowKit
set_option linter.unusedSimpArgs false
set_option linter.unusedVariables false
theorem bulk_one {H : Type} (d : DataW H) : 1 ≤ Rows.uptoBulk d := by
  cases d with
  | lit l => cases l <;> simp [Rows.uptoBulk]
  | nil => simp [Rows.uptoBulk]
  | ptr d => simp [Rows.uptoBulk]
  | slice elems spare => simp [Rows.uptoBulk]
  | agg parts => simp [Rows.uptoBulk]
  | iface t d => simp [Rows.uptoBulk]
  | map entries => simp [Rows.uptoBulk]
  | held h => simp [Rows.uptoBulk]
theorem bulk_len {H : Type} (l : List (DataW H)) : l.length ≤ Rows.uptoBulkAll l := by
  induction l with
  | nil => simp [Rows.uptoBulkAll]
  | cons x r ih => have := bulk_one x; simp only [Rows.uptoBulkAll, List.length_cons]; omega
theorem bulk_part {H : Type} {d : DataW H} {l : List (DataW H)} (h : d ∈ l) : Rows.uptoBulk d ≤ Rows.uptoBulkAll l := by
  induction l with
  | nil => cases h
  | cons x r ih =>
    simp only [Rows.uptoBulkAll]
    rcases List.mem_cons.1 h with e | e
    · subst e; omega
    · have := ih e; omega
section
variable {H : Type} {enc : TypeId × Value → H} {w : World}
/-- a slice is as long as its reading is great -/
theorem bulk_slice {t e : TypeId} {fuel : Nat} {cs : List Value} {x : DataW H × List MemPlace} (ht : Tryz.prog.underlying t = some (.slice e)) (h : DataW.trod enc Tryz.prog w 0 (fun _ => true) true fuel t cs = some x)
    {a : Option Addr} {n cap : Nat} (hc : cs = [.slice a n cap]) : n + 1 ≤ Rows.uptoBulk x.1 := by
  subst hc
  rcases DataW.trod_slice ht h with ⟨hh, rfl⟩ | ⟨a', len, cap', elems, rest, m, rfl, hh, rfl, hb, hl, hm, hlen, hel, _, _⟩
  · simp only [List.cons.injEq, Value.slice.injEq, and_true] at hh
    obtain ⟨_, rfl, _⟩ := hh
    simp [Rows.uptoBulk]
  · simp only [List.cons.injEq, Value.slice.injEq, and_true] at hh
    obtain ⟨_, rfl, _⟩ := hh
    have := bulk_len (elems.map (·.1))
    rw [List.length_map] at this
    simp only [Rows.uptoBulk]
    omega
theorem bulk_sum {α : Type} : ∀ (l : List α) (m : List (DataW H)) (f : α → Nat), l.length = m.length → (∀ i (h1 : i < l.length) (h2 : i < m.length), f l[i] ≤ Rows.uptoBulk m[i]) → (l.map f).sum ≤ Rows.uptoBulkAll m
  | [], [], f, _, _ => Nat.le_refl _
  | x :: l, y :: m, f, h, hf => by
    simp only [List.map_cons, List.sum_cons, Rows.uptoBulkAll]
    have h0 := hf 0 (Nat.zero_lt_succ _) (Nat.zero_lt_succ _)
    have h1 := bulk_sum l m f (by simpa using h) (fun i h1 h2 => hf (i + 1) (by simpa using h1) (by simpa using h2))
    simp only [List.getElem_cons_zero] at h0
    omega
end
end Go.Proofs.YtnffigfafalocaaGreatDoor
namespace Go.Proofs.YtnffigfafalocaaGreatDoor
open Go.ChangeShapes Go.WideShapes Go.ChangeAt Go.RowKit
set_option linter.unusedSimpArgs false
set_option linter.unusedVariables false
section
variable {H : Type} {enc : TypeId × Value → H} {w : World}
set_option maxRecDepth 100000 in
theorem bulk_a_deed {fuel : Nat} {cs : List Value} {x : DataW H × List MemPlace} {c o : Nat} {d : ADeed} (hc : ∀ j, j < 5 → w.cell? ⟨c, o + j, none⟩ = cs[j]?)
    (h : DataW.trod enc Tryz.prog w 0 (fun _ => true) true fuel 77 cs = some x) (hd : ADeedAt w c o d) : d.t_s.length + d.t_l.length + 4 ≤ Rows.uptoBulk x.1 := by
  obtain ⟨xs, n, rfl, rfl, hlen, hxs, hf⟩ := DataW.trod_struct Tryz.underlying77 h
  rw [cells_a_act] at hlen
  have f3 : DataW.trod enc Tryz.prog w 0 (fun _ => true) true n 75 (List.take (Tryz.prog.cellsOf 75) (List.drop 3 cs)) = xs[3]? := hf 3 _ rfl
  rw [cells_a_tensor] at f3
  match xs, hxs with
  | [x0, x1, x2, x3], _ =>
  match cs, hlen with
  | [c0, c1, c2, c3, c4], _ =>
    obtain ⟨ys3, n3, rfl, rfl, _, hys3, hg3⟩ := DataW.trod_struct Tryz.underlying75 (show DataW.trod enc Tryz.prog w 0 (fun _ => true) true n 75 [c3, c4] = some x3 from f3)
    have g3_0 : DataW.trod enc Tryz.prog w 0 (fun _ => true) true n3 72 (List.take (Tryz.prog.cellsOf 72) (List.drop 0 [c3, c4])) = ys3[0]? := hg3 0 _ rfl
    rw [cells_a_ints] at g3_0
    have g3_1 : DataW.trod enc Tryz.prog w 0 (fun _ => true) true n3 73 (List.take (Tryz.prog.cellsOf 73) (List.drop 1 [c3, c4])) = ys3[1]? := hg3 1 _ rfl
    rw [cells_a_n32] at g3_1
    obtain ⟨y3_0, y3_1, rfl⟩ : ∃ y3_0 y3_1, ys3 = [y3_0, y3_1] := by
      match ys3, hys3 with
      | [a0, a1], _ => exact ⟨a0, a1, rfl⟩
    have e3 := (hc 3 (by decide)).symm.trans (hd.cell 3 (by decide))
    have q3 : c3 = .slice d.t_s_a d.t_s.length d.t_s_cap := by simpa [ADeed.cells] using e3
    have e4 := (hc 4 (by decide)).symm.trans (hd.cell 4 (by decide))
    have q4 : c4 = .slice d.t_l_a d.t_l.length d.t_l_cap := by simpa [ADeed.cells] using e4
    have hb3 := bulk_slice Tryz.underlying72 (show DataW.trod enc Tryz.prog w 0 (fun _ => true) true n3 72 [c3] = some y3_0 from g3_0) (a := d.t_s_a) (n := d.t_s.length) (cap := d.t_s_cap) (by rw [q3])
    have hb4 := bulk_slice Tryz.underlying73 (show DataW.trod enc Tryz.prog w 0 (fun _ => true) true n3 73 [c4] = some y3_1 from g3_1) (a := d.t_l_a) (n := d.t_l.length) (cap := d.t_l_cap) (by rw [q4])
    have h0 := bulk_one x0.1
    have h1 := bulk_one x1.1
    show _ ≤ Rows.uptoBulk (.agg [x0.1, x1.1, x2.1, .agg [y3_0.1, y3_1.1]])
    simp only [Rows.uptoBulk, Rows.uptoBulkAll]
    omega
set_option maxRecDepth 100000 in
/-- a slice of acts that came in, with how much it is -/
theorem open_a_deedsB {fuel : Nat} {cs : List Value} {x : DataW H × List MemPlace}
    (h : DataW.trod enc Tryz.prog w 0 (fun _ => true) true fuel 47 cs = some x) (hz : ∀ n ∈ DataW.weights Tryz.prog 47 x.1, n ≤ reachBytes) (hu : Rows.uptoBulk x.1 ≤ 1048576) :
    ∃ ad n cap acts, cs = [.slice ad n cap] ∧ acts.length = n ∧ IsADeeds w ad acts ∧ (acts.map fun d => d.t_s.length + d.t_l.length + 4).sum ≤ 1048576 := by
  rcases DataW.trod_slice Tryz.underlying47 h with ⟨rfl, rfl⟩ | ⟨a, len, cap, elems, rest, n, rfl, rfl, rfl, hb, hl, hm, hlen, hel, _, _⟩
  · exact ⟨none, 0, 0, [], rfl, rfl, fun i x hx => by simp at hx, Nat.zero_le _⟩
  · rw [cells_a_act] at hel
    have each : ∀ i, i < len → ∃ d : ADeed, (a = ⟨a.block, a.off, none⟩ ∧ ADeedAt w a.block (a.off + i * 5) d) ∧ ∀ (hi : i < elems.length), d.t_s.length + d.t_l.length + 4 ≤ Rows.uptoBulk elems[i].1 := by
      intro i hi
      have h1 := hel i hi
      rw [List.getElem?_eq_getElem (by omega)] at h1
      obtain ⟨cs, hcs, htr⟩ := Option.bind_eq_some_iff.1 h1
      have hsp0 : a = ⟨a.block, a.off, none⟩ := by
        have h0 := hel 0 (by omega)
        rw [List.getElem?_eq_getElem (by omega)] at h0
        obtain ⟨cs0, hcs0, _⟩ := Option.bind_eq_some_iff.1 h0
        have := (cells_elem hcs0 (by decide)).2.1
        simpa [Addr.add] using this
      have hadd : a.add (i * 5) = ⟨a.block, a.off + i * 5, none⟩ := by rw [hsp0, add_plain]
      rw [hadd] at hcs
      obtain ⟨_, _, hcell⟩ := cells_elem hcs (by decide)
      obtain ⟨d, hd⟩ := open_a_deed hcell htr (fun m hm' => hz m (by
        have hw : ∀ (l : List (DataW H × List MemPlace)) (y : DataW H × List MemPlace), y ∈ l → m ∈ DataW.weights Tryz.prog 77 y.1 → m ∈ DataW.weightsAll Tryz.prog 77 (l.map (·.1)) := by
          intro l
          induction l with
          | nil => intro y hy; cases hy
          | cons z l ih =>
            intro y hy hm2
            simp only [List.map_cons, DataW.weightsAll, List.mem_append]
            rcases List.mem_cons.1 hy with rfl | hy
            · exact Or.inl hm2
            · exact Or.inr (ih y hy hm2)
        simp only [DataW.weights, Tryz.underlying47, List.mem_cons, List.mem_append]
        exact Or.inr (Or.inl (hw elems _ (List.getElem_mem _) hm'))))
      exact ⟨d, ⟨hsp0, hd⟩, fun hi => bulk_a_deed hcell htr hd⟩
    obtain ⟨acts, hacts, hq⟩ := list_choose len each
    refine ⟨some a, len, cap, acts, rfl, hacts, fun i d hd => ?_, ?_⟩
    · obtain ⟨⟨e, hd'⟩, _⟩ := hq i d hd
      exact ⟨a.block, a.off, by rw [← e], hd'⟩
    · have hs := bulk_sum acts (elems.map (·.1)) (fun d => d.t_s.length + d.t_l.length + 4) (by rw [hacts, List.length_map, hlen]) (fun i h1 h2 => by
        have := (hq i acts[i] (List.getElem?_eq_getElem h1)).2 (by rw [List.length_map] at h2; exact h2)
        simpa using this)
      have : Rows.uptoBulkAll (elems.map (·.1)) ≤ 1048576 := by
        have h2 := hu
        simp only [Rows.uptoBulk] at h2
        omega
      omega
end
end Go.Proofs.YtnffigfafalocaaGreatDoor
