/-
  What comes in, opened: a list of acts as it is read (drydock/drydocklaw24.Act).
-/
import Derived.Test.YtnjdcpbaippdlaaOpen
import Derived.Test.YtnjdcpbaippdlaaProg
import Derived.Laws.IdiomArrays
import Derived.Lib.SmallJoins
import Derived.Test.YtnjdcpbaippdlaaAAct
namespace Go.Proofs.Ytnjdcpbaippdlaa
open Go.ChangeShapes Go.WideShapes Go.ChangeAt Go.RowKit
set_option linter.unusedSimpArgs false

section
variable {H : Type} {enc : TypeId × Value → H} {w : World}

theorem cells_a_act : Try.prog.cellsOf 37 = 5 := by kernel_rfl
theorem cells_a_u8 : Try.prog.cellsOf 5 = 1 := by kernel_rfl
theorem cells_a_u32 : Try.prog.cellsOf 31 = 1 := by kernel_rfl
theorem cells_a_int : Try.prog.cellsOf 3 = 1 := by kernel_rfl
theorem cells_a_tensor : Try.prog.cellsOf 35 = 2 := by kernel_rfl
theorem cells_a_ints : Try.prog.cellsOf 32 = 1 := by kernel_rfl
theorem cells_a_n32 : Try.prog.cellsOf 33 = 1 := by kernel_rfl
theorem cells_a_ints_e : Try.prog.cellsOf 3 = 1 := by kernel_rfl
theorem bytes_a_ints : Try.prog.bytesOf 3 = 8 := by kernel_rfl
theorem cells_a_n32_e : Try.prog.cellsOf 21 = 1 := by kernel_rfl
theorem bytes_a_n32 : Try.prog.bytesOf 21 = 4 := by kernel_rfl
set_option maxRecDepth 100000 in
set_option maxHeartbeats 4000000 in
/-- one act -/
theorem open_a_deed {fuel : Nat} {cs : List Value} {x : DataW H × List MemPlace} {c o : Nat} (hc : ∀ j, j < 5 → w.cell? ⟨c, o + j, none⟩ = cs[j]?)
    (h : DataW.trod enc Try.prog w 0 (fun _ => true) true fuel 37 cs = some x) (hz : ∀ n ∈ DataW.weights Try.prog 37 x.1, n ≤ reachBytes) :
    ∃ d : ADeed, ADeedAt w c o d := by
  obtain ⟨xs, n, rfl, rfl, hlen, hxs, hf⟩ := DataW.trod_struct Try.underlying37 h
  rw [cells_a_act] at hlen
  have f0 : DataW.trod enc Try.prog w 0 (fun _ => true) true n 5 (List.take (Try.prog.cellsOf 5) (List.drop 0 cs)) = xs[0]? := hf 0 _ rfl
  rw [cells_a_u8] at f0
  have f1 : DataW.trod enc Try.prog w 0 (fun _ => true) true n 31 (List.take (Try.prog.cellsOf 31) (List.drop 1 cs)) = xs[1]? := hf 1 _ rfl
  rw [cells_a_u32] at f1
  have f2 : DataW.trod enc Try.prog w 0 (fun _ => true) true n 3 (List.take (Try.prog.cellsOf 3) (List.drop 2 cs)) = xs[2]? := hf 2 _ rfl
  rw [cells_a_int] at f2
  have f3 : DataW.trod enc Try.prog w 0 (fun _ => true) true n 35 (List.take (Try.prog.cellsOf 35) (List.drop 3 cs)) = xs[3]? := hf 3 _ rfl
  rw [cells_a_tensor] at f3
  match xs, hxs with
  | [x0, x1, x2, x3], _ =>
  match cs, hlen with
  | [c0, c1, c2, c3, c4], _ =>
    obtain ⟨i0, e0, _, w0⟩ := DataW.trod_int Try.underlying5 (show DataW.trod enc Try.prog w 0 (fun _ => true) true _ 5 [c0] = some x0 from f0)
    obtain ⟨i1, e1, _, w1⟩ := DataW.trod_int Try.underlying31 (show DataW.trod enc Try.prog w 0 (fun _ => true) true _ 31 [c1] = some x1 from f1)
    obtain ⟨i2, e2, _, w2⟩ := DataW.trod_int Try.underlying3 (show DataW.trod enc Try.prog w 0 (fun _ => true) true _ 3 [c2] = some x2 from f2)
    obtain ⟨ys3, n3, rfl, rfl, _, hys3, hg3⟩ := DataW.trod_struct Try.underlying35 (show DataW.trod enc Try.prog w 0 (fun _ => true) true n 35 [c3, c4] = some x3 from f3)
    have g3_0 : DataW.trod enc Try.prog w 0 (fun _ => true) true n3 32 (List.take (Try.prog.cellsOf 32) (List.drop 0 [c3, c4])) = ys3[0]? := hg3 0 _ rfl
    rw [cells_a_ints] at g3_0
    have g3_1 : DataW.trod enc Try.prog w 0 (fun _ => true) true n3 33 (List.take (Try.prog.cellsOf 33) (List.drop 1 [c3, c4])) = ys3[1]? := hg3 1 _ rfl
    rw [cells_a_n32] at g3_1
    obtain ⟨y3_0, y3_1, rfl⟩ : ∃ y3_0 y3_1, ys3 = [y3_0, y3_1] := by
      match ys3, hys3 with
      | [a0, a1], _ => exact ⟨a0, a1, rfl⟩
    obtain ⟨a3_0, cap3_0, z3_0, e3_0, hl3_0, hm3_0, hr3_0, hwf3_0, hwt3_0, _⟩ := open_list Try.underlying32 Try.underlying3 cells_a_ints_e (show DataW.trod enc Try.prog w 0 (fun _ => true) true _ 32 [c3] = some y3_0 from g3_0)
    obtain ⟨a3_1, cap3_1, z3_1, e3_1, hl3_1, hm3_1, hr3_1, hwf3_1, hwt3_1, _⟩ := open_list Try.underlying33 Try.underlying21 cells_a_n32_e (show DataW.trod enc Try.prog w 0 (fun _ => true) true _ 33 [c4] = some y3_1 from g3_1)
    simp only [List.cons.injEq, and_true] at e0 e1 e2 e3_0 e3_1
    subst e0 e1 e2 e3_0 e3_1
    have b0 := bounds_u8 w0
    have b1 := bounds_u32 w1
    have b2 := bounds_i64 w2
    have hcap3_0 : (cap3_0 : Int) * 8 ≤ 140737488355328 := by
      rcases hwt3_0 with h0 | h0
      · omega
      · have : cap3_0 * Try.prog.bytesOf 3 ≤ reachBytes := hz _ (by
          simp only [DataW.weights, Try.underlying37, Try.underlying35, DataW.weightsEach, List.map_cons, List.map_nil, List.mem_append]
          exact Or.inr (Or.inr (Or.inr (Or.inl (Or.inl h0)))))
        rw [bytes_a_ints] at this
        unfold reachBytes at this
        omega
    have hcap3_1 : (cap3_1 : Int) * 4 ≤ 140737488355328 := by
      rcases hwt3_1 with h0 | h0
      · omega
      · have : cap3_1 * Try.prog.bytesOf 21 ≤ reachBytes := hz _ (by
          simp only [DataW.weights, Try.underlying37, Try.underlying35, DataW.weightsEach, List.map_cons, List.map_nil, List.mem_append]
          exact Or.inr (Or.inr (Or.inr (Or.inl (Or.inr (Or.inl h0))))))
        rw [bytes_a_n32] at this
        unfold reachBytes at this
        omega
    refine ⟨⟨i0.toNat, i1.toNat, i2, z3_0, a3_0, cap3_0, z3_1, a3_1, cap3_1⟩, { cell := ?_, kind_lt := ?_, id_lt := ?_, bytes_in := ?_, t_s_rd := ?_, t_s_le := ?_, t_s_max := ?_, t_s_each := ?_, t_l_rd := ?_, t_l_le := ?_, t_l_max := ?_, t_l_each := ?_ }⟩
    · intro j hj
      rw [hc j hj]
      simp only [ADeed.cells, List.length_map, Int.toNat_of_nonneg b0.1, Int.toNat_of_nonneg b1.1]
    · show i0.toNat < 256
      omega
    · show i1.toNat < 4294967296
      omega
    · exact b2
    · exact hr3_0
    · exact hl3_0
    · exact hcap3_0
    · exact hwf3_0
    · exact hr3_1
    · exact hl3_1
    · exact hcap3_1
    · exact hwf3_1

set_option maxRecDepth 100000 in
/-- a slice of acts that came in -/
theorem open_a_deeds {fuel : Nat} {cs : List Value} {x : DataW H × List MemPlace}
    (h : DataW.trod enc Try.prog w 0 (fun _ => true) true fuel 23 cs = some x) (hz : ∀ n ∈ DataW.weights Try.prog 23 x.1, n ≤ reachBytes) :
    ∃ ad n cap acts, cs = [.slice ad n cap] ∧ acts.length = n ∧ (n : Int) ≤ 9223372036854775807 ∧ IsADeeds w ad acts := by
  rcases DataW.trod_slice Try.underlying23 h with ⟨rfl, rfl⟩ | ⟨a, len, cap, elems, rest, n, rfl, rfl, rfl, hb, hl, hm, hlen, hel, _, _⟩
  · exact ⟨none, 0, 0, [], rfl, rfl, by decide, fun i x hx => by simp at hx⟩
  · rw [cells_a_act] at hel
    have each : ∀ i, i < len → ∃ d : ADeed, a = ⟨a.block, a.off, none⟩ ∧ ADeedAt w a.block (a.off + i * 5) d := by
      intro i hi
      have h1 := hel i hi
      rw [List.getElem?_eq_getElem (by omega)] at h1
      obtain ⟨cs, hcs, htr⟩ := Option.bind_eq_some_iff.1 h1
      have hsp0 : a = ⟨a.block, a.off, none⟩ := by
        have h0 := hel 0 (by omega)
        rw [List.getElem?_eq_getElem (by omega)] at h0
        obtain ⟨cs0, hcs0, _⟩ := Option.bind_eq_some_iff.1 h0
        have := (cells_elem hcs0 (by decide)).2.1
        simpa [Addr.add] using this
      have hadd : a.add (i * 5) = ⟨a.block, a.off + i * 5, none⟩ := by rw [hsp0, add_plain]
      rw [hadd] at hcs
      obtain ⟨_, _, hcell⟩ := cells_elem hcs (by decide)
      obtain ⟨d, hd⟩ := open_a_deed hcell htr (fun m hm' => hz m (by
        have hw : ∀ (l : List (DataW H × List MemPlace)) (y : DataW H × List MemPlace), y ∈ l → m ∈ DataW.weights Try.prog 37 y.1 → m ∈ DataW.weightsAll Try.prog 37 (l.map (·.1)) := by
          intro l
          induction l with
          | nil => intro y hy; cases hy
          | cons z l ih =>
            intro y hy hm2
            simp only [List.map_cons, DataW.weightsAll, List.mem_append]
            rcases List.mem_cons.1 hy with rfl | hy
            · exact Or.inl hm2
            · exact Or.inr (ih y hy hm2)
        simp only [DataW.weights, Try.underlying23, List.mem_cons, List.mem_append]
        exact Or.inr (Or.inl (hw elems _ (List.getElem_mem _) hm'))))
      exact ⟨d, hsp0, hd⟩
    obtain ⟨acts, hacts, hq⟩ := list_choose len each
    refine ⟨some a, len, cap, acts, rfl, hacts, by unfold maxLen at hm; omega, fun i d hd => ?_⟩
    obtain ⟨e, hd'⟩ := hq i d hd
    exact ⟨a.block, a.off, by rw [← e], hd'⟩
end
end Go.Proofs.Ytnjdcpbaippdlaa
