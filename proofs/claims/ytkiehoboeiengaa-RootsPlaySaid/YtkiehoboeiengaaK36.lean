/-
  Acts as they lie in memory (drydock/drydocklaw17.Act).
  What comes in, opened: a list of acts as it is read (drydock/drydocklaw17.Act).
-/
import Derived.Test.YtkiehoboeiengaaK35
import Derived.Test.YtkiehoboeiengaaK03
namespace Go.Proofs.Ytkiehoboeiengaa
open Go Go.RowKit

/-- an act as it lies in memory -/
structure RDeed where
  kind : Nat
  r : Rt.Root
  n : Int
  at_ : Int
  by_ : Nat
  b : List Nat
  b_a : Option Addr
  b_cap : Nat
  keep : Nat
  torn : Int
def RDeed.cells (x : RDeed) : List Value := [.int .u8 (x.kind : Nat), .int .u32 (x.r.epoch : Nat), .int .u32 (x.r.first : Nat), .int .u32 (x.r.bytes : Nat), .int .i64 x.n, .int .i64 x.at_, .int .u8 (x.by_ : Nat), .slice x.b_a x.b.length x.b_cap, .int .u64 (x.keep : Nat), .int .i64 x.torn]
structure RDeedAt (w : World) (c o : Nat) (x : RDeed) : Prop where
  cell : ∀ j, j < 10 → w.cell? ⟨c, o + j, none⟩ = x.cells[j]?
  kind_lt : x.kind < 256
  r_epoch_lt : x.r.epoch < 4294967296
  r_first_lt : x.r.first < 4294967296
  r_bytes_lt : x.r.bytes < 4294967296
  n_in : -9223372036854775808 ≤ x.n ∧ x.n ≤ 9223372036854775807
  at__in : -9223372036854775808 ≤ x.at_ ∧ x.at_ ≤ 9223372036854775807
  by__lt : x.by_ < 256
  b_rd : Rd w x.b_a (nums .u8 x.b)
  b_le : x.b.length ≤ x.b_cap
  b_max : (x.b_cap : Int) * 1 ≤ 140737488355328
  b_each : ∀ y ∈ x.b, y < 256
  keep_lt : x.keep < 18446744073709551616
  torn_in : -9223372036854775808 ≤ x.torn ∧ x.torn ≤ 9223372036854775807
theorem RDeed.some (x : RDeed) {j : Nat} (hj : j < 10) : ∃ v, x.cells[j]? = Option.some v := ⟨_, List.getElem?_eq_getElem hj⟩
theorem RDeedAt.touch {w w' : World} {c o : Nat} {x : RDeed} (h : RDeedAt w c o x) (t : Touch No w w') : RDeedAt w' c o x :=
  { h with
    cell := fun j hj => by
      obtain ⟨v, hv⟩ := x.some hj
      have := h.cell j hj
      rw [hv] at this ⊢
      exact t.cell (fun f => f) this
    b_rd := h.b_rd.no t
  }
/-- the slice at ad reads as these acts -/
def IsRDeeds (w : World) (ad : Option Addr) (acts : List RDeed) : Prop := ∀ i x, acts[i]? = some x → ∃ c o, ad = some ⟨c, o, none⟩ ∧ RDeedAt w c (o + i * 10) x
theorem IsRDeeds.touch {w w' : World} {ad : Option Addr} {acts : List RDeed} (h : IsRDeeds w ad acts) (t : Touch No w w') : IsRDeeds w' ad acts := fun i x hx =>
  let ⟨c, o, e, ha⟩ := h i x hx; ⟨c, o, e, ha.touch t⟩
end Go.Proofs.Ytkiehoboeiengaa
namespace Go.Proofs.Ytkiehoboeiengaa
open Go.ChangeShapes Go.WideShapes Go.ChangeAt Go.RowKit

section
variable {H : Type} {enc : TypeId × Value → H} {w : World}

theorem cells_r_act : Try.prog.cellsOf 37 = 10 := by kernel_rfl
theorem cells_r_u8 : Try.prog.cellsOf 5 = 1 := by kernel_rfl
theorem cells_r_root : Try.prog.cellsOf 33 = 3 := by kernel_rfl
theorem cells_r_int : Try.prog.cellsOf 3 = 1 := by kernel_rfl
theorem cells_r_bytes : Try.prog.cellsOf 34 = 1 := by kernel_rfl
theorem cells_r_u64 : Try.prog.cellsOf 35 = 1 := by kernel_rfl
theorem cells_r_u32 : Try.prog.cellsOf 31 = 1 := by kernel_rfl
theorem cells_r_bytes_e : Try.prog.cellsOf 5 = 1 := by kernel_rfl
theorem bytes_r_bytes : Try.prog.bytesOf 5 = 1 := by kernel_rfl
set_option maxRecDepth 100000 in
set_option maxHeartbeats 4000000 in
/-- one act -/
theorem open_r_deed {fuel : Nat} {cs : List Value} {x : DataW H × List MemPlace} {c o : Nat} (hc : ∀ j, j < 10 → w.cell? ⟨c, o + j, none⟩ = cs[j]?)
    (h : DataW.trod enc Try.prog w 0 (fun _ => true) true fuel 37 cs = some x) (hz : ∀ n ∈ DataW.weights Try.prog 37 x.1, n ≤ reachBytes) :
    ∃ d : RDeed, RDeedAt w c o d := by
  obtain ⟨xs, n, rfl, rfl, hlen, hxs, hf⟩ := DataW.trod_struct Try.underlying37 h
  rw [cells_r_act] at hlen
  have f0 : DataW.trod enc Try.prog w 0 (fun _ => true) true n 5 (List.take (Try.prog.cellsOf 5) (List.drop 0 cs)) = xs[0]? := hf 0 _ rfl
  rw [cells_r_u8] at f0
  have f1 : DataW.trod enc Try.prog w 0 (fun _ => true) true n 33 (List.take (Try.prog.cellsOf 33) (List.drop 1 cs)) = xs[1]? := hf 1 _ rfl
  rw [cells_r_root] at f1
  have f2 : DataW.trod enc Try.prog w 0 (fun _ => true) true n 3 (List.take (Try.prog.cellsOf 3) (List.drop 4 cs)) = xs[2]? := hf 2 _ rfl
  rw [cells_r_int] at f2
  have f3 : DataW.trod enc Try.prog w 0 (fun _ => true) true n 3 (List.take (Try.prog.cellsOf 3) (List.drop 5 cs)) = xs[3]? := hf 3 _ rfl
  rw [cells_r_int] at f3
  have f4 : DataW.trod enc Try.prog w 0 (fun _ => true) true n 5 (List.take (Try.prog.cellsOf 5) (List.drop 6 cs)) = xs[4]? := hf 4 _ rfl
  rw [cells_r_u8] at f4
  have f5 : DataW.trod enc Try.prog w 0 (fun _ => true) true n 34 (List.take (Try.prog.cellsOf 34) (List.drop 7 cs)) = xs[5]? := hf 5 _ rfl
  rw [cells_r_bytes] at f5
  have f6 : DataW.trod enc Try.prog w 0 (fun _ => true) true n 35 (List.take (Try.prog.cellsOf 35) (List.drop 8 cs)) = xs[6]? := hf 6 _ rfl
  rw [cells_r_u64] at f6
  have f7 : DataW.trod enc Try.prog w 0 (fun _ => true) true n 3 (List.take (Try.prog.cellsOf 3) (List.drop 9 cs)) = xs[7]? := hf 7 _ rfl
  rw [cells_r_int] at f7
  match xs, hxs with
  | [x0, x1, x2, x3, x4, x5, x6, x7], _ =>
  match cs, hlen with
  | [c0, c1, c2, c3, c4, c5, c6, c7, c8, c9], _ =>
    obtain ⟨i0, e0, _, w0⟩ := DataW.trod_int Try.underlying5 (show DataW.trod enc Try.prog w 0 (fun _ => true) true _ 5 [c0] = some x0 from f0)
    obtain ⟨ys1, n1, rfl, rfl, _, hys1, hg1⟩ := DataW.trod_struct Try.underlying33 (show DataW.trod enc Try.prog w 0 (fun _ => true) true n 33 [c1, c2, c3] = some x1 from f1)
    have g1_0 : DataW.trod enc Try.prog w 0 (fun _ => true) true n1 31 (List.take (Try.prog.cellsOf 31) (List.drop 0 [c1, c2, c3])) = ys1[0]? := hg1 0 _ rfl
    rw [cells_r_u32] at g1_0
    have g1_1 : DataW.trod enc Try.prog w 0 (fun _ => true) true n1 31 (List.take (Try.prog.cellsOf 31) (List.drop 1 [c1, c2, c3])) = ys1[1]? := hg1 1 _ rfl
    rw [cells_r_u32] at g1_1
    have g1_2 : DataW.trod enc Try.prog w 0 (fun _ => true) true n1 31 (List.take (Try.prog.cellsOf 31) (List.drop 2 [c1, c2, c3])) = ys1[2]? := hg1 2 _ rfl
    rw [cells_r_u32] at g1_2
    obtain ⟨y1_0, y1_1, y1_2, rfl⟩ : ∃ y1_0 y1_1 y1_2, ys1 = [y1_0, y1_1, y1_2] := by
      match ys1, hys1 with
      | [a0, a1, a2], _ => exact ⟨a0, a1, a2, rfl⟩
    obtain ⟨i1_0, e1_0, _, w1_0⟩ := DataW.trod_int Try.underlying31 (show DataW.trod enc Try.prog w 0 (fun _ => true) true _ 31 [c1] = some y1_0 from g1_0)
    obtain ⟨i1_1, e1_1, _, w1_1⟩ := DataW.trod_int Try.underlying31 (show DataW.trod enc Try.prog w 0 (fun _ => true) true _ 31 [c2] = some y1_1 from g1_1)
    obtain ⟨i1_2, e1_2, _, w1_2⟩ := DataW.trod_int Try.underlying31 (show DataW.trod enc Try.prog w 0 (fun _ => true) true _ 31 [c3] = some y1_2 from g1_2)
    obtain ⟨i2, e2, _, w2⟩ := DataW.trod_int Try.underlying3 (show DataW.trod enc Try.prog w 0 (fun _ => true) true _ 3 [c4] = some x2 from f2)
    obtain ⟨i3, e3, _, w3⟩ := DataW.trod_int Try.underlying3 (show DataW.trod enc Try.prog w 0 (fun _ => true) true _ 3 [c5] = some x3 from f3)
    obtain ⟨i4, e4, _, w4⟩ := DataW.trod_int Try.underlying5 (show DataW.trod enc Try.prog w 0 (fun _ => true) true _ 5 [c6] = some x4 from f4)
    obtain ⟨a5, cap5, z5, e5, hl5, hm5, hr5, hwf5, hwt5, _⟩ := open_list Try.underlying34 Try.underlying5 cells_r_bytes_e (show DataW.trod enc Try.prog w 0 (fun _ => true) true _ 34 [c7] = some x5 from f5)
    obtain ⟨i6, e6, _, w6⟩ := DataW.trod_int Try.underlying35 (show DataW.trod enc Try.prog w 0 (fun _ => true) true _ 35 [c8] = some x6 from f6)
    obtain ⟨i7, e7, _, w7⟩ := DataW.trod_int Try.underlying3 (show DataW.trod enc Try.prog w 0 (fun _ => true) true _ 3 [c9] = some x7 from f7)
    simp only [List.cons.injEq, and_true] at e0 e1_0 e1_1 e1_2 e2 e3 e4 e5 e6 e7
    subst e0 e1_0 e1_1 e1_2 e2 e3 e4 e5 e6 e7
    have b0 := bounds_u8 w0
    have b1_0 := bounds_u32 w1_0
    have b1_1 := bounds_u32 w1_1
    have b1_2 := bounds_u32 w1_2
    have b2 := bounds_i64 w2
    have b3 := bounds_i64 w3
    have b4 := bounds_u8 w4
    have b6 := bounds_u64 w6
    have b7 := bounds_i64 w7
    have hpos5 : ∀ z ∈ z5, 0 ≤ z := fun z hz' => (bounds_u8 (hwf5 z hz')).1
    have hcap5 : (cap5 : Int) * 1 ≤ 140737488355328 := by
      rcases hwt5 with h0 | h0
      · omega
      · have : cap5 * Try.prog.bytesOf 5 ≤ reachBytes := hz _ (by
          simp only [DataW.weights, Try.underlying37, DataW.weightsEach, List.map_cons, List.map_nil, List.mem_append]
          exact Or.inr (Or.inr (Or.inr (Or.inr (Or.inr (Or.inl h0))))))
        rw [bytes_r_bytes] at this
        unfold reachBytes at this
        omega
    refine ⟨⟨i0.toNat, ⟨i1_0.toNat, i1_1.toNat, i1_2.toNat⟩, i2, i3, i4.toNat, z5.map Int.toNat, a5, cap5, i6.toNat, i7⟩, { cell := ?_, kind_lt := ?_, r_epoch_lt := ?_, r_first_lt := ?_, r_bytes_lt := ?_, n_in := ?_, at__in := ?_, by__lt := ?_, b_rd := ?_, b_le := ?_, b_max := ?_, b_each := ?_, keep_lt := ?_, torn_in := ?_ }⟩
    · intro j hj
      rw [hc j hj]
      simp only [RDeed.cells, List.length_map, Int.toNat_of_nonneg b0.1, Int.toNat_of_nonneg b1_0.1, Int.toNat_of_nonneg b1_1.1, Int.toNat_of_nonneg b1_2.1, Int.toNat_of_nonneg b4.1, Int.toNat_of_nonneg b6.1]
    · show i0.toNat < 256
      omega
    · show i1_0.toNat < 4294967296
      omega
    · show i1_1.toNat < 4294967296
      omega
    · show i1_2.toNat < 4294967296
      omega
    · exact b2
    · exact b3
    · show i4.toNat < 256
      omega
    · show Rd w a5 (nums .u8 (z5.map Int.toNat))
      rw [← ints_nums hpos5]; exact hr5
    · show (z5.map Int.toNat).length ≤ cap5
      rw [List.length_map]; exact hl5
    · exact hcap5
    · intro y hy
      obtain ⟨z, hz', rfl⟩ := List.mem_map.1 hy
      have := bounds_u8 (hwf5 z hz')
      omega
    · show i6.toNat < 18446744073709551616
      omega
    · exact b7

set_option maxRecDepth 100000 in
/-- a slice of acts that came in -/
theorem open_r_deeds {fuel : Nat} {cs : List Value} {x : DataW H × List MemPlace}
    (h : DataW.trod enc Try.prog w 0 (fun _ => true) true fuel 22 cs = some x) (hz : ∀ n ∈ DataW.weights Try.prog 22 x.1, n ≤ reachBytes) :
    ∃ ad n cap acts, cs = [.slice ad n cap] ∧ acts.length = n ∧ (n : Int) ≤ 9223372036854775807 ∧ IsRDeeds w ad acts := by
  rcases DataW.trod_slice Try.underlying22 h with ⟨rfl, rfl⟩ | ⟨a, len, cap, elems, rest, n, rfl, rfl, rfl, hb, hl, hm, hlen, hel, _, _⟩
  · exact ⟨none, 0, 0, [], rfl, rfl, by decide, fun i x hx => by simp at hx⟩
  · rw [cells_r_act] at hel
    have each : ∀ i, i < len → ∃ d : RDeed, a = ⟨a.block, a.off, none⟩ ∧ RDeedAt w a.block (a.off + i * 10) d := by
      intro i hi
      have h1 := hel i hi
      rw [List.getElem?_eq_getElem (by omega)] at h1
      obtain ⟨cs, hcs, htr⟩ := Option.bind_eq_some_iff.1 h1
      have hsp0 : a = ⟨a.block, a.off, none⟩ := by
        have h0 := hel 0 (by omega)
        rw [List.getElem?_eq_getElem (by omega)] at h0
        obtain ⟨cs0, hcs0, _⟩ := Option.bind_eq_some_iff.1 h0
        have := (cells_elem hcs0 (by decide)).2.1
        simpa [Addr.add] using this
      have hadd : a.add (i * 10) = ⟨a.block, a.off + i * 10, none⟩ := by rw [hsp0, add_plain]
      rw [hadd] at hcs
      obtain ⟨_, _, hcell⟩ := cells_elem hcs (by decide)
      obtain ⟨d, hd⟩ := open_r_deed hcell htr (fun m hm' => hz m (by
        have hw : ∀ (l : List (DataW H × List MemPlace)) (y : DataW H × List MemPlace), y ∈ l → m ∈ DataW.weights Try.prog 37 y.1 → m ∈ DataW.weightsAll Try.prog 37 (l.map (·.1)) := by
          intro l
          induction l with
          | nil => intro y hy; cases hy
          | cons z l ih =>
            intro y hy hm2
            simp only [List.map_cons, DataW.weightsAll, List.mem_append]
            rcases List.mem_cons.1 hy with rfl | hy
            · exact Or.inl hm2
            · exact Or.inr (ih y hy hm2)
        simp only [DataW.weights, Try.underlying22, List.mem_cons, List.mem_append]
        exact Or.inr (Or.inl (hw elems _ (List.getElem_mem _) hm'))))
      exact ⟨d, hsp0, hd⟩
    obtain ⟨acts, hacts, hq⟩ := list_choose len each
    refine ⟨some a, len, cap, acts, rfl, hacts, by unfold maxLen at hm; omega, fun i d hd => ?_⟩
    obtain ⟨e, hd'⟩ := hq i d hd
    exact ⟨a.block, a.off, by rw [← e], hd'⟩
end
end Go.Proofs.Ytkiehoboeiengaa
