/-
  Acts as they lie in memory (drydock/drydocklaw14.Act).
  What comes in, opened: a list of acts as it is read (drydock/drydocklaw14.Act).
-/
import Derived.Test.YtkiehoboeiengaaGreatDoorK34
import Derived.Test.YtkiehoboeiengaaGreatDoorK02
namespace Go.Proofs.YtkiehoboeiengaaGreatDoor
open Go Go.RowKit

/-- an act as it lies in memory -/
structure PDeed where
  kind : Nat
  num : Nat
  epoch : Nat
  b : List Nat
  b_a : Option Addr
  b_cap : Nat
  n : Int
  at_ : Int
  keep : Nat
def PDeed.cells (x : PDeed) : List Value := [.int .u8 (x.kind : Nat), .int .u32 (x.num : Nat), .int .u32 (x.epoch : Nat), .slice x.b_a x.b.length x.b_cap, .int .i64 x.n, .int .i64 x.at_, .int .u64 (x.keep : Nat)]
structure PDeedAt (w : World) (c o : Nat) (x : PDeed) : Prop where
  cell : ∀ j, j < 7 → w.cell? ⟨c, o + j, none⟩ = x.cells[j]?
  kind_lt : x.kind < 256
  num_lt : x.num < 4294967296
  epoch_lt : x.epoch < 4294967296
  b_rd : Rd w x.b_a (nums .u8 x.b)
  b_le : x.b.length ≤ x.b_cap
  b_max : (x.b_cap : Int) * 1 ≤ 140737488355328
  b_each : ∀ y ∈ x.b, y < 256
  n_in : -9223372036854775808 ≤ x.n ∧ x.n ≤ 9223372036854775807
  at__in : -9223372036854775808 ≤ x.at_ ∧ x.at_ ≤ 9223372036854775807
  keep_lt : x.keep < 18446744073709551616
theorem PDeed.some (x : PDeed) {j : Nat} (hj : j < 7) : ∃ v, x.cells[j]? = Option.some v := ⟨_, List.getElem?_eq_getElem hj⟩
theorem PDeedAt.touch {w w' : World} {c o : Nat} {x : PDeed} (h : PDeedAt w c o x) (t : Touch No w w') : PDeedAt w' c o x :=
  { h with
    cell := fun j hj => by
      obtain ⟨v, hv⟩ := x.some hj
      have := h.cell j hj
      rw [hv] at this ⊢
      exact t.cell (fun f => f) this
    b_rd := h.b_rd.no t
  }
/-- the slice at ad reads as these acts -/
def IsPDeeds (w : World) (ad : Option Addr) (acts : List PDeed) : Prop := ∀ i x, acts[i]? = some x → ∃ c o, ad = some ⟨c, o, none⟩ ∧ PDeedAt w c (o + i * 7) x
theorem IsPDeeds.touch {w w' : World} {ad : Option Addr} {acts : List PDeed} (h : IsPDeeds w ad acts) (t : Touch No w w') : IsPDeeds w' ad acts := fun i x hx =>
  let ⟨c, o, e, ha⟩ := h i x hx; ⟨c, o, e, ha.touch t⟩
end Go.Proofs.YtkiehoboeiengaaGreatDoor
namespace Go.Proofs.YtkiehoboeiengaaGreatDoor
open Go.ChangeShapes Go.WideShapes Go.ChangeAt Go.RowKit

section
variable {H : Type} {enc : TypeId × Value → H} {w : World}

theorem cells_p_act : Tryz.prog.cellsOf 52 = 7 := by kernel_rfl
theorem cells_p_u8 : Tryz.prog.cellsOf 5 = 1 := by kernel_rfl
theorem cells_p_u32 : Tryz.prog.cellsOf 48 = 1 := by kernel_rfl
theorem cells_p_bytes : Tryz.prog.cellsOf 49 = 1 := by kernel_rfl
theorem cells_p_int : Tryz.prog.cellsOf 3 = 1 := by kernel_rfl
theorem cells_p_u64 : Tryz.prog.cellsOf 50 = 1 := by kernel_rfl
theorem cells_p_bytes_e : Tryz.prog.cellsOf 5 = 1 := by kernel_rfl
theorem bytes_p_bytes : Tryz.prog.bytesOf 5 = 1 := by kernel_rfl
set_option maxRecDepth 100000 in
set_option maxHeartbeats 4000000 in
/-- one act -/
theorem open_p_deed {fuel : Nat} {cs : List Value} {x : DataW H × List MemPlace} {c o : Nat} (hc : ∀ j, j < 7 → w.cell? ⟨c, o + j, none⟩ = cs[j]?)
    (h : DataW.trod enc Tryz.prog w 0 (fun _ => true) true fuel 52 cs = some x) (hz : ∀ n ∈ DataW.weights Tryz.prog 52 x.1, n ≤ reachBytes) :
    ∃ d : PDeed, PDeedAt w c o d := by
  obtain ⟨xs, n, rfl, rfl, hlen, hxs, hf⟩ := DataW.trod_struct Tryz.underlying52 h
  rw [cells_p_act] at hlen
  have f0 : DataW.trod enc Tryz.prog w 0 (fun _ => true) true n 5 (List.take (Tryz.prog.cellsOf 5) (List.drop 0 cs)) = xs[0]? := hf 0 _ rfl
  rw [cells_p_u8] at f0
  have f1 : DataW.trod enc Tryz.prog w 0 (fun _ => true) true n 48 (List.take (Tryz.prog.cellsOf 48) (List.drop 1 cs)) = xs[1]? := hf 1 _ rfl
  rw [cells_p_u32] at f1
  have f2 : DataW.trod enc Tryz.prog w 0 (fun _ => true) true n 48 (List.take (Tryz.prog.cellsOf 48) (List.drop 2 cs)) = xs[2]? := hf 2 _ rfl
  rw [cells_p_u32] at f2
  have f3 : DataW.trod enc Tryz.prog w 0 (fun _ => true) true n 49 (List.take (Tryz.prog.cellsOf 49) (List.drop 3 cs)) = xs[3]? := hf 3 _ rfl
  rw [cells_p_bytes] at f3
  have f4 : DataW.trod enc Tryz.prog w 0 (fun _ => true) true n 3 (List.take (Tryz.prog.cellsOf 3) (List.drop 4 cs)) = xs[4]? := hf 4 _ rfl
  rw [cells_p_int] at f4
  have f5 : DataW.trod enc Tryz.prog w 0 (fun _ => true) true n 3 (List.take (Tryz.prog.cellsOf 3) (List.drop 5 cs)) = xs[5]? := hf 5 _ rfl
  rw [cells_p_int] at f5
  have f6 : DataW.trod enc Tryz.prog w 0 (fun _ => true) true n 50 (List.take (Tryz.prog.cellsOf 50) (List.drop 6 cs)) = xs[6]? := hf 6 _ rfl
  rw [cells_p_u64] at f6
  match xs, hxs with
  | [x0, x1, x2, x3, x4, x5, x6], _ =>
  match cs, hlen with
  | [c0, c1, c2, c3, c4, c5, c6], _ =>
    obtain ⟨i0, e0, _, w0⟩ := DataW.trod_int Tryz.underlying5 (show DataW.trod enc Tryz.prog w 0 (fun _ => true) true _ 5 [c0] = some x0 from f0)
    obtain ⟨i1, e1, _, w1⟩ := DataW.trod_int Tryz.underlying48 (show DataW.trod enc Tryz.prog w 0 (fun _ => true) true _ 48 [c1] = some x1 from f1)
    obtain ⟨i2, e2, _, w2⟩ := DataW.trod_int Tryz.underlying48 (show DataW.trod enc Tryz.prog w 0 (fun _ => true) true _ 48 [c2] = some x2 from f2)
    obtain ⟨a3, cap3, z3, e3, hl3, hm3, hr3, hwf3, hwt3, _⟩ := open_list Tryz.underlying49 Tryz.underlying5 cells_p_bytes_e (show DataW.trod enc Tryz.prog w 0 (fun _ => true) true _ 49 [c3] = some x3 from f3)
    obtain ⟨i4, e4, _, w4⟩ := DataW.trod_int Tryz.underlying3 (show DataW.trod enc Tryz.prog w 0 (fun _ => true) true _ 3 [c4] = some x4 from f4)
    obtain ⟨i5, e5, _, w5⟩ := DataW.trod_int Tryz.underlying3 (show DataW.trod enc Tryz.prog w 0 (fun _ => true) true _ 3 [c5] = some x5 from f5)
    obtain ⟨i6, e6, _, w6⟩ := DataW.trod_int Tryz.underlying50 (show DataW.trod enc Tryz.prog w 0 (fun _ => true) true _ 50 [c6] = some x6 from f6)
    simp only [List.cons.injEq, and_true] at e0 e1 e2 e3 e4 e5 e6
    subst e0 e1 e2 e3 e4 e5 e6
    have b0 := bounds_u8 w0
    have b1 := bounds_u32 w1
    have b2 := bounds_u32 w2
    have b4 := bounds_i64 w4
    have b5 := bounds_i64 w5
    have b6 := bounds_u64 w6
    have hpos3 : ∀ z ∈ z3, 0 ≤ z := fun z hz' => (bounds_u8 (hwf3 z hz')).1
    have hcap3 : (cap3 : Int) * 1 ≤ 140737488355328 := by
      rcases hwt3 with h0 | h0
      · omega
      · have : cap3 * Tryz.prog.bytesOf 5 ≤ reachBytes := hz _ (by
          simp only [DataW.weights, Tryz.underlying52, DataW.weightsEach, List.map_cons, List.map_nil, List.mem_append]
          exact Or.inr (Or.inr (Or.inr (Or.inl h0))))
        rw [bytes_p_bytes] at this
        unfold reachBytes at this
        omega
    refine ⟨⟨i0.toNat, i1.toNat, i2.toNat, z3.map Int.toNat, a3, cap3, i4, i5, i6.toNat⟩, { cell := ?_, kind_lt := ?_, num_lt := ?_, epoch_lt := ?_, b_rd := ?_, b_le := ?_, b_max := ?_, b_each := ?_, n_in := ?_, at__in := ?_, keep_lt := ?_ }⟩
    · intro j hj
      rw [hc j hj]
      simp only [PDeed.cells, List.length_map, Int.toNat_of_nonneg b0.1, Int.toNat_of_nonneg b1.1, Int.toNat_of_nonneg b2.1, Int.toNat_of_nonneg b6.1]
    · show i0.toNat < 256
      omega
    · show i1.toNat < 4294967296
      omega
    · show i2.toNat < 4294967296
      omega
    · show Rd w a3 (nums .u8 (z3.map Int.toNat))
      rw [← ints_nums hpos3]; exact hr3
    · show (z3.map Int.toNat).length ≤ cap3
      rw [List.length_map]; exact hl3
    · exact hcap3
    · intro y hy
      obtain ⟨z, hz', rfl⟩ := List.mem_map.1 hy
      have := bounds_u8 (hwf3 z hz')
      omega
    · exact b4
    · exact b5
    · show i6.toNat < 18446744073709551616
      omega

set_option maxRecDepth 100000 in
/-- a slice of acts that came in -/
theorem open_p_deeds {fuel : Nat} {cs : List Value} {x : DataW H × List MemPlace}
    (h : DataW.trod enc Tryz.prog w 0 (fun _ => true) true fuel 22 cs = some x) (hz : ∀ n ∈ DataW.weights Tryz.prog 22 x.1, n ≤ reachBytes) :
    ∃ ad n cap acts, cs = [.slice ad n cap] ∧ acts.length = n ∧ (n : Int) ≤ 9223372036854775807 ∧ IsPDeeds w ad acts := by
  rcases DataW.trod_slice Tryz.underlying22 h with ⟨rfl, rfl⟩ | ⟨a, len, cap, elems, rest, n, rfl, rfl, rfl, hb, hl, hm, hlen, hel, _, _⟩
  · exact ⟨none, 0, 0, [], rfl, rfl, by decide, fun i x hx => by simp at hx⟩
  · rw [cells_p_act] at hel
    have each : ∀ i, i < len → ∃ d : PDeed, a = ⟨a.block, a.off, none⟩ ∧ PDeedAt w a.block (a.off + i * 7) d := by
      intro i hi
      have h1 := hel i hi
      rw [List.getElem?_eq_getElem (by omega)] at h1
      obtain ⟨cs, hcs, htr⟩ := Option.bind_eq_some_iff.1 h1
      have hsp0 : a = ⟨a.block, a.off, none⟩ := by
        have h0 := hel 0 (by omega)
        rw [List.getElem?_eq_getElem (by omega)] at h0
        obtain ⟨cs0, hcs0, _⟩ := Option.bind_eq_some_iff.1 h0
        have := (cells_elem hcs0 (by decide)).2.1
        simpa [Addr.add] using this
      have hadd : a.add (i * 7) = ⟨a.block, a.off + i * 7, none⟩ := by rw [hsp0, add_plain]
      rw [hadd] at hcs
      obtain ⟨_, _, hcell⟩ := cells_elem hcs (by decide)
      obtain ⟨d, hd⟩ := open_p_deed hcell htr (fun m hm' => hz m (by
        have hw : ∀ (l : List (DataW H × List MemPlace)) (y : DataW H × List MemPlace), y ∈ l → m ∈ DataW.weights Tryz.prog 52 y.1 → m ∈ DataW.weightsAll Tryz.prog 52 (l.map (·.1)) := by
          intro l
          induction l with
          | nil => intro y hy; cases hy
          | cons z l ih =>
            intro y hy hm2
            simp only [List.map_cons, DataW.weightsAll, List.mem_append]
            rcases List.mem_cons.1 hy with rfl | hy
            · exact Or.inl hm2
            · exact Or.inr (ih y hy hm2)
        simp only [DataW.weights, Tryz.underlying22, List.mem_cons, List.mem_append]
        exact Or.inr (Or.inl (hw elems _ (List.getElem_mem _) hm'))))
      exact ⟨d, hsp0, hd⟩
    obtain ⟨acts, hacts, hq⟩ := list_choose len each
    refine ⟨some a, len, cap, acts, rfl, hacts, by unfold maxLen at hm; omega, fun i d hd => ?_⟩
    obtain ⟨e, hd'⟩ := hq i d hd
    exact ⟨a.block, a.off, by rw [← e], hd'⟩
end
end Go.Proofs.YtkiehoboeiengaaGreatDoor
