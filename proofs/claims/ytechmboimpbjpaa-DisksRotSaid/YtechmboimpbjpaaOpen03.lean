/-
  What comes in, opened: a list of acts as it is read.
-/
import Derived.Test.YtechmboimpbjpaaOpen
import Derived.Laws.IdiomArrays
import Derived.Lib.SmallJoins
import Derived.Test.YtechmboimpbjpaaDActs
namespace Go.Proofs.Ytechmboimpbjpaa
open Go.ChangeShapes Go.WideShapes Go.ChangeAt Go.RowKit

section
variable {H : Type} {enc : TypeId × Value → H} {w : World}

theorem cells_act : Try.prog.cellsOf 55 = 5 := by kernel_rfl
theorem cells_u8 : Try.prog.cellsOf 5 = 1 := by kernel_rfl
theorem cells_int : Try.prog.cellsOf 3 = 1 := by kernel_rfl
theorem cells_u64 : Try.prog.cellsOf 22 = 1 := by kernel_rfl
theorem cells_bytes : Try.prog.cellsOf 28 = 1 := by kernel_rfl
theorem bytes_u8 : Try.prog.bytesOf 5 = 1 := by kernel_rfl

/-- one act -/
theorem open_deed {fuel : Nat} {cs : List Value} {x : DataW H × List MemPlace} {c o : Nat} (hc : ∀ j, j < 5 → w.cell? ⟨c, o + j, none⟩ = cs[j]?)
    (h : DataW.trod enc Try.prog w 0 (fun _ => true) true fuel 55 cs = some x) (hz : ∀ n ∈ DataW.weights Try.prog 55 x.1, n ≤ reachBytes) :
    ∃ d : Deed, DeedAt w c o d := by
  obtain ⟨xs, n, rfl, rfl, hlen, hxs, hf⟩ := DataW.trod_struct Try.underlying55 h
  rw [cells_act] at hlen
  have f0 : DataW.trod enc Try.prog w 0 (fun _ => true) true n 5 (List.take (Try.prog.cellsOf 5) (List.drop 0 cs)) = xs[0]? := hf 0 _ rfl
  have f1 : DataW.trod enc Try.prog w 0 (fun _ => true) true n 3 (List.take (Try.prog.cellsOf 3) (List.drop 1 cs)) = xs[1]? := hf 1 _ rfl
  have f2 : DataW.trod enc Try.prog w 0 (fun _ => true) true n 3 (List.take (Try.prog.cellsOf 3) (List.drop 2 cs)) = xs[2]? := hf 2 _ rfl
  have f3 : DataW.trod enc Try.prog w 0 (fun _ => true) true n 28 (List.take (Try.prog.cellsOf 28) (List.drop 3 cs)) = xs[3]? := hf 3 _ rfl
  have f4 : DataW.trod enc Try.prog w 0 (fun _ => true) true n 22 (List.take (Try.prog.cellsOf 22) (List.drop 4 cs)) = xs[4]? := hf 4 _ rfl
  rw [cells_u8] at f0
  rw [cells_int] at f1 f2
  rw [cells_bytes] at f3
  rw [cells_u64] at f4
  match xs, hxs with
  | [x0, x1, x2, x3, x4], _ =>
  match cs, hlen with
  | [c0, c1, c2, c3, c4], _ =>
    obtain ⟨k, e0, _, w0⟩ := DataW.trod_int Try.underlying5 (show DataW.trod enc Try.prog w 0 (fun _ => true) true n 5 [c0] = some x0 from f0)
    obtain ⟨m, e1, _, w1⟩ := DataW.trod_int Try.underlying3 (show DataW.trod enc Try.prog w 0 (fun _ => true) true n 3 [c1] = some x1 from f1)
    obtain ⟨q, e2, _, w2⟩ := DataW.trod_int Try.underlying3 (show DataW.trod enc Try.prog w 0 (fun _ => true) true n 3 [c2] = some x2 from f2)
    obtain ⟨a, cap, zs, e3, hl, hm, hr, hwf, hwt, _⟩ := open_list Try.underlying28 Try.underlying5 cells_u8 (show DataW.trod enc Try.prog w 0 (fun _ => true) true n 28 [c3] = some x3 from f3)
    obtain ⟨u, e4, _, w4⟩ := DataW.trod_int Try.underlying22 (show DataW.trod enc Try.prog w 0 (fun _ => true) true n 22 [c4] = some x4 from f4)
    simp only [List.cons.injEq, and_true] at e0 e1 e2 e3 e4
    subst e0 e1 e2 e3 e4
    have b0 := bounds_u8 w0
    have b4 := bounds_u64 w4
    have hpos : ∀ z ∈ zs, 0 ≤ z := fun z hz' => (bounds_u8 (hwf z hz')).1
    have hcap : (cap : Int) ≤ 140737488355328 := by
      rcases hwt with h0 | h0
      · omega
      · have : cap * Try.prog.bytesOf 5 ≤ reachBytes := hz _ (by
          simp only [DataW.weights, Try.underlying55, DataW.weightsEach, List.map_cons, List.map_nil, List.mem_append]
          exact Or.inr (Or.inr (Or.inr (Or.inl h0))))
        rw [bytes_u8] at this
        unfold reachBytes at this
        omega
    refine ⟨⟨k.toNat, m, q, a, cap, zs.map Int.toNat, u.toNat⟩, ?_⟩
    have h0 := hc 0 (by decide)
    have h1 := hc 1 (by decide)
    have h2 := hc 2 (by decide)
    have h3 := hc 3 (by decide)
    have h4 := hc 4 (by decide)
    refine ⟨?_, h1, h2, ?_, ?_, ?_, ?_, ?_, ?_, hcap, ?_⟩
    · show w.cell? ⟨c, o, none⟩ = some (.int .u8 ((k.toNat : Nat) : Int))
      rw [show ((k.toNat : Nat) : Int) = k from by omega]; exact h0
    · show w.cell? ⟨c, o + 3, none⟩ = some (.slice a (zs.map Int.toNat).length cap)
      rw [List.length_map]; exact h3
    · show w.cell? ⟨c, o + 4, none⟩ = some (.int .u64 ((u.toNat : Nat) : Int))
      rw [show ((u.toNat : Nat) : Int) = u from by omega]; exact h4
    · show Rd w a (nums .u8 (zs.map Int.toNat))
      rw [← ints_nums hpos]; exact hr
    · show k.toNat < 256
      omega
    · show u.toNat < 18446744073709551616
      omega
    · show (zs.map Int.toNat).length ≤ cap
      rw [List.length_map]; exact hl
    · intro y hy
      obtain ⟨z, hz', rfl⟩ := List.mem_map.1 hy
      have := bounds_u8 (hwf z hz')
      omega

/-- a slice of acts that came in -/
theorem open_deeds {fuel : Nat} {cs : List Value} {x : DataW H × List MemPlace}
    (h : DataW.trod enc Try.prog w 0 (fun _ => true) true fuel 47 cs = some x) (hz : ∀ n ∈ DataW.weights Try.prog 47 x.1, n ≤ reachBytes) :
    ∃ ad n cap acts, cs = [.slice ad n cap] ∧ acts.length = n ∧ (n : Int) ≤ 9223372036854775807 ∧ IsDeeds w ad acts := by
  rcases DataW.trod_slice Try.underlying47 h with ⟨rfl, rfl⟩ | ⟨a, len, cap, elems, rest, n, rfl, rfl, rfl, hb, hl, hm, hlen, hel, _, _⟩
  · exact ⟨none, 0, 0, [], rfl, rfl, by decide, fun i x hx => by simp at hx⟩
  · rw [cells_act] at hel
    have each : ∀ i, i < len → ∃ d : Deed, a = ⟨a.block, a.off, none⟩ ∧ DeedAt w a.block (a.off + i * 5) d := by
      intro i hi
      have h1 := hel i hi
      rw [List.getElem?_eq_getElem (by omega)] at h1
      obtain ⟨cs, hcs, htr⟩ := Option.bind_eq_some_iff.1 h1
      have hsp0 : a = ⟨a.block, a.off, none⟩ := by
        have h0 := hel 0 (by omega)
        rw [List.getElem?_eq_getElem (by omega)] at h0
        obtain ⟨cs0, hcs0, _⟩ := Option.bind_eq_some_iff.1 h0
        have := (cells_elem hcs0 (by decide)).2.1
        simpa [Addr.add] using this
      have hadd : a.add (i * 5) = ⟨a.block, a.off + i * 5, none⟩ := by rw [hsp0, add_plain]
      rw [hadd] at hcs
      obtain ⟨_, _, hcell⟩ := cells_elem hcs (by decide)
      obtain ⟨d, hd⟩ := open_deed hcell htr (fun m hm' => hz m (by
        have hw : ∀ (l : List (DataW H × List MemPlace)) (y : DataW H × List MemPlace), y ∈ l → m ∈ DataW.weights Try.prog 55 y.1 → m ∈ DataW.weightsAll Try.prog 55 (l.map (·.1)) := by
          intro l
          induction l with
          | nil => intro y hy; cases hy
          | cons z l ih =>
            intro y hy hm2
            simp only [List.map_cons, DataW.weightsAll, List.mem_append]
            rcases List.mem_cons.1 hy with rfl | hy
            · exact Or.inl hm2
            · exact Or.inr (ih y hy hm2)
        simp only [DataW.weights, Try.underlying47, List.mem_cons, List.mem_append]
        exact Or.inr (Or.inl (hw elems _ (List.getElem_mem _) hm'))))
      exact ⟨d, hsp0, hd⟩
    obtain ⟨acts, hacts, hq⟩ := list_choose len each
    refine ⟨some a, len, cap, acts, rfl, hacts, by unfold maxLen at hm; omega, fun i d hd => ?_⟩
    obtain ⟨e, hd'⟩ := hq i d hd
    exact ⟨a.block, a.off, by rw [← e], hd'⟩
theorem list3 {α : Type} (l : List α) (h : (⟨l⟩ : Array α).size = 3) : ∃ a b c, l = [a, b, c] := by
  match l, h with
  | [a, b, c], _ => exact ⟨a, b, c, rfl⟩
/-- three numbers in an array, by value -/
theorem open_three {base : Nat} {v : Value} {d : DataW H} {p : List MemPlace} (hv : Value.okWide Try.prog w .any base 51 v) (h : DataW.Trod enc Try.prog w 0 (fun _ => true) true 51 v d p) :
    ∃ k0 k1 k2 : Nat, v = .agg #[.int .u64 (k0 : Nat), .int .u64 (k1 : Nat), .int .u64 (k2 : Nat)] ∧ k0 < 18446744073709551616 ∧ k1 < 18446744073709551616 ∧ k2 < 18446744073709551616 := by
  obtain ⟨cs, rfl, hsz, _⟩ : ∃ cs, v = .agg cs ∧ cs.size = Try.prog.cellsOf 51 ∧ Row.okWide Try.prog w .any base 51 cs := by
    simpa [Value.okWide, Try.underlying51] using hv
  rw [show Try.prog.cellsOf 51 = 3 by kernel_rfl] at hsz
  obtain ⟨l⟩ := cs
  obtain ⟨c0, c1, c2, rfl⟩ := list3 l hsz
  obtain ⟨fuel, hf⟩ := h
  obtain ⟨y0, y1, y2, m, hx, hy0, hy1, hy2⟩ := trod_array3 Try.underlying51 cells_u64 hf
  obtain ⟨x0, e0, _, w0⟩ := DataW.trod_int Try.underlying22 hy0
  obtain ⟨x1, e1, _, w1⟩ := DataW.trod_int Try.underlying22 hy1
  obtain ⟨x2, e2, _, w2⟩ := DataW.trod_int Try.underlying22 hy2
  simp at e0 e1 e2
  subst e0 e1 e2
  have b0 := bounds_u64 w0
  have b1 := bounds_u64 w1
  have b2 := bounds_u64 w2
  exact ⟨x0.toNat, x1.toNat, x2.toNat, by rw [Int.toNat_of_nonneg b0.1, Int.toNat_of_nonneg b1.1, Int.toNat_of_nonneg b2.1], by omega, by omega, by omega⟩
/-- which byte turns, and by what -/
theorem open_turn {base : Nat} {v : Value} {d : DataW H} {p : List MemPlace} (hv : Value.okWide Try.prog w .any base 58 v) (h : DataW.Trod enc Try.prog w 0 (fun _ => true) true 58 v d p) :
    ∃ n q x : Nat, v = .agg #[.int .u8 (n : Nat), .int .u8 (q : Nat), .int .u8 (x : Nat)] ∧ n < 256 ∧ q < 256 ∧ x < 256 := by
  obtain ⟨v0, v1, v2, y0, y1, y2, n, rfl, rfl, rfl, hy0, hy1, hy2⟩ := Go.Joins.open_agg3 Try.underlying58 (by kernel_rfl) (by kernel_rfl) hv h
  obtain ⟨x0, e0, _, w0⟩ := DataW.trod_int Try.underlying5 hy0
  obtain ⟨x1, e1, _, w1⟩ := DataW.trod_int Try.underlying5 hy1
  obtain ⟨x2, e2, _, w2⟩ := DataW.trod_int Try.underlying5 hy2
  simp at e0 e1 e2
  subst e0 e1 e2
  have b0 := bounds_u8 w0
  have b1 := bounds_u8 w1
  have b2 := bounds_u8 w2
  exact ⟨x0.toNat, x1.toNat, x2.toNat, by rw [Int.toNat_of_nonneg b0.1, Int.toNat_of_nonneg b1.1, Int.toNat_of_nonneg b2.1], by omega, by omega, by omega⟩
end
end Go.Proofs.Ytechmboimpbjpaa
