/-
  What comes in, opened: a list of acts as it is read.
  What is read of a sector. No program in sight.
-/
import Derived.Test.YtmjeigceclmdoaaGreatDoorK02
import Derived.Laws.IdiomArrays
import Derived.Lib.SmallJoins
import Derived.Test.YtmjeigceclmdoaaGreatDoorK15
import Derived.Test.YtmjeigceclmdoaaGreatDoorK04
namespace Go.Proofs.YtmjeigceclmdoaaGreatDoor
open Go.ChangeShapes Go.WideShapes Go.ChangeAt Go.RowKit

section
variable {H : Type} {enc : TypeId × Value → H} {w : World}

theorem cells_act : Tryz.prog.cellsOf 90 = 5 := by kernel_rfl
theorem cells_int : Tryz.prog.cellsOf 3 = 1 := by kernel_rfl
theorem cells_u64 : Tryz.prog.cellsOf 88 = 1 := by kernel_rfl

set_option maxRecDepth 100000 in
/-- one act -/
theorem open_deed {fuel : Nat} {cs : List Value} {x : DataW H × List MemPlace} {c o : Nat} (hc : ∀ j, j < 5 → w.cell? ⟨c, o + j, none⟩ = cs[j]?)
    (h : DataW.trod enc Tryz.prog w 0 (fun _ => true) true fuel 90 cs = some x) (hz : ∀ n ∈ DataW.weights Tryz.prog 90 x.1, n ≤ reachBytes) :
    ∃ d : Deed, DeedAt w c o d := by
  obtain ⟨xs, n, rfl, rfl, hlen, hxs, hf⟩ := DataW.trod_struct Tryz.underlying90 h
  rw [cells_act] at hlen
  have f0 : DataW.trod enc Tryz.prog w 0 (fun _ => true) true n 5 (List.take (Tryz.prog.cellsOf 5) (List.drop 0 cs)) = xs[0]? := hf 0 _ rfl
  have f1 : DataW.trod enc Tryz.prog w 0 (fun _ => true) true n 3 (List.take (Tryz.prog.cellsOf 3) (List.drop 1 cs)) = xs[1]? := hf 1 _ rfl
  have f2 : DataW.trod enc Tryz.prog w 0 (fun _ => true) true n 3 (List.take (Tryz.prog.cellsOf 3) (List.drop 2 cs)) = xs[2]? := hf 2 _ rfl
  have f3 : DataW.trod enc Tryz.prog w 0 (fun _ => true) true n 22 (List.take (Tryz.prog.cellsOf 22) (List.drop 3 cs)) = xs[3]? := hf 3 _ rfl
  have f4 : DataW.trod enc Tryz.prog w 0 (fun _ => true) true n 88 (List.take (Tryz.prog.cellsOf 88) (List.drop 4 cs)) = xs[4]? := hf 4 _ rfl
  rw [cells_u8] at f0
  rw [cells_int] at f1 f2
  rw [cells_bytes] at f3
  rw [cells_u64] at f4
  match xs, hxs with
  | [x0, x1, x2, x3, x4], _ =>
  match cs, hlen with
  | [c0, c1, c2, c3, c4], _ =>
    obtain ⟨k, e0, _, w0⟩ := DataW.trod_int Tryz.underlying5 (show DataW.trod enc Tryz.prog w 0 (fun _ => true) true n 5 [c0] = some x0 from f0)
    obtain ⟨m, e1, _, w1⟩ := DataW.trod_int Tryz.underlying3 (show DataW.trod enc Tryz.prog w 0 (fun _ => true) true n 3 [c1] = some x1 from f1)
    obtain ⟨q, e2, _, w2⟩ := DataW.trod_int Tryz.underlying3 (show DataW.trod enc Tryz.prog w 0 (fun _ => true) true n 3 [c2] = some x2 from f2)
    obtain ⟨a, cap, zs, e3, hl, hm, hr, hwf, hwt, _⟩ := open_list Tryz.underlying22 Tryz.underlying5 cells_u8 (show DataW.trod enc Tryz.prog w 0 (fun _ => true) true n 22 [c3] = some x3 from f3)
    obtain ⟨u, e4, _, w4⟩ := DataW.trod_int Tryz.underlying88 (show DataW.trod enc Tryz.prog w 0 (fun _ => true) true n 88 [c4] = some x4 from f4)
    simp only [List.cons.injEq, and_true] at e0 e1 e2 e3 e4
    subst e0 e1 e2 e3 e4
    have b0 := bounds_u8 w0
    have b4 := bounds_u64 w4
    have hpos : ∀ z ∈ zs, 0 ≤ z := fun z hz' => (bounds_u8 (hwf z hz')).1
    have hcap : (cap : Int) ≤ 140737488355328 := by
      rcases hwt with h0 | h0
      · omega
      · have : cap * Tryz.prog.bytesOf 5 ≤ reachBytes := hz _ (by
          simp only [DataW.weights, Tryz.underlying90, DataW.weightsEach, List.map_cons, List.map_nil, List.mem_append]
          exact Or.inr (Or.inr (Or.inr (Or.inl h0))))
        rw [bytes_u8] at this
        unfold reachBytes at this
        omega
    refine ⟨⟨k.toNat, m, q, a, cap, zs.map Int.toNat, u.toNat⟩, ?_⟩
    have h0 := hc 0 (by decide)
    have h1 := hc 1 (by decide)
    have h2 := hc 2 (by decide)
    have h3 := hc 3 (by decide)
    have h4 := hc 4 (by decide)
    refine ⟨?_, h1, h2, ?_, ?_, ?_, ?_, ?_, ?_, hcap, ?_⟩
    · show w.cell? ⟨c, o, none⟩ = some (.int .u8 ((k.toNat : Nat) : Int))
      rw [show ((k.toNat : Nat) : Int) = k from by omega]; exact h0
    · show w.cell? ⟨c, o + 3, none⟩ = some (.slice a (zs.map Int.toNat).length cap)
      rw [List.length_map]; exact h3
    · show w.cell? ⟨c, o + 4, none⟩ = some (.int .u64 ((u.toNat : Nat) : Int))
      rw [show ((u.toNat : Nat) : Int) = u from by omega]; exact h4
    · show Rd w a (nums .u8 (zs.map Int.toNat))
      rw [← ints_nums hpos]; exact hr
    · show k.toNat < 256
      omega
    · show u.toNat < 18446744073709551616
      omega
    · show (zs.map Int.toNat).length ≤ cap
      rw [List.length_map]; exact hl
    · intro y hy
      obtain ⟨z, hz', rfl⟩ := List.mem_map.1 hy
      have := bounds_u8 (hwf z hz')
      omega

set_option maxRecDepth 100000 in
/-- a slice of acts that came in -/
theorem open_deeds {fuel : Nat} {cs : List Value} {x : DataW H × List MemPlace}
    (h : DataW.trod enc Tryz.prog w 0 (fun _ => true) true fuel 80 cs = some x) (hz : ∀ n ∈ DataW.weights Tryz.prog 80 x.1, n ≤ reachBytes) :
    ∃ ad n cap acts, cs = [.slice ad n cap] ∧ acts.length = n ∧ (n : Int) ≤ 9223372036854775807 ∧ IsDeeds w ad acts := by
  rcases DataW.trod_slice Tryz.underlying80 h with ⟨rfl, rfl⟩ | ⟨a, len, cap, elems, rest, n, rfl, rfl, rfl, hb, hl, hm, hlen, hel, _, _⟩
  · exact ⟨none, 0, 0, [], rfl, rfl, by decide, fun i x hx => by simp at hx⟩
  · rw [cells_act] at hel
    have each : ∀ i, i < len → ∃ d : Deed, a = ⟨a.block, a.off, none⟩ ∧ DeedAt w a.block (a.off + i * 5) d := by
      intro i hi
      have h1 := hel i hi
      rw [List.getElem?_eq_getElem (by omega)] at h1
      obtain ⟨cs, hcs, htr⟩ := Option.bind_eq_some_iff.1 h1
      have hsp0 : a = ⟨a.block, a.off, none⟩ := by
        have h0 := hel 0 (by omega)
        rw [List.getElem?_eq_getElem (by omega)] at h0
        obtain ⟨cs0, hcs0, _⟩ := Option.bind_eq_some_iff.1 h0
        have := (cells_elem hcs0 (by decide)).2.1
        simpa [Addr.add] using this
      have hadd : a.add (i * 5) = ⟨a.block, a.off + i * 5, none⟩ := by rw [hsp0, add_plain]
      rw [hadd] at hcs
      obtain ⟨_, _, hcell⟩ := cells_elem hcs (by decide)
      obtain ⟨d, hd⟩ := open_deed hcell htr (fun m hm' => hz m (by
        have hw : ∀ (l : List (DataW H × List MemPlace)) (y : DataW H × List MemPlace), y ∈ l → m ∈ DataW.weights Tryz.prog 90 y.1 → m ∈ DataW.weightsAll Tryz.prog 90 (l.map (·.1)) := by
          intro l
          induction l with
          | nil => intro y hy; cases hy
          | cons z l ih =>
            intro y hy hm2
            simp only [List.map_cons, DataW.weightsAll, List.mem_append]
            rcases List.mem_cons.1 hy with rfl | hy
            · exact Or.inl hm2
            · exact Or.inr (ih y hy hm2)
        simp only [DataW.weights, Tryz.underlying80, List.mem_cons, List.mem_append]
        exact Or.inr (Or.inl (hw elems _ (List.getElem_mem _) hm'))))
      exact ⟨d, hsp0, hd⟩
    obtain ⟨acts, hacts, hq⟩ := list_choose len each
    refine ⟨some a, len, cap, acts, rfl, hacts, by unfold maxLen at hm; omega, fun i d hd => ?_⟩
    obtain ⟨e, hd'⟩ := hq i d hd
    exact ⟨a.block, a.off, by rw [← e], hd'⟩
end
end Go.Proofs.YtmjeigceclmdoaaGreatDoor
namespace Go.Proofs.YtmjeigceclmdoaaGreatDoor
open Go Go.RowKit
namespace Dk
def bytesOf (s : Sec) : List Nat := if s.bad = 1 then [] else s.b
def errOf (s : Sec) : Nat := if s.bad = 1 then 12 else 0
theorem bytes_le {s : Sec} (h : s.Ok) : (bytesOf s).length ≤ 64 := by
  unfold bytesOf; split
  · simp
  · rw [h.b.len]; exact Nat.le_refl _
end Dk
end Go.Proofs.YtmjeigceclmdoaaGreatDoor
