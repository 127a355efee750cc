/-
  The plain mathematics of a disk of sectors, third part: the writes to a sector, turned one by one.
-/
import Derived.Test.YtakjbdeemifnmaaDoorDkB
namespace Go.Proofs.YtakjbdeemifnmaaDoor
open Go Go.RowKit
namespace Dk
/-- the write at i is to the sector n -/
def isTo (n : Nat) (l : List Wr) (i : Nat) : Bool := match l[i]? with | some y => y.n == n | none => false
/-- of the first k writes those to the sector n -/
def hits (n : Nat) (l : List Wr) (k : Nat) : List Nat := (List.range k).filter (isTo n l)
theorem hits_yes {n : Nat} {l : List Wr} {k : Nat} {y : Wr} (h : l[k]? = some y) (hn : y.n = n) : hits n l (k + 1) = hits n l k ++ [k] := by
  simp [hits, List.range_succ, List.filter_append, isTo, h, hn]
theorem hits_no {n : Nat} {l : List Wr} {k : Nat} {y : Wr} (h : l[k]? = some y) (hn : y.n ≠ n) : hits n l (k + 1) = hits n l k := by
  simp [hits, List.range_succ, List.filter_append, isTo, h, hn]
theorem hits_length (n : Nat) (l : List Wr) (k : Nat) : (hits n l k).length ≤ k := by
  have := List.length_filter_le (isTo n l) (List.range k)
  simpa [hits] using this
theorem hits_get {n : Nat} {l : List Wr} {k j i : Nat} (h : (hits n l k)[j]? = some i) : i < k ∧ ∃ y, l[i]? = some y ∧ y.n = n := by
  have hm := List.mem_of_getElem? h
  rw [hits, List.mem_filter] at hm
  refine ⟨by simpa using hm.1, ?_⟩
  have h2 := hm.2
  unfold isTo at h2
  cases hy : l[i]? with
  | none => simp [hy] at h2
  | some y => exact ⟨y, rfl, by simpa [hy] using h2⟩
theorem hits_nodup (n : Nat) (l : List Wr) (k : Nat) : (hits n l k).Nodup := List.Nodup.sublist List.filter_sublist List.nodup_range

/-- each of these places turned -/
def turn (f : Wr → Wr) (l : List Wr) (is : List Nat) : List Wr := is.foldl (fun l i => l.modify i f) l
theorem turn_snoc (f : Wr → Wr) (l : List Wr) (is : List Nat) (i : Nat) : turn f l (is ++ [i]) = (turn f l is).modify i f := by simp [turn]
theorem turn_length (f : Wr → Wr) : ∀ (is : List Nat) (l : List Wr), (turn f l is).length = l.length
  | [], l => rfl
  | i :: r, l => by
    show (turn f (l.modify i f) r).length = _
    rw [turn_length f r, List.length_modify]
theorem turn_get (f : Wr → Wr) : ∀ (is : List Nat) (l : List Wr) (j : Nat), is.Nodup → (turn f l is)[j]? = if j ∈ is then l[j]?.map f else l[j]?
  | [], l, j, _ => by simp [turn]
  | i :: r, l, j, h => by
    have hi : i ∉ r := (List.nodup_cons.1 h).1
    show (turn f (l.modify i f) r)[j]? = _
    rw [turn_get f r _ j (List.nodup_cons.1 h).2, List.getElem?_modify]
    by_cases hj : j ∈ r
    · have : i ≠ j := fun e => hi (e ▸ hj)
      simp [hj, this]
    · by_cases e : i = j
      · subst e; simp [hj]
      · have e' : ¬ j = i := fun h => e h.symm
        simp [hj, e, e']
theorem turn_all (f : Wr → Wr) (n : Nat) (l : List Wr) : turn f l (hits n l l.length) = l.map (fun y => if y.n = n then f y else y) := by
  refine List.ext_getElem? (fun j => ?_)
  rw [turn_get f _ l j (hits_nodup n l _), List.getElem?_map]
  cases hy : l[j]? with
  | none => simp
  | some y =>
    have hj : j < l.length := by
      rcases Nat.lt_or_ge j l.length with h | h
      · exact h
      · rw [List.getElem?_eq_none h] at hy; cases hy
    by_cases hn : y.n = n
    · have : j ∈ hits n l l.length := List.mem_filter.2 ⟨List.mem_range.2 hj, by unfold isTo; rw [hy]; simpa using hn⟩
      simp [this, hn]
    · have : j ∉ hits n l l.length := fun hm => by
        have h2 := (List.mem_filter.1 hm).2
        unfold isTo at h2; rw [hy] at h2; exact hn (by simpa using h2)
      simp [this, hn]
theorem turn_at (f : Wr → Wr) (l : List Wr) (is : List Nat) (k i : Nat) (h : is.Nodup) (hk : is[k]? = some i) : (turn f l (is.take k))[i]? = l[i]? := by
  rw [turn_get f _ l i (List.Nodup.sublist (List.take_sublist _ _) h), if_neg]
  intro hm
  obtain ⟨j, hj, e⟩ := List.mem_iff_getElem.1 hm
  have hj' := hj
  rw [List.length_take] at hj'
  rw [List.getElem_take] at e
  have hk' : k < is.length := by
    rcases Nat.lt_or_ge k is.length with h | h
    · exact h
    · rw [List.getElem?_eq_none h] at hk; cases hk
  have e2 : is[k] = i := by rw [List.getElem?_eq_getElem hk'] at hk; exact Option.some.inj hk
  have := (List.getElem_inj h).1 (e.trans e2.symm)
  omega
end Dk
end Go.Proofs.YtakjbdeemifnmaaDoor
