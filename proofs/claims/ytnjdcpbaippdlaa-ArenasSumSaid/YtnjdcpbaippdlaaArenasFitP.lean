/-
  ArenasFit, the plain law.
-/
import Derived.Test.YtnjdcpbaippdlaaArenasPutP
namespace Go.Proofs.Ytnjdcpbaippdlaa
open Go Go.RowKit
namespace Ar
theorem length_put_new {l : List (Nat × It)} {id : Nat} (h : look l id = none) (x : It) : (put l id x).length = l.length + 1 := by
  induction l with
  | nil => rfl
  | cons q r ih =>
    obtain ⟨k, y⟩ := q
    have hk : k ≠ id := fun e => by rw [look, if_pos e] at h; cases h
    rw [look, if_neg hk] at h
    unfold put
    split
    · rfl
    · rw [if_neg (fun e => hk e.symm)]
      simp only [List.length_cons, ih h]
theorem take_more {A : Arena} {id b : Nat} (h : look A.its id = none) (hr : b + A.used ≤ A.room) :
    (takeA A id (b : Nat)).its.length = A.its.length + 1 ∧ (takeA A id (b : Nat)).peak = Nat.max A.peak (A.used + b) := by
  have e := (take_facts h hr).1
  unfold takeA
  rw [e, if_pos rfl]
  exact ⟨length_put_new h _, rfl⟩
theorem take_over {A : Arena} {id : Nat} {z : Int} (h : look A.its id = none) (h0 : 0 ≤ z) (hz : (A.room : Int) - A.used < z) : takeE A id z = 13 ∧ takeA A id z = A := by
  have e : takeE A id z = 13 := by
    unfold takeE
    rw [if_neg (by omega), h, if_neg (by simp), if_pos (by omega)]
  refine ⟨e, ?_⟩
  unfold takeA
  rw [e, if_neg (by decide)]
/-- behind i rounds: y: what is taken, as it comes; ks: the ids, as they come -/
structure Fit (y ks : List Nat) (i : Nat) (A : Arena) : Prop where
  room : A.room = y.sum
  used : A.used = (y.take i).sum
  peak : A.peak = (y.take i).sum
  puts : A.puts = i
  len : A.its.length = i
  free : ∀ id, (∀ j, j < i → ks[j]? ≠ some id) → look A.its id = none
theorem fit_new (y ks : List Nat) : Fit y ks 0 (new y.sum) := ⟨rfl, rfl, rfl, rfl, rfl, fun _ _ => rfl⟩
theorem sum_take_succ {y : List Nat} {i b : Nat} (h : y[i]? = some b) : (y.take (i + 1)).sum = (y.take i).sum + b := by
  rw [List.take_add_one, h]; simp
theorem sum_take_le (y : List Nat) (i : Nat) : (y.take i).sum ≤ y.sum := by
  have := congrArg List.sum (List.take_append_drop i y)
  rw [List.sum_append] at this
  omega
theorem Fit.step {y ks : List Nat} {i k b : Nat} {A : Arena} (h : Fit y ks i A) (hk : ks[i]? = some k) (hb : y[i]? = some b) (hnew : ∀ j, j < i → ks[j]? ≠ some k) :
    takeE A k (b : Nat) = 0 ∧ Fit y ks (i + 1) (takeA A k (b : Nat)) := by
  have hl := h.free k hnew
  have hs := sum_take_succ hb
  have hle := sum_take_le y (i + 1)
  have hr : b + A.used ≤ A.room := by rw [h.used, h.room]; omega
  obtain ⟨e, r, u, q, l1, o⟩ := take_facts hl hr
  obtain ⟨m1, m2⟩ := take_more hl hr
  refine ⟨e, by rw [r, h.room], by rw [u, h.used, hs], ?_, by rw [q, h.puts], by rw [m1, h.len], fun id hid => ?_⟩
  · rw [m2, h.peak, h.used, hs]
    exact Nat.max_eq_right (by omega)
  · have hne : id ≠ k := fun e => hid i (by omega) (by rw [e]; exact hk)
    rw [o id hne]
    exact h.free id (fun j hj => hid j (by omega))
theorem Fit.over {y ks : List Nat} {i id : Nat} {z : Int} {A : Arena} (h : Fit y ks i A) (hnew : ∀ j, j < i → ks[j]? ≠ some id) (hz : z = (y.sum : Int) - (y.take i).sum + 1) : takeE A id z = 13 ∧ takeA A id z = A := by
  have := sum_take_le y i
  refine take_over (h.free id hnew) (by omega) (by rw [h.room, h.used]; omega)
end Ar
end Go.Proofs.Ytnjdcpbaippdlaa
