/-
  The plain mathematics of lists of numbers as bytes (chapter 1). No program in sight.
-/
import Derived.Test.YtnjdcpbaippdlaaRt
namespace Go.Proofs.Ytnjdcpbaippdlaa
open Go Go.RowKit
namespace Nm

/-- a number of either sign as one without, and back -/
def u (z : Int) : Nat := (z % 4294967296).toNat
def i (n : Nat) : Int := if n < 2147483648 then (n : Int) else (n : Int) - 4294967296
theorem u_lt (z : Int) : u z < 4294967296 := by unfold u; omega
theorem i_u {z : Int} (h1 : -2147483648 ≤ z) (h2 : z ≤ 2147483647) : i (u z) = z := by
  unfold i u
  split <;> omega
theorem i_range {n : Nat} (h : n < 4294967296) : -2147483648 ≤ i n ∧ i n ≤ 2147483647 := by
  unfold i; split <;> omega

/-- a list's bytes -/
def put (l : List Int) : List Nat := Rt.four (l.length % 4294967296) ++ (l.map u).flatMap Rt.four
def many (b : List Nat) : Nat := Rt.unfour b
def err (b : List Nat) : Nat := if b.length < 4 then 5 else if 4096 < many b then 3 else if b.length < 4 + 4 * many b then 5 else 0
def nth (b : List Nat) (k : Nat) : Int := i (Rt.unfour (b.drop (4 + 4 * k)))
def get (b : List Nat) : List Int := if err b = 0 then (List.range (many b)).map (nth b) else []
def took (b : List Nat) : Nat := if err b = 0 then 4 + 4 * many b else 0

theorem flat_length (q : List Nat) : (q.flatMap Rt.four).length = 4 * q.length := by
  induction q with
  | nil => rfl
  | cons y q ih => rw [List.flatMap_cons, List.length_append, ih, Rt.four_length, List.length_cons]; omega
theorem flat_lt (q : List Nat) : ∀ x ∈ q.flatMap Rt.four, x < 256 := by
  intro x hx
  obtain ⟨y, _, hy⟩ := List.mem_flatMap.1 hx
  exact Rt.four_lt y x hy
theorem put_length (l : List Int) : (put l).length = 4 + 4 * l.length := by
  rw [put, List.length_append, Rt.four_length, flat_length, List.length_map]
theorem put_lt (l : List Int) : ∀ x ∈ put l, x < 256 := by
  intro x hx
  rcases List.mem_append.1 hx with h | h
  · exact Rt.four_lt _ x h
  · exact flat_lt _ x h
theorem unfour_app {n : Nat} (h : n < 4294967296) (x : List Nat) : Rt.unfour (Rt.four n ++ x) = n := by
  simp [Rt.unfour, Rt.four]; omega
theorem flat_drop : ∀ (q : List Nat) (k : Nat), (q.flatMap Rt.four).drop (4 * k) = (q.drop k).flatMap Rt.four
  | q, 0 => by simp
  | [], k + 1 => by simp
  | y :: q, k + 1 => by
    rw [List.flatMap_cons, List.drop_succ_cons, ← flat_drop q k, show 4 * (k + 1) = (Rt.four y).length + 4 * k by rw [Rt.four_length]; omega, List.drop_append]
    rw [List.drop_of_length_le (Nat.le_add_right _ _), List.nil_append]
    congr 1; omega
theorem get_put (l : List Int) (hl : l.length ≤ 4096) (h32 : ∀ z ∈ l, -2147483648 ≤ z ∧ z ≤ 2147483647) (rest : List Nat) :
    err (put l ++ rest) = 0 ∧ get (put l ++ rest) = l ∧ many (put l ++ rest) = l.length := by
  have hm : many (put l ++ rest) = l.length := by
    rw [many, put, List.append_assoc, unfour_app (by omega)]; omega
  have he : err (put l ++ rest) = 0 := by
    rw [err, hm, List.length_append, put_length, if_neg (by omega), if_neg (by omega), if_neg (by omega)]
  refine ⟨he, ?_, hm⟩
  rw [get, if_pos he, hm]
  refine List.ext_getElem (by simp) (fun k h1 h2 => ?_)
  rw [List.getElem_map, List.getElem_range, nth]
  have hk : k < (l.map u).length := by rw [List.length_map]; exact h2
  have e : (put l ++ rest).drop (4 + 4 * k) = Rt.four (u l[k]) ++ (((l.map u).drop (k + 1)).flatMap Rt.four ++ rest) := by
    rw [put, List.append_assoc, List.drop_append, Rt.four_length, List.drop_of_length_le (by rw [Rt.four_length]; omega), List.nil_append,
      show 4 + 4 * k - 4 = 4 * k by omega, List.drop_append_of_le_length (by rw [flat_length]; omega), flat_drop, List.drop_eq_getElem_cons hk, List.flatMap_cons, List.append_assoc, List.getElem_map]
  rw [e, unfour_app (u_lt _)]
  exact i_u (h32 _ (List.getElem_mem h2)).1 (h32 _ (List.getElem_mem h2)).2
theorem err_many {b : List Nat} (h : err b = 0) : 4 ≤ b.length ∧ many b ≤ 4096 ∧ 4 + 4 * many b ≤ b.length := by
  unfold err at h
  split at h
  · cases h
  · split at h
    · cases h
    · split at h
      · cases h
      · omega
theorem many_put (l : List Int) (hl : l.length < 4294967296) (rest : List Nat) : many (put l ++ rest) = l.length := by
  rw [many, put, List.append_assoc, unfour_app (by omega)]; omega
theorem head_put (l : List Int) : (put l).take 4 = Rt.four (l.length % 4294967296) := by
  rw [put, List.take_append_of_le_length (by rw [Rt.four_length]; exact Nat.le_refl _)]
  rfl
theorem many_head (l : List Int) (hl : l.length < 4294967296) : many ((put l).take 4) = l.length := by
  rw [head_put, many, Rt.unfour_four (by omega)]; omega
theorem err_big {l : List Int} (h1 : 4096 < l.length) (hl : l.length < 4294967296) : err (put l) = 3 ∧ err ((put l).take 4) = 3 := by
  have h2 := many_put l hl []
  rw [List.append_nil] at h2
  constructor
  · rw [err, h2, put_length, if_neg (by omega), if_pos h1]
  · rw [err, many_head l hl, head_put, Rt.four_length, if_neg (by omega), if_pos h1]
theorem err_head {l : List Int} (h1 : l.length ≤ 4096) (h0 : 0 < l.length) : err ((put l).take 4) = 5 := by
  rw [err, many_head l (by omega), head_put, Rt.four_length, if_neg (by omega), if_neg (by omega), if_pos (by omega)]
theorem get_err {b : List Nat} (h : err b ≠ 0) : get b = [] ∧ took b = 0 := ⟨by rw [get, if_neg h], by rw [took, if_neg h]⟩
theorem took_put {l : List Int} (hl : l.length ≤ 4096) (h32 : ∀ z ∈ l, -2147483648 ≤ z ∧ z ≤ 2147483647) (rest : List Nat) : took (put l ++ rest) = 4 + 4 * l.length := by
  obtain ⟨h1, _, h3⟩ := get_put l hl h32 rest
  rw [took, if_pos h1, h3]
end Nm
end Go.Proofs.Ytnjdcpbaippdlaa
