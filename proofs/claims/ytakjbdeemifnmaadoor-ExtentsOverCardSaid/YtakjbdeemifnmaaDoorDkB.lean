/-
  The plain mathematics of a disk of sectors, second part: a stretch of a piece.
-/
import Derived.Test.YtakjbdeemifnmaaDoorDk
import Derived.Laws.Bits64b
import Derived.Laws.BitsAllLaws
namespace Go.Proofs.YtakjbdeemifnmaaDoor
open Go Go.RowKit

theorem splice_get (l : List Value) (o : Nat) (vs : List Value) (h : o + vs.length ≤ l.length) (i : Nat) : (splice l o vs)[i]? = if i < o then l[i]? else if i < o + vs.length then vs[i - o]? else l[i]? := by
  have ht : (l.take o).length = o := by rw [List.length_take]; omega
  simp only [splice, List.append_assoc]
  by_cases h1 : i < o
  · rw [if_pos h1, List.getElem?_append_left (by rw [ht]; exact h1), List.getElem?_take_of_lt h1]
  · rw [if_neg h1, List.getElem?_append_right (by rw [ht]; omega), ht]
    by_cases h2 : i < o + vs.length
    · rw [if_pos h2, List.getElem?_append_left (by omega)]
    · rw [if_neg h2, List.getElem?_append_right (by omega), List.getElem?_drop]
      congr 1; omega
/-- a stretch of a piece of a row of equal pieces -/
theorem flat_part {α : Type} {f : α → List Value} {k : Nat} (hf : ∀ x, (f x).length = k) (l : List α) (n j : Nat) (x y : α) (cs r : List Value) (hx : l[n]? = some x) (hj : j + cs.length ≤ k) (hy : f y = splice (f x) j cs) : splice (l.flatMap f ++ r) (n * k + j) cs = (l.set n y).flatMap f ++ r := by
  have hn : n < l.length := by
    rcases Nat.lt_or_ge n l.length with h | h
    · exact h
    · rw [List.getElem?_eq_none h] at hx; cases hx
  have hlen : (l.flatMap f).length = l.length * k := flat_length hf l
  have hnk : n * k + k ≤ l.length * k := by have := Nat.mul_le_mul_right k hn; rw [Nat.succ_mul] at this; exact this
  have hlx := hf x
  have hly := hf y
  rw [← flat_set hf l n y r hn]
  refine List.ext_getElem? (fun i => ?_)
  rw [splice_get _ _ _ (by rw [List.length_append]; omega), splice_get _ _ _ (by rw [List.length_append]; omega), hly]
  by_cases h1 : i < n * k
  · rw [if_pos (by omega), if_pos h1]
  · by_cases h2 : i < n * k + k
    · rw [if_neg h1, if_pos h2, hy, splice_get _ _ _ (by omega)]
      have hg : (f x)[i - n * k]? = (l.flatMap f ++ r)[i]? := by
        rw [List.getElem?_append_left (by omega), ← flat_get hf l n (i - n * k) x hx (by omega)]
        congr 1; omega
      rw [hg]
      by_cases h3 : i < n * k + j
      · rw [if_pos h3, if_pos (by omega)]
      · by_cases h4 : i < n * k + j + cs.length
        · rw [if_neg h3, if_pos h4, if_neg (by omega), if_pos (by omega)]
          congr 1; omega
        · rw [if_neg h3, if_neg h4, if_neg (by omega), if_neg (by omega)]
    · rw [if_neg (by omega), if_neg (by omega), if_neg h1, if_neg h2]
/-- what a torn write leaves of a sector -/
theorem torn_cells (y : Dk.Wr) (s : Dk.Sec) (hy : y.b.length = 64) (hs : s.b.length = 64) : secCells (Dk.tornS y s) = splice (secCells s) 0 (nums .u8 (y.b.take 32)) := by
  have e : (Dk.tornS y s).b.length = 64 := by simp [Dk.tornS, hy, hs]
  rw [secCells, secCells, bytes_cells e, bytes_cells hs, splice, List.take_zero, List.nil_append, nums_length, List.length_take, hy]
  simp only [Dk.tornS, nums_append, Nat.zero_add]
  rw [List.drop_append_of_le_length (by rw [nums_length, hs]; decide), List.append_assoc]
  congr 1
  simp [nums]
/-- what a kept write leaves of a sector -/
theorem kept_cells (y : Dk.Wr) (s : Dk.Sec) (hy : y.b.length = 64) (hs : s.b.length = 64) : secCells ⟨y.b, s.bad⟩ = splice (secCells s) 0 (nums .u8 y.b) := by
  rw [secCells, secCells, bytes_cells hy, bytes_cells hs, splice, List.take_zero, List.nil_append, nums_length, hy, Nat.zero_add]
  rw [List.drop_append_of_le_length (by rw [nums_length, hs]; decide), List.drop_of_length_le (by rw [nums_length, hs]; decide), List.nil_append]
/-! ### bits -/
theorem shift_one (x j : Nat) : x / 2 ^ j % 2 = if x.testBit j then 1 else 0 := by
  rw [Nat.testBit_eq_decide_div_mod_eq]
  have := Nat.mod_two_eq_zero_or_one (x / 2 ^ j)
  rcases this with h | h <;> simp [h]
theorem bit_test (x j : Nat) (hx : x < 18446744073709551616) : (bits BinOp.and .u64 ((x : Int) / 2 ^ j) 1 == 1) = x.testBit j := by
  have e : ((x : Int) / 2 ^ j) = ((x / 2 ^ j : Nat) : Int) := by norm_cast
  have hl : x / 2 ^ j < 18446744073709551616 := Nat.lt_of_le_of_lt (Nat.div_le_self _ _) hx
  have h := bits_and_u64_nat (x / 2 ^ j) 1 hl (by decide)
  rw [e]
  rw [show ((1 : Nat) : Int) = 1 from rfl] at h
  rw [h, nat_mask1, shift_one]
  cases x.testBit j <;> rfl
theorem and_small {a b : Nat} (ha : a ≤ 1) (hb : b ≤ 1) : bits BinOp.and .i64 (a : Int) (b : Int) = ((a &&& b : Nat) : Int) := by
  rcases Nat.le_one_iff_eq_zero_or_eq_one.1 ha with rfl | rfl <;> rcases Nat.le_one_iff_eq_zero_or_eq_one.1 hb with rfl | rfl <;> decide
end Go.Proofs.YtakjbdeemifnmaaDoor
