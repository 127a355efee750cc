/-
  The plain mathematics of extents (chapter 16): bytes on pages of a disk. No program in sight. A disk, and lists that lie outside of it. The first numbers below N, as an iterator gives them. Package extents by its own text: Pages, may. Package extents by its own text: may. Package extents by its own text: pieces (an iterator over the pages of so many bytes). Package extents by its own text: Write. A region that reads, then calls, then hands on what came back in any order: inside a round of a loop over a function. No program in sight. Package extents by its own text: Read. Pages in a row, and what a disk says of things that stand on them. No program in sight. Package drydocklaw14 by its own text: got, refused. Package drydocklaw16 by its own text: lives.
-/
import Derived.Test.YtnffigfafalocaaGreatDoorK12
import Derived.Test.YtnffigfafalocaaGreatDoorK10
import Derived.Test.YtnffigfafalocaaGreatDoorK07
import Derived.Test.YtnffigfafalocaaGreatDoorK01
import Derived.Test.YtnffigfafalocaaGreatDoorK16
import Derived.Test.YtnffigfafalocaaGreatDoorK14
import Derived.Maps.OwnOps
import Derived.Maps.OwnSet
import Derived.Test.YtnffigfafalocaaGreatDoorK15
namespace Go.Proofs.YtnffigfafalocaaGreatDoor
open Go Go.RowKit
namespace Ex
/-- how many pages so many bytes need -/
def pages (n : Nat) : Nat := n / 240 + min 1 (n % 240)
/-- where a piece ends -/
def upto (n i : Nat) : Nat := min n (240 * i + 240)
def plen (n i : Nat) : Nat := upto n i - 240 * i
def piece (b : List Nat) (i : Nat) : List Nat := (b.drop (240 * i)).take (plen b.length i)
theorem pages_lt {n i : Nat} (h : i < pages n) : 240 * i < n := by
  unfold pages at h; omega
theorem pages_not {n i : Nat} (h : pages n ≤ i) : n ≤ 240 * i := by
  unfold pages at h; omega
theorem pages_le (n : Nat) : 240 * pages n ≤ n + 239 := by unfold pages; omega
theorem plen_le (n i : Nat) : plen n i ≤ 240 := by unfold plen upto; omega
theorem piece_length (b : List Nat) (i : Nat) : (piece b i).length = plen b.length i := by
  rw [piece, List.length_take, List.length_drop]; unfold plen upto; omega
theorem piece_le (b : List Nat) (i : Nat) : (piece b i).length ≤ 240 := by rw [piece_length]; exact plen_le _ _
theorem piece_lt {b : List Nat} (h : ∀ x ∈ b, x < 256) (i : Nat) : ∀ x ∈ piece b i, x < 256 := fun x hx => h x (List.mem_of_mem_drop (List.mem_of_mem_take hx))
/-- the first pieces are the first bytes -/
theorem pieces_upto (b : List Nat) : ∀ k, ((List.range k).flatMap (piece b)) = b.take (240 * k)
  | 0 => by simp
  | k + 1 => by
    rw [List.range_succ, List.flatMap_append, pieces_upto b k]
    simp only [List.flatMap_cons, List.flatMap_nil, List.append_nil]
    have e : piece b k = (b.drop (240 * k)).take 240 := by
      rw [piece]
      by_cases h : 240 * k + 240 ≤ b.length
      · rw [show plen b.length k = 240 by unfold plen upto; omega]
      · rw [List.take_of_length_le (by rw [List.length_drop]; unfold plen upto; omega), List.take_of_length_le (by rw [List.length_drop]; omega)]
    rw [e, show 240 * (k + 1) = 240 * k + 240 by omega, List.take_add]
theorem pieces_all (b : List Nat) : (List.range (pages b.length)).flatMap (piece b) = b := by
  rw [pieces_upto, List.take_of_length_le (pages_not (Nat.le_refl _))]

/-- pages of a disk, for so many bytes -/
def may (D : Dk.Disk) (nums : List Nat) (n : Nat) : Prop := nums.Nodup ∧ (∀ x ∈ nums, onD D x = 0) ∧ nums.length = pages n
instance (D : Dk.Disk) (nums : List Nat) (n : Nat) : Decidable (may D nums n) := by unfold may; infer_instance
def at' (nums : List Nat) (i : Nat) : Nat := nums.getD i 0
theorem at_mem {nums : List Nat} {i : Nat} (h : i < nums.length) : at' nums i ∈ nums := by
  rw [at', List.getD_eq_getElem?_getD, List.getElem?_eq_getElem h]; exact List.getElem_mem h
theorem at_ne {nums : List Nat} (h : nums.Nodup) {i j : Nat} (hi : i < nums.length) (hj : j < nums.length) (hne : i ≠ j) : at' nums i ≠ at' nums j := by
  rw [at', at', List.getD_eq_getElem?_getD, List.getD_eq_getElem?_getD, List.getElem?_eq_getElem hi, List.getElem?_eq_getElem hj]
  intro e
  exact hne ((List.getElem_inj h).1 e)
/-- the first pieces, written -/
def wr (D : Dk.Disk) (ep : Nat) (nums : List Nat) (b : List Nat) : Nat → Dk.Disk
  | 0 => D
  | k + 1 => Pg.wD (wr D ep nums b k) (at' nums k) ep (piece b k)
def wE (D : Dk.Disk) (nums : List Nat) (n : Nat) : Nat := if may D nums n then 0 else 1
def wD (D : Dk.Disk) (ep : Nat) (nums : List Nat) (b : List Nat) : Dk.Disk := if may D nums b.length then wr D ep nums b (pages b.length) else D
theorem onD_len {D D' : Dk.Disk} (h : D'.seen.length = D.seen.length) (p : Nat) : onD D' p = onD D p := by rw [onD, onD, h]
theorem wr_len (D : Dk.Disk) (ep : Nat) (nums b : List Nat) : ∀ k, (wr D ep nums b k).seen.length = D.seen.length
  | 0 => rfl
  | k + 1 => by rw [wr, Pg.wD_len]; exact wr_len D ep nums b k
theorem may_len {D D' : Dk.Disk} (h : D'.seen.length = D.seen.length) {nums : List Nat} {n : Nat} : may D' nums n ↔ may D nums n := by
  unfold may; simp only [onD_len h]
section
variable {D : Dk.Disk} {ep : Nat} {nums b : List Nat} (hM : may D nums b.length)
include hM
theorem wr_ok {k : Nat} (h : k < pages b.length) : Pg.wE (wr D ep nums b k) (at' nums k) (piece b k) = 0 := by
  rw [Pg.wE, if_pos ⟨by rw [onD_len (wr_len _ _ _ _ _)]; exact hM.2.1 _ (at_mem (by rw [hM.2.2]; exact h)), piece_le b k⟩]
theorem wr_waits : ∀ k, k ≤ pages b.length → (wr D ep nums b k).waits.length = D.waits.length + 4 * k
  | 0, _ => rfl
  | k + 1, h => by
    rw [wr, (Pg.wD_ok (wr_ok hM (by omega))).2.1, wr_waits k (by omega)]; omega
/-- sectors of other pages are as they were -/
theorem wr_other : ∀ k, k ≤ pages b.length → ∀ n, (∀ i, i < k → ¬ (4 * at' nums i ≤ n ∧ n < 4 * at' nums i + 4)) → Dk.at_ (wr D ep nums b k).seen n = Dk.at_ D.seen n
  | 0, _, _, _ => rfl
  | k + 1, h, n, hn => by
    rw [wr, (Pg.wD_ok (wr_ok hM (by omega))).2.2, if_neg (hn k (by omega))]
    exact wr_other k (by omega) n (fun i hi => hn i (by omega))
theorem wr_holds : ∀ k, k ≤ pages b.length → ∀ i, i < k → ∀ j, j < 4 → Dk.at_ (wr D ep nums b k).seen (4 * at' nums i + j) = ⟨Pg.chunk (Pg.put (at' nums i) ep (piece b i)) j, 0⟩
  | 0, _, _, hi, _, _ => absurd hi (Nat.not_lt_zero _)
  | k + 1, h, i, hi, j, hj => by
    rw [wr, (Pg.wD_ok (wr_ok hM (by omega))).2.2]
    by_cases e : i = k
    · subst e
      rw [if_pos (by omega), Nat.add_sub_cancel_left]
    · have hne := at_ne hM.1 (i := i) (j := k) (by rw [hM.2.2]; omega) (by rw [hM.2.2]; omega) e
      rw [if_neg (by omega)]
      exact wr_holds k (by omega) i (by omega) j hj
end
/-- what one page says -/
def one (D : Dk.Disk) (ep num l : Nat) : Nat := if Pg.rE D num ≠ 0 then Pg.rE D num else if Pg.rN D num ≠ ep ∨ (Pg.rB D num).length ≠ l then 4 else 0
def rdE (D : Dk.Disk) (ep : Nat) (nums : List Nat) (n : Nat) : Nat → Nat
  | 0 => 0
  | k + 1 => if rdE D ep nums n k ≠ 0 then rdE D ep nums n k else one D ep (at' nums k) (plen n k)
def rdB (D : Dk.Disk) (nums : List Nat) : Nat → List Nat
  | 0 => []
  | k + 1 => rdB D nums k ++ Pg.rB D (at' nums k)
def rE (D : Dk.Disk) (ep : Nat) (nums : List Nat) (n : Nat) : Nat := if may D nums n then rdE D ep nums n (pages n) else 1
def rB (D : Dk.Disk) (ep : Nat) (nums : List Nat) (n : Nat) : List Nat := if rE D ep nums n = 0 then rdB D nums (pages n) else []
theorem rdE_ok {D : Dk.Disk} {ep : Nat} {nums : List Nat} {n : Nat} : ∀ k, (∀ i, i < k → one D ep (at' nums i) (plen n i) = 0) → rdE D ep nums n k = 0
  | 0, _ => rfl
  | k + 1, h => by
    rw [rdE, rdE_ok k (fun i hi => h i (by omega)), if_neg (by simp)]
    exact h k (by omega)
/-- what is not read, once, is not read -/
theorem rdE_stays {D : Dk.Disk} {ep : Nat} {nums : List Nat} {n : Nat} {k : Nat} (h : rdE D ep nums n k ≠ 0) : ∀ j, rdE D ep nums n (k + j) = rdE D ep nums n k
  | 0 => rfl
  | j + 1 => by
    rw [← Nat.add_assoc, rdE, rdE_stays h j, if_pos h]
theorem rdE_stops {D : Dk.Disk} {ep : Nat} {nums : List Nat} {n : Nat} {i m : Nat} (him : i < m) (h : ∀ j, j < i → one D ep (at' nums j) (plen n j) = 0) (h1 : one D ep (at' nums i) (plen n i) ≠ 0) : rdE D ep nums n m = one D ep (at' nums i) (plen n i) := by
  have e : rdE D ep nums n (i + 1) = one D ep (at' nums i) (plen n i) := by rw [rdE, rdE_ok i h, if_neg (by simp)]
  have := rdE_stays (D := D) (ep := ep) (nums := nums) (n := n) (k := i + 1) (by rw [e]; exact h1) (m - (i + 1))
  rw [show i + 1 + (m - (i + 1)) = m by omega] at this
  rw [this, e]
/-- pages that hold what is to stand on them -/
def Holds (D : Dk.Disk) (ep : Nat) (nums b : List Nat) (i : Nat) : Prop := ∀ j, j < 4 → Dk.at_ D.seen (4 * at' nums i + j) = ⟨Pg.chunk (Pg.put (at' nums i) ep (piece b i)) j, 0⟩
theorem holds_one {D : Dk.Disk} {ep : Nat} {nums b : List Nat} (hM : may D nums b.length) (hn : ∀ x ∈ nums, x < 4294967296) (he : ep < 4294967296) {i : Nat} (hi : i < pages b.length) (h : Holds D ep nums b i) :
    Pg.rE D (at' nums i) = 0 ∧ Pg.rN D (at' nums i) = ep ∧ Pg.rB D (at' nums i) = piece b i ∧ one D ep (at' nums i) (plen b.length i) = 0 := by
  have hm := at_mem (nums := nums) (i := i) (by rw [hM.2.2]; exact hi)
  obtain ⟨h1, h2, h3⟩ := Pg.r_put (hM.2.1 _ hm) (hn _ hm) he (piece_le b i) h
  refine ⟨h1, h2, h3, ?_⟩
  rw [one, h1, if_neg (by simp), h2, h3, piece_length, if_neg (by simp)]
theorem rdB_all {D : Dk.Disk} {nums b : List Nat} : ∀ k, (∀ i, i < k → Pg.rB D (at' nums i) = piece b i) → rdB D nums k = (List.range k).flatMap (piece b)
  | 0, _ => rfl
  | k + 1, h => by
    rw [rdB, rdB_all k (fun i hi => h i (by omega)), h k (by omega), List.range_succ, List.flatMap_append]
    simp
theorem read_all {D : Dk.Disk} {ep : Nat} {nums b : List Nat} (hM : may D nums b.length) (hn : ∀ x ∈ nums, x < 4294967296) (he : ep < 4294967296) (h : ∀ i, i < pages b.length → Holds D ep nums b i) : rE D ep nums b.length = 0 ∧ rB D ep nums b.length = b := by
  have e : rE D ep nums b.length = 0 := by
    rw [rE, if_pos hM]
    exact rdE_ok _ (fun i hi => (holds_one hM hn he hi (h i hi)).2.2.2)
  refine ⟨e, ?_⟩
  rw [rB, if_pos e, rdB_all _ (fun i hi => (holds_one hM hn he hi (h i hi)).2.2.1), pieces_all]
/-- what is written is read -/
theorem wD_read {D : Dk.Disk} {ep : Nat} {nums b : List Nat} (hM : may D nums b.length) : (∀ i, i < pages b.length → Holds (wD D ep nums b) ep nums b i) ∧ may (wD D ep nums b) nums b.length := by
  rw [wD, if_pos hM]
  exact ⟨fun i hi j hj => wr_holds hM _ (Nat.le_refl _) i hi j hj, (may_len (wr_len _ _ _ _ _)).2 hM⟩
theorem wD_len (D : Dk.Disk) (ep : Nat) (nums b : List Nat) : (wD D ep nums b).seen.length = D.seen.length := by
  unfold wD; split
  · exact wr_len _ _ _ _ _
  · rfl
theorem wD_waits (D : Dk.Disk) (ep : Nat) (nums b : List Nat) : (wD D ep nums b).waits.length ≤ D.waits.length + 4 * pages b.length := by
  unfold wD; split
  · rename_i h; rw [wr_waits h _ (Nat.le_refl _)]; omega
  · omega
/-- .. and whatever stands on other pages stays -/
theorem wD_other {D : Dk.Disk} {ep ep' : Nat} {nums nums' b b' : List Nat} {i : Nat} (h : Holds D ep' nums' b' i) (hne : ∀ j, j < pages b.length → at' nums' i ≠ at' nums j) : Holds (wD D ep nums b) ep' nums' b' i := by
  intro j hj
  unfold wD; split
  · rename_i hM
    rw [wr_other hM _ (Nat.le_refl _) _ (fun i' hi' => by have := hne i' hi'; omega)]
    exact h j hj
  · exact h j hj

/-! ### a byte that turns -/
theorem rot_at (D : Dk.Disk) (n p x : Nat) (hn : n < D.seen.length) (m : Nat) : Dk.at_ (Dk.rot D n p x).seen m = if m = n then Dk.turnS p x (Dk.at_ D.seen n) else Dk.at_ D.seen m := by
  simp only [Dk.rot, Dk.upd, Dk.at_, List.getD_eq_getElem?_getD, List.getElem?_set]
  by_cases h : n = m
  · subst h; rw [if_pos rfl, if_pos hn, if_pos rfl]; rfl
  · rw [if_neg h, if_neg (fun e => h e.symm)]
theorem rot_len (D : Dk.Disk) (n p x : Nat) : (Dk.rot D n p x).seen.length = D.seen.length := by simp [Dk.rot, Dk.upd]
theorem chunk_set (b : List Nat) (q v i : Nat) : Pg.chunk (b.set q v) i = if q < 64 * i then Pg.chunk b i else (Pg.chunk b i).set (q - 64 * i) v := by
  rw [Pg.chunk, List.drop_set]
  split
  · rfl
  · rw [List.take_set]; rfl
theorem chunk_getD {b : List Nat} {i p : Nat} (hp : p < 64) : (Pg.chunk b i).getD p 0 = b.getD (64 * i + p) 0 := by
  rw [Pg.chunk, List.getD_eq_getElem?_getD, List.getElem?_take, if_pos hp, List.getElem?_drop, ← List.getD_eq_getElem?_getD]
theorem chunk_turn {b : List Nat} (hb : b.length = 256) {s p x : Nat} (hs : s < 4) (hp : p < 64) {i : Nat} (hi : i < 4) : Pg.chunk (b.set (64 * s + p) (b.getD (64 * s + p) 0 ^^^ x)) i = if i = s then Dk.turnB (Pg.chunk b s) p x else Pg.chunk b i := by
  rw [chunk_set]
  by_cases h : i = s
  · subst h
    rw [if_neg (by omega), if_pos rfl, Dk.turnB, Nat.add_sub_cancel_left, chunk_getD hp]
  · rw [if_neg h]
    by_cases h2 : 64 * s + p < 64 * i
    · rw [if_pos h2]
    · rw [if_neg h2, List.set_eq_of_length_le (by rw [Pg.chunk_length hb hi]; omega)]
/-- one byte turned, among four neighbours -/
theorem turn_one {b : List Nat} {k i x : Nat} (hk : k + 4 ≤ b.length) (hi : i < 4) (hx : x < 256) : Pg.turn b k (x <<< (8 * i)) = b.set (k + i) (b.getD (k + i) 0 ^^^ x) := by
  have hz : ∀ j, j < 4 → (x <<< (8 * i)) >>> (8 * j) % 256 = if j = i then x else 0 := by
    intro j hj
    obtain rfl | rfl | rfl | rfl : i = 0 ∨ i = 1 ∨ i = 2 ∨ i = 3 := by omega
    all_goals
      obtain rfl | rfl | rfl | rfl : j = 0 ∨ j = 1 ∨ j = 2 ∨ j = 3 := by omega
      all_goals
        simp only [Nat.shiftLeft_eq, Nat.shiftRight_eq_div_pow]
        simp
        try omega
  have h4 : ((b.drop k).take 4).length = 4 := by rw [List.length_take, List.length_drop]; omega
  have lt : (Pg.turn b k (x <<< (8 * i))).length = b.length := by
    simp only [Pg.turn, List.length_append, Pg.xor4_length, List.length_take, List.length_drop]; omega
  apply List.ext_getElem?
  intro n
  by_cases hn : n < b.length
  · rw [Pg.turn, List.getElem?_set]
    by_cases h1 : n < k
    · rw [if_neg (by omega), List.getElem?_append_left (by simp [Pg.xor4_length]; omega), List.getElem?_append_left (by simp; omega), List.getElem?_take, if_pos h1]
    · by_cases h2 : n < k + 4
      · rw [List.getElem?_append_left (by simp [Pg.xor4_length]; omega), List.getElem?_append_right (by simp; omega)]
        obtain ⟨m, rfl⟩ : ∃ m, n = k + m := ⟨n - k, by omega⟩
        have hm : m < 4 := by omega
        rw [List.length_take, show k + m - min k b.length = m by omega, Pg.xor4, List.getElem?_map, List.getElem?_range hm]
        simp only [Option.map_some, List.getD_eq_getElem?_getD, List.getElem?_take, List.getElem?_drop, if_pos hm, hz m hm]
        rw [List.getElem?_eq_getElem hn]
        by_cases e : m = i
        · subst e; rw [if_pos rfl, if_pos rfl, if_pos hn, List.getElem?_eq_getElem hn]
        · rw [if_neg e, if_neg (by omega)]; simp
      · rw [if_neg (by omega), List.getElem?_append_right (by simp [Pg.xor4_length]; omega), List.getElem?_drop]
        congr 1
        simp [Pg.xor4_length]; omega
  · rw [List.getElem?_eq_none (by rw [lt]; omega), List.getElem?_eq_none (by rw [List.length_set]; omega)]
theorem one_turned {num ep : Nat} {q : List Nat} (hnum : num < 4294967296) (hep : ep < 4294967296) (hq : q.length ≤ 240) (ltq : ∀ y ∈ q, y < 256) {p x : Nat} (hp : p < 256) (hx : x < 256) (h0 : x ≠ 0) (b' : List Nat) (hb' : b' = (Pg.put num ep q).set p ((Pg.put num ep q).getD p 0 ^^^ x)) :
    Pg.err num b' = 4 ∨ Pg.err num b' = 11 ∨ (Pg.err num b' = 0 ∧ (Pg.bodyOf num b').length ≠ q.length) := by
  obtain ⟨k, i, hk, hi, rfl, hk'⟩ : ∃ k i, k ≤ 252 ∧ i < 4 ∧ p = k + i ∧ (¬ (8 < k ∧ k < 12) ∧ ¬ (12 < k ∧ k < 16)) := by
    by_cases h1 : 8 ≤ p ∧ p < 12
    · exact ⟨8, p - 8, by decide, by omega, by omega, by omega⟩
    · by_cases h2 : 12 ≤ p ∧ p < 16
      · exact ⟨12, p - 12, by decide, by omega, by omega, by omega⟩
      · by_cases h3 : 252 ≤ p
        · exact ⟨252, p - 252, by decide, by omega, by omega, by omega⟩
        · exact ⟨p, 0, by omega, by omega, by omega, by omega⟩
  have hlen := Pg.put_length (num := num) (epoch := ep) hq
  rw [← turn_one (by omega) hi hx] at hb'
  rcases Pg.err_kinds num b' with h | h | h
  · refine Or.inr (Or.inr ⟨h, fun hl => ?_⟩)
    have hf := (Pg.err_ok h).1
    rw [Pg.bodyOf, if_pos h, Pg.body_len hf] at hl
    have hz : x <<< (8 * i) < 4294967296 := by
      obtain rfl | rfl | rfl | rfl : i = 0 ∨ i = 1 ∨ i = 2 ∨ i = 3 := by omega
      all_goals (rw [Nat.shiftLeft_eq]; omega)
    have hz0 : x <<< (8 * i) ≠ 0 := by
      obtain rfl | rfl | rfl | rfl : i = 0 ∨ i = 1 ∨ i = 2 ∨ i = 3 := by omega
      all_goals (rw [Nat.shiftLeft_eq]; omega)
    have hok : Pg.err num (Pg.put num ep q) = 0 := by rw [Pg.put_err hnum hep hq, if_pos rfl]
    rw [hb'] at h hl
    exact Pg.turned hlen (Pg.put_lt ltq) hk hz hz0 hok hk' h (fun _ _ => by rw [hl, (Pg.put_parts hnum hep hq).1])
  · exact Or.inl h
  · exact Or.inr (Or.inl h)
/-- .. of a page that something stands on -/
theorem rot_one {D : Dk.Disk} {ep : Nat} {nums b : List Nat} (hM : may D nums b.length) (hn : ∀ x ∈ nums, x < 4294967296) (he : ep < 4294967296) (hb : ∀ y ∈ b, y < 256) {i : Nat} (hi : i < pages b.length) (h : Holds D ep nums b i) {s p x : Nat} (hs : s < 4) (hp : p < 64) (hx : x < 256) (h0 : x ≠ 0) :
    one (Dk.rot D (4 * at' nums i + s) p x) ep (at' nums i) (plen b.length i) = 4 ∨ one (Dk.rot D (4 * at' nums i + s) p x) ep (at' nums i) (plen b.length i) = 11 := by
  have hm := at_mem (nums := nums) (i := i) (by rw [hM.2.2]; exact hi)
  have hlen := Pg.put_length (num := at' nums i) (epoch := ep) (piece_le b i)
  have ho := hM.2.1 _ hm
  have hlt : 4 * at' nums i + 4 ≤ D.seen.length := by
    unfold onD at ho; split at ho
    · assumption
    · cases ho
  obtain ⟨b', hb'⟩ : ∃ b', b' = (Pg.put (at' nums i) ep (piece b i)).set (64 * s + p) ((Pg.put (at' nums i) ep (piece b i)).getD (64 * s + p) 0 ^^^ x) := ⟨_, rfl⟩
  have h4 : ∀ j, j < 4 → Dk.at_ (Dk.rot D (4 * at' nums i + s) p x).seen (4 * at' nums i + j) = ⟨Pg.chunk b' j, 0⟩ := by
    intro j hj
    rw [rot_at _ _ _ _ (by omega), hb', chunk_turn hlen hs hp hj]
    by_cases e : j = s
    · subst e; rw [if_pos rfl, if_pos rfl, h j hj]; rfl
    · rw [if_neg (by omega), if_neg e, h j hj]
  obtain ⟨r1, r2⟩ := Pg.r_holds (by rw [hb', List.length_set]; exact hlen) h4
  have hE : Pg.rE (Dk.rot D (4 * at' nums i + s) p x) (at' nums i) = Pg.err (at' nums i) b' := by
    rw [Pg.rE, if_pos (by rw [onD_len (rot_len _ _ _ _)]; exact ho), r2, r1]; rfl
  have hB : Pg.rE (Dk.rot D (4 * at' nums i + s) p x) (at' nums i) = 0 → Pg.rB (Dk.rot D (4 * at' nums i + s) p x) (at' nums i) = Pg.bodyOf (at' nums i) b' := fun e => by
    rw [Pg.rB, if_pos e, r1]
  rcases one_turned (hn _ hm) he (piece_le b i) (piece_lt hb i) (p := 64 * s + p) (by omega) hx h0 b' hb' with h | h | ⟨h, hl⟩
  · left; rw [one, hE, h, if_pos (by simp)]
  · right; rw [one, hE, h, if_pos (by simp)]
  · left; rw [one, hB (by rw [hE, h]), hE, h, if_neg (by simp), if_pos (Or.inr (by rw [← piece_length]; exact hl))]
theorem rot_holds {D : Dk.Disk} {ep : Nat} {nums b : List Nat} {i n p x : Nat} (hn : n < D.seen.length) (h : Holds D ep nums b i) (hne : ¬ (4 * at' nums i ≤ n ∧ n < 4 * at' nums i + 4)) : Holds (Dk.rot D n p x) ep nums b i := by
  intro j hj
  rw [rot_at _ _ _ _ hn, if_neg (by omega)]
  exact h j hj
end Ex
end Go.Proofs.YtnffigfafalocaaGreatDoor
namespace Go.Proofs.YtnffigfafalocaaGreatDoor
open Go Go.RowKit

/-- a list that lies outside of O -/
def Keep (W : World) (O : Nat → Prop) (a : Option Addr) (vs : List Value) : Prop := Rd W a vs ∧ ∀ g o, a = some ⟨g, o, none⟩ → vs ≠ [] → ¬ O g
theorem Rd.lt {W : World} {g o : Nat} {vs : List Value} (h : Rd W (some ⟨g, o, none⟩) vs) (hv : vs ≠ []) : g < W.heap.size := by
  match vs, hv with
  | v :: r, _ =>
    obtain ⟨b, o', e, hc⟩ := h 0 v rfl
    cases e
    exact lt_of_cell hc
end Go.Proofs.YtnffigfafalocaaGreatDoor
namespace Go.Proofs.YtnffigfafalocaaGreatDoor
open Go
def firstN (N k : Nat) : List (Fin N) := (List.finRange N).take k
theorem firstN_length {N k : Nat} (h : k ≤ N) : (firstN N k).length = k := by simp [firstN]; omega
theorem firstN_next {N k : Nat} (h : k < N) : firstN N (k + 1) = firstN N k ++ [⟨k, h⟩] := by
  rw [firstN, List.take_add_one, List.getElem?_eq_getElem (by simpa using h)]
  simp [firstN]
theorem firstN_get {N k i : Nat} (hk : k ≤ N) (h : i < k) : (firstN N k)[i]? = some ⟨i, by omega⟩ := by
  rw [firstN, List.getElem?_take, if_pos h, List.getElem?_eq_getElem (by simp; omega)]
  simp
theorem firstN_flat {α : Type} {N : Nat} (f : Nat → List α) : ∀ k, k ≤ N → (firstN N k).flatMap (fun x => f x.val) = (List.range k).flatMap f
  | 0, _ => by simp [firstN]
  | k + 1, h => by
    rw [firstN_next (by omega), List.flatMap_append, firstN_flat f k (by omega), List.range_succ, List.flatMap_append]
    simp
end Go.Proofs.YtnffigfafalocaaGreatDoor
namespace Go.Proofs.YtnffigfafalocaaGreatDoor
open Go Go.RowKit Go.Maps
set_option linter.unusedSimpArgs false

theorem max0 (n : Int) : (if n > 0 then n else 0) = (n.toNat : Int) := by split <;> omega
theorem min1 (m : Nat) : (if (m : Int) < 1 then (m : Int) else 1) = (min 1 m : Nat) := by split <;> omega
set_option maxRecDepth 100000 in
theorem exPages_any (w : World) (n : Int) (h2 : n ≤ 9223372036854775807) : Calls Tryz.prog 49 #[.int .i64 n] w fun e w' => e = .returned (.int .i64 (Ex.pages n.toNat : Nat)) ∧ w = w' := by
  obtain ⟨m, hm⟩ : ∃ m, n.toNat = m := ⟨_, rfl⟩
  have e1 := max0 n
  rw [hm] at e1
  have e2 : Int.tdiv (m : Int) 240 = (m / 240 : Nat) := by rw [Int.tdiv_eq_ediv_of_nonneg (by omega)]; rfl
  have e3 : Int.tmod (m : Int) 240 = (m % 240 : Nat) := by rw [Int.tmod_eq_emod_of_nonneg (by omega)]; rfl
  have e4 := min1 (m % 240)
  have hb : (m : Int) ≤ 9223372036854775807 := by omega
  have e5 : IntKind.i64.wrap (((m / 240 : Nat) : Int) + ((min 1 (m % 240) : Nat) : Int)) = (Ex.pages m : Nat) := by
    rw [IntWalk.i64_in _ (by omega)]; unfold Ex.pages; omega
  have e6 : IntKind.i64.wrap ((m / 240 : Nat) : Int) = (m / 240 : Nat) := IntWalk.i64_in _ (by omega)
  rw [hm]
  have E5 := Lib.hid e5
  clear hm e5 hb
  go_enter Tryz.func49, Tryz.ntmps49
  go_wp2
  all_goals
    go_ret
    refine ⟨?_, rfl⟩
    show Ending.returned (Value.int .i64 _) = _
    congr 2
    unfold Ex.pages
    omega

theorem isKey_num (x : Int) : WideAt.IsKeyLit (.int .u32 x) := by simp [WideAt.IsKeyLit]
/-- how often a number came -/
def Seen (D : DataW Unit) (l : List Nat) : Prop := IsMap D ∧ ∀ x : Nat, D.atKey (.int .u32 (x : Nat)) (.lit (.int .i64 0)) = .lit (.int .i64 (if x ∈ l then 1 else 0 : Nat))
theorem Seen.nil : Seen (.map []) [] := ⟨isMap_empty, fun x => by simp [DataW.atKey]⟩
theorem Seen.snoc {D : DataW Unit} {l : List Nat} (h : Seen D l) {x : Nat} (hx : x ∉ l) : Seen (D.put (.int .u32 (x : Nat)) (.lit (.int .i64 1))) (l ++ [x]) := by
  refine ⟨h.1.put _ _, fun y => ?_⟩
  by_cases e : y = x
  · subst e
    rw [atKey_put_same h.1 (isKey_num _), if_pos (by simp)]; rfl
  · rw [atKey_put_other (by intro e2; simp at e2; omega), h.2 y]
    simp [e]
theorem Seen.look0 {D : DataW Unit} {l : List Nat} (h : Seen D l) {x : Nat} (hx : x ∉ l) {c : Int} (hc : D.atKey (.int .u32 (x : Nat)) (.lit (.int .i64 0)) = .lit (.int .i64 c)) : c = 0 := by
  rw [h.2 x, if_neg hx] at hc
  simpa using hc.symm
theorem Seen.look1 {D : DataW Unit} {l : List Nat} (h : Seen D l) {x : Nat} (hx : x ∈ l) {c : Int} (hc : D.atKey (.int .u32 (x : Nat)) (.lit (.int .i64 0)) = .lit (.int .i64 c)) : c = 1 := by
  rw [h.2 x, if_pos hx] at hc
  simpa using hc.symm
theorem look_put {D : DataW Unit} {l : List Nat} (h : Seen D l) {x : Nat} {v c : Int} (hc : (D.put (.int .u32 (x : Nat)) (.lit (.int .i64 v))).atKey (.int .u32 (x : Nat)) (.lit (.int .i64 0)) = .lit (.int .i64 c)) : c = v := by
  rw [atKey_put_same h.1 (isKey_num _)] at hc
  simpa using hc.symm
theorem lawNum : Keyed Tryz.prog 38 := int_keyed Tryz.underlying38
theorem zeroInt (w : World) : (zeroValue 3).run Tryz.prog w = .ok (.int .i64 0) w := by kernel_rfl
end Go.Proofs.YtnffigfafalocaaGreatDoor
namespace Go.Proofs.YtnffigfafalocaaGreatDoor
open Go Go.RowKit Go.Maps
set_option linter.unusedSimpArgs false

/-- the first numbers, none twice, all on the disk -/
def MayK (D : Dk.Disk) (l : List Nat) : Prop := l.Nodup ∧ ∀ x ∈ l, onD D x = 0
theorem may_iff (D : Dk.Disk) (ids : List Nat) (B : Nat) : Ex.may D ids B ↔ MayK D ids ∧ ids.length = Ex.pages B := by unfold Ex.may MayK; exact ⟨fun h => ⟨⟨h.1, h.2.1⟩, h.2.2⟩, fun h => ⟨h.1.1, h.1.2, h.2⟩⟩
theorem MayK.snoc {D : Dk.Disk} {l : List Nat} (h : MayK D l) {x : Nat} (hx : x ∉ l) (ho : onD D x = 0) : MayK D (l ++ [x]) := by
  refine ⟨List.nodup_append.2 ⟨h.1, by simp, fun a ha b hb e => ?_⟩, fun y hy => ?_⟩
  · rw [List.mem_singleton] at hb; subst hb; subst e; exact hx ha
  · rcases List.mem_append.1 hy with h1 | h1
    · exact h.2 y h1
    · rw [List.mem_singleton] at h1; rw [h1]; exact ho
theorem MayK.dup {D : Dk.Disk} {ids : List Nat} {k : Nat} (hk : k < ids.length) (hx : ids.getD k 0 ∈ ids.take k) : ¬ MayK D ids := fun h => by
  rw [List.getD_eq_getElem?_getD, List.getElem?_eq_getElem hk] at hx
  obtain ⟨j, hj, e⟩ := List.mem_iff_getElem.1 hx
  rw [List.getElem_take] at e
  rw [List.length_take] at hj
  have := (List.getElem_inj h.1).1 e
  omega
theorem MayK.out {D : Dk.Disk} {ids : List Nat} {k : Nat} (hk : k < ids.length) (hx : onD D (ids.getD k 0) ≠ 0) : ¬ MayK D ids := fun h => hx (h.2 _ (by
  rw [List.getD_eq_getElem?_getD, List.getElem?_eq_getElem hk]; exact List.getElem_mem hk))
theorem take_snoc {l : List Nat} {k : Nat} (hk : k < l.length) : l.take (k + 1) = l.take k ++ [l.getD k 0] := by
  rw [List.take_add_one, List.getD_eq_getElem?_getD, List.getElem?_eq_getElem hk]; rfl

set_option maxRecDepth 100000 in
set_option maxHeartbeats 4000000 in
theorem exMay_any (w : World) (d : Nat) (D : Dk.Disk) (O : Nat → Prop) (h : DiskAt w d D O) (a : Option Addr) (n c : Nat) (ids : List Nat) (hn : ids.length = n) (hmax : (n : Int) ≤ 1000000000000) (hlt : ∀ x ∈ ids, x < 4294967296) (hr : Rd w a (nums .u32 ids)) (bytes : Int) (hb : bytes ≤ 9223372036854775807) (ok : Bool) (hok : ok = true ↔ Ex.may D ids bytes.toNat ∧ 0 ≤ bytes) :
    Calls Tryz.prog 143 #[.pointer (some ⟨d, 0, none⟩), .slice a n c, .int .i64 bytes] w fun e w' => e = .returned (.bool ok) ∧ Touch No w w' := by
  have hmm := @run_makeMap Tryz.prog
  have H := Lib.hid h
  have Hr := Lib.hid hr
  have Hlt := Lib.hid hlt
  have Hn := Lib.hid hn
  have Hok := Lib.hid hok
  have Htop := Lib.hid h.ok.top
  obtain ⟨N, hN⟩ : ∃ N, D.seen.length = N := ⟨_, rfl⟩
  have HN := Lib.hid hN
  have hNt : (N : Int) ≤ 16384 := by have := Htop.out; rw [hN] at this; omega
  have hwN : IntKind.u64.wrap (N : Int) = (N : Int) := IntWalk.u64_in _ (by omega)
  clear h hr hlt hn hok hN
  go_enter Tryz.func143, Tryz.ntmps143
  go_wp2
  go_loopg [13] n (fun g s13 wr => ∃ k : Nat, k + g = n ∧ s13 = .int .i64 ((k : Nat) : Int) ∧ ∃ M, wr.ownsMap Tryz.prog 38 (plainElem Tryz.prog 3) w.heap.size k M ∧ Hid (Seen M (ids.take k)) ∧ Hid (MayK D (ids.take k)) ∧ Hid (Touch No w wr))
  case atStart => exact ⟨0, by omega, rfl, .map [], World.ownsMap_made _ _ _ _, Seen.nil, ⟨List.nodup_nil, fun x hx => by cases hx⟩, (Touch.refl No w).alloc _⟩
  case round =>
    obtain ⟨k, hkg, rfl, M, hown, S, K, T⟩ := hrel
    cases gk with
    | zero =>
      obtain rfl : k = n := by omega
      have hK : MayK D ids := by have := K.out; rw [List.take_of_length_le (by rw [Hn.out]; omega)] at this; exact this
      have hfin : ok = (decide ((0 : Int) ≤ bytes) && decide ((k : Int) = (Ex.pages bytes.toNat : Nat))) := by
        rw [Bool.eq_iff_iff, Hok.out, may_iff, Bool.and_eq_true, decide_eq_true_iff, decide_eq_true_iff, Hn.out]
        exact ⟨fun h => ⟨h.2, by have := h.1.2; omega⟩, fun h => ⟨⟨hK, by have := h.2; omega⟩, h.1⟩⟩
      have Hfin := Lib.hid hfin
      have T' := Lib.hid T.out
      clear hown S K T hK hfin Hok hmm
      by_cases hb0 : (0 : Int) ≤ bytes
      all_goals
        go_wp2_with (go_at_call 49; refine (exPages_any _ _ (by omega)).mono ?_; rintro e w' ⟨rfl, rfl⟩)
        go_ret
        refine ⟨?_, T'.out⟩
        rw [Hfin.out]
        simp [hb0]
        try rfl
        try (intro h; omega)
    | succ g =>
      have hkn : k < n := by omega
      have hki : (k : Int) < (n : Nat) := by omega
      obtain ⟨x, hx⟩ : ∃ x, ids.getD k 0 = x := ⟨_, rfl⟩
      have hxm : x < 4294967296 := by
        rw [← hx, List.getD_eq_getElem?_getD, List.getElem?_eq_getElem (by rw [Hn.out]; exact hkn)]
        exact Hlt.out _ (List.getElem_mem _)
      obtain ⟨gb, go, rfl, hcx⟩ := (Hr.out.no T.out).num (i := k) (by rw [Hn.out]; exact hkn)
      rw [hx] at hcx
      have hkey : keyOf Tryz.prog 38 (.int .u32 (x : Nat)) = some (.int .u32 (x : Nat)) := keyOf_int_mk Tryz.underlying38 (WalkArith.wf_u32 (by omega))
      have hxi : (x : Int) ≤ 4294967295 := by omega
      have Hxm := Lib.hid hxm
      have tok1 : True := trivial
      have Hki := Lib.hid hki
      have hsz : w.heap.size ≤ w.heap.size := Nat.le_refl _
      by_cases hin : x ∈ ids.take k
      · have Hbad : Hid (ok = false) := by
          show ok = false
          cases ok with
          | false => rfl
          | true => exact absurd ((may_iff D ids _).1 (Hok.out.1 rfl).1).1 (MayK.dup (by rw [Hn.out]; exact hkn) (by rw [hx]; exact hin))
        have Hin := Lib.hid hin
        clear hin hx hxm hkn
        go_wp2_with (first | (at_lookup; have _t := tok1; refine wpList_lookup_own_int _ rfl _ _ 334 rfl 38 3 .i64 lawNum Tryz.underlying334 Tryz.underlying3 (zeroInt _) w.heap.size k _ rfl hown _ _ rfl hkey ?_; intro c1 hat hwc; obtain rfl := S.out.look1 Hin.out hat; clear _t tok1 hat hwc) | (at_mapUpdate; refine wpList_mapUpdate_own _ rfl _ _ _ 334 rfl 38 3 lawNum Tryz.underlying334 _ w.heap.size k _ rfl hown (by unfold maxLen; omega) _ _ _ rfl rfl hkey _ [] (plainElem_int Tryz.underlying3 (WalkArith.wf_i64 (by omega))) ?_; intro w1 hown1 hgrow1; clear hown; have T1 := Lib.hid (T.out.grown hgrow1 (fun i e hi => by cases e; exact absurd hi (Nat.lt_irrefl _)))) | (at_lookup; refine wpList_lookup_own_int _ rfl _ _ 334 rfl 38 3 .i64 lawNum Tryz.underlying334 Tryz.underlying3 (zeroInt _) w.heap.size (k + 1) _ rfl hown1 _ _ rfl hkey ?_; intro c1 hat hwc; obtain rfl := look_put S.out hat; clear hat hwc) | (go_at_call 58; refine (len_in _ d D O (H.out.no T1.out)).mono ?_; rintro e w' ⟨rfl, rfl⟩; rw [HN.out]) | go_in)
        go_ret
        exact ⟨by rw [Hbad.out]; rfl, T1.out⟩
      · have Hin := Lib.hid hin
        have hto : onD D x = 0 ∨ ¬ (onD D x = 0) := Classical.em _
        have hon : onD D x = 0 ↔ 4 * x + 4 ≤ N := by
          have := HN.out
          unfold onD; rw [this]; split <;> simp_all
        by_cases ho : 4 * x + 4 ≤ N
        · have hgt : decide ((N : Int) < (x : Int) * 4 + 4) = false := by simp; omega
          have Ho := Lib.hid (hon.2 ho)
          have Hx := Lib.hid hx
          have Hkn := Lib.hid hkn
          clear hin hx hxm hkn hon ho hto
          go_wp2_with (first | (at_lookup; have _t := tok1; refine wpList_lookup_own_int _ rfl _ _ 334 rfl 38 3 .i64 lawNum Tryz.underlying334 Tryz.underlying3 (zeroInt _) w.heap.size k _ rfl hown _ _ rfl hkey ?_; intro c1 hat hwc; obtain rfl := S.out.look0 Hin.out hat; clear _t tok1 hat hwc) | (at_mapUpdate; refine wpList_mapUpdate_own _ rfl _ _ _ 334 rfl 38 3 lawNum Tryz.underlying334 _ w.heap.size k _ rfl hown (by unfold maxLen; omega) _ _ _ rfl rfl hkey _ [] (plainElem_int Tryz.underlying3 (WalkArith.wf_i64 (by omega))) ?_; intro w1 hown1 hgrow1; clear hown; have T1 := Lib.hid (T.out.grown hgrow1 (fun i e hi => by cases e; exact absurd hi (Nat.lt_irrefl _)))) | (at_lookup; refine wpList_lookup_own_int _ rfl _ _ 334 rfl 38 3 .i64 lawNum Tryz.underlying334 Tryz.underlying3 (zeroInt _) w.heap.size (k + 1) _ rfl hown1 _ _ rfl hkey ?_; intro c1 hat hwc; obtain rfl := look_put S.out hat; clear hat hwc) | (go_at_call 58; refine (len_in _ d D O (H.out.no T1.out)).mono ?_; rintro e w' ⟨rfl, rfl⟩; rw [HN.out]) | go_in)
          go_roundg g
          case measure => omega
          case rel => exact ⟨k + 1, by omega, by go_num, _, hown1, by have := S.out.snoc Hin.out; rw [take_snoc (by rw [Hn.out]; exact Hkn.out), Hx.out]; exact this, by rw [take_snoc (by rw [Hn.out]; exact Hkn.out), Hx.out]; exact K.out.snoc Hin.out Ho.out, T1.out⟩
        · have hgt : decide ((N : Int) < (x : Int) * 4 + 4) = true := by simp; omega
          have Hbad : Hid (ok = false) := by
            show ok = false
            cases ok with
            | false => rfl
            | true => exact absurd ((may_iff D ids _).1 (Hok.out.1 rfl).1).1 (MayK.out (k := k) (by rw [Hn.out]; exact hkn) (by rw [hx]; exact fun h => ho (hon.1 h)))
          clear hin hx hxm hkn hon ho hto
          go_wp2_with (first | (at_lookup; have _t := tok1; refine wpList_lookup_own_int _ rfl _ _ 334 rfl 38 3 .i64 lawNum Tryz.underlying334 Tryz.underlying3 (zeroInt _) w.heap.size k _ rfl hown _ _ rfl hkey ?_; intro c1 hat hwc; obtain rfl := S.out.look0 Hin.out hat; clear _t tok1 hat hwc) | (at_mapUpdate; refine wpList_mapUpdate_own _ rfl _ _ _ 334 rfl 38 3 lawNum Tryz.underlying334 _ w.heap.size k _ rfl hown (by unfold maxLen; omega) _ _ _ rfl rfl hkey _ [] (plainElem_int Tryz.underlying3 (WalkArith.wf_i64 (by omega))) ?_; intro w1 hown1 hgrow1; clear hown; have T1 := Lib.hid (T.out.grown hgrow1 (fun i e hi => by cases e; exact absurd hi (Nat.lt_irrefl _)))) | (at_lookup; refine wpList_lookup_own_int _ rfl _ _ 334 rfl 38 3 .i64 lawNum Tryz.underlying334 Tryz.underlying3 (zeroInt _) w.heap.size (k + 1) _ rfl hown1 _ _ rfl hkey ?_; intro c1 hat hwc; obtain rfl := look_put S.out hat; clear hat hwc) | (go_at_call 58; refine (len_in _ d D O (H.out.no T1.out)).mono ?_; rintro e w' ⟨rfl, rfl⟩; rw [HN.out]) | go_in)
          go_ret
          exact ⟨by rw [Hbad.out]; rfl, T1.out⟩
end Go.Proofs.YtnffigfafalocaaGreatDoor
namespace Go.Proofs.YtnffigfafalocaaGreatDoor
open Go Go.RowKit Go.Shelf
set_option linter.unusedSimpArgs false
attribute [local go_sem] Oper.semAt_some

def pieceV (B i : Nat) : Array Value := #[.int .i64 (i : Nat), .agg #[.int .i64 ((i : Int) * 240), .int .i64 (Ex.upto B i : Nat)]]
theorem min_upto (B i : Nat) : (if (i : Int) * 240 + 240 < (B : Int) then (i : Int) * 240 + 240 else (B : Int)) = (Ex.upto B i : Nat) := by unfold Ex.upto; split <;> omega

set_option maxRecDepth 100000 in
set_option maxHeartbeats 4000000 in
theorem pieces1_in (n : Nat) (hn : 1 ≤ n) (l Bn B : Nat) (hB : (B : Int) ≤ 1000000000000) (J Jx : List (Fin (Ex.pages B)) → World → Prop)
    (hY : ∀ pre (x : Fin (Ex.pages B)) W, J pre W → pre.length < Ex.pages B → YieldAt Fence.wide (n - 1) Tryz.prog l (pieceV B x.val) W fun e W' =>
      (e = .returned (.bool true) ∧ J (pre ++ [x]) W' ∧ KeepB Bn W W') ∨ (e = .returned (.bool false) ∧ Jx (pre ++ [x]) W'))
    (W : World) (hk : W.cell? ⟨Bn, 0, none⟩ = some (.int .i64 (B : Nat))) (h0 : J [] W) :
    CallsIn Fence.wide n Tryz.prog 217 #[.func (.yield l) #[] #[], .pointer (some ⟨Bn, 0, none⟩)] W fun e W' => (∃ v, e = .returned v) ∧
      ((∃ ys, ys = firstN (Ex.pages B) (Ex.pages B) ∧ J ys W') ∨ (∃ pre, (∃ k, k ≤ Ex.pages B ∧ pre = firstN (Ex.pages B) k) ∧ Jx pre W')) := by
  have HS := Lib.hid hk
  have hY' := Lib.hid hY
  obtain ⟨N, hN⟩ : ∃ N, Ex.pages B = N := ⟨_, rfl⟩
  have hNB : (N : Int) * 240 ≤ (B : Int) + 239 := by have := Ex.pages_le B; rw [hN] at this; omega
  have HN := Lib.hid hN
  clear hk hY
  refine callsIn_of_wp Tryz.func217 rfl trivial ?_ rfl
  simp only [Tryz.ntmps217, List.size_toArray, List.length_cons, List.length_nil, Nat.reduceAdd, Nat.reduceSub, Array.replicate_succ, Array.replicate_zero, List.push_toArray, List.append_toArray, List.nil_append, List.cons_append]
  have hcell := HS.out
  gi_wp2
  refine ⟨trivial, (callsIn_wide.2 (exPages_any _ _ (by omega))).mono ?_⟩
  rintro e w1 ⟨rfl, rfl⟩
  rw [show ((B : Nat) : Int).toNat = B by omega, hN]
  clear hcell
  gi_wp2
  gi_loopw [6] (fun i wr => ∃ k : Nat, k ≤ N ∧ i = .int .i64 ((k : Nat) : Int) ∧ J (firstN _ k) wr ∧ Hid (KeepB Bn W wr))
    (fun i _ => N - (intOf i).toNat)
  case atStart => exact ⟨0, Nat.zero_le _, rfl, h0, rfl⟩
  case round =>
    obtain ⟨k, hk4, rfl, hJ, hB'⟩ := hrel
    have k2 := hB'.out.cell.trans HS.out
    by_cases hlt : k < N
    · have hlt' : (k : Int) < (N : Nat) := by omega
      have hk0 : (0 : Int) ≤ (k : Nat) := by omega
      obtain ⟨fn, tmps, assign, body, hy, hR⟩ := hY'.out (firstN _ k) ⟨k, by rw [hN]; exact hlt⟩ wr hJ (by rw [firstN_length (by rw [hN]; exact hk4), hN]; exact hlt)
      dsimp only [pieceV] at hy
      have e1 : IntKind.i64.wrap ((k : Int) * 240) = (k : Int) * 240 := IntWalk.i64_in _ (by omega)
      have e2 : IntKind.i64.wrap ((k : Int) + 1) = (k : Int) + 1 := IntWalk.i64_in _ (by omega)
      have e3 : IntKind.i64.wrap (((k : Int) + 1) * 240) = (k : Int) * 240 + 240 := by rw [IntWalk.i64_in _ (by omega)]; omega
      have e4 := min_upto B k
      clear hJ
      gi_wp2
      refine hR.mono ?_
      rintro e W3 (⟨rfl, hJ3, hk3⟩ | ⟨rfl, hJx3⟩)
      · have hB3 : Hid (KeepB Bn W W3) := keepB_t hB'.out hk3
        have HJ3 := Lib.hid hJ3
        clear hk3 hJ3 k2 hy hR
        gi_wp2
        go_roundw
        case rel => exact ⟨k + 1, by omega, by go_num, by rw [firstN_next (by rw [HN.out]; exact hlt)]; exact HJ3.out, hB3⟩
        case measure => simp [intOf]; omega
      · gi_wp2
        refine bodyPost_ret (results_none rfl _ _ _) rfl ?_
        exact ⟨⟨_, rfl⟩, .inr ⟨_, ⟨k + 1, by rw [HN.out]; omega, (firstN_next (by rw [HN.out]; exact hlt)).symm⟩, hJx3⟩⟩
    · obtain rfl : k = N := by omega
      gi_wp2
      go_end0
      exact ⟨⟨_, rfl⟩, .inl ⟨_, by rw [HN.out], hJ⟩⟩
theorem pieces_stops (n : Nat) (hn : 1 ≤ n) (Bn B : Nat) (hB : (B : Int) ≤ 1000000000000) (w : World) (hBn : Bn < w.heap.size) (hk : w.cell? ⟨Bn, 0, none⟩ = some (.int .i64 (B : Nat))) :
    SeqStopsK Fence.wide n Tryz.prog 217 #[.pointer (some ⟨Bn, 0, none⟩)] (fun x : Fin (Ex.pages B) => pieceV B x.val) (KeepB Bn) (fun ys => ys = firstN (Ex.pages B) (Ex.pages B)) (fun pre => ∃ k, k ≤ Ex.pages B ∧ pre = firstN (Ex.pages B) k) (Ex.pages B) w := fun l J Jx W hW _ _ hY h0 =>
  pieces1_in n hn l Bn B hB J Jx hY W ((hW.cell (p := ⟨Bn, 0, none⟩) hBn).trans hk) h0

theorem pieces_any (w : World) (B : Nat) : Calls Tryz.prog 144 #[.int .i64 (B : Nat)] w fun e w' =>
    e = .returned (.func (.func 217) #[] #[.pointer (some ⟨w.heap.size, 0, none⟩)]) ∧ w.alloc (.cells #[.int .i64 (B : Nat)] 3) = w' := by
  have hmf : ∀ (fn : Fn) (first cap : Array Value) (w : World), (Instr.makeFunc fn first cap).run Tryz.prog w = .ok (.func fn first cap) w := fun _ _ _ _ => rfl
  go_enter Tryz.func144, Tryz.ntmps144
  go_wp2
  go_ret
  exact ⟨rfl, rfl⟩
end Go.Proofs.YtnffigfafalocaaGreatDoor
namespace Go.Proofs.YtnffigfafalocaaGreatDoor
open Go Go.RowKit Go.Shelf
set_option linter.unusedSimpArgs false
attribute [local go_sem] Oper.semAt_some

/-- pieces of bytes, written on their pages in some order -/
def Ex.wrs (D : Dk.Disk) (ep : Nat) (ids bs : List Nat) {N : Nat} (l : List (Fin N)) : Dk.Disk := l.foldl (fun D x => Pg.wD D (Ex.at' ids x.val) ep (Ex.piece bs x.val)) D
theorem Ex.wrs_snoc (D : Dk.Disk) (ep : Nat) (ids bs : List Nat) {N : Nat} (l : List (Fin N)) (x : Fin N) : Ex.wrs D ep ids bs (l ++ [x]) = Pg.wD (Ex.wrs D ep ids bs l) (Ex.at' ids x.val) ep (Ex.piece bs x.val) := by simp [Ex.wrs]
theorem Ex.wrs_len (D : Dk.Disk) (ep : Nat) (ids bs : List Nat) {N : Nat} : ∀ l : List (Fin N), (Ex.wrs D ep ids bs l).seen.length = D.seen.length := by
  intro l
  induction l generalizing D with
  | nil => rfl
  | cons x r ih =>
    have := ih (Pg.wD D (Ex.at' ids x.val) ep (Ex.piece bs x.val))
    rw [Pg.wD_len] at this
    exact this
theorem Ex.wrs_all (D : Dk.Disk) (ep : Nat) (ids bs : List Nat) {N : Nat} : ∀ k, k ≤ N → Ex.wrs D ep ids bs (firstN N k) = Ex.wr D ep ids bs k
  | 0, _ => by simp [firstN, Ex.wrs, Ex.wr]
  | k + 1, h => by rw [firstN_next (by omega), Ex.wrs_snoc, Ex.wrs_all D ep ids bs k (by omega), Ex.wr]
theorem Pg.wD_waits (D : Dk.Disk) (p e : Nat) (q : List Nat) : (Pg.wD D p e q).waits.length ≤ D.waits.length + 4 := by
  unfold Pg.wD; split
  · rw [Pg.wr_waits]; omega
  · omega
theorem Ex.wrs_waits (D : Dk.Disk) (ep : Nat) (ids bs : List Nat) {N : Nat} : ∀ l : List (Fin N), (Ex.wrs D ep ids bs l).waits.length ≤ D.waits.length + 4 * l.length := by
  intro l
  induction l generalizing D with
  | nil => simp [Ex.wrs]
  | cons x r ih =>
    have := ih (Pg.wD D (Ex.at' ids x.val) ep (Ex.piece bs x.val))
    have h2 := Pg.wD_waits D (Ex.at' ids x.val) ep (Ex.piece bs x.val)
    show (Ex.wrs (Pg.wD D (Ex.at' ids x.val) ep (Ex.piece bs x.val)) ep ids bs r).waits.length ≤ _
    simp only [List.length_cons]
    omega

/-- what the loop keeps -/
structure ExIn (W : World) (B0 Bn d B : Nat) (O : Nat → Prop) (D : Dk.Disk) (ep : Nat) (a : Option Addr) (n c : Nat) (ids : List Nat) (a' : Option Addr) (m c' : Nat) (bs : List Nat) (w : World) : Prop where
  dsk : ∃ O', Dsk W d D B O' ∧ ∀ k, O' k → CellsAt W k ∧ (O k ∨ Bn < k)
  t : Touch O w W
  c0 : W.cell? ⟨B0, 0, none⟩ = some (.pointer (some ⟨d, 0, none⟩))
  c1 : W.cell? ⟨B0 + 1, 0, none⟩ = some (.int .u32 (ep : Nat))
  c2 : W.cell? ⟨B0 + 1 + 1, 0, none⟩ = some (.slice a n c)
  c3 : W.cell? ⟨B0 + 1 + 1 + 1, 0, none⟩ = some (.slice a' m c')
  c4 : ∃ v, W.cell? ⟨B0 + 1 + 1 + 1 + 1, 0, none⟩ = some v ∧ W.frozen? ⟨B0 + 1 + 1 + 1 + 1, 0, none⟩ = false
  ri : Rd W a (nums .u32 ids)
  rb : Rd W a' (nums .u8 bs)
theorem Rd.cellsAt {W : World} {g o : Nat} {vs : List Value} (h : Rd W (some ⟨g, o, none⟩) vs) (hv : vs ≠ []) : CellsAt W g := by
  match vs, hv with
  | v :: r, _ =>
    obtain ⟨b, o', e, hc⟩ := h 0 v rfl
    cases e
    exact cellsAt_of hc
theorem Rd.keep {F : Nat → Prop} {W W' : World} {a : Option Addr} {vs : List Value} (h : Rd W a vs) (t : Touch F W W') (hF : ∀ g o, a = some ⟨g, o, none⟩ → vs ≠ [] → ¬ F g) : Rd W' a vs := by
  by_cases hv : vs = []
  · subst hv; exact Rd.nil _ _
  · exact h.touch t (fun b o e _ => hF b o e hv)
theorem ExIn.touch {F : Nat → Prop} {W W' : World} {B0 Bn d B : Nat} {O : Nat → Prop} {D : Dk.Disk} {ep : Nat} {a : Option Addr} {n c : Nat} {ids : List Nat} {a' : Option Addr} {m c' : Nat} {bs : List Nat} {w : World}
    (h : ExIn W B0 Bn d B O D ep a n c ids a' m c' bs w) (t : Touch F W W') (hF : ∀ k, CellsAt W k → ¬ F k) (hw : ∀ k, k < w.heap.size → ¬ F k) : ExIn W' B0 Bn d B O D ep a n c ids a' m c' bs w := by
  obtain ⟨⟨O', hD, hO⟩, ht, c0, c1, c2, c3, ⟨v, c4, f4⟩, ri, rb⟩ := h
  refine ⟨⟨O', hD.touch t (fun k hk => hF k (hO k hk).1), fun k hk => ⟨?_, (hO k hk).2⟩⟩, ht.then t (fun i hi f => absurd f (hw i hi)), t.cell (hF _ (cellsAt_of c0)) c0, t.cell (hF _ (cellsAt_of c1)) c1, t.cell (hF _ (cellsAt_of c2)) c2, t.cell (hF _ (cellsAt_of c3)) c3,
    ⟨v, t.cell (hF _ (cellsAt_of c4)) c4, (t.frozen (lt_of_cell c4) (hF _ (cellsAt_of c4)) 0).trans f4⟩, ri.keep t (fun g o e hv => ?_), rb.keep t (fun g o e hv => ?_)⟩
  · obtain ⟨cc, tt, fr, e⟩ := (hO k hk).1
    exact ⟨cc, tt, fr, by rw [t.block k (Array.getElem?_eq_some_iff.1 e).1 (hF k ⟨cc, tt, fr, e⟩)]; exact e⟩
  · subst e; exact hF g (ri.cellsAt hv)
  · subst e; exact hF g (rb.cellsAt hv)
theorem ExIn.step {W W' : World} {B0 Bn d B : Nat} {O O' : Nat → Prop} {D D' : Dk.Disk} {ep : Nat} {a : Option Addr} {n c : Nat} {ids : List Nat} {a' : Option Addr} {m c' : Nat} {bs : List Nat} {w : World}
    (h : ExIn W B0 Bn d B O D ep a n c ids a' m c' bs w) (hO : ∀ k, O' k → CellsAt W k ∧ (O k ∨ Bn < k)) (hA : After W d D' B O' W') (hs : Bn < W.heap.size) (hn : B0 + 5 ≤ Bn) (hw : w.heap.size = B0) (hlt : ∀ k, O k → k < B0)
    (hi : ∀ g o, a = some ⟨g, o, none⟩ → nums .u32 ids ≠ [] → ¬ O g ∧ g < B0) (hb : ∀ g o, a' = some ⟨g, o, none⟩ → nums .u8 bs ≠ [] → ¬ O g ∧ g < B0) :
    ExIn W' B0 Bn d B O D' ep a n c ids a' m c' bs w ∧ KeepsOthers W W' ∧ KeepB Bn W W' := by
  obtain ⟨t, O2, hD2, hin⟩ := hA
  obtain ⟨_, ht, c0, c1, c2, c3, ⟨v, c4, f4⟩, ri, rb⟩ := h
  have hD3 := hD2.cells
  have nin : ∀ k, B0 ≤ k → k ≤ Bn → ¬ O' k := fun k h1 h2 ho => by
    rcases (hO k ho).2 with h | h
    · have := hlt k h; omega
    · omega
  have low : ∀ k, ¬ O k → k < B0 → ¬ O' k := fun k h1 h2 ho => by
    rcases (hO k ho).2 with h | h
    · exact h1 h
    · omega
  refine ⟨⟨⟨_, hD3, fun k hk => ⟨hk.2, ?_⟩⟩, ht.then t (fun i hi' ho => ?_), t.cell (nin _ (by omega) (by omega)) c0, t.cell (nin _ (by omega) (by omega)) c1, t.cell (nin _ (by omega) (by omega)) c2, t.cell (nin _ (by omega) (by omega)) c3,
    ⟨v, t.cell (nin _ (by omega) (by omega)) c4, (t.frozen (lt_of_cell c4) (nin _ (by omega) (by omega)) 0).trans f4⟩, ri.keep t (fun g o e hv => low g (hi g o e hv).1 (hi g o e hv).2), rb.keep t (fun g o e hv => low g (hb g o e hv).1 (hb g o e hv).2)⟩, t.keeps (fun k hk _ => (hO k hk).1), ?_⟩
  · rcases hin k hk.1 with h | h
    · exact (hO k h).2
    · exact Or.inr (by omega)
  · rcases (hO i ho).2 with h | h
    · exact h
    · omega
  · exact t.block _ (by omega) (nin _ (by omega) (by omega))

set_option maxRecDepth 100000 in
set_option maxHeartbeats 4000000 in
theorem exWrite_yes (w : World) (d : Nat) (D : Dk.Disk) (B : Nat) (O : Nat → Prop) (ep : Nat) (hep : ep < 4294967296) (a : Option Addr) (n c : Nat) (ids : List Nat) (hn : ids.length = n) (Hki : Keep w O a (nums .u32 ids)) (hil : ∀ x ∈ ids, x < 4294967296)
    (a' : Option Addr) (m c' : Nat) (bs : List Nat) (hm : bs.length = m) (hcap : m ≤ c') (hmax : (m : Int) ≤ 100000000000) (Hkb : Keep w O a' (nums .u8 bs)) (hbl : ∀ x ∈ bs, x < 256)
    (hB : B ≤ w.heap.size) (h : Dsk w d D B O) (hw : D.waits.length + 4 * Ex.pages m ≤ 100000) (hM : Ex.may D ids m) :
    CallsIn Fence.wide 10 Tryz.prog 52 #[.pointer (some ⟨d, 0, none⟩), .int .u32 (ep : Nat), .slice a n c, .slice a' m c'] w fun e w' => e = .returned (.int .i64 0) ∧ After w d (Ex.wr D ep ids bs (Ex.pages m)) B O w' := by
  refine callsIn_of_wp_marks Tryz.func52 rfl trivial ?_ rfl
  simp only [Tryz.ntmps52, List.size_toArray, List.length_cons, List.length_nil, Nat.reduceAdd, Nat.reduceSub, Array.replicate_succ, Array.replicate_zero, List.push_toArray, List.append_toArray, List.nil_append, List.cons_append]
  have hir := Hki.1
  have hbr := Hkb.1
  have hpos := h.ok.pos
  obtain ⟨N, hN⟩ : ∃ N, D.seen.length = N := ⟨_, rfl⟩
  have hN0 : ((N : Int) == 0) = false := by simp; omega
  gi_wp2
  obtain ⟨W0, hW0⟩ : ∃ W0, W0 = (((((w.alloc (.cells #[.pointer (some ⟨d, 0, none⟩)] 26)).alloc (.cells #[.int .u32 (ep : Nat)] 38)).alloc (.cells #[.slice a n c] 86)).alloc (.cells #[.slice a' m c'] 39)).alloc (.cells #[.int .i64 0] 33)) := ⟨_, rfl⟩
  have t0 : Touch No w W0 := by rw [hW0]; exact ((((Touch.refl No w).alloc _).alloc _).alloc _ |>.alloc _).alloc _
  have hs0 : W0.heap.size = w.heap.size + 5 := by rw [hW0]; simp
  have R0 : Row W0 w.heap.size 26 [.pointer (some ⟨d, 0, none⟩)] := by
    rw [hW0]; exact (Row.new w _ #[.pointer (some ⟨d, 0, none⟩)]).touch (F := No) (((((Touch.refl No _).alloc _).alloc _).alloc _).alloc _) id
  have R1 : Row W0 (w.heap.size + 1) 38 [.int .u32 (ep : Nat)] := by
    have := (Row.new (w.alloc (.cells #[.pointer (some ⟨d, 0, none⟩)] 26)) 38 #[.int .u32 (ep : Nat)]).touch (F := No) ((((Touch.refl No _).alloc (.cells #[.slice a n c] 86)).alloc (.cells #[.slice a' m c'] 39)).alloc (.cells #[.int .i64 0] 33)) id
    simp only [size_alloc] at this
    rw [hW0]; exact this
  have R2 : Row W0 (w.heap.size + 1 + 1) 86 [.slice a n c] := by
    have := (Row.new ((w.alloc (.cells #[.pointer (some ⟨d, 0, none⟩)] 26)).alloc (.cells #[.int .u32 (ep : Nat)] 38)) 86 #[.slice a n c]).touch (F := No) (((Touch.refl No _).alloc (.cells #[.slice a' m c'] 39)).alloc (.cells #[.int .i64 0] 33)) id
    simp only [size_alloc] at this
    rw [hW0]; exact this
  have R3 : Row W0 (w.heap.size + 1 + 1 + 1) 39 [.slice a' m c'] := by
    have := (Row.new (((w.alloc (.cells #[.pointer (some ⟨d, 0, none⟩)] 26)).alloc (.cells #[.int .u32 (ep : Nat)] 38)).alloc (.cells #[.slice a n c] 86)) 39 #[.slice a' m c']).touch (F := No) ((Touch.refl No _).alloc (.cells #[.int .i64 0] 33)) id
    simp only [size_alloc] at this
    rw [hW0]; exact this
  have R4 : Row W0 (w.heap.size + 1 + 1 + 1 + 1) 33 [.int .i64 0] := by
    have := Row.new ((((w.alloc (.cells #[.pointer (some ⟨d, 0, none⟩)] 26)).alloc (.cells #[.int .u32 (ep : Nat)] 38)).alloc (.cells #[.slice a n c] 86)).alloc (.cells #[.slice a' m c'] 39)) 33 #[.int .i64 0]
    simp only [size_alloc] at this
    rw [hW0]; exact this
  rw [← hW0]
  clear hW0
  refine ⟨trivial, (callsIn_wide.2 (len_in _ d D O (h.on.no t0))).mono ?_⟩
  rw [hN]
  rintro e w1 ⟨rfl, rfl⟩
  have c0 := R0.cell 0
  have c1 := R1.cell 0
  have c2 := R2.cell 0
  have c3 := R3.cell 0
  simp only [List.getElem?_cons_zero] at c0 c1 c2 c3
  gi_wp2
  refine ⟨trivial, (callsIn_wide.2 (exMay_any _ d D O (h.on.no t0) a n c ids hn ?hmx hil (hir.no t0) (m : Nat) (by omega) true (by simp [hM]))).mono ?_⟩
  case hmx =>
    have := hM.2.2
    have h2 := Ex.pages_le m
    omega
  rintro e w2 ⟨rfl, t2⟩
  have d3 := (R3.touch t2 id).cell 0
  simp only [List.getElem?_cons_zero] at d3
  clear c0 c1 c2 c3
  gi_wp2
  refine ⟨trivial, (callsIn_wide.2 (pieces_any _ m)).mono ?_⟩
  rintro e w3 ⟨rfl, h3⟩
  clear d3
  gi_wp2
  have hs2 := t2.size
  have t3 : Touch No W0 w3 := by rw [← h3]; exact t2.alloc _
  have t03 := t0.trans t3
  have hs3 : w3.heap.size = w2.heap.size + 1 := by rw [← h3]; simp
  have hk3 : w3.cell? ⟨w2.heap.size, 0, none⟩ = some (.int .i64 (m : Nat)) := by rw [← h3, cell_new]; rfl
  have hlt := h.lt
  have hbase : ∀ {v : List Value} {x : Option Addr}, Rd w x v → ∀ g o, x = some ⟨g, o, none⟩ → v ≠ [] → g < w.heap.size := fun hx g o e hv => by subst e; exact hx.lt hv
  have hI : ExIn w3 w.heap.size w2.heap.size d B O (Ex.wrs D ep ids bs ([] : List (Fin (Ex.pages m)))) ep a n c ids a' m c' bs w := by
    have Hd := h.cells
    refine ⟨⟨_, Hd.no t03, fun k hk => ⟨?_, Or.inl hk.1⟩⟩, t03.no, (R0.touch t3 id).cell 0, (R1.touch t3 id).cell 0, (R2.touch t3 id).cell 0, (R3.touch t3 id).cell 0, ⟨_, (R4.touch t3 id).cell 0, (R4.touch t3 id).soft 0⟩, hir.no t03, hbr.no t03⟩
    obtain ⟨cc, tt, fr, e⟩ := hk.2
    exact ⟨cc, tt, fr, by rw [t03.block k (hlt k hk.1) id]; exact e⟩
  have hfi := hbase hir
  have hfb := hbase hbr
  obtain ⟨B0, hB0⟩ : ∃ B0, B0 = w.heap.size := ⟨_, rfl⟩
  obtain ⟨Bn, hBn⟩ : ∃ Bn, Bn = w2.heap.size := ⟨_, rfl⟩
  have hBB : B0 + 5 ≤ Bn := by omega
  rw [← hB0, ← hBn] at hI
  rw [← hBn] at hk3
  rw [← hB0, ← hBn]
  have HI := Lib.hid hI
  have HK3 := Lib.hid hk3
  have h3s : w3.heap.size = Bn + 1 := by omega
  have HB0 := Lib.hid hB0
  have HBn := Lib.hid hBn
  have HBB := Lib.hid hBB
  have Hlt := Lib.hid hlt
  have Hfi := Lib.hid (show ∀ g o, a = some ⟨g, o, none⟩ → nums .u32 ids ≠ [] → ¬ O g ∧ g < B0 from fun g o e hv => ⟨Hki.2 g o e hv, by rw [hB0]; exact hfi g o e hv⟩)
  have Hfb := Lib.hid (show ∀ g o, a' = some ⟨g, o, none⟩ → nums .u8 bs ≠ [] → ¬ O g ∧ g < B0 from fun g o e hv => ⟨Hkb.2 g o e hv, by rw [hB0]; exact hfb g o e hv⟩)
  obtain ⟨IU, iu0, iu1, iu2, iu3⟩ := u8_info
  have HIU := Lib.hid (And.intro iu0 iu2)
  have HM := Lib.hid hM
  have Hids := Lib.hid hn
  have Hil := Lib.hid hil
  have Hm := Lib.hid hm
  have Hbl := Lib.hid hbl
  have HB := Lib.hid (show B ≤ B0 by omega)
  have Hw := Lib.hid hw
  have Hep := Lib.hid hep
  have Hd := Lib.hid h
  have H3s := Lib.hid h3s
  have Hcap := Lib.hid hcap
  clear hI hk3 R0 R1 R2 R3 R4 h3 t2 t3 hB0 hBn hBB hlt hfi hfb hM hn hil hm hbl hB hw hep h hbase t0 t03 hs0 hs2 hs3 hpos hN hN0 hir hbr hcap Hki Hkb iu0 iu1 iu2 iu3
  refine wpIn_rangeFunc_ownH rfl (by decide) (gf := 217) (lb := #[.pointer (some ⟨Bn, 0, none⟩)]) rfl trivial (enters_of Tryz.func217 (by kernel_rfl) rfl)
    (pieces_stops 9 (by decide) Bn m (by omega) w3 (by rw [h3s]; omega) HK3.out) keepB_t (keepB_b (by rw [h3s]; omega)) (Below.refl _ _) (fun _ => rfl)
    (fun pre W => ExIn W B0 Bn d B O (Ex.wrs D ep ids bs pre) ep a n c ids a' m c' bs w ∧ Bn < W.heap.size ∧ pre.length ≤ Ex.pages m)
    (fun _ _ _ => False)
    ?own
    (fun _ _ _ _ _ hs _ _ => hs)
    ⟨HI.out, by omega, Nat.zero_le _⟩
    (fun x a1 W => ∃ g, Bn < g ∧ a1 = { tmps := #[.pointer (some ⟨d, 0, none⟩), .int .u32 (ep : Nat), .slice a n c, .slice a' m c', .pointer (some ⟨B0, 0, none⟩), .pointer (some ⟨B0 + 1, 0, none⟩), .pointer (some ⟨B0 + 1 + 1, 0, none⟩), .pointer (some ⟨B0 + 1 + 1 + 1, 0, none⟩), .pointer (some ⟨B0 + 1 + 1 + 1 + 1, 0, none⟩), .int .i64 (x.val : Nat), .pointer (some ⟨g, 0, none⟩), undef, .bool false, .pointer (some ⟨d, 0, none⟩), .int .i64 (N : Nat), .bool false, .bool false, .pointer (some ⟨d, 0, none⟩), .slice a n c, .slice a' m c', .int .i64 (m : Nat), .bool true, .bool false, .slice a' m c', .int .i64 (m : Nat), .func (.func 217) #[] #[.pointer (some ⟨Bn, 0, none⟩)], .int .i64 (x.val : Nat), .agg #[.int .i64 ((x.val : Int) * 240), .int .i64 (Ex.upto m x.val : Nat)], undef, undef, undef, undef, undef, undef, undef, undef, undef, undef, undef, undef, undef, undef, undef, undef, undef], defers := [] } ∧ W.cell? ⟨g, 0, none⟩ = some (.int .i64 ((x.val : Int) * 240)) ∧ W.cell? ⟨g, 1, none⟩ = some (.int .i64 (Ex.upto m x.val : Nat)))
    ?ownA ?assign ?body ?done ?stop
  case own =>
    rintro s W W' row ⟨hs, hz, hl⟩ hg hr
    refine ⟨hs.touch (touch_grown hg) (fun k ⟨cc, tt, fr, e⟩ e2 => ?_) (fun k hk e2 => ?_), Nat.lt_of_lt_of_le hz hg.size, hl⟩
    · obtain ⟨_, o, h1, h2⟩ := hr k e2
      rw [e] at h1; cases h1; cases h2
    · have := (hr k e2).1
      have := H3s.out
      have := HB0.out
      have := HBB.out
      omega
  case ownA =>
    rintro x a1 s W W' row ⟨g, hg1, rfl, hc0, hc1⟩ hg hr
    have hne : ¬ row = some g := fun e2 => by
      obtain ⟨_, o, h1, h2⟩ := hr g e2
      obtain ⟨cc, tt, fr, e⟩ := cellsAt_of hc0
      rw [e] at h1; cases h1; cases h2
    exact ⟨g, hg1, rfl, (touch_grown hg).cell hne hc0, (touch_grown hg).cell hne hc1⟩
  case assign =>
    rintro l pre x W K ⟨hI, hz, hl⟩ hK
    simp only [pieceV]
    gi_wp2
    have ta : Touch No W (W.alloc (.cells #[.int .i64 ((x.val : Int) * 240), .int .i64 (Ex.upto m x.val : Nat)] 203)) := (Touch.refl No W).alloc _
    refine hK _ _ ((ta.keeps (fun _ f _ => f.elim)).from _) (ta.block Bn hz id) ⟨hI.touch ta (fun _ _ f => f) (fun _ _ f => f), Nat.lt_of_lt_of_le hz ta.size, hl⟩ ⟨W.heap.size, hz, rfl, ?_, ?_⟩
    · rw [cell_new]; rfl
    · rw [cell_new]; rfl
  case body =>
    rintro l pre x a1 W _ _ ⟨hI, hz, hl⟩ ⟨g, hg, rfl, hc0, hc1⟩ hlt
    obtain ⟨O', hD, hO⟩ := hI.dsk
    obtain ⟨k, hk⟩ : ∃ k, x.val = k := ⟨_, rfl⟩
    have hkN : k < Ex.pages m := by rw [← hk]; exact x.isLt
    have c0 := hI.c0
    have c1 := hI.c1
    have c2 := hI.c2
    have c3 := hI.c3
    rw [hk] at hc0 hc1
    rw [hk]
    have hkn : k < ids.length := by rw [HM.out.2.2]; exact hkN
    obtain ⟨gi, oi, rfl, hci⟩ := hI.ri.num (i := k) hkn
    obtain ⟨num, hnum⟩ : ∃ num, ids.getD k 0 = num := ⟨_, rfl⟩
    have hnm : num < 4294967296 := by
      rw [← hnum, List.getD_eq_getElem?_getD, List.getElem?_eq_getElem hkn]
      exact Hil.out _ (List.getElem_mem _)
    rw [hnum] at hci
    have hki : (k : Int) < (n : Nat) := by rw [← Hids.out]; omega
    have hlo : 240 * k ≤ Ex.upto m k := by have := Ex.pages_lt hkN; unfold Ex.upto; omega
    have hup : Ex.upto m k ≤ m := by unfold Ex.upto; omega
    have hcut : ∀ wx : World, (Instr.slice 39 (.slice a' m c') (some (.int .i64 ((k : Int) * 240))) (some (.int .i64 (Ex.upto m k : Nat))) none).run Tryz.prog wx = .ok (.slice (cutAddr a' c' (240 * k)) (Ex.plen m k) (c' - 240 * k)) wx := fun wx => by
      have := run_cut2 Tryz.underlying39 HIU.out.1 HIU.out.2 a' m c' (240 * k) (Ex.upto m k) .i64 .i64 hlo (by have := Hcap.out; omega) wx
      rw [show ((240 * k : Nat) : Int) = (k : Int) * 240 by omega] at this; exact this
    have hmx : Tryz.prog.follows .mixedOrders = true := by kernel_rfl
    have hpre : pre.length < Ex.pages m := hlt
    have HWr : Hid (∀ wx, Touch No W wx → Calls Tryz.prog 51 #[dskV (some ⟨d, 0, none⟩), .int .u32 (num : Nat), .int .u32 (ep : Nat), .slice (cutAddr a' c' (240 * k)) (Ex.plen m k) (c' - 240 * k)] wx fun e w' => e = .returned (.int .i64 0) ∧ After wx d (Pg.wD (Ex.wrs D ep ids bs pre) num ep (Ex.piece bs k)) B O' w') := fun wx t => by
      have hrd : Rd wx (cutAddr a' c' (240 * k)) (nums .u8 (Ex.piece bs k)) := by
        have := ((hI.rb.no t).cut (cap := c') (l := 240 * k) (by rw [nums_length, Hm.out]; exact Hcap.out)).take (Ex.plen m k)
        rw [nums, ← List.map_drop, ← List.map_take] at this
        rw [Ex.piece, Hm.out]; exact this
      have hE : Pg.wE (Ex.wrs D ep ids bs pre) num (Ex.piece bs k) = 0 := by
        rw [Pg.wE, if_pos ⟨by rw [Ex.onD_len (Ex.wrs_len _ _ _ _ _)]; exact HM.out.2.1 num (by rw [← hnum]; exact Ex.at_mem hkn), Ex.piece_le bs k⟩]
      have hws := Ex.wrs_waits D ep ids bs pre
      have := pgWrite_k wx d (Ex.wrs D ep ids bs pre) B O' num ep hnm Hep.out (cutAddr a' c' (240 * k)) (Ex.plen m k) (c' - 240 * k) (Ex.piece bs k) (by rw [Ex.piece_length, Hm.out]) hrd (Ex.piece_lt Hbl.out k)
        (by have := HB.out; have := t.size; have := HBB.out; omega) (hD.no t) (by have := Hw.out; omega)
      rw [hE] at this
      exact this
    have HI' := Lib.hid hI
    have HO := Lib.hid hO
    have Hk := Lib.hid hk
    have Hz := Lib.hid hz
    have Hnum := Lib.hid (show Ex.at' ids k = num from hnum)
    clear hI hO hk hD hlt hnum hlo hup hkn
    gi_wp2
    refine wpIn_region_still_tail 13 hmx (by kernel_rfl) ?_
    simp only [List.take_succ_cons, List.take_zero, List.drop_succ_cons, List.drop_zero]
    repeat still_step
    refine wpStill_nil ?_
    clear hmx hcut
    gi_wp2
    refine ⟨trivial, (CallsIn.inRound l (callsIn_wide.2 (HWr.out _ ((Touch.refl No W).drew)))).mono ?_⟩
    rintro e w' ⟨rfl, hA⟩
    have HA := Lib.hid hA
    clear hA c0 c1 c2 c3 hc0 hc1 hci HWr
    gi_wp2
    have hPd : ExIn W.drew B0 Bn d B O (Ex.wrs D ep ids bs pre) ep (some ⟨gi, oi, none⟩) n c ids a' m c' bs w := HI'.out.touch (F := No) ((Touch.refl No W).drew) (fun _ _ f => f) (fun _ _ f => f)
    obtain ⟨s1, s2, s3⟩ := hPd.step HO.out HA.out (show Bn < W.drew.heap.size from Hz.out) HBB.out HB0.out.symm (fun k hk => by have := Hlt.out k hk; have := HB0.out; omega) Hfi.out Hfb.out
    refine ⟨((KeepsOthers.drew W).trans s2).from _, keepB_t (show KeepB Bn W W.drew from rfl) s3, ?_, ?_, ?_⟩
    · rw [Ex.wrs_snoc, Hk.out, Hnum.out]; exact s1
    · have := s2.size
      have h2 : W.drew.heap.size = W.heap.size := rfl
      have := Hz.out
      omega
    · rw [List.length_append]; simp only [List.length_cons, List.length_nil]; omega
  case done =>
    rintro Dq ys W hD rfl ⟨hI, hz, _⟩ hK
    obtain ⟨v, hce, hcf⟩ := hI.c4
    have HP := Lib.hid hI
    have HK := Lib.hid hK
    have HD := Lib.hid hD
    clear hI hK hD
    gi_wp2
    have k1 : (W.setCell ⟨B0 + 1 + 1 + 1 + 1, 0, none⟩ (.int .i64 0)).heap[Dq]? = some (.deferred (some [])) := (KeepsOthers.setCell W ⟨B0 + 1 + 1 + 1 + 1, 0, none⟩ (.int .i64 0)).same Dq _ HK.out rfl
    refine ⟨by simp, .inl ⟨_, _, rfl, run_takeDeferred k1, ?_⟩⟩
    have tb : Touch (One (B0 + 1 + 1 + 1 + 1)) W (W.setCell ⟨B0 + 1 + 1 + 1 + 1, 0, none⟩ (.int .i64 0)) := (Touch.refl (One (B0 + 1 + 1 + 1 + 1)) W).setCell (p := ⟨B0 + 1 + 1 + 1 + 1, 0, none⟩) (fun _ => rfl) _
    have t2 := touch_grown (grownBy_putObj' (W.setCell ⟨B0 + 1 + 1 + 1 + 1, 0, none⟩ (.int .i64 0)) Dq (.deferred none))
    have hne : ∀ k, CellsAt W k → ¬ (some Dq = some k) := fun k ⟨cc, tt, fr, e⟩ e2 => by
      cases e2
      rw [HK.out] at e; cases e
    have c1 : (W.setCell ⟨B0 + 1 + 1 + 1 + 1, 0, none⟩ (.int .i64 0)).cell? ⟨B0 + 1 + 1 + 1 + 1, 0, none⟩ = some (.int .i64 0) := cell_set hce
    have c2' := t2.cell (hne _ (cellsAt_of hce)) c1
    refine ⟨.int .i64 0, by simp [results, Tryz.results52, go_sem, c2'], rfl, ?_⟩
    obtain ⟨O', hDs, hO⟩ := HP.out.dsk
    rw [Ex.wrs_all _ _ _ _ _ (Nat.le_refl _)] at hDs
    have hBB := HBB.out
    have hB0 := HB0.out
    have h3 := H3s.out
    have hDq := HD.out
    refine ⟨(HP.out.t.then tb (fun i hi e => ?_)).then t2 (fun i hi e => ?_), O', (hDs.touch tb (fun k hk e => ?_)).touch t2 (fun k hk => hne k (hO k hk).1), fun k hk => ?_⟩
    · have e2 : i = B0 + 1 + 1 + 1 + 1 := e
      omega
    · have e2 : Dq = i := Option.some.inj e
      omega
    · have e2 : k = B0 + 1 + 1 + 1 + 1 := e
      rcases (hO k hk).2 with h | h
      · have := Hlt.out k h
        omega
      · omega
    · rcases (hO k hk).2 with h | h
      · exact Or.inl h
      · exact Or.inr (by omega)
  case stop =>
    rintro Dq c pre W _ _ h
    exact h.elim

/-- the five boxes of a call -/
theorem five_new (w : World) (T0 T1 T2 T3 T4 : TypeId) (x0 x1 x2 x3 x4 : Value) :
    Row (((((w.alloc (.cells #[x0] T0)).alloc (.cells #[x1] T1)).alloc (.cells #[x2] T2)).alloc (.cells #[x3] T3)).alloc (.cells #[x4] T4)) w.heap.size T0 [x0] ∧
    Row (((((w.alloc (.cells #[x0] T0)).alloc (.cells #[x1] T1)).alloc (.cells #[x2] T2)).alloc (.cells #[x3] T3)).alloc (.cells #[x4] T4)) (w.heap.size + 1 + 1) T2 [x2] ∧
    Row (((((w.alloc (.cells #[x0] T0)).alloc (.cells #[x1] T1)).alloc (.cells #[x2] T2)).alloc (.cells #[x3] T3)).alloc (.cells #[x4] T4)) (w.heap.size + 1 + 1 + 1) T3 [x3] ∧
    Row (((((w.alloc (.cells #[x0] T0)).alloc (.cells #[x1] T1)).alloc (.cells #[x2] T2)).alloc (.cells #[x3] T3)).alloc (.cells #[x4] T4)) (w.heap.size + 1 + 1 + 1 + 1) T4 [x4] := by
  have R0 := (Row.new w T0 #[x0]).touch (F := No) (((((Touch.refl No _).alloc (.cells #[x1] T1)).alloc (.cells #[x2] T2)).alloc (.cells #[x3] T3)).alloc (.cells #[x4] T4)) id
  have R2 := (Row.new ((w.alloc (.cells #[x0] T0)).alloc (.cells #[x1] T1)) T2 #[x2]).touch (F := No) (((Touch.refl No _).alloc (.cells #[x3] T3)).alloc (.cells #[x4] T4)) id
  have R3 := (Row.new (((w.alloc (.cells #[x0] T0)).alloc (.cells #[x1] T1)).alloc (.cells #[x2] T2)) T3 #[x3]).touch (F := No) ((Touch.refl No _).alloc (.cells #[x4] T4)) id
  have R4 := Row.new ((((w.alloc (.cells #[x0] T0)).alloc (.cells #[x1] T1)).alloc (.cells #[x2] T2)).alloc (.cells #[x3] T3)) T4 #[x4]
  simp only [size_alloc] at R2 R3 R4
  exact ⟨R0, R2, R3, R4⟩
set_option maxRecDepth 100000 in
set_option maxHeartbeats 4000000 in
theorem exWrite_no (w : World) (d : Nat) (D : Dk.Disk) (O : Nat → Prop) (ep : Nat) (a : Option Addr) (n c : Nat) (ids : List Nat) (hn : ids.length = n) (hnm : (n : Int) ≤ 1000000000000) (hir : Rd w a (nums .u32 ids)) (hil : ∀ x ∈ ids, x < 4294967296)
    (a' : Option Addr) (m c' : Nat) (hmax : (m : Int) ≤ 100000000000) (h : DiskAt w d D O) (hM : ¬ Ex.may D ids m) :
    Calls Tryz.prog 52 #[.pointer (some ⟨d, 0, none⟩), .int .u32 (ep : Nat), .slice a n c, .slice a' m c'] w fun e w' => e = .returned (.int .i64 1) ∧ Touch No w w' := by
  obtain ⟨N, hN⟩ : ∃ N, D.seen.length = N := ⟨_, rfl⟩
  have hN0 : ((N : Int) == 0) = false := by have := h.ok.pos; simp; omega
  have HN := Lib.hid hN
  have H := Lib.hid h
  have Hir := Lib.hid hir
  have Hil := Lib.hid hil
  have Hn := Lib.hid hn
  have HM := Lib.hid hM
  clear h hir hil hn hM hN
  go_enter Tryz.func52, Tryz.ntmps52
  go_wp2_with fail
  obtain ⟨R0, R2, R3, R4⟩ := five_new w 26 38 86 39 33 (.pointer (some ⟨d, 0, none⟩)) (.int .u32 (ep : Nat)) (.slice a n c) (.slice a' m c') (.int .i64 0)
  have t0 : Touch No w (((((w.alloc (.cells #[.pointer (some ⟨d, 0, none⟩)] 26)).alloc (.cells #[.int .u32 (ep : Nat)] 38)).alloc (.cells #[.slice a n c] 86)).alloc (.cells #[.slice a' m c'] 39)).alloc (.cells #[.int .i64 0] 33)) := ((((Touch.refl No w).alloc _).alloc _).alloc _ |>.alloc _).alloc _
  refine (len_in _ d D O (H.out.no t0)).mono ?_
  rw [HN.out]
  rintro e w1 ⟨rfl, h1⟩
  rw [h1] at R0 R2 R3 R4 t0
  clear h1
  have c0 := R0.cell 0
  have c2 := R2.cell 0
  have c3 := R3.cell 0
  simp only [List.getElem?_cons_zero] at c0 c2 c3
  have T0 := Lib.hid t0
  have S4 := Lib.hid R4
  clear R0 R2 R3 R4 t0
  go_wp2_with fail
  refine (exMay_any _ d D O (H.out.no T0.out) a n c ids Hn.out hnm Hil.out (Hir.out.no T0.out) (m : Nat) (by omega) false (by simp [HM.out])).mono ?_
  rintro e w2 ⟨rfl, t2⟩
  have R4 := S4.out.touch t2 id
  have c4 := R4.cell 0
  have f4 := R4.soft 0
  have T2 := Lib.hid (T0.out.trans t2)
  simp only [List.getElem?_cons_zero] at c4
  clear c0 c2 c3 t2 R4
  go_wp2
  have x4 : (w2.setCell ⟨w.heap.size + 1 + 1 + 1 + 1, 0, none⟩ (.int .i64 1)).cell? ⟨w.heap.size + 1 + 1 + 1 + 1, 0, none⟩ = some (.int .i64 1) := cell_set c4
  exact bodyPost_ret (v := .int .i64 1) (by simp [results, Tryz.results52, go_sem, x4]) rfl ⟨rfl, T2.out.setCell (p := ⟨w.heap.size + 1 + 1 + 1 + 1, 0, none⟩) (fun h => absurd h (by show ¬ w.heap.size + 1 + 1 + 1 + 1 < _; omega)) _⟩
theorem exWrite_k (w : World) (d : Nat) (D : Dk.Disk) (B : Nat) (O : Nat → Prop) (ep : Nat) (hep : ep < 4294967296) (a : Option Addr) (n c : Nat) (ids : List Nat) (hn : ids.length = n) (hnm : (n : Int) ≤ 1000000000000) (Hki : Keep w O a (nums .u32 ids)) (hil : ∀ x ∈ ids, x < 4294967296)
    (a' : Option Addr) (m c' : Nat) (bs : List Nat) (hm : bs.length = m) (hcap : m ≤ c') (hmax : (m : Int) ≤ 100000000000) (Hkb : Keep w O a' (nums .u8 bs)) (hbl : ∀ x ∈ bs, x < 256)
    (hB : B ≤ w.heap.size) (h : Dsk w d D B O) (hw : D.waits.length + 4 * Ex.pages m ≤ 100000) :
    Calls Tryz.prog 52 #[.pointer (some ⟨d, 0, none⟩), .int .u32 (ep : Nat), .slice a n c, .slice a' m c'] w fun e w' => e = .returned (.int .i64 (Ex.wE D ids m : Nat)) ∧ After w d (Ex.wD D ep ids bs) B O w' := by
  by_cases hM : Ex.may D ids m
  · rw [Ex.wE, if_pos hM, Ex.wD, hm, if_pos hM]
    exact callsIn_wide.1 (exWrite_yes w d D B O ep hep a n c ids hn Hki hil a' m c' bs hm hcap hmax Hkb hbl hB h hw hM)
  · rw [Ex.wE, if_neg hM, Ex.wD, hm, if_neg hM]
    exact (exWrite_no w d D O ep a n c ids hn hnm Hki.1 hil a' m c' hmax h.on hM).mono fun e w' ⟨he, t⟩ => ⟨he, t.no, O, h.no t, fun k hk => Or.inl hk⟩
end Go.Proofs.YtnffigfafalocaaGreatDoor
namespace Go.Proofs.YtnffigfafalocaaGreatDoor
open Go Go.RowKit
set_option linter.unusedVariables false

section
variable {P : Program} {ops : Array Oper} {md : Region.Mode} {w : World} {l m : Nat} {Q' : Exit → Act → World → Prop}
/-- each operation behind the n-th waits for one that stands between -/
def descB (md : Region.Mode) (ops : Array Oper) (n : Nat) : Bool :=
  (List.range ops.size).all fun t => decide (t ≤ n) || (List.range t).any fun u => decide (n ≤ u) && Region.waitsFor md ops t u
theorem desc_waits {n : Nat} {listed : Array Bool} (hs : Region.sinkB md ops n = true) (hc : descB md ops n = true) (hn : n < ops.size) (inv : HeadInv md ops n listed) :
    ∀ (d i : Nat), n - i = d → i < n → listed.getD i true = false → ∀ t, n ≤ t → t ∉ Region.ready md ops listed := by
  intro d
  induction d using Nat.strongRecOn with
  | _ d ih =>
    intro i hd hi hun t ht hr
    obtain ⟨_, ot, hot, hall⟩ := mem_ready.1 hr
    have htlt : t < ops.size := (Array.getElem?_eq_some_iff.1 hot).1
    by_cases htn : t = n
    · subst htn
      have h1 := List.all_eq_true.1 hs i (List.mem_range.2 hi)
      obtain ⟨j, hj, hj2⟩ := List.any_eq_true.1 h1
      simp only [Bool.and_eq_true, decide_eq_true_eq] at hj2
      obtain ⟨oj, hoj, e, he, hb, hon⟩ := Region.waitsFor_spec hj2.2
      have hjle : j ≤ t := by have := List.mem_range.1 hj; omega
      by_cases hjt : j = t
      · subst hjt
        have : oj = ot := Option.some.inj (hoj.symm.trans hot)
        subst this
        have h2 := hall e he hb
        rw [hon, getD_both hun] at h2
        cases h2
      · cases hl : listed.getD j false with
        | true =>
          have h2 := inv.closed j oj hoj hl e he hb
          rw [hon, getD_both hun] at h2
          cases h2
        | false =>
          have hjs : j < listed.size := by rw [inv.size]; omega
          exact ih (t - j) (by omega) j rfl (by omega) (getD_in hjs hl) t (Nat.le_refl _) hr
    · have h1 := List.all_eq_true.1 hc t (List.mem_range.2 htlt)
      simp only [Bool.or_eq_true, decide_eq_true_eq] at h1
      rcases h1 with h1 | h1
      · omega
      · obtain ⟨u, hu, hu2⟩ := List.any_eq_true.1 h1
        simp only [Bool.and_eq_true, decide_eq_true_eq] at hu2
        obtain ⟨o', ho', e, he, hb, hon⟩ := Region.waitsFor_spec hu2.2
        have hut := List.mem_range.1 hu
        have : o' = ot := Option.some.inj (ho'.symm.trans hot)
        subst this
        have h2 := hall e he hb
        rw [hon, getD_both (inv.tail u hu2.1 (by omega))] at h2
        cases h2
theorem wpAnyL_firstD {n i : Nat} {oi : Oper} {v : Value} {L : Array Bool → Act → Prop} (hi : ops[i]? = some oi) (hsel : ∀ (j : Nat) (o : Oper) cs b, ops[j]? = some o → o.op ≠ .select cs b)
    (hs : Region.sinkB md ops n = true) (hc : descB md ops n = true) (hn : n < ops.size) (hin : i < n)
    (hdone : ∀ listed a, L listed a → ∀ j ∈ Region.ready md ops listed, n ≤ j) :
    ∀ (f : Nat) (listed : Array Bool) (a : Act), HeadInv md ops n listed →
      (∀ j oj, ops[j]? = some oj → j ≠ i → listed.getD j true = false → (∀ e ∈ oj.after, Region.binds md e = true → e.on ≠ i) → oi.apart ops oj = true) →
      i ∈ Region.ready md ops listed → YieldsAt P ops w oi v a →
      wpAnyL P md ops w n L f (listed.setIfInBounds i true) (a.put oi.dst v) → wpAnyL P md ops w n L (f + 1) listed a := by
  intro f
  induction f with
  | zero =>
    intro listed a inv _ hr hy H
    have hun := (mem_ready.1 hr).1
    refine ⟨fun h => (by rw [h] at hr; cases hr), fun j hj => ?_⟩
    have hjn : j < n := by
      rcases Nat.lt_or_ge j n with h | h
      · exact h
      · exact absurd hj (desc_waits hs hc hn inv _ i rfl hin hun j h)
    refine ⟨hjn, ?_⟩
    by_cases hji : j = i
    · subst hji; exact hy.stOp hi H
    · have := hdone _ _ H j (ready_mono hj hji)
      omega
  | succ f ih =>
    intro listed a inv hfree hr hy H
    have hun := (mem_ready.1 hr).1
    refine ⟨fun h => (by rw [h] at hr; cases hr), fun j hj => ?_⟩
    have hjn : j < n := by
      rcases Nat.lt_or_ge j n with h | h
      · exact h
      · exact absurd hj (desc_waits hs hc hn inv _ i rfl hin hun j h)
    refine ⟨hjn, ?_⟩
    by_cases hji : j = i
    · subst hji; exact hy.stOp hi H
    · have h1 := (H.2 j (ready_mono hj hji)).2
      obtain ⟨hjun, oj, hoj, hall⟩ := mem_ready.1 hj
      have hnot : ∀ e ∈ oj.after, Region.binds md e = true → e.on ≠ i := fun e he hb heq => by
        have h1 := hall e he hb
        have h0 := (mem_ready.1 hr).1
        rw [heq] at h1
        rcases Nat.lt_or_ge i listed.size with h' | h'
        · simp [h'] at h0 h1; rw [h0] at h1; cases h1
        · simp [Array.getElem?_eq_none h'] at h1
      have h2 := stOp_put hoj (hfree j oj hoj hji hjun hnot) (fun cs b => hsel i oi cs b hi) (fun cs b => hsel j oj cs b hoj) hy h1
      have hfree' : ∀ k ok, ops[k]? = some ok → k ≠ i → (listed.setIfInBounds j true).getD k true = false →
          (∀ e ∈ ok.after, Region.binds md e = true → e.on ≠ i) → oi.apart ops ok = true := fun k ok hk hki hun hno => by
        refine hfree k ok hk hki ?_ hno
        by_cases hjk : j = k
        · subst hjk; exact hjun
        · rw [getD_set_ne true hjk] at hun; exact hun
      refine stOp_mono (fun a' h3 => ih (listed.setIfInBounds j true) a' (inv.set hj hjn) hfree' (ready_mono hr (Ne.symm hji)) h3.1 ?_) h2
      rw [Array.setIfInBounds_comm _ _ hji]
      exact h3.2
def midB (md : Region.Mode) (ops : Array Oper) (n : Nat) (listed : Array Bool) : Bool := decide (Region.ready md ops listed = [n]) && Region.lexFrom md ops (ops.size - n - 1) (n + 1) (listed.setIfInBounds n true)
def midHead (md : Region.Mode) (ops : Array Oper) (n : Nat) : Nat → Nat → Array Bool → Bool
  | 0, _, listed => midB md ops n listed
  | f + 1, k, listed => (Region.ready md ops listed).contains k && Region.free md ops listed k && midHead md ops n f (k + 1) (listed.setIfInBounds k true)
def midAllB (md : Region.Mode) (ops : Array Oper) (n : Nat) : Bool :=
  noDefer ops && (Region.noSelect ops && (Region.sinkB md ops n && (descB md ops n && midHead md ops n n 0 (Array.replicate ops.size false))))
theorem wpAnyL_mid {n : Nat} {Lq : Act → Prop} (hsel : Region.noSelect ops = true) (hs : Region.sinkB md ops n = true) (hc : descB md ops n = true) (hn : n < ops.size) :
    ∀ (l : List Oper) (k : Nat) (listed : Array Bool) (a : Act), (∀ j, j < l.length → l[j]? = ops[k + j]?) → k + l.length = n → HeadInv md ops n listed →
    midHead md ops n l.length k listed = true → wpStill P ops w Lq l a →
    wpAnyL P md ops w n (fun listed' a' => midB md ops n listed' = true ∧ Lq a') l.length listed a
  | [], k, listed, a, _, hk, _, hB, h => ⟨by simpa [midHead] using hB, h⟩
  | o :: l, k, listed, a, hl, hk, inv, hB, h => by
    have h0 : ops[k]? = some o := by simpa using (hl 0 (by simp)).symm
    simp only [List.length_cons, midHead, Bool.and_eq_true] at hB
    obtain ⟨⟨hr, hf⟩, hB'⟩ := hB
    have hkn : k < n := by simp only [List.length_cons] at hk; omega
    have hr' : k ∈ Region.ready md ops listed := by simpa using hr
    have hst : stOp P ops w k (wpStill P ops w Lq l) a := by unfold stOp; simp only [h0]; exact h
    obtain ⟨v, hy, hK⟩ := yieldsAt_of_stOp h0 hst
    exact wpAnyL_firstD h0 (Region.noSelect_spec hsel) hs hc hn hkn (fun listed' a' hL => by
      have h1 := hL.1
      simp only [midB, Bool.and_eq_true, decide_eq_true_eq] at h1
      intro j hj
      rw [h1.1] at hj
      have : j = n := by simpa using hj
      omega) l.length listed a inv (Region.free_spec h0 hf) hr' hy
      (wpAnyL_mid hsel hs hc hn l (k + 1) _ _ (fun j hj => by have := hl (j + 1) (by simp; omega); simpa [Nat.add_assoc, Nat.add_comm 1 j] using this) (by simp only [List.length_cons] at hk; omega) (inv.set hr' hkn) hB' hK)
/-- a wholly still rest, in any order -/
theorem wpAnyIn_of_stillS {Q : Act → Prop} (hd : noDefer ops = true) (hQ : ∀ a, Q a → Q' .normal a w) : ∀ (f : Nat) (listed : Array Bool) (a : Act), wpAnyS P md ops w Q f listed a → wpAnyIn (Fence.wide.inRound l) m P md ops Q' f listed a w
  | 0, listed, a, h => ⟨h.1, hQ _ h.2⟩
  | f + 1, listed, a, h => ⟨fun h0 => hQ _ (h.1 h0), fun i hi => wpOpIn_of_stOp hd (fun a' h' => wpAnyIn_of_stillS hd hQ f _ a' h') (h.2 i hi)⟩
theorem wpIn_region_still_call {id : Nat} {a : Act} {q : List Oper} {o : Oper} (n : Nat) (hm : P.follows .mixedOrders = true) (hB : midAllB .any q.toArray n = true) (ho : q[n]? = some o) (hg : o.guard = none)
    (h : wpStill P q.toArray { w with drawn := w.drawn + 1 } (fun a' => ∀ K : Act → World → Prop, (∀ a2 w2, wpStill P q.toArray w2 (fun a3 => Q' .normal a3 w2) (q.drop (n + 1)) a2 → K a2 w2) →
      o.wpIn (Fence.wide.inRound l) m P a' { w with drawn := w.drawn + 1 } K Q') (q.take n) a) : (Code.region id q.toArray true).wpIn (Fence.wide.inRound l) m P Q' a w := by
  simp only [midAllB, Bool.and_eq_true] at hB
  obtain ⟨hdf, hsel, hs, hc, hmid⟩ := hB
  have hn : n < q.toArray.size := by simpa using (List.getElem?_eq_some_iff.1 ho).1
  have htl : (q.take n).length = n := by simp; simp at hn; omega
  have hdl : (q.drop (n + 1)).length = q.toArray.size - n - 1 := by simp; omega
  have inv0 : HeadInv .any q.toArray n (Array.replicate q.toArray.size false) :=
    ⟨by simp, fun j oj _ hl => (by rw [getD_replicate_false] at hl; cases hl), fun t _ ht => getD_in (by simpa using ht) (getD_replicate_false _ _)⟩
  have H := wpAnyL_mid (md := .any) hsel hs hc hn (q.take n) 0 _ a (fun j hj => by
    have hj' : j < n := by rw [htl] at hj; exact hj
    simp [hj']) (by simpa using htl) inv0 (by rw [htl]; exact hmid) h
  refine wpIn_region_any hm ?_
  have := wpAnyIn_of_head (Q' := Q') (g := q.toArray.size - n) (l := l) (m := m) hdf (fun listed a' hL => by
    obtain ⟨hmB, hK⟩ := hL
    simp only [midB, Bool.and_eq_true, decide_eq_true_eq] at hmB
    obtain ⟨hrd, hlex⟩ := hmB
    rw [show q.toArray.size - n = (q.toArray.size - n - 1) + 1 by omega]
    refine ⟨fun h0 => (by rw [hrd] at h0; cases h0), fun i hi => ?_⟩
    rw [hrd] at hi
    have hin : i = n := by simpa using hi
    subst hin
    have ho' : q.toArray[i]? = some o := by simpa using ho
    unfold wpOpIn
    simp only [ho', Region.wanted, hg, if_true]
    refine hK _ fun a2 w2 h2 => ?_
    have := wpAnyIn_of_stillS (Q' := Q') (l := l) (m := m) (md := .any) (ops := q.toArray) (w := w2) (Q := fun a3 => Q' .normal a3 w2) hdf (fun _ h => h) (q.drop (i + 1)).length (listed.setIfInBounds i true) a2
      (wpAnyS_lex hsel (q.drop (i + 1)) (i + 1) _ a2 (fun j => by simp [List.getElem?_drop]) (by rw [hdl]; exact hlex) h2)
    rw [hdl] at this
    exact this) _ _ _ H
  rw [htl] at this
  have hn' : n + (q.toArray.size - n) = q.toArray.size := by omega
  rw [hn'] at this
  exact this
end
end Go.Proofs.YtnffigfafalocaaGreatDoor
namespace Go.Proofs.YtnffigfafalocaaGreatDoor
open Go Go.RowKit Go.Shelf
set_option linter.unusedSimpArgs false
attribute [local go_sem] Oper.semAt_some

/-- bodies of pages, read in some order -/
def Ex.rds (D : Dk.Disk) (ids : List Nat) {N : Nat} (l : List (Fin N)) : List Nat := l.flatMap fun x => Pg.rB D (Ex.at' ids x.val)
theorem Ex.rds_snoc (D : Dk.Disk) (ids : List Nat) {N : Nat} (l : List (Fin N)) (x : Fin N) : Ex.rds D ids (l ++ [x]) = Ex.rds D ids l ++ Pg.rB D (Ex.at' ids x.val) := by simp [Ex.rds]
theorem Ex.rds_all (D : Dk.Disk) (ids : List Nat) {N : Nat} : ∀ k, k ≤ N → Ex.rds D ids (firstN N k) = Ex.rdB D ids k
  | 0, _ => by simp [firstN, Ex.rds, Ex.rdB]
  | k + 1, h => by rw [firstN_next (by omega), Ex.rds_snoc, Ex.rds_all D ids k (by omega), Ex.rdB]
theorem Own.cells {F : Nat → Prop} {W W' : World} {base : Nat} {T : TypeId} {v : Value} {vs : List Value} (h : Own W base T v vs) (t : Touch F W W') (hF : ∀ k, CellsAt W k → ¬ F k) : Own W' base T v vs := by
  obtain ⟨hl, hh⟩ := h
  refine ⟨hl, ?_⟩
  rcases hh with hh | ⟨g, cap, cur, hv, hg, hgt, q⟩
  · exact Or.inl hh
  · exact Or.inr ⟨g, cap, cur, hv, hg, by rw [t.block g (Array.getElem?_eq_some_iff.1 hgt).1 (hF g ⟨_, _, _, hgt⟩)]; exact hgt, q⟩
theorem firstN_last {N k : Nat} (hk : k ≤ N) {pre' : List (Fin N)} {x : Fin N} (h : pre' ++ [x] = firstN N k) : x.val + 1 = k ∧ pre' = firstN N x.val := by
  have hl := congrArg List.length h
  rw [firstN_length hk] at hl
  simp only [List.length_append, List.length_cons, List.length_nil] at hl
  have hx : (firstN N k)[pre'.length]? = some x := by rw [← h]; simp
  rw [firstN_get hk (by omega)] at hx
  have hv : pre'.length = x.val := congrArg Fin.val (Option.some.inj hx)
  refine ⟨by omega, ?_⟩
  have h2 : (pre' ++ [x]).take pre'.length = (firstN N k).take pre'.length := by rw [h]
  rw [List.take_left, firstN, List.take_take, show min pre'.length k = x.val by omega] at h2
  exact h2
/-- what the loop keeps -/
structure ExRd (W : World) (B0 Bn d : Nat) (ep : Nat) (a : Option Addr) (n c : Nat) (ids : List Nat) (vs : List Nat) (w : World) : Prop where
  t : Touch No w W
  c0 : W.cell? ⟨B0, 0, none⟩ = some (.pointer (some ⟨d, 0, none⟩))
  c1 : W.cell? ⟨B0 + 1, 0, none⟩ = some (.int .u32 (ep : Nat))
  c2 : W.cell? ⟨B0 + 1 + 1, 0, none⟩ = some (.slice a n c)
  c3 : ∃ v, W.cell? ⟨B0 + 1 + 1 + 1, 0, none⟩ = some v ∧ W.frozen? ⟨B0 + 1 + 1 + 1, 0, none⟩ = false ∧ Own W (Bn + 1) 5 v (nums .u8 vs)
  c4 : ∃ v, W.cell? ⟨B0 + 1 + 1 + 1 + 1, 0, none⟩ = some v ∧ W.frozen? ⟨B0 + 1 + 1 + 1 + 1, 0, none⟩ = false
  sz : Bn < W.heap.size
theorem ExRd.touch {F : Nat → Prop} {W W' : World} {B0 Bn d : Nat} {ep : Nat} {a : Option Addr} {n c : Nat} {ids : List Nat} {vs : List Nat} {w : World}
    (h : ExRd W B0 Bn d ep a n c ids vs w) (t : Touch F W W') (hF : ∀ k, CellsAt W k → ¬ F k) (hw : ∀ k, k < w.heap.size → ¬ F k) : ExRd W' B0 Bn d ep a n c ids vs w := by
  obtain ⟨ht, c0, c1, c2, ⟨v, c3, f3, o⟩, ⟨u, c4, f4⟩, sz⟩ := h
  refine ⟨ht.then t (fun i hi f => absurd f (hw i hi)), t.cell (hF _ (cellsAt_of c0)) c0, t.cell (hF _ (cellsAt_of c1)) c1, t.cell (hF _ (cellsAt_of c2)) c2, ⟨v, t.cell (hF _ (cellsAt_of c3)) c3, (t.frozen (lt_of_cell c3) (hF _ (cellsAt_of c3)) 0).trans f3, ?_⟩, ⟨u, t.cell (hF _ (cellsAt_of c4)) c4, (t.frozen (lt_of_cell c4) (hF _ (cellsAt_of c4)) 0).trans f4⟩, Nat.lt_of_lt_of_le sz t.size⟩
  obtain ⟨hl, hh⟩ := o
  refine ⟨hl, ?_⟩
  rcases hh with hh | ⟨g, cap, cur, hv, hg, hgt, q⟩
  · exact Or.inl hh
  · exact Or.inr ⟨g, cap, cur, hv, hg, by rw [t.block g (Array.getElem?_eq_some_iff.1 hgt).1 (hF g ⟨_, _, _, hgt⟩)]; exact hgt, q⟩

def ExReadPost (w : World) (D : Dk.Disk) (ep : Nat) (ids : List Nat) (m : Nat) (e : Ending) (w' : World) : Prop :=
  ∃ a n, e = .returned (.tuple #[.slice a n n, .int .i64 (Ex.rE D ep ids m : Nat)]) ∧ (Ex.rB D ep ids m).length = n ∧ (∃ c, Own w' w.heap.size 5 (.slice a n c) (nums .u8 (Ex.rB D ep ids m))) ∧ Touch No w w'
set_option maxRecDepth 100000 in
set_option maxHeartbeats 4000000 in
theorem exRead_yes (w : World) (d : Nat) (D : Dk.Disk) (O : Nat → Prop) (ep : Nat) (hep : ep < 4294967296) (a : Option Addr) (n c : Nat) (ids : List Nat) (hn : ids.length = n) (hir : Rd w a (nums .u32 ids)) (hil : ∀ x ∈ ids, x < 4294967296)
    (m : Nat) (hmax : (m : Int) ≤ 100000000000) (h : DiskAt w d D O) (hM : Ex.may D ids m) :
    CallsIn Fence.wide 10 Tryz.prog 62 #[.pointer (some ⟨d, 0, none⟩), .int .u32 (ep : Nat), .slice a n c, .int .i64 (m : Nat)] w (ExReadPost w D ep ids m) := by
  refine callsIn_of_wp_marks Tryz.func62 rfl trivial ?_ rfl
  simp only [Tryz.ntmps62, List.size_toArray, List.length_cons, List.length_nil, Nat.reduceAdd, Nat.reduceSub, Array.replicate_succ, Array.replicate_zero, List.push_toArray, List.append_toArray, List.nil_append, List.cons_append]
  have hpos := h.ok.pos
  obtain ⟨N, hN⟩ : ∃ N, D.seen.length = N := ⟨_, rfl⟩
  have hN0 : ((N : Int) == 0) = false := by simp; omega
  gi_wp2
  obtain ⟨W0, hW0⟩ : ∃ W0, W0 = (((((w.alloc (.cells #[.pointer (some ⟨d, 0, none⟩)] 26)).alloc (.cells #[.int .u32 (ep : Nat)] 38)).alloc (.cells #[.slice a n c] 86)).alloc (.cells #[.slice none 0 0] 39)).alloc (.cells #[.int .i64 0] 33)) := ⟨_, rfl⟩
  have t0 : Touch No w W0 := by rw [hW0]; exact ((((Touch.refl No w).alloc _).alloc _).alloc _ |>.alloc _).alloc _
  have hs0 : W0.heap.size = w.heap.size + 5 := by rw [hW0]; simp
  obtain ⟨R0, R2, R3, R4⟩ := five_new w 26 38 86 39 33 (.pointer (some ⟨d, 0, none⟩)) (.int .u32 (ep : Nat)) (.slice a n c) (.slice none 0 0) (.int .i64 0)
  have R1 : Row W0 (w.heap.size + 1) 38 [.int .u32 (ep : Nat)] := by
    have := (Row.new (w.alloc (.cells #[.pointer (some ⟨d, 0, none⟩)] 26)) 38 #[.int .u32 (ep : Nat)]).touch (F := No) ((((Touch.refl No _).alloc (.cells #[.slice a n c] 86)).alloc (.cells #[.slice none 0 0] 39)).alloc (.cells #[.int .i64 0] 33)) id
    simp only [size_alloc] at this
    rw [hW0]; exact this
  rw [← hW0] at R0 R2 R3 R4 ⊢
  clear hW0
  refine ⟨trivial, (callsIn_wide.2 (len_in _ d D O (h.no t0))).mono ?_⟩
  rw [hN]
  rintro e w1 ⟨rfl, rfl⟩
  have c0 := R0.cell 0
  have c2 := R2.cell 0
  simp only [List.getElem?_cons_zero] at c0 c2
  gi_wp2
  refine ⟨trivial, (callsIn_wide.2 (exMay_any _ d D O (h.no t0) a n c ids hn ?hmx hil (hir.no t0) (m : Nat) (by omega) true (by simp [hM]))).mono ?_⟩
  case hmx =>
    have := hM.2.2
    have h2 := Ex.pages_le m
    omega
  rintro e w2 ⟨rfl, t2⟩
  clear c0 c2
  gi_wp2
  refine ⟨trivial, (callsIn_wide.2 (pieces_any _ m)).mono ?_⟩
  rintro e w3 ⟨rfl, h3⟩
  gi_wp2
  have hs2 := t2.size
  have t3 : Touch No W0 w3 := by rw [← h3]; exact t2.alloc _
  have t03 := t0.trans t3
  have hs3 : w3.heap.size = w2.heap.size + 1 := by rw [← h3]; simp
  have hk3 : w3.cell? ⟨w2.heap.size, 0, none⟩ = some (.int .i64 (m : Nat)) := by rw [← h3, cell_new]; rfl
  have hI : ExRd w3 w.heap.size w2.heap.size d ep a n c ids (Ex.rds D ids ([] : List (Fin (Ex.pages m)))) w :=
    ⟨t03, (R0.touch t3 id).cell 0, (R1.touch t3 id).cell 0, (R2.touch t3 id).cell 0, ⟨_, (R3.touch t3 id).cell 0, (R3.touch t3 id).soft 0, Own.nil _ _ _⟩, ⟨_, (R4.touch t3 id).cell 0, (R4.touch t3 id).soft 0⟩, by omega⟩
  obtain ⟨B0, hB0⟩ : ∃ B0, B0 = w.heap.size := ⟨_, rfl⟩
  obtain ⟨Bn, hBn⟩ : ∃ Bn, Bn = w2.heap.size := ⟨_, rfl⟩
  have hBB : B0 + 5 ≤ Bn := by omega
  rw [← hB0, ← hBn] at hI
  rw [← hBn] at hk3
  rw [← hB0, ← hBn]
  have HI := Lib.hid hI
  have HK3 := Lib.hid hk3
  have h3s : w3.heap.size = Bn + 1 := by omega
  have HB0 := Lib.hid hB0
  have HBn := Lib.hid hBn
  have HBB := Lib.hid hBB
  have HM := Lib.hid hM
  have Hids := Lib.hid hn
  have Hil := Lib.hid hil
  have Hir := Lib.hid hir
  have Hep := Lib.hid hep
  have Hd := Lib.hid h
  have H3s := Lib.hid h3s
  obtain ⟨IU, iu0, iu1, iu2, iu3⟩ := u8_info
  have HIU := Lib.hid (And.intro iu0 (And.intro iu1 (And.intro iu2 iu3)))
  clear hI hk3 R0 R1 R2 R3 R4 h3 t2 t3 hB0 hBn hBB hM hn hil hir hep h t0 t03 hs0 hs2 hs3 hpos hN hN0 iu0 iu1 iu2 iu3
  refine wpIn_rangeFunc_ownH rfl (by decide) (gf := 217) (lb := #[.pointer (some ⟨Bn, 0, none⟩)]) rfl trivial (enters_of Tryz.func217 (by kernel_rfl) rfl)
    (pieces_stops 9 (by decide) Bn m (by omega) w3 (by rw [h3s]; omega) HK3.out) keepB_t (keepB_b (by rw [h3s]; omega)) (Below.refl _ _) (fun _ => rfl)
    (fun pre W => ExRd W B0 Bn d ep a n c ids (Ex.rds D ids pre) w ∧ pre.length ≤ Ex.pages m ∧ ∀ x ∈ pre, Ex.one D ep (Ex.at' ids x.val) (Ex.plen m x.val) = 0)
    (fun cd pre W => cd = .ret ∧ ∃ pre' x, pre = pre' ++ [x] ∧ (∀ y ∈ pre', Ex.one D ep (Ex.at' ids y.val) (Ex.plen m y.val) = 0) ∧ Ex.one D ep (Ex.at' ids x.val) (Ex.plen m x.val) ≠ 0 ∧ Touch No w W ∧ W.cell? ⟨B0 + 1 + 1 + 1, 0, none⟩ = some (.slice none 0 0) ∧ W.cell? ⟨B0 + 1 + 1 + 1 + 1, 0, none⟩ = some (.int .i64 (Ex.one D ep (Ex.at' ids x.val) (Ex.plen m x.val) : Nat)))
    ?own ?ownx
    ⟨HI.out, Nat.zero_le _, fun x hx => by cases hx⟩
    (fun x a1 W => ∃ g, Bn < g ∧ a1 = { tmps := #[.pointer (some ⟨d, 0, none⟩), .int .u32 (ep : Nat), .slice a n c, .int .i64 (m : Nat), .pointer (some ⟨B0, 0, none⟩), .pointer (some ⟨B0 + 1, 0, none⟩), .pointer (some ⟨B0 + 1 + 1, 0, none⟩), undef, .pointer (some ⟨B0 + 1 + 1 + 1, 0, none⟩), .pointer (some ⟨B0 + 1 + 1 + 1 + 1, 0, none⟩), .int .i64 (x.val : Nat), .pointer (some ⟨g, 0, none⟩), undef, undef, undef, .bool false, .pointer (some ⟨d, 0, none⟩), .int .i64 (N : Nat), .bool false, .bool false, .pointer (some ⟨d, 0, none⟩), .slice a n c, .int .i64 (m : Nat), .bool true, .bool false, .int .i64 (m : Nat), .func (.func 217) #[] #[.pointer (some ⟨Bn, 0, none⟩)], .int .i64 (x.val : Nat), .agg #[.int .i64 ((x.val : Int) * 240), .int .i64 (Ex.upto m x.val : Nat)], undef, undef, undef, undef, undef, undef, undef, undef, undef, undef, undef, undef, undef, undef, undef, undef, undef, undef, undef, undef, undef, undef, undef, undef, undef, undef, undef, undef, undef, undef, undef, undef], defers := [] } ∧ W.cell? ⟨g, 0, none⟩ = some (.int .i64 ((x.val : Int) * 240)) ∧ W.cell? ⟨g, 1, none⟩ = some (.int .i64 (Ex.upto m x.val : Nat)))
    ?ownA ?assign ?body ?done ?stop
  case own =>
    rintro s W W' row ⟨hs, hl, h1⟩ hg hr
    refine ⟨hs.touch (touch_grown hg) (fun k ⟨cc, tt, fr, e⟩ e2 => ?_) (fun k hk e2 => ?_), hl, h1⟩
    · obtain ⟨_, o, h1, h2⟩ := hr k e2
      rw [e] at h1; cases h1; cases h2
    · have := (hr k e2).1
      have := H3s.out
      have := HB0.out
      have := HBB.out
      omega
  case ownx =>
    rintro cd s W W' row ⟨rfl, pre', x, hp, hn0, h1, ht, c3, c4⟩ hg hr
    have t := touch_grown hg
    have hc : ∀ k, CellsAt W k → ¬ row = some k := fun k ⟨cc, tt, fr, e⟩ e2 => by
      obtain ⟨_, o, h1, h2⟩ := hr k e2
      rw [e] at h1; cases h1; cases h2
    refine ⟨rfl, pre', x, hp, hn0, h1, ht.then t (fun k hk e2 => ?_), t.cell (hc _ (cellsAt_of c3)) c3, t.cell (hc _ (cellsAt_of c4)) c4⟩
    have := (hr k e2).1
    have := H3s.out
    have := HB0.out
    have := HBB.out
    omega
  case ownA =>
    rintro x a1 s W W' row ⟨g, hg1, rfl, hc0, hc1⟩ hg hr
    have hne : ¬ row = some g := fun e2 => by
      obtain ⟨_, o, h1, h2⟩ := hr g e2
      obtain ⟨cc, tt, fr, e⟩ := cellsAt_of hc0
      rw [e] at h1; cases h1; cases h2
    exact ⟨g, hg1, rfl, (touch_grown hg).cell hne hc0, (touch_grown hg).cell hne hc1⟩
  case assign =>
    rintro l pre x W K ⟨hI, hl, h1⟩ hK
    simp only [pieceV]
    gi_wp2
    have ta : Touch No W (W.alloc (.cells #[.int .i64 ((x.val : Int) * 240), .int .i64 (Ex.upto m x.val : Nat)] 203)) := (Touch.refl No W).alloc _
    refine hK _ _ ((ta.keeps (fun _ f _ => f.elim)).from _) (ta.block Bn hI.sz id) ⟨hI.touch ta (fun _ _ f => f) (fun _ _ f => f), hl, h1⟩ ⟨W.heap.size, hI.sz, rfl, ?_, ?_⟩
    · rw [cell_new]; rfl
    · rw [cell_new]; rfl
  case body =>
    rintro l pre x a1 W _ _ ⟨hI, hl, h1⟩ ⟨g, hg, rfl, hc0, hc1⟩ hlt
    obtain ⟨k, hk⟩ : ∃ k, x.val = k := ⟨_, rfl⟩
    have hkN : k < Ex.pages m := by rw [← hk]; exact x.isLt
    have c0 := hI.c0
    have c1 := hI.c1
    have c2 := hI.c2
    rw [hk] at hc0 hc1
    rw [hk]
    have hkn : k < ids.length := by rw [HM.out.2.2]; exact hkN
    obtain ⟨gi, oi, rfl, hci⟩ := (Hir.out.no hI.t).num (i := k) hkn
    obtain ⟨num, hnum⟩ : ∃ num, ids.getD k 0 = num := ⟨_, rfl⟩
    have hnm : num < 4294967296 := by
      rw [← hnum, List.getD_eq_getElem?_getD, List.getElem?_eq_getElem hkn]
      exact Hil.out _ (List.getElem_mem _)
    rw [hnum] at hci
    have hki : (k : Int) < (n : Nat) := by rw [← Hids.out]; omega
    have hPR := pgRead_any W.drew d D O num hnm ((Hd.out.no hI.t).no ((Touch.refl No W).drew))
    have HI' := Lib.hid hI
    have Hk := Lib.hid hk
    have H1 := Lib.hid h1
    have Hlt := Lib.hid hlt
    have HkN := Lib.hid hkN
    have Hnum := Lib.hid (show Ex.at' ids k = num from hnum)
    have hpre : pre.length < Ex.pages m := hlt
    have hvl : Hid ((Ex.rds D ids pre).length ≤ 240 * pre.length) := by
      have hle : ∀ y ∈ pre, (Pg.rB D (Ex.at' ids y.val)).length ≤ 240 := fun y hy => by
        have h2 := h1 y hy
        have h3 := Ex.plen_le m y.val
        unfold Ex.one at h2
        split at h2
        · contradiction
        · split at h2
          · cases h2
          · rename_i h4
            have h5 : (Pg.rB D (Ex.at' ids y.val)).length = Ex.plen m y.val := by
              by_cases e : (Pg.rB D (Ex.at' ids y.val)).length = Ex.plen m y.val
              · exact e
              · exact absurd (Or.inr e) h4
            omega
      have : ∀ q : List (Fin (Ex.pages m)), (∀ y ∈ q, (Pg.rB D (Ex.at' ids y.val)).length ≤ 240) → (Ex.rds D ids q).length ≤ 240 * q.length := fun q => by
        induction q with
        | nil => intro _; simp [Ex.rds]
        | cons y r ih =>
          intro hq
          have h2 := ih (fun z hz => hq z (List.mem_cons_of_mem _ hz))
          have h3 := hq y List.mem_cons_self
          simp only [Ex.rds, List.flatMap_cons, List.length_append, List.length_cons] at h2 ⊢
          omega
      exact this pre hle
    have hpl : IntKind.i64.wrap ((Ex.upto m k : Nat) - (k : Int) * 240) = ((Ex.plen m k : Nat) : Int) := by
      have h2 := Ex.pages_lt hkN
      rw [IntWalk.i64_in _ (by unfold Ex.upto; omega)]
      unfold Ex.plen Ex.upto; omega
    obtain ⟨er, her⟩ : ∃ er, Pg.rE D num = er := ⟨_, rfl⟩
    obtain ⟨was, hwas⟩ : ∃ was, Pg.rN D num = was := ⟨_, rfl⟩
    obtain ⟨bl, hbl⟩ : ∃ bl, Pg.rB D num = bl := ⟨_, rfl⟩
    obtain ⟨pl, hple⟩ : ∃ pl, Ex.plen m k = pl := ⟨_, rfl⟩
    rw [hple] at hpl
    have H1x : Hid (Ex.one D ep (Ex.at' ids x.val) (Ex.plen m x.val) = if er ≠ 0 then er else if was ≠ ep ∨ bl.length ≠ pl then 4 else 0) := by
      show _ = _
      rw [hk, Ex.one, show Ex.at' ids k = num from hnum, her, hwas, hbl, hple]
    unfold PgReadPost at hPR
    rw [her, hwas, hbl] at hPR
    have HC := Lib.hid hPR
    have Her := Lib.hid her
    have Hwas := Lib.hid hwas
    have Hbl := Lib.hid hbl
    have Hple := Lib.hid hple
    clear hI hk h1 hlt hnum hkn hkN hl her hwas hbl hple hPR
    have hmx : Tryz.prog.follows .mixedOrders = true := by kernel_rfl
    gi_wp2
    refine wpIn_region_still_call 6 hmx (by kernel_rfl) rfl rfl ?_
    simp only [List.take_succ_cons, List.take_zero, List.drop_succ_cons, List.drop_zero, Nat.reduceAdd]
    repeat still_step
    refine wpStill_nil fun K hK => ?_
    clear hmx
    gi_wp2
    refine ⟨trivial, (CallsIn.inRound l (callsIn_wide.2 HC.out)).mono ?_⟩
    rintro e w' ⟨ar, nr, rfl, hlen, ⟨cr, hown⟩, htch⟩
    dsimp only
    refine hK _ _ ?_
    repeat still_step
    refine wpStill_nil ?_
    have tW : Touch No W w' := ((Touch.refl No W).drew).trans htch
    have HI1 := HI'.out.touch tW (fun _ _ f => f) (fun _ _ f => f)
    have c1 := HI1.c1
    obtain ⟨v3, c3, f3, o3⟩ := HI1.c3
    obtain ⟨a8, cc8, rfl, _⟩ := o3.form' (n := (Ex.rds D ids pre).length) (nums_length _ _)
    obtain ⟨v4, c4, f4⟩ := HI1.c4
    have g0 := tW.cell (id : No g → False) hc0
    have g1 := tW.cell (id : No g → False) hc1
    have HI2 := Lib.hid HI1
    have HtW := Lib.hid tW
    have Hlen := Lib.hid hlen
    have Hown := Lib.hid hown
    have HO3 := Lib.hid o3
    have Htc := Lib.hid htch
    have Hc3 := Lib.hid c3
    have Hc4 := Lib.hid c4
    clear hc0 hc1 hci tW HI1 hlen hown htch HC hK c0 c2
    have n1 : B0 + 1 + 1 + 1 ≠ B0 + 1 + 1 + 1 + 1 := by omega
    have leave : Hid (∀ ev : Nat, KeepsOthers W ((w'.setCell ⟨B0 + 1 + 1 + 1, 0, none⟩ (.slice none 0 0)).setCell ⟨B0 + 1 + 1 + 1 + 1, 0, none⟩ (.int .i64 (ev : Nat))) ∧ Touch No w ((w'.setCell ⟨B0 + 1 + 1 + 1, 0, none⟩ (.slice none 0 0)).setCell ⟨B0 + 1 + 1 + 1 + 1, 0, none⟩ (.int .i64 (ev : Nat))) ∧
        ((w'.setCell ⟨B0 + 1 + 1 + 1, 0, none⟩ (.slice none 0 0)).setCell ⟨B0 + 1 + 1 + 1 + 1, 0, none⟩ (.int .i64 (ev : Nat))).cell? ⟨B0 + 1 + 1 + 1, 0, none⟩ = some (.slice none 0 0) ∧ ((w'.setCell ⟨B0 + 1 + 1 + 1, 0, none⟩ (.slice none 0 0)).setCell ⟨B0 + 1 + 1 + 1 + 1, 0, none⟩ (.int .i64 (ev : Nat))).cell? ⟨B0 + 1 + 1 + 1 + 1, 0, none⟩ = some (.int .i64 (ev : Nat))) := by
      intro ev
      have hb0 := HB0.out
      refine ⟨((HtW.out.keeps (fun _ f => f.elim)).trans (KeepsOthers.setCell w' ⟨B0 + 1 + 1 + 1, 0, none⟩ _)).trans (KeepsOthers.setCell _ ⟨B0 + 1 + 1 + 1 + 1, 0, none⟩ _), ?_, ?_, ?_⟩
      · exact (HI2.out.t.setCell (p := ⟨B0 + 1 + 1 + 1, 0, none⟩) (fun h => absurd h (by show ¬ B0 + 1 + 1 + 1 < _; omega)) _).setCell (p := ⟨B0 + 1 + 1 + 1 + 1, 0, none⟩) (fun h => absurd h (by show ¬ B0 + 1 + 1 + 1 + 1 < _; omega)) _
      · rw [cell_set_ne (Or.inl (Ne.symm n1))]; exact cell_set Hc3.out
      · exact cell_set (by rw [cell_set_ne (Or.inl n1)]; exact Hc4.out)
    clear n1
    by_cases he0 : er = 0
    · have hA : ((er : Int) != 0) = false := by simp; omega
      by_cases hw0 : was = ep
      · have hB : ((was : Int) != (ep : Int)) = false := by simp; omega
        by_cases hl0 : nr = pl
        · have hC : ((nr : Int) != (pl : Int)) = false := by simp; omega
          have HE0 : Hid (Ex.one D ep (Ex.at' ids x.val) (Ex.plen m x.val) = 0) := by
            show _ = _
            rw [H1x.out, if_neg (by simpa using he0), if_neg (by rw [Hlen.out]; simp [hw0, hl0])]
          have hnr : Hid (nr ≤ 240) := by
            have := Ex.plen_le m k
            rw [Hple.out] at this
            show _ ≤ _
            omega
          have Hl := Lib.hid hpre
          clear he0 hw0 hl0 hpre
          gi_wp2_with (refine wpListIn_append_rd rfl _ _ 39 rfl (Bn + 1) 5 IU (.int .u8 0) 1 Tryz.underlying39 HIU.out.1 HIU.out.2.1 HIU.out.2.2.1 HIU.out.2.2.2 rfl _ (nums .u8 (Ex.rds D ids pre)) HO3.out rfl ar nr nr (nums .u8 bl) rfl (by rw [nums_length]; exact Hlen.out) Hown.out.rd (nums_one _ _) (by rw [nums_length]; have := hvl.out; have := Hl.out; have := hnr.out; have := Ex.pages_le m; unfold maxLen; omega) (by rw [nums_length]; have := hvl.out; have := Hl.out; have := hnr.out; have := Ex.pages_le m; omega) (by have := HI2.out.sz; omega) ?_)
          intro v' w2 o2 t2
          have o2 : Own w2 (Bn + 1) 5 v' (nums .u8 (Ex.rds D ids (pre ++ [x]))) := by
            rw [Ex.rds_snoc, Hk.out, Hnum.out, Hbl.out, nums_append]; exact o2
          obtain ⟨a9, c9, rfl, _⟩ := o2.form' (n := (Ex.rds D ids (pre ++ [x])).length) (nums_length _ _)
          have nb : ∀ q, q < Bn + 1 → ¬ InBlock (.slice a8 (Ex.rds D ids pre).length cc8) q := fun q hq hi => absurd (HO3.out.block hi).1 (Nat.not_le.2 hq)
          have hbb := HBB.out
          have k8 := t2.cell (nb _ (by omega)) Hc3.out
          have q8 := (t2.frozen (lt_of_cell Hc3.out) (nb _ (by omega)) 0).trans f3
          have O2 := Lib.hid o2
          have T2 := Lib.hid t2
          clear o2 t2 c3 f3 hbb
          gi_wp2
          obtain ⟨W3, hW3⟩ : ∃ W3, W3 = w2.setCell ⟨B0 + 1 + 1 + 1, 0, none⟩ (.slice a9 (Ex.rds D ids (pre ++ [x])).length c9) := ⟨_, rfl⟩
          have tb : Touch (One (B0 + 1 + 1 + 1)) w2 W3 := by rw [hW3]; exact (Touch.refl (One (B0 + 1 + 1 + 1)) w2).setCell (p := ⟨B0 + 1 + 1 + 1, 0, none⟩) (fun _ => rfl) _
          have hc3 : W3.cell? ⟨B0 + 1 + 1 + 1, 0, none⟩ = some (.slice a9 (Ex.rds D ids (pre ++ [x])).length c9) := by rw [hW3]; exact cell_set k8
          have hbb := HBB.out
          have hb0 := HB0.out
          have nob : ∀ q, q ≠ B0 + 1 + 1 + 1 → ¬ One (B0 + 1 + 1 + 1) q := fun q h e => h e
          have hsz := HI2.out.sz
          have old : ∀ {q : Nat} {v : Value}, w'.cell? ⟨q, 0, none⟩ = some v → q < Bn + 1 → q ≠ B0 + 1 + 1 + 1 → W3.cell? ⟨q, 0, none⟩ = some v := fun hc h1 h2 => tb.cell (nob _ h2) (T2.out.cell (nb _ h1) hc)
          rw [← hW3]
          refine ⟨?_, ?_, ⟨?_, old HI2.out.c0 (by omega) (by omega), old HI2.out.c1 (by omega) (by omega), old HI2.out.c2 (by omega) (by omega), ⟨_, hc3, ?_, ?_⟩, ⟨_, old Hc4.out (by omega) (by omega), ?_⟩, ?_⟩, ?_, ?_⟩
          · refine KeepsOthers.from (((HtW.out.keeps (fun _ f => f.elim)).trans (T2.out.keeps (fun q hq _ => rowCells HO3.out hq))).trans ?_) _
            rw [hW3]; exact KeepsOthers.setCell _ _ _
          · have e1 := HtW.out.block Bn HI'.out.sz id
            have e2 := T2.out.block Bn hsz (nb _ (by omega))
            have e3 := tb.block Bn (by have := T2.out.size; omega) (nob _ (by omega))
            exact (e3.trans e2).trans e1
          · exact (HI2.out.t.then T2.out (fun q hq hi => absurd hi (nb q (by omega)))).then tb (fun q hq hi => absurd hi (nob q (by omega)))
          · rw [hW3, World.frozen?_setCell]; exact q8
          · exact O2.out.touch tb (fun q hq _ e => by have : q = B0 + 1 + 1 + 1 := e; omega)
          · have h5 := T2.out.cell (nb _ (by omega)) Hc4.out
            exact (tb.frozen (lt_of_cell h5) (nob _ (by omega)) 0).trans ((T2.out.frozen (lt_of_cell Hc4.out) (nb _ (by omega)) 0).trans f4)
          · exact Nat.lt_of_lt_of_le hsz (Nat.le_trans T2.out.size tb.size)
          · have := Hl.out
            rw [List.length_append]; simp only [List.length_cons, List.length_nil]; omega
          · intro y hy
            rcases List.mem_append.1 hy with h | h
            · exact H1.out y h
            · have : y = x := by simpa using h
              rw [this]; exact HE0.out
        · have hC : ((nr : Int) != (pl : Int)) = true := by simp; omega
          have HE4 : Hid (Ex.one D ep (Ex.at' ids x.val) (Ex.plen m x.val) = 4) := by
            show _ = _
            rw [H1x.out, if_neg (by simpa using he0), if_pos (Or.inr (by rw [Hlen.out]; exact hl0))]
          clear he0 hw0 hl0
          gi_wp2
          obtain ⟨l1, l2, l3, l4⟩ := leave.out 4
          exact ⟨l1.from _, rfl, pre, x, rfl, H1.out, by rw [HE4.out]; decide, l2, l3, by rw [HE4.out]; exact l4⟩
      · have hB : ((was : Int) != (ep : Int)) = true := by simp; omega
        have HE4 : Hid (Ex.one D ep (Ex.at' ids x.val) (Ex.plen m x.val) = 4) := by
          show _ = _
          rw [H1x.out, if_neg (by simpa using he0), if_pos (Or.inl hw0)]
        clear he0 hw0
        gi_wp2
        obtain ⟨l1, l2, l3, l4⟩ := leave.out 4
        exact ⟨l1.from _, rfl, pre, x, rfl, H1.out, by rw [HE4.out]; decide, l2, l3, by rw [HE4.out]; exact l4⟩
    · have hA : ((er : Int) != 0) = true := by simp; omega
      have HE4 : Hid (Ex.one D ep (Ex.at' ids x.val) (Ex.plen m x.val) = er) := by
        show _ = _
        rw [H1x.out, if_pos he0]
      have He0 := Lib.hid he0
      clear he0
      gi_wp2
      obtain ⟨l1, l2, l3, l4⟩ := leave.out er
      exact ⟨l1.from _, rfl, pre, x, rfl, H1.out, by rw [HE4.out]; exact He0.out, l2, l3, by rw [HE4.out]; exact l4⟩
  case done =>
    rintro Dq ys W hD rfl ⟨hI, _, h1⟩ hK
    have hall : ∀ i, i < Ex.pages m → Ex.one D ep (Ex.at' ids i) (Ex.plen m i) = 0 := fun i hi => h1 ⟨i, hi⟩ (List.mem_of_getElem? (firstN_get (Nat.le_refl _) hi))
    rw [Ex.rds_all _ _ _ (Nat.le_refl _)] at hI
    have hE : Ex.rE D ep ids m = 0 := by rw [Ex.rE, if_pos HM.out]; exact Ex.rdE_ok _ hall
    have hB : Ex.rB D ep ids m = Ex.rdB D ids (Ex.pages m) := by rw [Ex.rB, if_pos hE]
    obtain ⟨v3, c3, f3, o3⟩ := hI.c3
    obtain ⟨v4, c4, f4⟩ := hI.c4
    obtain ⟨L, hL⟩ : ∃ L, (Ex.rdB D ids (Ex.pages m)).length = L := ⟨_, rfl⟩
    obtain ⟨a8, cc8, rfl, hcap, _⟩ := o3.form' (n := L) (by rw [nums_length]; exact hL)
    have CG : Hid (Calls Tryz.prog 163 #[.slice a8 L cc8] W fun e w' => e = .returned (.slice a8 L L) ∧ W = w') := clip_bytes W a8 L cc8 hcap
    have HP := Lib.hid hI
    have HK := Lib.hid hK
    have HDq := Lib.hid hD
    have HE := Lib.hid hE
    have HBy := Lib.hid hB
    have HL := Lib.hid hL
    have HO3 := Lib.hid o3
    have Hc3 := Lib.hid c3
    have Hc4 := Lib.hid c4
    clear hI hK hD hall h1 hE hB hL o3 hcap
    gi_wp2
    refine ⟨trivial, (callsIn_wide.2 CG.out).mono ?_⟩
    rintro e w4 ⟨rfl, rfl⟩
    clear CG
    gi_wp2
    have n1 : B0 + 1 + 1 + 1 ≠ B0 + 1 + 1 + 1 + 1 := by omega
    obtain ⟨W5, hW5⟩ : ∃ W5, W5 = (W.setCell ⟨B0 + 1 + 1 + 1, 0, none⟩ (.slice a8 L L)).setCell ⟨B0 + 1 + 1 + 1 + 1, 0, none⟩ (.int .i64 0) := ⟨_, rfl⟩
    have x4 : W5.cell? ⟨B0 + 1 + 1 + 1, 0, none⟩ = some (.slice a8 L L) := by
      rw [hW5, cell_set_ne (Or.inl (Ne.symm n1))]; exact cell_set Hc3.out
    have x5 : W5.cell? ⟨B0 + 1 + 1 + 1 + 1, 0, none⟩ = some (.int .i64 0) := by
      rw [hW5]; exact cell_set (by rw [cell_set_ne (Or.inl n1)]; exact Hc4.out)
    have t45 : Touch (fun k => B0 + 1 ≤ k ∧ k < B0 + 5) W W5 := by
      rw [hW5]
      have T := Touch.refl (fun k => B0 + 1 ≤ k ∧ k < B0 + 5) W
      have T := T.setCell (p := ⟨B0 + 1 + 1 + 1, 0, none⟩) (fun _ => ⟨by show _ ≤ B0 + 1 + 1 + 1; omega, by show B0 + 1 + 1 + 1 < _; omega⟩) (.slice a8 L L)
      exact T.setCell (p := ⟨B0 + 1 + 1 + 1 + 1, 0, none⟩) (fun _ => ⟨by show _ ≤ B0 + 1 + 1 + 1 + 1; omega, by show B0 + 1 + 1 + 1 + 1 < _; omega⟩) (.int .i64 0)
    have k5 : W5.heap[Dq]? = some (.deferred (some [])) := by
      have hlt := (Array.getElem?_eq_some_iff.1 HK.out).1
      rw [t45.block Dq hlt (fun f => by have := f.2; have := HDq.out; have := HBB.out; have := H3s.out; omega)]; exact HK.out
    rw [← hW5]
    refine ⟨by simp, .inl ⟨_, _, rfl, run_takeDeferred k5, ?_⟩⟩
    have t6 := touch_grown (grownBy_putObj' W5 Dq (.deferred none))
    have hne : ∀ k, CellsAt W5 k → ¬ (some Dq = some k) := fun k ⟨cc, tt, fr, e⟩ e2 => by
      cases e2
      rw [k5] at e; cases e
    have y4 := t6.cell (hne _ (cellsAt_of x4)) x4
    have y5 := t6.cell (hne _ (cellsAt_of x5)) x5
    refine ⟨.tuple #[.slice a8 L L, .int .i64 0], by simp [results, Tryz.results62, go_sem, y4, y5], ?_⟩
    have hb0 := HB0.out
    have hbb := HBB.out
    have h3 := H3s.out
    refine ⟨a8, L, by rw [HE.out]; rfl, by rw [HBy.out]; exact HL.out, ⟨cc8, ?_⟩, ?_⟩
    · rw [HBy.out]
      have o1 := HO3.out.touch t45 (fun b hb _ f => by have := f.2; omega)
      have o2 := o1.cells t6 hne
      exact o2.mono (by omega)
    · refine (HP.out.t.then t45 (fun i hi f => by have := f.1; omega)).then t6 (fun i hi f => ?_)
      have e2 : Dq = i := Option.some.inj f
      have := HDq.out
      omega
  case stop =>
    rintro Dq cd pre W hD hs ⟨rfl, pre', x, hp, hn0, h1, ht, c3, c4⟩ hK
    have HDq := Lib.hid hD
    clear hD
    gi_wp2
    refine ⟨by simp, .inl ⟨_, _, rfl, run_takeDeferred hK, ?_⟩⟩
    have t6 := touch_grown (grownBy_putObj' W Dq (.deferred none))
    have hne : ∀ k, CellsAt W k → ¬ (some Dq = some k) := fun k ⟨cc, tt, fr, e⟩ e2 => by
      cases e2
      rw [hK] at e; cases e
    have y3 := t6.cell (hne _ (cellsAt_of c3)) c3
    have y4 := t6.cell (hne _ (cellsAt_of c4)) c4
    have hE : Ex.rE D ep ids m = Ex.one D ep (Ex.at' ids x.val) (Ex.plen m x.val) := by
      obtain ⟨k, hk, rfl⟩ := hs
      obtain ⟨hx, rfl⟩ := firstN_last hk hp.symm
      rw [Ex.rE, if_pos HM.out]
      exact Ex.rdE_stops (by omega) (fun j hj => hn0 ⟨j, by have := x.isLt; omega⟩ (List.mem_of_getElem? (firstN_get (by have := x.isLt; omega) hj))) h1
    refine ⟨.tuple #[.slice none 0 0, .int .i64 (Ex.one D ep (Ex.at' ids x.val) (Ex.plen m x.val) : Nat)], by simp [results, Tryz.results62, go_sem, y3, y4], ?_⟩
    have eB : Ex.rB D ep ids m = [] := by rw [Ex.rB, hE, if_neg h1]
    refine ⟨none, 0, by rw [hE], by rw [eB]; rfl, ⟨0, by rw [eB]; exact Own.nil _ _ _⟩, ht.then t6 (fun i hi f => ?_)⟩
    have e2 : Dq = i := Option.some.inj f
    have := HDq.out
    have := H3s.out
    have := HB0.out
    have := HBB.out
    omega

set_option maxRecDepth 100000 in
set_option maxHeartbeats 4000000 in
theorem exRead_no (w : World) (d : Nat) (D : Dk.Disk) (O : Nat → Prop) (ep : Nat) (a : Option Addr) (n c : Nat) (ids : List Nat) (hn : ids.length = n) (hnm : (n : Int) ≤ 1000000000000) (hir : Rd w a (nums .u32 ids)) (hil : ∀ x ∈ ids, x < 4294967296)
    (z : Int) (hz : z ≤ 9223372036854775807) (h : DiskAt w d D O) (hM : z < 0 ∨ ¬ Ex.may D ids z.toNat) :
    Calls Tryz.prog 62 #[.pointer (some ⟨d, 0, none⟩), .int .u32 (ep : Nat), .slice a n c, .int .i64 z] w fun e w' => e = .returned (.tuple #[.slice none 0 0, .int .i64 1]) ∧ Touch No w w' := by
  obtain ⟨N, hN⟩ : ∃ N, D.seen.length = N := ⟨_, rfl⟩
  have hN0 : ((N : Int) == 0) = false := by have := h.ok.pos; simp; omega
  have HN := Lib.hid hN
  have H := Lib.hid h
  have Hir := Lib.hid hir
  have Hil := Lib.hid hil
  have Hn := Lib.hid hn
  have HM := Lib.hid hM
  have Hz := Lib.hid hz
  clear h hir hil hn hM hN hz
  go_enter Tryz.func62, Tryz.ntmps62
  go_wp2_with fail
  obtain ⟨R0, R2, R3, R4⟩ := five_new w 26 38 86 39 33 (.pointer (some ⟨d, 0, none⟩)) (.int .u32 (ep : Nat)) (.slice a n c) (.slice none 0 0) (.int .i64 0)
  have t0 : Touch No w (((((w.alloc (.cells #[.pointer (some ⟨d, 0, none⟩)] 26)).alloc (.cells #[.int .u32 (ep : Nat)] 38)).alloc (.cells #[.slice a n c] 86)).alloc (.cells #[.slice none 0 0] 39)).alloc (.cells #[.int .i64 0] 33)) := ((((Touch.refl No w).alloc _).alloc _).alloc _ |>.alloc _).alloc _
  refine (len_in _ d D O (H.out.no t0)).mono ?_
  rw [HN.out]
  rintro e w1 ⟨rfl, h1⟩
  rw [h1] at R0 R2 R3 R4 t0
  clear h1
  have c0 := R0.cell 0
  have c2 := R2.cell 0
  simp only [List.getElem?_cons_zero] at c0 c2
  have T0 := Lib.hid t0
  have S3 := Lib.hid R3
  have S4 := Lib.hid R4
  clear R0 R2 R3 R4 t0
  go_wp2_with fail
  refine (exMay_any _ d D O (H.out.no T0.out) a n c ids Hn.out hnm Hil.out (Hir.out.no T0.out) z Hz.out false ?hb).mono ?_
  case hb =>
    refine ⟨(fun h => by cases h), fun ⟨h1, h2⟩ => ?_⟩
    rcases HM.out with h | h
    · omega
    · exact absurd h1 h
  rintro e w2 ⟨rfl, t2⟩
  have R3 := S3.out.touch t2 id
  have R4 := S4.out.touch t2 id
  have c3 := R3.cell 0
  have f3 := R3.soft 0
  have c4 := R4.cell 0
  have f4 := R4.soft 0
  have T2 := Lib.hid (T0.out.trans t2)
  simp only [List.getElem?_cons_zero] at c3 c4
  have C3 := Lib.hid c3
  have C4 := Lib.hid c4
  clear c0 c2 t2 R3 R4
  go_wp2
  have n1 : w.heap.size + 1 + 1 + 1 ≠ w.heap.size + 1 + 1 + 1 + 1 := by omega
  obtain ⟨W5, hW5⟩ : ∃ W5, W5 = (w2.setCell ⟨w.heap.size + 1 + 1 + 1, 0, none⟩ (.slice none 0 0)).setCell ⟨w.heap.size + 1 + 1 + 1 + 1, 0, none⟩ (.int .i64 1) := ⟨_, rfl⟩
  have x3 : W5.cell? ⟨w.heap.size + 1 + 1 + 1, 0, none⟩ = some (.slice none 0 0) := by
    rw [hW5, cell_set_ne (Or.inl (Ne.symm n1))]; exact cell_set C3.out
  have x4 : W5.cell? ⟨w.heap.size + 1 + 1 + 1 + 1, 0, none⟩ = some (.int .i64 1) := by
    rw [hW5]; exact cell_set (by rw [cell_set_ne (Or.inl n1)]; exact C4.out)
  have t5 : Touch No w W5 := by
    rw [hW5]
    exact (T2.out.setCell (p := ⟨w.heap.size + 1 + 1 + 1, 0, none⟩) (fun h => absurd h (by show ¬ w.heap.size + 1 + 1 + 1 < _; omega)) _).setCell (p := ⟨w.heap.size + 1 + 1 + 1 + 1, 0, none⟩) (fun h => absurd h (by show ¬ w.heap.size + 1 + 1 + 1 + 1 < _; omega)) _
  rw [← hW5]
  exact bodyPost_ret (v := .tuple #[.slice none 0 0, .int .i64 1]) (by simp [results, Tryz.results62, go_sem, x3, x4]) rfl ⟨rfl, t5⟩
theorem exRead_k (w : World) (d : Nat) (D : Dk.Disk) (O : Nat → Prop) (ep : Nat) (hep : ep < 4294967296) (a : Option Addr) (n c : Nat) (ids : List Nat) (hn : ids.length = n) (hnm : (n : Int) ≤ 1000000000000) (hir : Rd w a (nums .u32 ids)) (hil : ∀ x ∈ ids, x < 4294967296)
    (m : Nat) (hmax : (m : Int) ≤ 100000000000) (h : DiskAt w d D O) :
    Calls Tryz.prog 62 #[.pointer (some ⟨d, 0, none⟩), .int .u32 (ep : Nat), .slice a n c, .int .i64 (m : Nat)] w (ExReadPost w D ep ids m) := by
  by_cases hM : Ex.may D ids m
  · exact callsIn_wide.1 (exRead_yes w d D O ep hep a n c ids hn hir hil m hmax h hM)
  · have hE : Ex.rE D ep ids m = 1 := by rw [Ex.rE, if_neg hM]
    have eB : Ex.rB D ep ids m = [] := by rw [Ex.rB, hE, if_neg (by decide)]
    exact (exRead_no w d D O ep a n c ids hn hnm hir hil (m : Nat) (by omega) h (Or.inr (by simpa using hM))).mono fun e w' ⟨he, t⟩ =>
      ⟨none, 0, by rw [he, hE]; rfl, by rw [eB]; rfl, ⟨0, by rw [eB]; exact Own.nil _ _ _⟩, t⟩
end Go.Proofs.YtnffigfafalocaaGreatDoor
namespace Go.Proofs.YtnffigfafalocaaGreatDoor
open Go Go.RowKit
namespace Ex
end Ex
end Go.Proofs.YtnffigfafalocaaGreatDoor
namespace Go.Proofs.YtnffigfafalocaaGreatDoor
open Go Go.RowKit
set_option linter.unusedSimpArgs false

end Go.Proofs.YtnffigfafalocaaGreatDoor
namespace Go.Proofs.YtnffigfafalocaaGreatDoor
open Go Go.RowKit
set_option linter.unusedSimpArgs false

namespace Ex
end Ex

theorem exPages_at (w : World) (n : Int) (k : Nat) (h2 : n ≤ 9223372036854775807) (hk : Ex.pages n.toNat = k) : Calls Tryz.prog 49 #[.int .i64 n] w fun e w' => e = .returned (.int .i64 (k : Nat)) ∧ w = w' := by
  subst hk; exact exPages_any w n h2

def z300 : Array Value := (List.replicate 300 (Value.int .u8 0)).toArray
theorem made300 (wx : World) : (Instr.makeSlice 39 (.int .i64 300) (.int .i64 300)).run Tryz.prog wx = .ok (.slice (some ⟨wx.heap.size, 0, none⟩) 300 300) (wx.alloc (.cells z300 5)) := by
  obtain ⟨I, hi0, hi1, hi2, hi3⟩ := u8_info
  have := run_make (P := Tryz.prog) wx 39 5 I (.int .u8 0) Tryz.underlying39 hi0 hi1 .i64 .i64 (300 : Int) (300 : Int) (by omega) (by omega) (by rw [hi3]; omega) (by omega)
  rw [this, hi2]
  show Result.ok _ (wx.alloc (.cells (madeCells #[Value.int .u8 0] (300 * 1)) _)) = _
  rw [made_fill]; rfl
end Go.Proofs.YtnffigfafalocaaGreatDoor
