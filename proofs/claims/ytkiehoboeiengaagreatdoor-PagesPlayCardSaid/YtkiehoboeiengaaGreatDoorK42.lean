/-
  The plain mathematics of pages on a disk (chapter 14). No program in sight.
-/
import Derived.Test.YtkiehoboeiengaaGreatDoorK36
import Derived.Test.YtkiehoboeiengaaGreatDoorK10
namespace Go.Proofs.YtkiehoboeiengaaGreatDoor
open Go Go.RowKit
def onD (D : Dk.Disk) (p : Nat) : Nat := if 4 * p + 4 ≤ D.seen.length then 0 else 1
namespace Pg
def chunk (b : List Nat) (i : Nat) : List Nat := (b.drop (64 * i)).take 64
theorem chunk_length {b : List Nat} (hb : b.length = 256) {i : Nat} (hi : i < 4) : (chunk b i).length = 64 := by
  rw [chunk, List.length_take, List.length_drop]; omega
theorem chunk_lt {b : List Nat} (hb : ∀ x ∈ b, x < 256) (i : Nat) : ∀ x ∈ chunk b i, x < 256 := fun x hx => hb x (List.mem_of_mem_drop (List.mem_of_mem_take hx))
theorem chunks (b : List Nat) (hb : b.length = 256) : chunk b 0 ++ chunk b 1 ++ chunk b 2 ++ chunk b 3 = b := by
  simp only [chunk]
  have h3 : (b.drop (64 * 3)).take 64 = b.drop 192 := List.take_of_length_le (by rw [List.length_drop]; omega)
  rw [h3]
  have e : ∀ k, (b.drop k).take 64 ++ b.drop (k + 64) = b.drop k := fun k => by rw [← List.drop_drop, List.take_append_drop]
  rw [List.append_assoc, List.append_assoc, e 128, e 64]
  exact e 0
/-- the first sectors of a page, written -/
def wr (D : Dk.Disk) (p : Nat) (b : List Nat) : Nat → Dk.Disk
  | 0 => D
  | k + 1 => Dk.write (wr D p b k) (4 * p + k) (chunk b k)
def wE (D : Dk.Disk) (p : Nat) (q : List Nat) : Nat := if onD D p = 0 ∧ q.length ≤ 240 then 0 else 1
def wD (D : Dk.Disk) (p e : Nat) (q : List Nat) : Dk.Disk := if wE D p q = 0 then wr D p (put p e q) 4 else D
/-- what stands in the first sectors of a page -/
def rd (D : Dk.Disk) (p : Nat) : Nat → List Nat
  | 0 => []
  | k + 1 => rd D p k ++ Dk.bytesOf (Dk.at_ D.seen (4 * p + k))
def lost (D : Dk.Disk) (p : Nat) : Nat → Bool
  | 0 => false
  | k + 1 => lost D p k || (Dk.at_ D.seen (4 * p + k)).bad == 1
def rE (D : Dk.Disk) (p : Nat) : Nat := if onD D p = 0 then (if lost D p 4 then 12 else err p (rd D p 4)) else 1
def rN (D : Dk.Disk) (p : Nat) : Nat := if rE D p = 0 then epochOf p (rd D p 4) else 0
def rB (D : Dk.Disk) (p : Nat) : List Nat := if rE D p = 0 then bodyOf p (rd D p 4) else []
theorem wr_len (D : Dk.Disk) (p : Nat) (b : List Nat) : ∀ k, (wr D p b k).seen.length = D.seen.length
  | 0 => rfl
  | k + 1 => by rw [wr]; simp only [Dk.write, List.length_set]; exact wr_len D p b k
theorem wr_waits (D : Dk.Disk) (p : Nat) (b : List Nat) : ∀ k, (wr D p b k).waits.length = D.waits.length + k
  | 0 => rfl
  | k + 1 => by rw [wr]; simp only [Dk.write, List.length_append, List.length_singleton]; rw [wr_waits D p b k]; omega
theorem pad_full {b : List Nat} (h : b.length = 64) : Dk.pad b = b := by simp [Dk.pad, h]
theorem wr_at (D : Dk.Disk) (p : Nat) (b : List Nat) (hb : b.length = 256) : ∀ k, k ≤ 4 → 4 * p + 4 ≤ D.seen.length → ∀ n, Dk.at_ (wr D p b k).seen n = if 4 * p ≤ n ∧ n < 4 * p + k then ⟨chunk b (n - 4 * p), 0⟩ else Dk.at_ D.seen n
  | 0, _, _, n => by rw [if_neg (by omega)]; rfl
  | k + 1, hk, ho, n => by
    have ih := wr_at D p b hb k (by omega) ho n
    rw [wr]
    simp only [Dk.write, Dk.at_, List.getD_eq_getElem?_getD, List.getElem?_set]
    by_cases e : 4 * p + k = n
    · subst e
      rw [if_pos rfl, if_pos (by rw [wr_len]; omega), if_pos (by omega), Nat.add_sub_cancel_left, pad_full (chunk_length hb (by omega))]
      rfl
    · rw [if_neg e]
      simp only [Dk.at_, List.getD_eq_getElem?_getD] at ih
      rw [ih]
      by_cases h : 4 * p ≤ n ∧ n < 4 * p + k
      · rw [if_pos h, if_pos (by omega)]
      · rw [if_neg h, if_neg (by omega)]
theorem rd_same {D D' : Dk.Disk} {p : Nat} : ∀ k, (∀ i, i < k → Dk.at_ D'.seen (4 * p + i) = Dk.at_ D.seen (4 * p + i)) → rd D' p k = rd D p k ∧ lost D' p k = lost D p k
  | 0, _ => ⟨rfl, rfl⟩
  | k + 1, h => by
    have ih := rd_same (D := D) (D' := D') (p := p) k (fun i hi => h i (by omega))
    rw [rd, rd, lost, lost, ih.1, ih.2, h k (by omega)]
    exact ⟨rfl, rfl⟩
/-- pages whose sectors are as they were are read as they were -/
theorem r_same {D D' : Dk.Disk} {p : Nat} (hl : D'.seen.length = D.seen.length) (h : ∀ i, i < 4 → Dk.at_ D'.seen (4 * p + i) = Dk.at_ D.seen (4 * p + i)) : rE D' p = rE D p ∧ rN D' p = rN D p ∧ rB D' p = rB D p := by
  obtain ⟨h1, h2⟩ := rd_same (D := D) (D' := D') (p := p) 4 h
  have e : rE D' p = rE D p := by rw [rE, rE, onD, onD, hl, h1, h2]
  exact ⟨e, by rw [rN, rN, e, h1], by rw [rB, rB, e, h1]⟩
/-- sectors that hold a page's bytes -/
theorem r_holds {D : Dk.Disk} {p : Nat} {b : List Nat} (hb : b.length = 256) (h : ∀ i, i < 4 → Dk.at_ D.seen (4 * p + i) = ⟨chunk b i, 0⟩) : rd D p 4 = b ∧ lost D p 4 = false := by
  simp only [rd, lost, h 0 (by decide), h 1 (by decide), h 2 (by decide), h 3 (by decide), Dk.bytesOf]
  refine ⟨?_, by rfl⟩
  simp only [Nat.zero_ne_one, if_false, List.nil_append]
  exact chunks b hb
theorem r_put {D : Dk.Disk} {p e : Nat} {q : List Nat} (ho : onD D p = 0) (hp : p < 4294967296) (he : e < 4294967296) (hq : q.length ≤ 240) (h : ∀ i, i < 4 → Dk.at_ D.seen (4 * p + i) = ⟨chunk (put p e q) i, 0⟩) : rE D p = 0 ∧ rN D p = e ∧ rB D p = q := by
  obtain ⟨h1, h2⟩ := r_holds (put_length hq) h
  have e0 : rE D p = 0 := by rw [rE, if_pos ho, h2, h1, put_err hp he hq, if_pos rfl]; rfl
  have hg := put_get hp he hq
  exact ⟨e0, by rw [rN, if_pos e0, h1, hg.1], by rw [rB, if_pos e0, h1, hg.2]⟩
/-- what a write of a page leaves -/
theorem wD_ok {D : Dk.Disk} {p e : Nat} {q : List Nat} (h : wE D p q = 0) : (wD D p e q).seen.length = D.seen.length ∧ (wD D p e q).waits.length = D.waits.length + 4 ∧ ∀ n, Dk.at_ (wD D p e q).seen n = if 4 * p ≤ n ∧ n < 4 * p + 4 then ⟨chunk (put p e q) (n - 4 * p), 0⟩ else Dk.at_ D.seen n := by
  have hc : onD D p = 0 ∧ q.length ≤ 240 := by
    unfold wE at h
    split at h
    · assumption
    · cases h
  have ho : 4 * p + 4 ≤ D.seen.length := by
    have := hc.1
    unfold onD at this
    split at this
    · assumption
    · cases this
  rw [wD, if_pos h]
  exact ⟨wr_len _ _ _ 4, wr_waits _ _ _ 4, wr_at _ _ _ (put_length hc.2) 4 (Nat.le_refl _) ho⟩
theorem w_read {D : Dk.Disk} {p e : Nat} {q : List Nat} (h : wE D p q = 0) (hp : p < 4294967296) (he : e < 4294967296) : rE (wD D p e q) p = 0 ∧ rN (wD D p e q) p = e ∧ rB (wD D p e q) p = q := by
  obtain ⟨h1, h2, h3⟩ := wD_ok (e := e) h
  have hc : onD D p = 0 ∧ q.length ≤ 240 := by
    unfold wE at h
    split at h
    · assumption
    · cases h
  refine r_put (by rw [onD, h1]; exact hc.1) hp he hc.2 (fun i hi => ?_)
  rw [h3, if_pos (by omega), Nat.add_sub_cancel_left]
theorem w_other {D : Dk.Disk} {p p' e : Nat} {q : List Nat} (h : wE D p q = 0) (hne : p' ≠ p) : rE (wD D p e q) p' = rE D p' ∧ rN (wD D p e q) p' = rN D p' ∧ rB (wD D p e q) p' = rB D p' := by
  obtain ⟨h1, h2, h3⟩ := wD_ok (e := e) h
  refine r_same h1 (fun i hi => ?_)
  rw [h3, if_neg (by omega)]
theorem onD_wr (D : Dk.Disk) (p p' : Nat) (b : List Nat) (k : Nat) : onD (wr D p b k) p' = onD D p' := by rw [onD, onD, wr_len]
theorem onD_wD (D : Dk.Disk) (p e : Nat) (q : List Nat) (p' : Nat) : onD (wD D p e q) p' = onD D p' := by
  unfold wD
  split
  · exact onD_wr D p p' _ 4
  · rfl
theorem wD_len (D : Dk.Disk) (p e : Nat) (q : List Nat) : (wD D p e q).seen.length = D.seen.length := by
  unfold wD
  split
  · exact wr_len _ _ _ _
  · rfl
end Pg
end Go.Proofs.YtkiehoboeiengaaGreatDoor
