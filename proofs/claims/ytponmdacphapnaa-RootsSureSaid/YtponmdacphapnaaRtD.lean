/-
  The plain law of roots: what a disk's two sectors say together.
-/
import Derived.Test.YtponmdacphapnaaRootL
namespace Go.Proofs.Ytponmdacphapnaa
open Go Go.RowKit
namespace Rt
def Holds (s : Dk.Sec) (r : Root) : Prop := s.bad = 0 ∧ s.b = put r
def Clear (s : Dk.Sec) : Prop := s.bad = 0 ∧ nought s.b = true
theorem put_not (r : Root) : nought (put r) = false := by simp [nought, put, head, mark]
theorem pad_put (r : Root) : Dk.pad (put r) = put r := by rw [Dk.pad, put_length]; simp
theorem clear_new : Clear Dk.noughts := ⟨rfl, by decide⟩
theorem holds_say {s : Dk.Sec} {r : Root} (h : Holds s r) (hr : r.Ok) : sayE s = 0 ∧ sayIs s = true ∧ sayR s = r := by
  obtain ⟨h1, h2⟩ := h
  have hI : sayIs s = true := by rw [sayIs, if_neg (by omega), h2, put_not, if_neg (by decide), put_err]; rfl
  exact ⟨by rw [sayE, if_neg (by omega), h2, put_not, if_neg (by decide), put_err], hI, by rw [sayR, if_pos hI, h2, put_root hr]⟩
theorem clear_say {s : Dk.Sec} (h : Clear s) : sayE s = 0 ∧ sayIs s = false ∧ sayR s = zero := by
  obtain ⟨h1, h2⟩ := h
  have hI : sayIs s = false := by rw [sayIs, if_neg (by omega), h2, if_pos rfl]
  exact ⟨by rw [sayE, if_neg (by omega), h2, if_pos rfl], hI, by rw [sayR, hI, if_neg (by decide)]⟩
theorem find_both {D : Dk.Disk} {a b : Root} (h8 : 8 ≤ D.seen.length) (h0 : Holds (Dk.at_ D.seen 0) a) (h1 : Holds (Dk.at_ D.seen 1) b) (ha : a.Ok) (hb : b.Ok) :
    findE D = 0 ∧ findR D = (if a.epoch < b.epoch then b else a) ∧ findN D = (if a.epoch < b.epoch then 0 else 1) := by
  obtain ⟨e0, i0, r0⟩ := holds_say h0 ha
  obtain ⟨e1, i1, r1⟩ := holds_say h1 hb
  have hE : findE D = 0 := by rw [findE, if_neg (by omega), e0, e1, i0, i1]; rfl
  have hS : second D = decide (a.epoch < b.epoch) := by rw [second, i0, i1, r0, r1]; rfl
  refine ⟨hE, ?_, ?_⟩
  · rw [findR, hE, if_pos rfl, hS, r0, r1]
    by_cases h : a.epoch < b.epoch <;> simp [h]
  · rw [findN, hE, hS]
    by_cases h : a.epoch < b.epoch <;> simp [h]
theorem find_first {D : Dk.Disk} {a : Root} (h8 : 8 ≤ D.seen.length) (h0 : Holds (Dk.at_ D.seen 0) a) (h1 : Clear (Dk.at_ D.seen 1)) (ha : a.Ok) :
    findE D = 0 ∧ findR D = a ∧ findN D = 1 := by
  obtain ⟨e0, i0, r0⟩ := holds_say h0 ha
  obtain ⟨e1, i1, r1⟩ := clear_say h1
  have hE : findE D = 0 := by rw [findE, if_neg (by omega), e0, e1, i0, i1]; rfl
  have hS : second D = false := by rw [second, i0, i1]; rfl
  exact ⟨hE, by rw [findR, hE, if_pos rfl, hS, r0]; rfl, by rw [findN, hE, hS]; rfl⟩
theorem find_second {D : Dk.Disk} {b : Root} (h8 : 8 ≤ D.seen.length) (h0 : Clear (Dk.at_ D.seen 0)) (h1 : Holds (Dk.at_ D.seen 1) b) (hb : b.Ok) :
    findE D = 0 ∧ findR D = b ∧ findN D = 0 := by
  obtain ⟨e0, i0, r0⟩ := clear_say h0
  obtain ⟨e1, i1, r1⟩ := holds_say h1 hb
  have hE : findE D = 0 := by rw [findE, if_neg (by omega), e0, e1, i0, i1]; rfl
  have hS : second D = true := by rw [second, i0]; rfl
  exact ⟨hE, by rw [findR, hE, if_pos rfl, hS, if_pos rfl, r1], by rw [findN, hE, hS]; rfl⟩
theorem find_none {D : Dk.Disk} (h8 : 8 ≤ D.seen.length) (h0 : Clear (Dk.at_ D.seen 0)) (h1 : Clear (Dk.at_ D.seen 1)) : findE D = 7 ∧ findN D = 0 := by
  obtain ⟨e0, i0, _⟩ := clear_say h0
  obtain ⟨e1, i1, _⟩ := clear_say h1
  have hE : findE D = 7 := by rw [findE, if_neg (by omega), e0, e1, i0, i1]; rfl
  exact ⟨hE, by rw [findN, hE]; rfl⟩

/-! ### two disks, the sectors exchanged -/
def sw0 (a : Root) : Dk.Disk := Dk.write (Dk.new 8) 0 (put a)
def sw1 (a : Root) : Dk.Disk := Dk.write (Dk.new 8) 1 (put a)
theorem holds_pad {a : Root} : Holds ⟨Dk.pad (put a), 0⟩ a := ⟨rfl, pad_put a⟩
theorem sw0_find {a : Root} (ha : a.Ok) : findE (sw0 a) = 0 ∧ findR (sw0 a) = a :=
  let ⟨h1, h2, _⟩ := find_first (D := sw0 a) (a := a) (Nat.le_refl 8) holds_pad clear_new ha; ⟨h1, h2⟩
theorem sw1_find {a : Root} (ha : a.Ok) : findE (sw1 a) = 0 ∧ findR (sw1 a) = a :=
  let ⟨h1, h2, _⟩ := find_second (D := sw1 a) (b := a) (Nat.le_refl 8) clear_new holds_pad ha; ⟨h1, h2⟩
theorem sw01_find {a b : Root} (ha : a.Ok) (hb : b.Ok) : findE (Dk.write (sw0 a) 1 (put b)) = 0 ∧ findR (Dk.write (sw0 a) 1 (put b)) = (if a.epoch < b.epoch then b else a) :=
  let ⟨h1, h2, _⟩ := find_both (D := Dk.write (sw0 a) 1 (put b)) (a := a) (b := b) (Nat.le_refl 8) holds_pad holds_pad ha hb; ⟨h1, h2⟩
theorem sw10_find {a b : Root} (ha : a.Ok) (hb : b.Ok) (hne : a.epoch ≠ b.epoch) : findE (Dk.write (sw1 a) 0 (put b)) = 0 ∧ findR (Dk.write (sw1 a) 0 (put b)) = (if a.epoch < b.epoch then b else a) := by
  obtain ⟨h1, h2, _⟩ := find_both (D := Dk.write (sw1 a) 0 (put b)) (a := b) (b := a) (Nat.le_refl 8) holds_pad holds_pad hb ha
  refine ⟨h1, h2.trans ?_⟩
  by_cases h : a.epoch < b.epoch
  · rw [if_pos h, if_neg (by omega)]
  · rw [if_neg h, if_pos (by omega)]
end Rt
end Go.Proofs.Ytponmdacphapnaa
