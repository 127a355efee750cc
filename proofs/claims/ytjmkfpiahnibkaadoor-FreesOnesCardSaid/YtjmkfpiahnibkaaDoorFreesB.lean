/-
  Package frees by its own text, second part: of, there, Is, Free, Mark.
-/
import Derived.Test.YtjmkfpiahnibkaaDoorFrees
namespace Go.Proofs.YtjmkfpiahnibkaaDoor
open Go.RowKit

/-- a page of the map? -/
def inMap (first last p : Nat) : Bool := decide (first ≤ p) && decide (p < last)
theorem inMap_true {first last p : Nat} : inMap first last p = true ↔ first ≤ p ∧ p < last := by simp [inMap]
theorem inMap_false {first last p : Nat} : inMap first last p = false ↔ ¬ (first ≤ p ∧ p < last) := by
  rw [← inMap_true]; cases inMap first last p <;> simp

set_option maxHeartbeats 400000 in
theorem there_map (w : World) (b first last : Nat) (S : Nat → Bool) (h : MapAt w b first last S) :
    Calls Tryd.prog 19 #[.pointer (some ⟨b, 0, none⟩)] w fun e w' => e = .returned (.bool true) ∧ w = w' := by
  have hm := h.made
  go_enter Tryd.func19, Tryd.ntmps19
  go_wp2
  go_ret
  exact ⟨rfl, rfl⟩

set_option maxHeartbeats 400000 in
theorem of_any (w : World) (b first last p : Nat) (S : Nat → Bool) (h : MapAt w b first last S) (hp : p < 4294967296) :
    Calls Tryd.prog 22 #[.pointer (some ⟨b, 0, none⟩), .int .u32 (p : Nat)] w fun e w' => e = .returned (.bool (inMap first last p)) ∧ w = w' := by
  have hlo := h.lo
  have hhi := h.hi
  have ht := h.top
  have hpi : (p : Int) ≤ 4294967295 := by omega
  have Fin : Hid (∀ c : Bool, (c = true ↔ first ≤ p ∧ p < last) → c = inMap first last p) := fun c hc => by
    rw [Bool.eq_iff_iff, hc, inMap_true]
  clear h
  by_cases h1 : first ≤ p
  · by_cases h2 : p < last
    · have hl : (first : Int) ≤ 4611686018427387904 := by omega
      go_enter Tryd.func22, Tryd.ntmps22
      go_wp2
      go_ret
      exact ⟨ret_bool (Fin.out _ (by simp [h1, h2])), rfl⟩
    · have hl : (last : Int) ≤ 4611686018427387904 := by omega
      go_enter Tryd.func22, Tryd.ntmps22
      go_wp2
      go_ret
      exact ⟨ret_bool (Fin.out _ (by simp [h2])), rfl⟩
  · go_enter Tryd.func22, Tryd.ntmps22
    go_wp2
    go_ret
    exact ⟨ret_bool (Fin.out _ (by simp [h1])), rfl⟩
end Go.Proofs.YtjmkfpiahnibkaaDoor
