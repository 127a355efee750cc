/-
  What comes in, opened: slices of numbers and structs as they are read. No program in sight.
-/
import Derived.Test.YtnjdcpbaippdlaaBase
import Derived.ProofKit
import Derived.OpenShut
namespace Go.Proofs.Ytnjdcpbaippdlaa
open Go.ChangeShapes Go.WideShapes Go.ChangeAt Go.RowKit

/-- numbers, any sign, as cells -/
def ints (k : IntKind) (zs : List Int) : List Value := zs.map fun z => .int k z
theorem ints_length (k : IntKind) (zs : List Int) : (ints k zs).length = zs.length := by simp [ints]
theorem ints_nums {k : IntKind} {zs : List Int} (h : ∀ z ∈ zs, 0 ≤ z) : ints k zs = nums k (zs.map Int.toNat) := by
  simp only [ints, nums, List.map_map]
  refine List.map_congr_left (fun z hz => ?_)
  have := h z hz
  simp only [Function.comp]
  congr 1
  omega

theorem list_choose {α : Type} {Q : Nat → α → Prop} : ∀ (n : Nat), (∀ i, i < n → ∃ x, Q i x) → ∃ l : List α, l.length = n ∧ ∀ i x, l[i]? = some x → Q i x
  | 0, _ => ⟨[], rfl, fun i x h => by simp at h⟩
  | n + 1, h => by
    obtain ⟨l, hl, hq⟩ := list_choose n (fun i hi => h i (by omega))
    obtain ⟨x, hx⟩ := h n (by omega)
    refine ⟨l ++ [x], by simp [hl], fun i y hy => ?_⟩
    by_cases hi : i < l.length
    · rw [List.getElem?_append_left hi] at hy; exact hq i y hy
    · rw [List.getElem?_append_right (by omega)] at hy
      have : i - l.length = 0 := by
        by_cases h0 : i - l.length = 0
        · exact h0
        · rw [List.getElem?_eq_none (by simp; omega)] at hy; cases hy
      rw [this] at hy
      have e : i = n := by omega
      subst e
      have : x = y := by simpa using hy
      subst this; exact hx

section
variable {H : Type} {enc : TypeId × Value → H} {P : Program} {w : World} {base : Nat} {spare : Nat → Bool} {held : Bool}

theorem spot_of_cell {a : Addr} {v : Value} (h : w.cell? a = some v) : a = ⟨a.block, a.off, none⟩ := by
  unfold World.cell? at h
  split at h
  · cases hs : a.spot with
    | none => cases a; simp_all
    | some s => simp [hs] at h
  · cases h
theorem spot_add {a : Addr} {i : Nat} {v : Value} (h : w.cell? (a.add i) = some v) (h0 : ∃ u, w.cell? a = some u) : a = ⟨a.block, a.off, none⟩ ∧ w.cell? ⟨a.block, a.off + i, none⟩ = some v := by
  obtain ⟨u, hu⟩ := h0
  have e := spot_of_cell hu
  refine ⟨e, ?_⟩
  rw [e] at h
  simp only [Addr.add] at h
  split at h
  · rename_i hi; subst hi; exact h
  · exact h

/-- a slice of numbers that came in -/
theorem open_list {t e : TypeId} {k : IntKind} {fuel : Nat} {cs : List Value} {x : DataW H × List MemPlace} (ht : P.underlying t = some (.slice e)) (he : P.underlying e = some (.int k)) (hc : P.cellsOf e = 1)
    (h : DataW.trod enc P w base (fun _ => true) held fuel t cs = some x) :
    ∃ a cap zs, cs = [.slice a zs.length cap] ∧ zs.length ≤ cap ∧ cap ≤ maxLen ∧ Rd w a (ints k zs) ∧ (∀ z ∈ zs, (Lit.int k z).wf = true) ∧ (cap = 0 ∨ cap * P.bytesOf e ∈ DataW.weights P t x.1) ∧ (∀ ad, a = some ad → base ≤ ad.block) := by
  rcases open_ints ht he hc h with ⟨rfl, rfl⟩ | ⟨a, len, cap, zs, rfl, hb, hl, hm, hz, rfl, hcell, hwf⟩
  · exact ⟨none, 0, [], rfl, Nat.le_refl _, Nat.zero_le _, fun i v hi => by simp [ints] at hi, by simp, Or.inl rfl, fun ad e => by cases e⟩
  · simp only [if_true] at hz
    have hlen : (zs.take len).length = len := by rw [List.length_take]; omega
    refine ⟨some a, cap, zs.take len, by rw [hlen], by rw [hlen]; exact hl, hm, fun i v hi => ?_, fun z hz' => hwf z (List.mem_of_mem_take hz'), Or.inr ?_, fun ad e => by cases e; exact hb⟩
    · have hi' : i < len := by
        rcases Nat.lt_or_ge i len with h | h
        · exact h
        · rw [List.getElem?_eq_none (by rw [ints_length, hlen]; exact h)] at hi; cases hi
      have h0 := hcell 0 (by omega)
      have h1 := hcell i (by omega)
      obtain ⟨e1, e2⟩ := spot_add h1 ⟨_, by simpa [Addr.add] using h0⟩
      refine ⟨a.block, a.off, by rw [← e1], ?_⟩
      rw [e2, ← hi]
      simp only [ints, List.getElem?_map, List.getElem?_take_of_lt hi', List.getD_eq_getElem?_getD, List.getElem?_eq_getElem (show i < zs.length by omega)]
      rfl
    · simp only [DataW.weights, ht, List.mem_cons]
      left
      have : (lits (H := H) k (zs.take len)).length + (lits (H := H) k (zs.drop len)).length = cap := by
        simp [lits]; omega
      rw [this]

/-- the cells of an element -/
theorem cells_elem {a : Addr} {n : Nat} {cs : List Value} (h : w.cells? base a n = some cs) (hn : 0 < n) : cs.length = n ∧ a = ⟨a.block, a.off, none⟩ ∧ ∀ j, j < n → w.cell? ⟨a.block, a.off + j, none⟩ = cs[j]? := by
  obtain ⟨_, hl, hc⟩ := World.cells?_some h
  have h0 := hc 0 hn
  rw [List.getElem?_eq_getElem (by omega)] at h0
  have hsp := spot_of_cell (by simpa [Addr.add] using h0)
  refine ⟨hl, hsp, fun j hj => ?_⟩
  have h1 := hc j hj
  rw [← h1, hsp]
  simp only [Addr.add]
  split
  · rename_i hj0; subst hj0; rfl
  · rfl
end
end Go.Proofs.Ytnjdcpbaippdlaa
