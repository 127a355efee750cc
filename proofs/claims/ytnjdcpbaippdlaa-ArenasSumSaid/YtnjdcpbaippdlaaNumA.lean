/-
  Package nums by its own text: as (both), and what a list that is filled from its first one on holds.
-/
import Derived.Test.YtnjdcpbaippdlaaNums
import Derived.Test.YtnjdcpbaippdlaaNm
import Derived.Test.YtnjdcpbaippdlaaOpen
namespace Go.Proofs.Ytnjdcpbaippdlaa
open Go Go.RowKit
set_option linter.unusedSimpArgs false

theorem own_of_row {w : World} {B base : Nat} {T : TypeId} {vs : List Value} (h : Row w B T vs) (hb : base ≤ B) {n : Nat} (hn : vs.length = n) (hl : n ≤ maxLen) : Own w base T (.slice (some ⟨B, 0, none⟩) n n) vs := by
  subst hn
  exact ⟨by omega, .inr ⟨B, vs.length, vs.toArray, rfl, hb, h, Nat.le_refl _, hl, by simp, by simp⟩⟩
theorem Own.head {w : World} {base : Nat} {T : TypeId} {a : Option Addr} {n c : Nat} {vs : List Value} (h : Own w base T (.slice a n c) vs) {k : Nat} (hk : k ≤ n) : Own w base T (.slice a k c) (vs.take k) := by
  obtain ⟨a', c', e, _⟩ := h.form
  have hn : vs.length = n := by cases e; rfl
  have hkl : (vs.take k).length = k := by rw [List.length_take]; omega
  obtain ⟨hl, h⟩ := h
  refine ⟨by omega, ?_⟩
  rcases h with ⟨h1, h0⟩ | ⟨g, cap, cur, hv, hg, hh, h1, h2, h3, h4⟩
  · left
    simp only [Value.slice.injEq] at h1
    obtain ⟨rfl, h2, rfl⟩ := h1
    have : k = 0 := by omega
    subst this
    exact ⟨rfl, by simp⟩
  · right
    simp only [Value.slice.injEq] at hv
    obtain ⟨rfl, h5, rfl⟩ := hv
    refine ⟨g, c, cur, by rw [hkl], hg, hh, by omega, h2, h3, ?_⟩
    rw [hkl, Nat.mul_one]
    rw [Nat.mul_one] at h4
    rw [← h4, List.take_take, Nat.min_eq_left (by omega)]
theorem Own.room {w : World} {base : Nat} {T : TypeId} {a : Option Addr} {n c : Nat} {vs : List Value} (h : Own w base T (.slice a n c) vs) : n ≤ c ∧ (c : Int) ≤ 9223372036854775807 ∧ vs.length = n := by
  obtain ⟨a', c', e, h1, _⟩ := h.form
  have hn : vs.length = n := by cases e; rfl
  have hc : vs.length ≤ c := by cases e; exact h1
  refine ⟨by omega, ?_, hn⟩
  rcases h.2 with ⟨h1, _⟩ | ⟨g, cap, cur, hv, _, _, _, h2, _⟩
  · cases h1; decide
  · cases hv; unfold maxLen at h2; omega
theorem made_fill (v : Value) (n : Nat) : madeCells #[v] n = (List.replicate n v).toArray := by
  apply Array.ext'
  refine List.ext_getElem? (fun j => ?_)
  unfold madeCells
  by_cases hj : j < n
  · simp [hj, List.getElem?_replicate, Nat.mod_one]
  · simp [hj, List.getElem?_replicate]

/-- a list, as far as it is filled -/
def fill (vs : List Value) (z : Value) (k : Nat) : List Value := vs.take k ++ List.replicate (vs.length - k) z
theorem fill_zero (vs : List Value) (z : Value) : fill vs z 0 = List.replicate vs.length z := by simp [fill]
theorem fill_all (vs : List Value) (z : Value) {k : Nat} (hk : vs.length = k) : fill vs z k = vs := by subst hk; simp [fill]
theorem fill_get {vs : List Value} {z : Value} {k : Nat} (hk : k < vs.length) : (fill vs z k)[k]? = some z := by
  have h1 : (vs.take k).length = k := by rw [List.length_take]; omega
  rw [fill, List.getElem?_append_right (by omega), h1, Nat.sub_self, List.getElem?_replicate]
  simp; omega
theorem fill_next {vs : List Value} {z v : Value} {k : Nat} (hv : vs[k]? = some v) : (fill vs z k).set k v = fill vs z (k + 1) := by
  have hk : k < vs.length := by
    rcases Nat.lt_or_ge k vs.length with h | h
    · exact h
    · rw [List.getElem?_eq_none h] at hv; cases hv
  have h1 : (vs.take k).length = k := by rw [List.length_take]; omega
  rw [fill, fill, List.set_append_right _ _ (by omega), h1, Nat.sub_self, show vs.length - k = (vs.length - (k + 1)) + 1 by omega, List.replicate_succ, List.set_cons_zero]
  rw [List.getElem?_eq_getElem hk] at hv
  cases hv
  rw [List.take_succ_eq_append_getElem hk, List.append_assoc]; rfl

def AsPost (w : World) (T : TypeId) (vs : List Value) (N : Nat) (e : Ending) (w' : World) : Prop :=
  ∃ a c, e = .returned (.slice a N c) ∧ Own w' w.heap.size T (.slice a N c) vs ∧ Touch No w w'

theorem u32_info : ∃ i, Try.prog.info? 31 = some i ∧ i.zero = some (.int .u32 0) ∧ i.size = 1 ∧ i.bytes = 4 := one_info (by kernel_rfl)
theorem i32_info : ∃ i, Try.prog.info? 21 = some i ∧ i.zero = some (.int .i32 0) ∧ i.size = 1 ∧ i.bytes = 4 := one_info (by kernel_rfl)

theorem ints_get {k : IntKind} {zs : List Int} {i : Nat} (h : i < zs.length) : (ints k zs)[i]? = some (.int k (zs.getD i 0)) := by
  simp [ints, List.getElem?_map, List.getElem?_eq_getElem h, List.getD_eq_getElem?_getD]
theorem Rd.int {w : World} {k : IntKind} {a : Option Addr} {zs : List Int} (h : Rd w a (ints k zs)) {i : Nat} (hi : i < zs.length) :
    ∃ b o, a = some ⟨b, o, none⟩ ∧ w.cell? ⟨b, o + i, none⟩ = some (.int k (zs.getD i 0)) := h i _ (ints_get hi)
theorem ints_one (k : IntKind) (xs : List Int) : ∀ v ∈ ints k xs, v.oneCell' = true := by
  intro v hv
  obtain ⟨x, _, rfl⟩ := List.mem_map.1 hv
  rfl

/-- a slice of pieces, each of four bytes, at g from o on -/
def pieces (g o m : Nat) : List Value := (List.range m).map fun k => .slice (some ⟨g, o + 4 * k, none⟩) 4 4
theorem pieces_length (g o m : Nat) : (pieces g o m).length = m := by simp [pieces]
theorem pieces_get {g o m k : Nat} (h : k < m) : (pieces g o m)[k]? = some (.slice (some ⟨g, o + 4 * k, none⟩) 4 4) := by
  rw [pieces, List.getElem?_map, List.getElem?_range h]; rfl
theorem pieces_one (g o m : Nat) : ∀ v ∈ pieces g o m, v.oneCell' = true := by
  intro v hv
  obtain ⟨x, _, rfl⟩ := List.mem_map.1 hv
  rfl

end Go.Proofs.Ytnjdcpbaippdlaa
