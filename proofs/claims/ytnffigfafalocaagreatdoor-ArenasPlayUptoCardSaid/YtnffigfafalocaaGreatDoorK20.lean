/-
  The ids of an arena: its map's keys, sorted.
-/
import Derived.Test.YtnffigfafalocaaGreatDoorK05
import Derived.Test.YtnffigfafalocaaGreatDoorK19
namespace Go.Proofs.YtnffigfafalocaaGreatDoor
open Go Go.RowKit Go.Maps Go.Sort
set_option linter.unusedSimpArgs false
set_option linter.unusedVariables false

/-- the ids, rising -/
def Ar.ids (l : List (Nat × Ar.It)) : List Int := l.map fun p => (p.1 : Int)
theorem Ar.look_mem {l : List (Nat × Ar.It)} (hu : Ar.Up l) {p : Nat × Ar.It} (hp : p ∈ l) : Ar.look l p.1 = some p.2 := by
  induction l with
  | nil => cases hp
  | cons q r ih =>
    obtain ⟨k, y⟩ := q
    obtain ⟨h1, h2⟩ := List.pairwise_cons.1 hu
    rcases List.mem_cons.1 hp with rfl | hp
    · rw [Ar.look, if_pos rfl]
    · have := h1 p hp
      rw [Ar.look, if_neg (by simp only at this; omega)]
      exact ih h2 hp
theorem Ar.mem_look {l : List (Nat × Ar.It)} {id : Nat} (h : (Ar.look l id).isSome = true) : ∃ p ∈ l, p.1 = id := by
  induction l with
  | nil => cases h
  | cons q r ih =>
    obtain ⟨k, y⟩ := q
    by_cases hk : k = id
    · exact ⟨(k, y), List.mem_cons_self, hk⟩
    · rw [Ar.look, if_neg hk] at h
      obtain ⟨p, hp, e⟩ := ih h
      exact ⟨p, List.mem_cons_of_mem _ hp, e⟩
theorem Ar.ids_sorted {l : List (Nat × Ar.It)} (hu : Ar.Up l) : (Ar.ids l).Pairwise (fun x y => leI x y = true) :=
  List.pairwise_map.2 (hu.imp fun {p q} h => by simp only [leI, decide_eq_true_eq]; omega)
theorem Ar.sort_ids {l : List (Nat × Ar.It)} (hu : Ar.Up l) {ss : List Int} (h : ss.Perm (Ar.ids l)) : ss.mergeSort (fun x y => decide (x ≤ y)) = Ar.ids l := by
  have tr : ∀ a b c : Int, leI a b = true → leI b c = true → leI a c = true := fun a b c h1 h2 => by simp only [leI, decide_eq_true_eq] at *; exact Int.le_trans h1 h2
  have to : ∀ a b : Int, (leI a b || leI b a) = true := fun a b => by simp only [leI, Bool.or_eq_true, decide_eq_true_eq]; exact Int.le_total a b
  refine List.Perm.eq_of_pairwise (le := fun a b => leI a b = true) (fun a b _ _ h1 h2 => ?_) (List.pairwise_mergeSort tr to ss) (Ar.ids_sorted hu) ((List.mergeSort_perm ss leI).trans h)
  simp only [leI, decide_eq_true_eq] at h1 h2
  exact Int.le_antisymm h1 h2
theorem ids_perm {w w' : World} {b n : Nat} {D : DataW Value} {O : Nat → Prop} {its : List (Nat × Ar.It)} (hown : w.ownsMap Tryz.prog 38 asHeld b n D) (hM : MapOf w' O D its) (hu : Ar.Up its) (hlt : ∀ p ∈ its, p.1 < 4294967296) : (Ar.ids its).Perm (intKeys D) := by
  obtain ⟨es, hD, hpw, _⟩ := hown.entries keyU32
  obtain ⟨es', hD', hko⟩ := hown.keysOf
  obtain rfl : es = es' := by rw [hD] at hD'; simpa using hD'
  subst hD
  refine perm_intKeys_u hpw (fun p hp => by obtain ⟨v, hv⟩ := hko p hp; obtain ⟨x, _, hx, _⟩ := Maps.keyOf_u32 Tryz.underlying38 hv; exact ⟨x, hx⟩) (List.pairwise_map.2 (hu.imp fun {p q} h e => by omega)) (fun x => ⟨fun hx => ?_, fun hx => ?_⟩)
  · obtain ⟨p, hp, rfl⟩ := List.mem_map.1 hx
    rw [(hM.2 p.1 (hlt p hp)).1, Ar.look_mem hu hp]; rfl
  · have hx2 := hx
    rw [has_eq, List.any_eq_true] at hx2
    obtain ⟨p, hp, hs⟩ := hx2
    obtain ⟨v, hv⟩ := hko p hp
    obtain ⟨y, _, hy, hw⟩ := Maps.keyOf_u32 Tryz.underlying38 hv
    rw [hy] at hs
    obtain rfl : y = x := by simpa [Lit.sameKey] using hs
    have hb := bounds_u32 hw
    obtain ⟨id, rfl⟩ : ∃ id : Nat, y = (id : Nat) := ⟨y.toNat, by omega⟩
    have hid : id < 4294967296 := by omega
    rw [(hM.2 id hid).1] at hx
    obtain ⟨q, hq, rfl⟩ := Ar.mem_look hx
    exact List.mem_map.2 ⟨q, hq, rfl⟩
theorem sorts_wide (m : Nat) : Sk.SortsIn Fence.wide m :=
  ⟨fun blk off cap ss W hH hblk hsz => callsIn_wide.2 (sortU blk off cap ss W hH hblk hsz), fun p cap W => callsIn_wide.2 (Su.Sort_u_nil p cap W)⟩
theorem keys_any (mb : Option Nat) (w : World) : Calls Tryz.prog 81 #[.map mb] w fun e w' => e = .returned (.func (.func 178) #[] #[.pointer (some ⟨w.heap.size, 0, none⟩)]) ∧ w' = w.alloc (.cells #[.map mb] 145) :=
  callsIn_wide.1 (Sk.keys_in Fence.wide 1 trivial rfl mb w)
theorem sorted_any (w : World) (Bm b n : Nat) (D : DataW Value) (hBm : Bm < w.heap.size) (hm : w.cell? ⟨Bm, 0, none⟩ = some (.map (some b))) (hown : w.ownsMap Tryz.prog 38 asHeld b n D) (hmax : Maps.size D ≤ 1000000000) :
    Calls Tryz.prog 45 #[.func (.func 178) #[] #[.pointer (some ⟨Bm, 0, none⟩)]] w fun e w' => ∃ (v : Value) (ss : List Int), e = .returned v ∧ ss.Perm (intKeys D) ∧
      w'.ownsRow w.heap.size 38 1 v ss.length ((ss.mergeSort (fun x y => decide (x ≤ y))).map encU) ∧ (v = .slice none 0 0 ↔ ss = []) ∧ Below w.heap.size w w' :=
  callsIn_wide.1 (Sk.sorted_in Fence.wide 5 trivial trivial trivial trivial rfl (by decide) (sorts_wide _) _ _ trivial (enters_of Tryz.func178 (by kernel_rfl) rfl) _ _ (by unfold maxLen; omega) (by omega) w (Sk.keys_gives Fence.wide _ trivial rfl (by decide) Bm b n D w hBm hm hown))
end Go.Proofs.YtnffigfafalocaaGreatDoor
