/-
  ArenasSum, the plain law.
-/
import Derived.Test.YtnjdcpbaippdlaaArenasFitP
namespace Go.Proofs.Ytnjdcpbaippdlaa
open Go Go.RowKit
namespace Ar
/-- what the law's own map says of an id -/
def hasOf (l : List (Nat × It)) (id : Nat) : Nat := match look l id with
  | none => 0
  | some x => x.bytes + 1
theorem hasOf_cons (k : Nat) (x : It) (r : List (Nat × It)) (id : Nat) : hasOf ((k, x) :: r) id = if k = id then x.bytes + 1 else hasOf r id := by
  unfold hasOf
  rw [look]
  by_cases e : k = id
  · rw [if_pos e, if_pos e]
  · rw [if_neg e, if_neg e]
/-- the law's own sum, over ids that come the first time -/
def sumF (l : List (Nat × It)) (ids : List Nat) : Nat → Nat
  | 0 => 0
  | n + 1 => sumF l ids n + if ids.getD n 0 ∈ ids.take n then 0 else hasOf l (ids.getD n 0) - 1
theorem take_last {l : List Nat} {k : Nat} (hk : k < l.length) : l.take (k + 1) = l.take k ++ [l.getD k 0] := by
  rw [List.take_add_one, List.getD_eq_getElem?_getD, List.getElem?_eq_getElem hk]; rfl
theorem sumF_nil (ids : List Nat) (n : Nat) : sumF [] ids n = 0 := by
  induction n with
  | zero => rfl
  | succ n ih => rw [sumF, ih]; split <;> rfl
theorem sumF_cons {k : Nat} {x : It} {r : List (Nat × It)} (hk : look r k = none) (ids : List Nat) {n : Nat} (hn : n ≤ ids.length) : sumF ((k, x) :: r) ids n = sumF r ids n + if k ∈ ids.take n then x.bytes else 0 := by
  induction n with
  | zero => simp [sumF]
  | succ n ih =>
    have hr : hasOf r k = 0 := by unfold hasOf; rw [hk]
    rw [sumF, sumF, ih (by omega), take_last (by omega), hasOf_cons]
    generalize ids.getD n 0 = y
    by_cases hm : y ∈ ids.take n
    · rw [if_pos hm, if_pos hm]
      by_cases e : k = y
      · subst e; rw [if_pos hm, if_pos (by simp [hm])]; omega
      · simp [e]
    · rw [if_neg hm, if_neg hm]
      by_cases e : k = y
      · subst e; rw [if_neg hm, if_pos rfl, hr, if_pos (by simp)]; omega
      · simp [e]; omega
theorem sumF_eq {l : List (Nat × It)} (hu : Up l) (ids : List Nat) {n : Nat} (hn : n ≤ ids.length) (h : ∀ p ∈ l, p.1 ∈ ids.take n) : sumF l ids n = sum l := by
  induction l with
  | nil => exact sumF_nil ids n
  | cons q r ih =>
    obtain ⟨k, x⟩ := q
    obtain ⟨h1, h2⟩ := List.pairwise_cons.1 hu
    have hk : look r k = none := look_none (fun p hp e => by have := h1 p hp; simp only at this; omega)
    rw [sumF_cons hk ids hn, ih h2 (fun p hp => h p (List.mem_cons_of_mem _ hp)), if_pos (h (k, x) List.mem_cons_self), sum]
    omega
theorem sumF_le {l : List (Nat × It)} (ids : List Nat) : ∀ {n m : Nat}, n ≤ m → sumF l ids n ≤ sumF l ids m := by
  intro n m h
  induction m with
  | zero => rw [show n = 0 by omega]; exact Nat.le_refl _
  | succ m ih =>
    by_cases e : n = m + 1
    · rw [e]; exact Nat.le_refl _
    · rw [sumF]; have := ih (by omega); omega
/-- what an arena is behind some acts: its ids are among those that came -/
structure Sum (room : Nat) (ids : List Nat) (i : Nat) (A : Arena) : Prop where
  ok : Ok A
  room : A.room = room
  ids : ∀ p ∈ A.its, p.1 ∈ ids.take i
  puts : A.puts ≤ i
  len : A.its.length ≤ i
theorem length_put_le (l : List (Nat × It)) (id : Nat) (x : It) : (put l id x).length ≤ l.length + 1 := by
  induction l with
  | nil => exact Nat.le_refl _
  | cons q r ih =>
    obtain ⟨k, y⟩ := q
    unfold put
    split
    · exact Nat.le_refl _
    · split
      · simp
      · simp only [List.length_cons]; omega
theorem sum_new {room : Nat} (h : room ≤ 1048576) (ids : List Nat) : Sum room ids 0 (new room) := ⟨ok_new h, rfl, (fun p hp => by cases hp), Nat.le_refl _, Nat.le_refl _⟩
theorem mem_take_up {ids : List Nat} {i x : Nat} (h : x ∈ ids.take i) : x ∈ ids.take (i + 1) := by
  rw [List.take_add_one]; exact List.mem_append_left _ h
theorem Sum.take {room : Nat} {ids : List Nat} {i : Nat} {A : Arena} (h : Sum room ids i A) (hi : i < ids.length) (hid : ids.getD i 0 < 4294967296) (z : Int) : Sum room ids (i + 1) (takeA A (ids.getD i 0) z) := by
  have hm : ids.getD i 0 ∈ ids.take (i + 1) := by rw [take_last hi]; simp
  refine ⟨ok_take h.ok hid z, ?_, ?_, ?_, ?_⟩
  all_goals
    unfold takeA
    split
  · exact h.room
  · exact h.room
  · intro p hp
    rcases put_mem _ _ _ p hp with e | hp
    · rw [e]; exact hm
    · exact mem_take_up (h.ids p hp)
  · exact fun p hp => mem_take_up (h.ids p hp)
  · exact Nat.succ_le_succ h.puts
  · exact Nat.le_succ_of_le h.puts
  · exact Nat.le_trans (length_put_le _ _ _) (Nat.succ_le_succ h.len)
  · exact Nat.le_succ_of_le h.len
theorem Sum.give {room : Nat} {ids : List Nat} {i : Nat} {A : Arena} (h : Sum room ids i A) (id : Nat) : Sum room ids (i + 1) (giveA A id) := by
  refine ⟨ok_give h.ok id, ?_, ?_, ?_, ?_⟩
  all_goals
    unfold giveA
    split
  · exact h.room
  · exact h.room
  · exact fun p hp => mem_take_up (h.ids p (List.mem_filter.1 hp).1)
  · exact fun p hp => mem_take_up (h.ids p hp)
  · exact Nat.le_succ_of_le h.puts
  · exact Nat.le_succ_of_le h.puts
  · exact Nat.le_succ_of_le (Nat.le_trans (List.length_filter_le _ _) h.len)
  · exact Nat.le_succ_of_le h.len
theorem Sum.sum {room : Nat} {ids : List Nat} {i : Nat} {A : Arena} (h : Sum room ids i A) (hi : i ≤ ids.length) : sumF A.its ids i = A.used := by
  rw [sumF_eq h.ok.up ids hi h.ids, h.ok.sum]
theorem hasOf_take {A : Arena} {id : Nat} {z : Int} (h : takeE A id z = 0) (id' : Nat) : 0 ≤ z ∧ z ≤ A.room ∧ hasOf (takeA A id z).its id' = if id' = id then z.toNat + 1 else hasOf A.its id' := by
  obtain ⟨h1, h2, h3⟩ := takeE_ok h
  refine ⟨h1, by omega, ?_⟩
  unfold takeA
  rw [if_pos h]
  unfold hasOf
  by_cases e : id' = id
  · subst e; rw [if_pos rfl, look_put_same]
  · rw [if_neg e, look_put_other _ e]
theorem take_not {A : Arena} {id : Nat} {z : Int} (h : takeE A id z ≠ 0) : takeA A id z = A := by unfold takeA; rw [if_neg h]
theorem giveE_has (A : Arena) (id : Nat) : giveE A id = 0 ↔ 0 < hasOf A.its id := by
  unfold giveE hasOf
  cases look A.its id <;> simp
theorem hasOf_give (A : Arena) (id id' : Nat) : hasOf (giveA A id).its id' = if id' = id then 0 else hasOf A.its id' := by
  unfold giveA hasOf
  cases h : look A.its id with
  | none =>
    simp only
    by_cases e : id' = id
    · subst e; rw [if_pos rfl, h]
    · rw [if_neg e]
  | some x =>
    simp only
    by_cases e : id' = id
    · subst e; rw [if_pos rfl, look_del_same]
    · rw [if_neg e, look_del_other _ e]
theorem hasOf_le {A : Arena} (h : Ok A) (id : Nat) : hasOf A.its id ≤ A.room + 1 := by
  unfold hasOf
  cases e : look A.its id with
  | none => exact Nat.zero_le _
  | some x =>
    have h1 := le_sum e
    have h2 := h.sum
    have h3 := h.peak
    have h4 := h.room
    simp only; omega
/-- the ids given back one by one -/
def idAt (l : List (Nat × It)) (k : Nat) : Nat := (l.map (·.1)).getD k 0
theorem idAt_eq {l : List (Nat × It)} {k : Nat} (hk : k < l.length) : idAt l k = (l[k]).1 := by
  rw [idAt, List.getD_eq_getElem?_getD, List.getElem?_eq_getElem (by simpa using hk)]
  simp
def gives : Nat → Arena → Arena
  | 0, A => A
  | k + 1, A => giveA (gives k A) (idAt A.its k)
theorem gives_its {A : Arena} (h : Ok A) (k : Nat) (hk : k ≤ A.its.length) : Ok (gives k A) ∧ (gives k A).its = A.its.drop k ∧ (gives k A).puts = A.puts := by
  induction k with
  | zero => exact ⟨h, rfl, rfl⟩
  | succ k ih =>
    obtain ⟨h1, h2, h3⟩ := ih (by omega)
    have hd : A.its.drop k = A.its[k] :: A.its.drop (k + 1) := List.drop_eq_getElem_cons (by omega)
    rw [hd] at h2
    have hl : look (gives k A).its (idAt A.its k) = some (A.its[k]).2 := by rw [h2, idAt_eq (by omega), look, if_pos rfl]
    have e : gives (k + 1) A = ⟨(gives k A).room, (gives k A).used - (A.its[k]).2.bytes, (gives k A).peak, (gives k A).puts, del (gives k A).its (idAt A.its k)⟩ := by
      rw [gives]; unfold giveA; rw [hl]
    refine ⟨ok_give h1 _, ?_, ?_⟩
    · rw [e]
      show del (gives k A).its _ = _
      have hu := h1.up
      rw [h2] at hu
      rw [h2, idAt_eq (by omega), del, List.filter_cons_of_neg (by simp), List.filter_eq_self]
      intro p hp
      have := (List.pairwise_cons.1 hu).1 p hp
      simp; omega
    · rw [e]; exact h3
theorem gives_step {A : Arena} (h : Ok A) {k : Nat} (hk : k < A.its.length) : giveE (gives k A) (idAt A.its k) = 0 := by
  obtain ⟨h1, h2, h3⟩ := gives_its h k (by omega)
  have hd : A.its.drop k = A.its[k] :: A.its.drop (k + 1) := List.drop_eq_getElem_cons (by omega)
  rw [hd] at h2
  unfold giveE; rw [h2, idAt_eq hk, look, if_pos rfl]; rfl
theorem gives_all {A : Arena} (h : Ok A) : (gives A.its.length A).used = 0 ∧ (gives A.its.length A).its = [] := by
  obtain ⟨h1, h2, _⟩ := gives_its h A.its.length (Nat.le_refl _)
  rw [List.drop_length] at h2
  exact ⟨by rw [h1.sum, h2]; rfl, h2⟩
end Ar
end Go.Proofs.Ytnjdcpbaippdlaa
