/-
  The plain law of maps: the reference's rising list is the list of the set. No program in sight.
-/
import Derived.Test.YtmjeigceclmdoaaGreatDoorK17
namespace Go.Proofs.YtmjeigceclmdoaaGreatDoor.Fr

theorem place_cons_lt {x p : Nat} (xs : List Nat) (h : x < p) : place (x :: xs) p = place xs p + 1 := by simp [place, h]
theorem place_cons_ge {x p : Nat} (xs : List Nat) (h : ¬ x < p) : place (x :: xs) p = 0 := by simp [place, h]
theorem isIn_sorted : ∀ {xs : List Nat} (_ : xs.Pairwise (· < ·)) (p : Nat), isIn xs p = decide (p ∈ xs)
  | [], _, p => by simp [isIn]
  | x :: xs, h, p => by
    obtain ⟨h1, h2⟩ := List.pairwise_cons.1 h
    by_cases hx : x < p
    · have ih := isIn_sorted h2 p
      have hne : ¬ p = x := by omega
      rw [isIn] at ih ⊢
      rw [place_cons_lt xs hx]
      simp only [List.length_cons, Nat.add_lt_add_iff_right, List.getD_cons_succ, List.mem_cons, hne, false_or]
      exact ih
    · rw [isIn, place_cons_ge xs hx]
      have hm : p ∈ x :: xs ↔ p = x := by
        rw [List.mem_cons]
        refine ⟨fun h => h.elim id (fun h => ?_), Or.inl⟩
        have := h1 p h; omega
      by_cases e : p = x
      · subst e; simp
      · have e' : ¬ x = p := fun h => e h.symm
        simp [hm, e, e']
theorem isIn_lst (S : Nat → Bool) (p : Nat) : isIn (lst S) p = (decide (p < 4096) && S p) := by
  rw [isIn_sorted (lst_sorted S)]
  by_cases h : p ∈ lst S
  · rw [decide_eq_true h]
    obtain ⟨h1, h2⟩ := mem_lst.1 h
    simp [h1, h2]
  · rw [decide_eq_false h]
    have := fun a b => h (mem_lst.2 ⟨a, b⟩)
    by_cases h1 : p < 4096
    · have h2 : S p = false := by
        cases hS : S p with
        | false => rfl
        | true => exact absurd hS (this h1)
      simp [h2]
    · simp [h1]
/-- without one of its pages -/
theorem cut_sorted : ∀ {xs : List Nat} (_ : xs.Pairwise (· < ·)) {p : Nat}, p ∈ xs → xs.take (place xs p) ++ xs.drop (place xs p + 1) = xs.filter (fun q => q != p)
  | [], _, p, h => by simp at h
  | x :: xs, h, p, hp => by
    obtain ⟨h1, h2⟩ := List.pairwise_cons.1 h
    by_cases hx : x < p
    · have hp' : p ∈ xs := by
        rcases List.mem_cons.1 hp with e | h
        · omega
        · exact h
      have hne : (x != p) = true := by simp; omega
      have hf : (x :: xs).filter (fun q => q != p) = x :: xs.filter (fun q => q != p) := by rw [List.filter_cons, hne]; rfl
      rw [place_cons_lt xs hx, hf]
      simp only [List.take_succ_cons, List.drop_succ_cons, List.cons_append]
      rw [cut_sorted h2 hp']
    · have e : x = p := by
        rcases List.mem_cons.1 hp with e | h
        · exact e.symm
        · have := h1 p h; omega
      subst e
      rw [place_cons_ge xs hx]
      have : xs.filter (fun q => q != x) = xs := List.filter_eq_self.2 (fun q hq => by have := h1 q hq; simp; omega)
      simp [this]
theorem lst_cut {S : Nat → Bool} {p : Nat} (hp : p < 4096) (hS : S p = true) : (lst S).take (place (lst S) p) ++ (lst S).drop (place (lst S) p + 1) = lst (flip S p) := by
  rw [cut_sorted (lst_sorted S) (mem_lst.2 ⟨hp, hS⟩), lst, lst, List.filter_filter]
  refine List.filter_congr (fun q _ => ?_)
  by_cases e : q = p
  · subst e; simp [flip, hS]
  · simp [flip, e]
/-- with one more -/
theorem put_sorted : ∀ {xs : List Nat} (_ : xs.Pairwise (· < ·)) {p : Nat}, p ∉ xs → (xs.take (place xs p) ++ [p] ++ xs.drop (place xs p)).Pairwise (· < ·)
  | [], _, p, _ => by simp [place]
  | x :: xs, h, p, hp => by
    obtain ⟨h1, h2⟩ := List.pairwise_cons.1 h
    have hpx : ¬ p = x := fun e => hp (by rw [e]; exact List.mem_cons_self)
    have hp' : p ∉ xs := fun h => hp (List.mem_cons_of_mem _ h)
    by_cases hx : x < p
    · rw [place_cons_lt xs hx]
      simp only [List.take_succ_cons, List.drop_succ_cons, List.cons_append]
      refine List.pairwise_cons.2 ⟨fun q hq => ?_, put_sorted h2 hp'⟩
      rcases List.mem_append.1 hq with h | h
      · rcases List.mem_append.1 h with h | h
        · exact h1 q (List.mem_of_mem_take h)
        · rw [List.mem_singleton.1 h]; exact hx
      · exact h1 q (List.mem_of_mem_drop h)
    · rw [place_cons_ge xs hx]
      simp only [List.take_zero, List.drop_zero, List.nil_append, List.singleton_append]
      refine List.pairwise_cons.2 ⟨fun q hq => ?_, h⟩
      rcases List.mem_cons.1 hq with e | h
      · omega
      · have := h1 q h; omega
theorem lst_put {S : Nat → Bool} {p : Nat} (hp : p < 4096) (hS : S p = false) : (lst S).take (place (lst S) p) ++ [p] ++ (lst S).drop (place (lst S) p) = lst (flip S p) := by
  have hn : p ∉ lst S := fun h => by have := (mem_lst.1 h).2; rw [hS] at this; cases this
  refine sorted_ext _ _ (put_sorted (lst_sorted S) hn) (lst_sorted _) (fun q => ?_)
  have hm : q ∈ (lst S).take (place (lst S) p) ++ [p] ++ (lst S).drop (place (lst S) p) ↔ q = p ∨ q ∈ lst S := by
    have h : q ∈ lst S ↔ q ∈ (lst S).take (place (lst S) p) ∨ q ∈ (lst S).drop (place (lst S) p) := by
      conv => lhs; rw [← List.take_append_drop (place (lst S) p) (lst S)]
      exact List.mem_append
    rw [List.mem_append, List.mem_append, List.mem_singleton, h]
    constructor
    · rintro ((h | h) | h)
      · exact Or.inr (Or.inl h)
      · exact Or.inl h
      · exact Or.inr (Or.inr h)
    · rintro (h | h | h)
      · exact Or.inl (Or.inr h)
      · exact Or.inl (Or.inl h)
      · exact Or.inr h
  rw [hm, mem_lst, mem_lst]
  by_cases e : q = p
  · subst e; simp [flip, hS, hp]
  · simp [flip, e]
end Go.Proofs.YtmjeigceclmdoaaGreatDoor.Fr
