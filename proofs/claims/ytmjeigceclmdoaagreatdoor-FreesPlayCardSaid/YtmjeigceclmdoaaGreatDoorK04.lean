/-
  The plain mathematics of a map of pages: sets of pages below 4096 as Bool functions, their rising lists, the bits of a word. No program in sight.
-/

namespace Go.Proofs.YtmjeigceclmdoaaGreatDoor.Fr

/-- the pages that are free, rising -/
def lst (S : Nat → Bool) : List Nat := (List.range 4096).filter S
def flip (S : Nat → Bool) (p : Nat) : Nat → Bool := fun q => if q = p then !S q else S q
def sub (S : Nat → Bool) (l : List Nat) : Nat → Bool := fun p => S p && !l.contains p
def add (S : Nat → Bool) (l : List Nat) : Nat → Bool := fun p => S p || l.contains p

theorem mem_lst {S : Nat → Bool} {p : Nat} : p ∈ lst S ↔ p < 4096 ∧ S p = true := by simp [lst]
theorem lst_sorted (S : Nat → Bool) : (lst S).Pairwise (· < ·) := List.pairwise_lt_range.filter _
theorem lst_nodup (S : Nat → Bool) : (lst S).Nodup := (lst_sorted S).imp (fun h => Nat.ne_of_lt h)
theorem lst_length_le (S : Nat → Bool) : (lst S).length ≤ 4096 := by
  have := List.length_filter_le S (List.range 4096); simpa [lst] using this

/-- two rising lists with the same members are one -/
theorem sorted_ext : ∀ (a b : List Nat), a.Pairwise (· < ·) → b.Pairwise (· < ·) → (∀ x, x ∈ a ↔ x ∈ b) → a = b
  | [], [], _, _, _ => rfl
  | [], y :: b, _, _, h => by have := (h y).2 (by simp); simp at this
  | x :: a, [], _, _, h => by have := (h x).1 (by simp); simp at this
  | x :: a, y :: b, ha, hb, h => by
    have hxa : ∀ z ∈ a, x < z := (List.pairwise_cons.1 ha).1
    have hyb : ∀ z ∈ b, y < z := (List.pairwise_cons.1 hb).1
    have e : x = y := by
      rcases List.mem_cons.1 ((h x).1 (by simp)) with e | hx
      · exact e
      · rcases List.mem_cons.1 ((h y).2 (by simp)) with e | hy
        · exact e.symm
        · have h1 := hyb x hx; have h2 := hxa y hy; omega
    subst e
    congr 1
    refine sorted_ext a b (List.pairwise_cons.1 ha).2 (List.pairwise_cons.1 hb).2 (fun z => ?_)
    constructor
    · intro hz
      rcases List.mem_cons.1 ((h z).1 (List.mem_cons_of_mem _ hz)) with e | h'
      · have := hxa z hz; omega
      · exact h'
    · intro hz
      rcases List.mem_cons.1 ((h z).2 (List.mem_cons_of_mem _ hz)) with e | h'
      · have := hyb z hz; omega
      · exact h'

theorem lst_congr {S T : Nat → Bool} (h : ∀ p, p < 4096 → S p = T p) : lst S = lst T :=
  List.filter_congr (fun p hp => h p (by simpa using hp))

/-- the least free page stands first -/
theorem lst_cons {S : Nat → Bool} {p : Nat} (hp : p < 4096) (hS : S p = true) (hl : ∀ q, q < p → S q = false) : lst S = p :: lst (flip S p) := by
  refine sorted_ext _ _ (lst_sorted S) (List.pairwise_cons.2 ⟨fun q hq => ?_, lst_sorted _⟩) (fun q => ?_)
  · obtain ⟨_, h2⟩ := mem_lst.1 hq
    by_cases e : q = p
    · subst e; simp [flip, hS] at h2
    · rcases Nat.lt_or_gt_of_ne e with h | h
      · have := hl q h; simp [flip, e, this] at h2
      · exact h
  · rw [List.mem_cons, mem_lst, mem_lst]
    by_cases e : q = p
    · subst e; simp [hp, hS]
    · simp [flip, e]

theorem lst_flip_on {S : Nat → Bool} {p : Nat} (hp : p < 4096) (hS : S p = true) : (lst S).length = (lst (flip S p)).length + 1 := by
  have h : ∀ (l : List Nat), l.Nodup → p ∈ l → (l.filter S).length = (l.filter (flip S p)).length + 1 := by
    intro l
    induction l with
    | nil => intro _ h; simp at h
    | cons x l ih =>
      intro hn hm
      obtain ⟨hx, hn'⟩ := List.nodup_cons.1 hn
      by_cases e : x = p
      · subst e
        have hc : l.filter (flip S x) = l.filter S := List.filter_congr (fun q hq => by
          have : q ≠ x := fun e => hx (e ▸ hq)
          simp [flip, this])
        have hf : flip S x x = false := by simp [flip, hS]
        rw [List.filter_cons_of_pos hS, List.filter_cons_of_neg (by simp [hf]), hc]; simp
      · have hm' : p ∈ l := by rcases List.mem_cons.1 hm with h | h; exact absurd h.symm e; exact h
        have hf : flip S p x = S x := by simp [flip, e]
        rw [List.filter_cons, List.filter_cons, hf]
        have := ih hn' hm'
        cases S x <;> simp [this]
  exact h _ List.nodup_range (by simpa using hp)

theorem flip_flip (S : Nat → Bool) (p : Nat) : flip (flip S p) p = S := by
  funext q; simp only [flip]; split <;> simp

theorem lst_flip_off {S : Nat → Bool} {p : Nat} (hp : p < 4096) (hS : S p = false) : (lst (flip S p)).length = (lst S).length + 1 := by
  have := lst_flip_on (S := flip S p) hp (by simp [flip, hS])
  rwa [flip_flip] at this

/-- a word of the map: its bits are the pages -/
def Word (x : Nat) (S : Nat → Bool) (i : Nat) : Prop := x < 18446744073709551616 ∧ ∀ j, j < 64 → x.testBit j = S (64 * i + j)

theorem two_pow_lt {j : Nat} (hj : j < 64) : 2 ^ j < 18446744073709551616 := by
  have h : 2 ^ j < 2 ^ 64 := Nat.pow_lt_pow_right (by decide) hj
  have e : (2 : Nat) ^ 64 = 18446744073709551616 := by decide
  omega
theorem Word.flip_here {x i j : Nat} {S : Nat → Bool} (h : Word x S i) (hj : j < 64) : Word (x ^^^ 2 ^ j) (flip S (64 * i + j)) i := by
  have e : (18446744073709551616 : Nat) = 2 ^ 64 := by decide
  refine ⟨?_, fun k hk => ?_⟩
  · rw [e]; exact Nat.xor_lt_two_pow (by rw [← e]; exact h.1) (by rw [← e]; exact two_pow_lt hj)
  · rw [Nat.testBit_xor, h.2 k hk, Nat.testBit_two_pow]
    by_cases hkj : k = j
    · subst hkj; simp [flip]
    · simp [flip, hkj, Ne.symm hkj]
theorem Word.flip_there {x i p : Nat} {S : Nat → Bool} (h : Word x S i) (hp : p / 64 ≠ i) : Word x (flip S p) i := by
  refine ⟨h.1, fun k hk => ?_⟩
  have : ¬ (64 * i + k = p) := by omega
  rw [h.2 k hk]; simp [flip, this]
theorem Word.flip {x i p : Nat} {S : Nat → Bool} (h : Word x S i) (hp : p / 64 = i) : Word (x ^^^ 2 ^ (p % 64)) (Fr.flip S p) i := by
  have := h.flip_here (j := p % 64) (Nat.mod_lt _ (by decide))
  have e : 64 * i + p % 64 = p := by omega
  rwa [e] at this
theorem Word.bit {x i p : Nat} {S : Nat → Bool} (h : Word x S i) (hp : p / 64 = i) : x.testBit (p % 64) = S p := by
  have e : 64 * i + p % 64 = p := by omega
  rw [h.2 _ (Nat.mod_lt _ (by decide)), e]
theorem Word.zero {x i : Nat} {S : Nat → Bool} (h : Word x S i) : x = 0 ↔ ∀ j, j < 64 → S (64 * i + j) = false := by
  constructor
  · rintro rfl j hj; rw [← h.2 j hj]; simp
  · intro hz
    refine Nat.eq_of_testBit_eq (fun j => ?_)
    by_cases hj : j < 64
    · rw [h.2 j hj, hz j hj]; simp
    · have e : (18446744073709551616 : Nat) = 2 ^ 64 := by decide
      have : x < 2 ^ j := Nat.lt_of_lt_of_le h.1 (by rw [e]; exact Nat.pow_le_pow_right (by decide) (by omega))
      rw [Nat.testBit_lt_two_pow this]; simp

theorem and_pow (x j : Nat) : x &&& 2 ^ j = if x.testBit j then 2 ^ j else 0 := by
  refine Nat.eq_of_testBit_eq (fun k => ?_)
  rw [Nat.testBit_and, Nat.testBit_two_pow]
  by_cases h : j = k
  · subst h; cases hx : x.testBit j <;> simp
  · cases hx : x.testBit j <;> simp [h]
theorem shift_one (x j : Nat) : x / 2 ^ j % 2 = if x.testBit j then 1 else 0 := by
  rw [Nat.testBit_eq_decide_div_mod_eq]
  have := Nat.mod_two_eq_zero_or_one (x / 2 ^ j)
  rcases this with h | h <;> simp [h]

/-- x = 2^t (2m + 1): the least bit is t -/
theorem least_bit {x t m : Nat} (h : x = 2 ^ t * (2 * m + 1)) : x.testBit t = true ∧ ∀ j, j < t → x.testBit j = false := by
  subst h
  constructor
  · rw [Nat.testBit_two_pow_mul]; simp [Nat.testBit_zero]
  · intro j hj
    rw [Nat.testBit_two_pow_mul]; simp; omega

/-! ### lists that are taken and given -/
theorem sub_nil (S : Nat → Bool) : sub S [] = S := by funext p; simp [sub]
theorem add_nil (S : Nat → Bool) : add S [] = S := by funext p; simp [add]
theorem flip_sub {S : Nat → Bool} {l : List Nat} {p : Nat} (h : sub S l p = true) : flip (sub S l) p = sub S (l ++ [p]) := by
  funext q
  simp only [flip, sub, List.contains_eq_mem, List.mem_append, List.mem_singleton]
  by_cases e : q = p
  · subst e; rw [if_pos rfl]
    have : (S q && !decide (q ∈ l)) = true := by simpa [sub] using h
    rw [this]; simp
  · rw [if_neg e]; simp [e]
theorem flip_add {S : Nat → Bool} {l : List Nat} {p : Nat} (h : add S l p = false) : flip (add S l) p = add S (l ++ [p]) := by
  funext q
  simp only [flip, add, List.contains_eq_mem, List.mem_append, List.mem_singleton]
  by_cases e : q = p
  · subst e; rw [if_pos rfl]
    have : (S q || decide (q ∈ l)) = false := by simpa [add] using h
    rw [this]; simp
  · rw [if_neg e]; simp [e]

/-- the k least are taken: the others stay, rising -/
theorem lst_sub_take (S : Nat → Bool) (k : Nat) : lst (sub S ((lst S).take k)) = (lst S).drop k := by
  refine sorted_ext _ _ (lst_sorted _) ((lst_sorted S).sublist (List.drop_sublist k _)) (fun q => ?_)
  have hs := lst_sorted S
  rw [mem_lst]
  have hsplit : q ∈ lst S ↔ q ∈ (lst S).take k ∨ q ∈ (lst S).drop k := by
    conv => lhs; rw [← List.take_append_drop k (lst S)]
    exact List.mem_append
  have hdis : q ∈ (lst S).take k → q ∈ (lst S).drop k → False := by
    intro h1 h2
    have hs' := hs
    rw [← List.take_append_drop k (lst S)] at hs'
    have := (List.pairwise_append.1 hs').2.2 q h1 q h2
    omega
  constructor
  · rintro ⟨h1, h2⟩
    simp only [sub, Bool.and_eq_true, List.contains_eq_mem, Bool.not_eq_true', decide_eq_false_iff_not] at h2
    rcases hsplit.1 (mem_lst.2 ⟨h1, h2.1⟩) with h | h
    · exact absurd h h2.2
    · exact h
  · intro h
    obtain ⟨h1, h2⟩ := mem_lst.1 (hsplit.2 (Or.inr h))
    refine ⟨h1, ?_⟩
    simp only [sub, Bool.and_eq_true, List.contains_eq_mem, Bool.not_eq_true', decide_eq_false_iff_not]
    exact ⟨h2, fun h' => hdis h' h⟩
/-- given again they are as they were -/
theorem add_sub {S : Nat → Bool} {l m : List Nat} (hl : ∀ p ∈ l, S p = true) (hm : ∀ p, p ∈ m ↔ p ∈ l) : add (sub S l) m = S := by
  funext q
  simp only [add, sub, List.contains_eq_mem]
  by_cases h : q ∈ l
  · simp [h, hm, hl q h]
  · simp [h, hm]
end Go.Proofs.YtmjeigceclmdoaaGreatDoor.Fr
