/-
  States that stand beside each other, each in blocks of its own. No program in sight.
-/
import Derived.Test.YtnjdcpbaippdlaaArr
namespace Go.Proofs.Ytnjdcpbaippdlaa
open Go Go.RowKit
set_option linter.unusedVariables false

/-- what holds of some blocks, whatever becomes of the others -/
structure Part where
  P : World → (Nat → Prop) → Prop
  stable : ∀ {F : Nat → Prop} {w w' : World} {O : Nat → Prop}, P w O → Touch F w w' → (∀ k, O k → ¬ F k) → P w' O
  lt : ∀ {w : World} {O : Nat → Prop}, P w O → ∀ k, O k → k < w.heap.size

/-- one becomes another, in its blocks and new ones -/
def Turns (w : World) (O : Nat → Prop) (p' : Part) (w' : World) : Prop := Touch O w w' ∧ ∃ O', p'.P w' O' ∧ ∀ k, O' k → O k ∨ w.heap.size ≤ k
/-- a new one -/
def Born (w : World) (p : Part) (w' : World) : Prop := Touch No w w' ∧ ∃ O', p.P w' O' ∧ ∀ k, O' k → w.heap.size ≤ k
theorem Turns.no {w w1 w2 : World} {O : Nat → Prop} {p : Part} (h : Turns w O p w1) (t : Touch No w1 w2) : Turns w O p w2 := by
  obtain ⟨t1, O', h1, h2⟩ := h
  exact ⟨t1.then t (fun _ _ f => f.elim), O', p.stable h1 t (fun _ _ f => f), h2⟩
theorem Born.no {w w1 w2 : World} {p : Part} (h : Born w p w1) (t : Touch No w1 w2) : Born w p w2 := by
  obtain ⟨t1, O', h1, h2⟩ := h
  exact ⟨t1.trans t, O', p.stable h1 t (fun _ _ f => f), h2⟩
theorem Born.pre {w w1 w2 : World} {p : Part} (t : Touch No w w1) (h : Born w1 p w2) : Born w p w2 := by
  obtain ⟨t1, O', h1, h2⟩ := h
  exact ⟨t.trans t1, O', h1, fun k hk => Nat.le_trans t.size (h2 k hk)⟩
theorem Turns.pre {w w1 w2 : World} {O : Nat → Prop} {p : Part} (t : Touch No w w1) (h : Turns w1 O p w2) : Turns w O p w2 := by
  obtain ⟨t1, O', h1, h2⟩ := h
  exact ⟨(t.no : Touch O w w1).then t1 (fun _ _ h => h), O', h1, fun k hk => (h2 k hk).imp id (fun h => Nat.le_trans t.size h)⟩
theorem Turns.then {w w1 w2 : World} {O : Nat → Prop} {p p2 : Part} (h : Turns w O p w1) (k : ∀ O', p.P w1 O' → Turns w1 O' p2 w2) : Turns w O p2 w2 := by
  obtain ⟨t1, O1, h1, h2⟩ := h
  obtain ⟨t2, O2, h3, h4⟩ := k O1 h1
  refine ⟨t1.then t2 (fun i hi hO => (h2 i hO).elim id (fun h => absurd hi (Nat.not_lt.2 h))), O2, h3, fun i hi => ?_⟩
  rcases h4 i hi with h | h
  · exact h2 i h
  · exact Or.inr (Nat.le_trans t1.size h)

/-- these, made since w0, none of which has a block of another one's -/
def Sp (w0 w : World) (l : List Part) : Prop :=
  ∃ O : Nat → Nat → Prop, (∀ i p, l[i]? = some p → p.P w (O i) ∧ ∀ k, O i k → w0.heap.size ≤ k) ∧ (∀ i j p q, l[i]? = some p → l[j]? = some q → i ≠ j → ∀ k, O i k → O j k → False) ∧ Touch (fun k => w0.heap.size ≤ k) w0 w

theorem Sp.nil {w0 w : World} (t : Touch No w0 w) : Sp w0 w [] := ⟨fun _ _ => True, fun i p h => by simp at h, fun i j p q h => by simp at h, t.mono (fun _ _ f => f.elim)⟩
section
variable {w0 w w' : World} {l : List Part}
theorem Sp.end (h : Sp w0 w l) : Touch No w0 w := by
  obtain ⟨O, h1, h2, t0⟩ := h
  exact t0.mono (fun k hk h => absurd hk (Nat.not_lt.2 h))
theorem Sp.size (h : Sp w0 w l) : w0.heap.size ≤ w.heap.size := h.end.size
theorem Sp.no (h : Sp w0 w l) (t : Touch No w w') : Sp w0 w' l := by
  obtain ⟨O, h1, h2, t0⟩ := h
  exact ⟨O, fun i p hp => ⟨p.stable (h1 i p hp).1 t (fun _ _ f => f), (h1 i p hp).2⟩, h2, t0.then t (fun _ _ f => f.elim)⟩
theorem Sp.alloc (h : Sp w0 w l) (o : Obj) : Sp w0 (w.alloc o) l := h.no ((Touch.refl No w).alloc o)
theorem Sp.get (h : Sp w0 w l) (i : Nat) {p : Part} (hi : l[i]? = some p) : ∃ O, p.P w O ∧ ∀ k, O k → w0.heap.size ≤ k := by
  obtain ⟨O, h1, _⟩ := h
  exact ⟨O i, h1 i p hi⟩
theorem lt_of_get {α : Type} {l : List α} {i : Nat} {p : α} (hi : l[i]? = some p) : i < l.length := by
  rcases Nat.lt_or_ge i l.length with h | h
  · exact h
  · rw [List.getElem?_eq_none h] at hi; cases hi
theorem get_push {α : Type} {l : List α} {b : α} {i : Nat} {p : α} (hp : (l ++ [b])[i]? = some p) : (i < l.length ∧ l[i]? = some p) ∨ (i = l.length ∧ p = b) := by
  rcases Nat.lt_or_ge i l.length with h | h
  · rw [List.getElem?_append_left h] at hp; exact Or.inl ⟨h, hp⟩
  · rw [List.getElem?_append_right h] at hp
    have : i - l.length = 0 := by
      by_cases h0 : i - l.length = 0
      · exact h0
      · rw [List.getElem?_eq_none (by simp; omega)] at hp; cases hp
    rw [this] at hp
    exact Or.inr ⟨by omega, by simpa using hp.symm⟩
theorem get_set {α : Type} {l : List α} {b : α} {i j : Nat} {p : α} (hp : (l.set i b)[j]? = some p) : (j ≠ i ∧ l[j]? = some p) ∨ (j = i ∧ p = b) := by
  by_cases e : j = i
  · subst e
    rw [List.getElem?_set] at hp
    simp only [if_true] at hp
    split at hp
    · exact Or.inr ⟨rfl, (Option.some.inj hp).symm⟩
    · cases hp
  · rw [List.getElem?_set_ne (fun h => e h.symm)] at hp
    exact Or.inl ⟨e, hp⟩
/-- a new one beside them -/
theorem Sp.push {b : Part} (h : Sp w0 w l) (m : Born w b w') : Sp w0 w' (l ++ [b]) := by
  obtain ⟨O, h1, h2, t0⟩ := h
  obtain ⟨t, OB, hB, hge⟩ := m
  refine ⟨fun i => if i = l.length then OB else O i, fun i p hp => ?_, fun i j p q hp hq hij k hk1 hk2 => ?_, t0.then t (fun _ _ f => f.elim)⟩
  · dsimp only
    rcases get_push hp with ⟨hi, hp'⟩ | ⟨hi, hpb⟩
    · rw [if_neg (by omega)]; exact ⟨p.stable (h1 i p hp').1 t (fun _ _ f => f), (h1 i p hp').2⟩
    · rw [if_pos hi, hpb]; exact ⟨hB, fun k hk => Nat.le_trans t0.size (hge k hk)⟩
  · dsimp only at hk1 hk2
    rcases get_push hp with ⟨hi, hp'⟩ | ⟨hi, hpb⟩
    · rw [if_neg (by omega)] at hk1
      rcases get_push hq with ⟨hj, hq'⟩ | ⟨hj, hqb⟩
      · rw [if_neg (by omega)] at hk2; exact h2 i j p q hp' hq' hij k hk1 hk2
      · rw [if_pos hj] at hk2
        have := p.lt (h1 i p hp').1 k hk1
        have := hge k hk2
        omega
    · rw [if_pos hi] at hk1
      rcases get_push hq with ⟨hj, hq'⟩ | ⟨hj, hqb⟩
      · rw [if_neg (by omega)] at hk2
        have := q.lt (h1 j q hq').1 k hk2
        have := hge k hk1
        omega
      · exact hij (hi.trans hj.symm)
/-- one of them turns -/
theorem Sp.use (h : Sp w0 w l) (i : Nat) {p : Part} (hi : l[i]? = some p) (p' : Part) :
    ∃ O, p.P w O ∧ (∀ k, O k → w0.heap.size ≤ k) ∧ ∀ w', Turns w O p' w' → Sp w0 w' (l.set i p') := by
  obtain ⟨O, h1, h2, t0⟩ := h
  refine ⟨O i, (h1 i _ hi).1, (h1 i _ hi).2, fun w' m => ?_⟩
  obtain ⟨t, O', hO', hin⟩ := m
  have out : ∀ (j : Nat) (q : Part), j ≠ i → l[j]? = some q → ∀ k, O j k → ¬ O' k := fun j q hj hq k hk hk' => by
    rcases hin k hk' with e | e
    · exact h2 j i q _ hq hi hj k hk e
    · have := q.lt (h1 j q hq).1 k hk; omega
  refine ⟨fun j => if j = i then O' else O j, fun j q hq => ?_, fun j1 j2 p1 q1 hp hq hij k hk1 hk2 => ?_, t0.then t (fun k _ hk => (h1 i _ hi).2 k hk)⟩
  · dsimp only
    rcases get_set hq with ⟨hj, hq'⟩ | ⟨hj, hqb⟩
    · rw [if_neg hj]; exact ⟨q.stable (h1 j q hq').1 t (fun k hk e => h2 j i q _ hq' hi hj k hk e), (h1 j q hq').2⟩
    · rw [if_pos hj, hqb]
      exact ⟨hO', fun k hk => (hin k hk).elim ((h1 i _ hi).2 k) (fun h => Nat.le_trans t0.size h)⟩
  · dsimp only at hk1 hk2
    rcases get_set hp with ⟨hj1, hp'⟩ | ⟨hj1, _⟩
    · rw [if_neg hj1] at hk1
      rcases get_set hq with ⟨hj2, hq'⟩ | ⟨hj2, _⟩
      · rw [if_neg hj2] at hk2; exact h2 j1 j2 _ _ hp' hq' hij k hk1 hk2
      · rw [if_pos hj2] at hk2; exact out j1 _ hj1 hp' k hk1 hk2
    · rw [if_pos hj1] at hk1
      rcases get_set hq with ⟨hj2, hq'⟩ | ⟨hj2, _⟩
      · rw [if_neg hj2] at hk2; exact out j2 _ hj2 hq' k hk2 hk1
      · exact hij (hj1.trans hj2.symm)
/-- some of them, in another order -/
theorem Sp.pick (h : Sp w0 w l) (is : List Nat) (hn : is.Nodup) (l' : List Part) (hl : ∀ (i : Nat) (p : Part), l'[i]? = some p → ∃ j : Nat, is[i]? = some j ∧ l[j]? = some p) : Sp w0 w l' := by
  obtain ⟨O, h1, h2, t0⟩ := h
  refine ⟨fun i => O (is.getD i 0), fun i p hp => ?_, fun i j p q hp hq hij k hk1 hk2 => ?_, t0⟩
  · obtain ⟨j, hj, hp'⟩ := hl i p hp
    dsimp only
    rw [List.getD_eq_getElem?_getD, hj]; exact h1 j p hp'
  · obtain ⟨i', hi', hp'⟩ := hl i p hp
    obtain ⟨j', hj', hq'⟩ := hl j q hq
    dsimp only at hk1 hk2
    rw [List.getD_eq_getElem?_getD, hi'] at hk1
    rw [List.getD_eq_getElem?_getD, hj'] at hk2
    refine h2 i' j' p q hp' hq' (fun e => ?_) k hk1 hk2
    subst e
    exact hij ((List.getElem?_inj (lt_of_get hi') hn).1 (hi'.trans hj'.symm))
/-- two beside each other, as one -/
def Part.and (p q : Part) : Part where
  P w O := ∃ A B, p.P w A ∧ q.P w B ∧ (∀ k, A k → B k → False) ∧ ∀ k, O k ↔ A k ∨ B k
  stable := fun {F w w' O} ⟨A, B, ha, hb, hd, hO⟩ t hF => ⟨A, B, p.stable ha t (fun k hk => hF k ((hO k).2 (Or.inl hk))), q.stable hb t (fun k hk => hF k ((hO k).2 (Or.inr hk))), hd, hO⟩
  lt := fun {w O} ⟨A, B, ha, hb, hd, hO⟩ k hk => ((hO k).1 hk).elim (p.lt ha k) (q.lt hb k)
/-- the first two, as one -/
theorem Sp.join {p q : Part} (h : Sp w0 w (p :: q :: l)) : Sp w0 w (p.and q :: l) := by
  obtain ⟨O, h1, h2, t0⟩ := h
  have hp := h1 0 p rfl
  have hq := h1 1 q rfl
  refine ⟨fun i => if i = 0 then fun k => O 0 k ∨ O 1 k else O (i + 1), fun i r hr => ?_, fun i j r s hr hs hij k hk1 hk2 => ?_, t0⟩
  · match i, hr with
    | 0, hr =>
      obtain rfl : p.and q = r := by simpa using hr
      exact ⟨⟨O 0, O 1, hp.1, hq.1, h2 0 1 p q rfl rfl (by decide), fun k => Iff.rfl⟩, fun k hk => hk.elim (hp.2 k) (hq.2 k)⟩
    | i + 1, hr => exact h1 (i + 2) r hr
  · match i, j, hr, hs with
    | 0, 0, _, _ => exact hij rfl
    | 0, j + 1, _, hs =>
      rcases hk1 with hk1 | hk1
      · exact h2 0 (j + 2) p s rfl hs (by omega) k hk1 hk2
      · exact h2 1 (j + 2) q s rfl hs (by omega) k hk1 hk2
    | i + 1, 0, hr, _ =>
      rcases hk2 with hk2 | hk2
      · exact h2 (i + 2) 0 r p hr rfl (by omega) k hk1 hk2
      · exact h2 (i + 2) 1 r q hr rfl (by omega) k hk1 hk2
    | i + 1, j + 1, hr, hs => exact h2 (i + 2) (j + 2) r s hr hs (by omega) k hk1 hk2
end

/-- a row of cells -/
def Part.row (g : Nat) (T : TypeId) (vs : List Value) : Part where
  P w O := Row w g T vs ∧ O g ∧ ∀ k, O k → k < w.heap.size
  stable := fun {F w w' O} ⟨h, ho, hl⟩ t hF => ⟨h.touch t (hF g ho), ho, fun k hk => Nat.lt_of_lt_of_le (hl k hk) t.size⟩
  lt := fun {w O} h => h.2.2
theorem Born.row (w : World) (T : TypeId) (vs : Array Value) : Born w (.row w.heap.size T vs.toList) (w.alloc (.cells vs T)) :=
  ⟨(Touch.refl No w).alloc _, (fun k => k = w.heap.size), ⟨Row.new w T vs, rfl, fun k hk => by simp; omega⟩, fun k hk => Nat.le_of_eq hk.symm⟩
theorem Sp.row {w0 w : World} {l : List Part} (h : Sp w0 w l) (i : Nat) {g : Nat} {T : TypeId} {vs : List Value} (hi : l[i]? = some (.row g T vs)) : Row w g T vs := by
  obtain ⟨O, h1, _⟩ := h.get i hi
  exact h1.1
end Go.Proofs.Ytnjdcpbaippdlaa
