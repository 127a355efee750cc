/-
  A map of pages as a part beside others; what both maps, the program's and the reference's, make of each act.
-/
import Derived.Test.YtmjeigceclmdoaaGreatDoorK45
import Derived.Test.YtmjeigceclmdoaaGreatDoorK10
import Derived.Test.YtmjeigceclmdoaaGreatDoorK46
namespace Go.Proofs.YtmjeigceclmdoaaGreatDoor
open Go Go.RowKit
set_option linter.unusedSimpArgs false
set_option linter.unusedVariables false

namespace Fr
theorem lst_upTo {first many : Nat} (h : first + many ≤ 4096) : lst (upTo first (first + many)) = List.range' first many := by
  refine sorted_ext _ _ (lst_sorted _) List.pairwise_lt_range' (fun q => ?_)
  rw [mem_lst, List.mem_range'_1]
  simp only [upTo, Bool.and_eq_true, decide_eq_true_eq]
  omega
end Fr
/-- the program's map, as a part -/
def Part.map (b first last : Nat) (S : Nat → Bool) : Part where
  P w O := MapAt w b first last S ∧ O b ∧ ∀ k, O k → k < w.heap.size
  stable := fun {F w w' O} ⟨h1, h2, h3⟩ t hF => ⟨h1.touch t (hF b h2), h2, fun k hk => Nat.lt_of_lt_of_le (h3 k hk) t.size⟩
  lt := fun {w O} h => h.2.2
theorem born_map {w w' : World} {b first last : Nat} {S : Nat → Bool} (hb : w.heap.size ≤ b) (t : Touch No w w') (h : MapAt w' b first last S) : Born w (Part.map b first last S) w' :=
  ⟨t, fun k => k = b, ⟨h, rfl, fun k hk => by rw [hk]; exact h.lt⟩, fun k hk => by rw [hk]; exact hb⟩
theorem map_turn {w w' : World} {b first last : Nat} {S S' : Nat → Bool} {A : Nat → Prop} (h : Al w [Part.map b first last S] A) (t : Touch (One b) w w') (h' : MapAt w' b first last S') : TurnsL w A [Part.map b first last S'] w' := by
  obtain ⟨A1, _, ⟨_, hb, _⟩, _, _, h1, _⟩ := h
  refine ⟨t.mono (fun k _ e => by rw [show k = b from e]; exact h1 b hb), fun k => k = b, ⟨fun k => k = b, fun _ => False, ⟨h', rfl, fun k hk => by rw [hk]; exact h'.lt⟩, trivial, fun _ _ f => f, fun _ h => h, fun _ f => f.elim⟩, fun k hk => ?_⟩
  rw [hk]; exact Or.inl (h1 b hb)
theorem al_map {w : World} {b first last : Nat} {S : Nat → Bool} {A : Nat → Prop} (h : Al w [Part.map b first last S] A) : MapAt w b first last S := by
  obtain ⟨A1, _, ⟨h, _⟩, _⟩ := h
  exact h
theorem map_take {w w' : World} {b first last n : Nat} {S S' : Nat → Bool} {A : Nat → Prop} {v : Value} {vs : List Value} (h : Al w [Part.map b first last S] A) (hv : vs.length = n) (ho : Own w' w.heap.size 23 v vs) (t : Touch (One b) w w') (h' : MapAt w' b first last S') :
    ∃ a c, v = .slice a n c ∧ TurnsL w A [Part.map b first last S', Part.sl 23 a n c vs] w' := by
  obtain ⟨a, c, rfl, _⟩ := ho.form' hv
  refine ⟨a, c, rfl, ?_⟩
  have hm := al_map h
  obtain ⟨A1, _, ⟨_, hb, _⟩, _, _, h1, _⟩ := h
  obtain ⟨O2, hs, hge⟩ := own_sl ho
  refine ⟨t.mono (fun k _ e => by rw [show k = b from e]; exact h1 b hb), fun k => k = b ∨ O2 k, ⟨fun k => k = b, O2, ⟨h', rfl, fun k hk => by rw [hk]; exact h'.lt⟩, ⟨O2, fun _ => False, hs, trivial, fun _ _ f => f, fun _ h => h, fun _ f => f.elim⟩, fun k hk h2 => ?_, fun k hk => Or.inl hk, fun k hk => Or.inr hk⟩, fun k hk => ?_⟩
  · have := hge k h2
    have := hm.lt
    omega
  · rcases hk with rfl | hk
    · exact Or.inl (h1 _ hb)
    · exact Or.inr (hge k hk)

/-! ### the same answers -/
theorem take_same {S : Nat → Bool} {first last : Nat} (n : Int) : (n < 0) ∨ (¬ n < 0 ∧ ((Fr.lst S).length : Int) < n) ∨ ∃ m : Nat, n = (m : Nat) ∧ m ≤ (Fr.lst S).length := by
  by_cases h1 : n < 0
  · exact Or.inl h1
  · by_cases h2 : ((Fr.lst S).length : Int) < n
    · exact Or.inr (Or.inl ⟨h1, h2⟩)
    · exact Or.inr (Or.inr ⟨n.toNat, by omega, by omega⟩)
theorem mark_says {first last p : Nat} {S : Nat → Bool} (hl : last ≤ 4096) (many : Nat) (hm : first + many = last) : refMarkSays first many (Fr.lst S) p = markSays first last S p := by
  rw [refMarkSays, markSays, hm]
  cases hi : inMap first last p with
  | false => simp
  | true =>
    have hp : p < 4096 := by have := (inMap_true.1 hi).2; omega
    rw [if_pos rfl, if_pos rfl, Fr.isIn_lst, decide_eq_true hp, Bool.true_and]
theorem mark_list {first last p : Nat} {S : Nat → Bool} (hl : last ≤ 4096) (hr : ∀ p, S p = true → first ≤ p ∧ p < last) (many : Nat) (hm : first + many = last) : refMarkList first many (Fr.lst S) p = Fr.lst (markSet S p) := by
  rw [refMarkList, mark_says hl many hm, markSays, markSet]
  cases hS : S p with
  | false =>
    cases hi : inMap first last p <;> simp
  | true =>
    have hi : inMap first last p = true := inMap_true.2 (hr p hS)
    rw [hi]
    simp only [if_true]
    exact Fr.lst_cut (by have := hr p hS; omega) hS

theorem Sl.two {w0 w : World} {p q : Part} {l : List Part} (h : Sl w0 w (p :: l)) (hq : q ∈ l) : ∃ A B, p.P w A ∧ q.P w B ∧ ∀ k, A k → ¬ B k := by
  obtain ⟨O, ⟨A, B, ha, hb, hd, _, _⟩, _⟩ := h
  obtain ⟨C, hc, hC⟩ := hb.mem hq
  exact ⟨A, C, ha, hc, fun k hk h => hd k hk (hC k h)⟩
/-- both maps, the book, and what else stands there: all made since w0 -/
def FrS (w0 w : World) (b g first many : Nat) (S R : Nat → Bool) (gk n : Nat) (D : List HE) (E : List Part) : Prop :=
  Sl w0 w ([Part.map b first (first + many) S, Part.ref g first many (Fr.lst R), Part.book gk n [] [] [] D] ++ E)
section
variable {w0 w w' : World} {b g first many gk n : Nat} {S R : Nat → Bool} {D : List HE} {E E' : List Part}
theorem FrS.end (h : FrS w0 w b g first many S R gk n D E) : Touch No w0 w := Sl.end h
theorem FrS.no (h : FrS w0 w b g first many S R gk n D E) (t : Touch No w w') : FrS w0 w' b g first many S R gk n D E := Sl.no h t
theorem FrS.map (h : FrS w0 w b g first many S R gk n D E) : MapAt w b first (first + many) S := by
  obtain ⟨A, ⟨h, _⟩, _⟩ := Sl.mem h (List.mem_cons_self)
  exact h
theorem FrS.ref (h : FrS w0 w b g first many S R gk n D E) : ∃ a c, RefAt w g first many a (Fr.lst R).length c (Fr.lst R) := by
  have hm := h.map.top
  obtain ⟨A, h, _⟩ := Sl.mem h (List.mem_cons_of_mem _ List.mem_cons_self)
  exact Part.ref_at h (by omega) (by omega) (fun x hx => by have := (Fr.mem_lst.1 hx).1; omega)
theorem FrS.rest (h : FrS w0 w b g first many S R gk n D E) {p : Part} (hp : p ∈ E) : ∃ A, p.P w A ∧ ∀ k, A k → w0.heap.size ≤ k ∧ k < w.heap.size := Sl.mem h (List.mem_append_right _ hp)
theorem FrS.rd (h : FrS w0 w b g first many S R gk n D E) {T : TypeId} {a : Option Addr} {m c : Nat} {vs : List Value} (hp : Part.sl T a m c vs ∈ E) : Rd w a vs := by
  obtain ⟨A, ha, _⟩ := h.rest hp
  exact sl_rd ha
theorem FrS.row (h : FrS w0 w b g first many S R gk n D E) {T : TypeId} {x : Nat} {vs : List Value} (hp : Part.row x T vs ∈ E) : Row w x T vs := by
  obtain ⟨A, ⟨h, _⟩, _⟩ := h.rest hp
  exact h
theorem FrS.push {p : Part} (h : FrS w0 w b g first many S R gk n D E) (hb : Born w p w') : FrS w0 w' b g first many S R gk n D (p :: E) := by
  have h1 : Sl w0 w' (p :: ([Part.map b first (first + many) S, Part.ref g first many (Fr.lst R), Part.book gk n [] [] [] D] ++ E)) := Sl.push h hb
  exact h1.perm (List.perm_middle (l₁ := [_, _, _])).symm
theorem FrS.perm (h : FrS w0 w b g first many S R gk n D E) (hp : E.Perm E') : FrS w0 w b g first many S R gk n D E' := Sl.perm h (hp.append_left _)
theorem FrS.drop {p : Part} (h : FrS w0 w b g first many S R gk n D (p :: E)) : FrS w0 w b g first many S R gk n D E := (Sl.perm h (List.perm_middle (l₁ := [_, _, _]))).drop
theorem FrS.imp1 {p q : Part} (h : FrS w0 w b g first many S R gk n D (p :: E)) (hp : ∀ A, p.P w A → q.P w A) : FrS w0 w b g first many S R gk n D (q :: E) :=
  Sl.perm ((Sl.perm h (List.perm_middle (l₁ := [_, _, _]))).imp1 hp) (List.perm_middle (l₁ := [_, _, _])).symm
theorem FrS.turnM {S' : Nat → Bool} (h : FrS w0 w b g first many S R gk n D E) (t : Touch (One b) w w') (hm : MapAt w' b first (first + many) S') : FrS w0 w' b g first many S' R gk n D E := by
  obtain ⟨A, ha, _, hf⟩ := Sl.frame (l := [Part.map b first (first + many) S]) (m := [Part.ref g first many (Fr.lst R), Part.book gk n [] [] [] D] ++ E) h
  exact hf w' _ (map_turn ha t hm)
theorem FrS.markM (h : FrS w0 w b g first many S R gk n D E) (p : Nat) (hp : p < 4294967296) :
    Calls Tryz.prog 37 #[.pointer (some ⟨b, 0, none⟩), .int .u32 (p : Nat)] w fun e w' => e = .returned (.int .i64 (markSays first (first + many) S p : Nat)) ∧ FrS w0 w' b g first many (markSet S p) R gk n D E :=
  (mark_any w b first _ p S h.map hp).mono fun e w' ⟨he, t, hm⟩ => ⟨he, h.turnM t hm⟩
theorem FrS.giveM (h : FrS w0 w b g first many S R gk n D E) (a : Option Addr) (m c : Nat) (xs : List Nat) (v : Value) (hp : Part.sl 23 a (m + 1) c (nums .u32 xs ++ [v]) ∈ E) (hl : xs.length = m) (hx : ∀ x ∈ xs, x < 4294967296) :
    Calls Tryz.prog 39 #[.pointer (some ⟨b, 0, none⟩), .slice a m c] w fun e w' => e = .returned (.int .i64 (giveSays first (first + many) S xs : Nat)) ∧ FrS w0 w' b g first many (giveSet first (first + many) S xs) R gk n D E := by
  obtain ⟨A, B, ⟨_, hb, _⟩, hs, hd⟩ := Sl.two h (q := Part.sl 23 a (m + 1) c (nums .u32 xs ++ [v])) (by exact List.mem_append_right _ hp)
  obtain ⟨_, hc, hmx⟩ := sl_len hs
  refine (give_any w b first _ S a m c xs h.map hl (by omega) (by unfold maxLen at hmx; omega) (rd_pre (sl_rd hs)) (fun c' o e hm => ?_) hx).mono fun e w' ⟨he, t, hm⟩ => ⟨he, h.turnM t hm⟩
  subst e
  intro e
  rw [e] at hs
  exact hd b hb (sl_own hs (by omega))
theorem FrS.takeM (h : FrS w0 w b g first many S R gk n D E) (hT : TabAt w) (m : Nat) (hn : m ≤ (Fr.lst S).length) :
    Calls Tryz.prog 33 #[.pointer (some ⟨b, 0, none⟩), .int .i64 (m : Nat)] w fun e w' => ∃ a c, e = .returned (.tuple #[.slice a m c, .int .i64 0]) ∧
      FrS w0 w' b g first many (Fr.sub S ((Fr.lst S).take m)) R gk n D (Part.sl 23 a m c (nums .u32 ((Fr.lst S).take m)) :: E) := by
  refine (take_ok w b first _ S m h.map hT hn).mono fun e w' ⟨v, he, ho, t, hm⟩ => ?_
  obtain ⟨A, ha, _, hf⟩ := Sl.frame (l := [Part.map b first (first + many) S]) (m := [Part.ref g first many (Fr.lst R), Part.book gk n [] [] [] D] ++ E) h
  obtain ⟨a, c, rfl, ht⟩ := map_take ha (n := m) (by rw [nums_length, List.length_take]; omega) ho t hm
  refine ⟨a, c, he, ?_⟩
  have h2 := hf w' _ ht
  exact h2.perm (((List.perm_middle (l₁ := [_, _]) (l₂ := E) (a := Part.sl 23 a m c (nums .u32 ((Fr.lst S).take m)))).symm).cons _)
theorem FrS.turnR {R' : Nat → Bool} {L : List Part} {P : Program} {f : FuncId} {args : Array Value} {Z : Ending → Prop} (h : FrS w0 w b g first many S R gk n D E)
    (C : ∀ F, Al w [Part.ref g first many (Fr.lst R)] F → (∀ k, F k → w0.heap.size ≤ k) → Calls P f args w fun e w' => Z e ∧ TurnsL w F (Part.ref g first many (Fr.lst R') :: L) w') :
    Calls P f args w fun e w' => Z e ∧ FrS w0 w' b g first many S R' gk n D (L ++ E) := by
  have h1 : Sl w0 w ([Part.ref g first many (Fr.lst R)] ++ ([Part.map b first (first + many) S, Part.book gk n [] [] [] D] ++ E)) := Sl.perm h (List.Perm.swap _ _ _)
  obtain ⟨F, hF, hge, hf⟩ := Sl.frame h1
  refine (C F hF (fun k hk => (hge k hk).1)).mono fun e w' ⟨he, ht⟩ => ⟨he, ?_⟩
  have h2 := hf w' _ ht
  refine h2.perm ?_
  have p1 : ([Part.ref g first many (Fr.lst R')] ++ L ++ ([Part.map b first (first + many) S, Part.book gk n [] [] [] D] ++ E)).Perm ([Part.ref g first many (Fr.lst R')] ++ ([Part.map b first (first + many) S, Part.book gk n [] [] [] D] ++ (L ++ E))) := by
    simp only [List.append_assoc]
    refine List.Perm.append_left _ ?_
    have := List.perm_append_comm_assoc L [Part.map b first (first + many) S, Part.book gk n [] [] [] D] E
    exact this
  exact p1.trans (List.Perm.swap _ _ _)
theorem FrS.markR (h : FrS w0 w b g first many S R gk n D E) (hr : ∀ p, R p = true → first ≤ p ∧ p < first + many) (p : Nat) (hp : p < 4294967296) :
    Calls Tryz.prog 38 #[.pointer (some ⟨g, 0, none⟩), .int .u32 (p : Nat)] w fun e w' => e = .returned (.int .i64 (markSays first (first + many) R p : Nat)) ∧ FrS w0 w' b g first many S (markSet R p) gk n D E := by
  have ht := h.map.top
  refine h.turnR (L := []) (fun F hF _ => ?_)
  have := refMark_any w g first many (Fr.lst R) F hF (by omega) (by omega) (fun x hx => by have := (Fr.mem_lst.1 hx).1; omega) (Fr.lst_length_le R) p hp
  rw [mark_says ht many rfl, mark_list ht hr many rfl] at this
  exact this
theorem FrS.giveR (h : FrS w0 w b g first many S R gk n D E) (al : Option Addr) (m cl : Nat) (l : List Nat) (hl : l.length = m) (hm : m ≤ 5000) (hlt : ∀ x ∈ l, x < 4294967296) (hrd : Rd w0 al (nums .u32 l)) :
    Calls Tryz.prog 40 #[.pointer (some ⟨g, 0, none⟩), .slice al m cl] w fun e w' => e = .returned (.int .i64 (giveSays first (first + many) R l : Nat)) ∧ FrS w0 w' b g first many S (giveSet first (first + many) R l) gk n D E := by
  have ht := h.map.top
  have te := h.end
  exact h.turnR (L := []) (fun F hF hge => refGive_any w g first many R F hF ht al m cl l hl hm hlt (fun w' t => hrd.touch (te.then t (fun i hi hk => absurd (hge i hk) (Nat.not_le.2 hi)) : Touch No w0 w') (fun _ _ _ _ f => f)))
theorem FrS.takeR (h : FrS w0 w b g first many S R gk n D E) (m : Nat) (hn : m ≤ (Fr.lst R).length) :
    Calls Tryz.prog 34 #[.pointer (some ⟨g, 0, none⟩), .int .i64 (m : Nat)] w fun e w' => ∃ a c, e = .returned (.tuple #[.slice a m c, .int .i64 0]) ∧
      FrS w0 w' b g first many S (Fr.sub R ((Fr.lst R).take m)) gk n D (Part.sl 23 a m c (nums .u32 ((Fr.lst R).take m)) :: E) := by
  have h1 : Sl w0 w ([Part.ref g first many (Fr.lst R)] ++ ([Part.map b first (first + many) S, Part.book gk n [] [] [] D] ++ E)) := Sl.perm h (List.Perm.swap _ _ _)
  obtain ⟨F, hF, hge, hf⟩ := Sl.frame h1
  refine (refTake_ok w g first many (Fr.lst R) F hF (Fr.lst_length_le R) m hn).mono fun e w' ⟨a, c, he, ht⟩ => ⟨a, c, he, ?_⟩
  rw [← Fr.lst_sub_take] at ht
  have h2 : Sl w0 w' ([_, _] ++ ([_, _] ++ E)) := hf w' _ ht
  refine h2.perm ?_
  exact (((List.perm_middle (l₁ := [_, _]) (l₂ := E)).symm).cons _).trans (List.Perm.swap _ _ _)
theorem FrS.fullR (h : FrS w0 w b g first many S R gk n D E) (m : Int) (hm : ((Fr.lst R).length : Int) < m) :
    Calls Tryz.prog 34 #[.pointer (some ⟨g, 0, none⟩), .int .i64 m] w fun e w' => e = .returned (.tuple #[.slice none 0 0, .int .i64 6]) ∧ w = w' := by
  obtain ⟨a, c, hR⟩ := h.ref
  exact refTake_full w g first many a _ c _ hR m hm
theorem FrS.freeR (h : FrS w0 w b g first many S R gk n D E) :
    Calls Tryz.prog 42 #[.pointer (some ⟨g, 0, none⟩)] w fun e w' => e = .returned (.int .i64 ((Fr.lst R).length : Nat)) ∧ w = w' := by
  obtain ⟨a, c, hR⟩ := h.ref
  exact refFree_any w g first many a _ c _ hR
theorem FrS.isR (h : FrS w0 w b g first many S S gk n D E) (p : Nat) (hp : p < 4294967296) :
    Calls Tryz.prog 44 #[.pointer (some ⟨g, 0, none⟩), .int .u32 (p : Nat)] w fun e w' => e = .returned (.bool (S p)) ∧ w = w' := by
  obtain ⟨a, c, hR⟩ := h.ref
  have := refIs_any w g first many a _ c _ hR p hp
  rw [Fr.isIn_lst] at this
  have e : (decide (p < 4096) && S p) = S p := by
    cases hS : S p with
    | false => simp
    | true => have := h.map.rng p hS; have := h.map.top; simp; omega
  rw [e] at this
  exact this
theorem FrS.ids {a : Option Addr} {m c : Nat} {vs : List Value} (h : FrS w0 w b g first many S R gk n D (Part.sl 23 a m c vs :: E)) (hm : D.length ≤ 100000) (hn : n ≤ 1000000) :
    Calls Tryz.prog 36 #[.pointer (some ⟨gk, 0, none⟩), .slice a m c] w fun e w' => e = .returned (.tuple #[]) ∧ FrS w0 w' b g first many S R gk (n + 1) (D ++ [⟨a, m, c, n + 1⟩]) E := by
  have h1 : Sl w0 w (Part.book gk n [] [] [] D :: Part.sl 23 a m c vs :: ([Part.map b first (first + many) S, Part.ref g first many (Fr.lst R)] ++ E)) := by
    refine Sl.perm h ?_
    have p1 : ([Part.map b first (first + many) S, Part.ref g first many (Fr.lst R)] ++ ([Part.book gk n [] [] [] D, Part.sl 23 a m c vs] ++ E)).Perm ([Part.book gk n [] [] [] D, Part.sl 23 a m c vs] ++ ([Part.map b first (first + many) S, Part.ref g first many (Fr.lst R)] ++ E)) := List.perm_append_comm_assoc _ _ _
    exact p1
  refine (h1.ids hm hn).mono fun e w' ⟨he, hs⟩ => ⟨he, ?_⟩
  exact Sl.perm hs (List.perm_middle (l₁ := [_, _])).symm
end
end Go.Proofs.YtmjeigceclmdoaaGreatDoor
