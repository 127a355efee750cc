/-
  A store's root, and how many pages are free: plain. No program in sight.
  A store's room: plain. No program in sight.
  Layer 18's law: a store is opened; the chapter's store lives.
  Layer 18's law: the chapter's store lives.
-/
import Derived.Test.YtnffigfafalocaaGreatDoorK43
namespace Go.Proofs.YtnffigfafalocaaGreatDoor
set_option maxRecDepth 100000
open Go Go.RowKit
set_option linter.unusedSimpArgs false
set_option linter.unusedVariables false
namespace Rt
theorem say_no : sayE Dk.noughts = 0 ∧ sayIs Dk.noughts = false := ⟨by kernel_rfl, by kernel_rfl⟩
theorem put_no (r : Root) : nought (put r) = false := by
  unfold put head mark
  simp [nought]
theorem say_put (r : Root) (h : r.Ok) : sayE ⟨put r, 0⟩ = 0 ∧ sayIs ⟨put r, 0⟩ = true ∧ sayR ⟨put r, 0⟩ = r := by
  have h1 : sayIs ⟨put r, 0⟩ = true := by
    unfold sayIs
    simp only [put_no, put_err]
    rfl
  refine ⟨?_, h1, ?_⟩
  · unfold sayE
    simp only [put_no, put_err]
    rfl
  · rw [sayR, if_pos h1]; exact put_root h
theorem pad_put (r : Root) : Dk.pad (put r) = put r := by
  unfold Dk.pad
  rw [put_length]
  simp
theorem find_congr {D D' : Dk.Disk} (hl : D'.seen.length = D.seen.length) (h0 : Dk.at_ D'.seen 0 = Dk.at_ D.seen 0) (h1 : Dk.at_ D'.seen 1 = Dk.at_ D.seen 1) : findE D' = findE D ∧ findR D' = findR D ∧ findN D' = findN D := by
  have e1 : findE D' = findE D := by rw [findE, findE, hl, h0, h1]
  have e2 : second D' = second D := by rw [second, second, h0, h1]
  exact ⟨e1, by rw [findR, findR, e1, e2, h0, h1], by rw [findN, findN, e1, e2]⟩
/-- the root that a disk has is that of an epoch -/
def At (D : Dk.Disk) (e : Nat) : Prop := (findE D = 7 ∧ e = 0) ∨ (findE D = 0 ∧ (findR D).epoch = e)
theorem At.congr {D D' : Dk.Disk} {e : Nat} (h : At D e) (hl : D'.seen.length = D.seen.length) (h0 : Dk.at_ D'.seen 0 = Dk.at_ D.seen 0) (h1 : Dk.at_ D'.seen 1 = Dk.at_ D.seen 1) : At D' e := by
  obtain ⟨e1, e2, _⟩ := find_congr hl h0 h1
  rw [At, e1, e2]; exact h
theorem At.may {D : Dk.Disk} {e : Nat} (h : At D e) {r : Root} (hr : e < r.epoch) : wE D r = 0 := by
  rcases h with ⟨h1, h2⟩ | ⟨h1, h2⟩
  · rw [wE, h1]; simp
  · rw [wE, h1, h2, if_neg (by simp), if_neg (by omega)]
theorem at_set_same (l : List Dk.Sec) (n : Nat) (s : Dk.Sec) (h : n < l.length) : Dk.at_ (l.set n s) n = s := by
  rw [Dk.at_, List.getD_eq_getElem?_getD, List.getElem?_set_self h]; rfl
theorem at_set_other (l : List Dk.Sec) (n m : Nat) (s : Dk.Sec) (h : n ≠ m) : Dk.at_ (l.set n s) m = Dk.at_ l m := by
  rw [Dk.at_, Dk.at_, List.getD_eq_getElem?_getD, List.getElem?_set_ne h, ← List.getD_eq_getElem?_getD]
theorem At.root {D : Dk.Disk} {e : Nat} (h : At D e) {r : Root} (hr : e < r.epoch) (ho : r.Ok) : findE (wD D r) = 0 ∧ findR (wD D r) = r ∧ At (wD D r) r.epoch := by
  suffices h2 : findE (wD D r) = 0 ∧ findR (wD D r) = r from ⟨h2.1, h2.2, Or.inr ⟨h2.1, by rw [h2.2]⟩⟩
  have h8 : 8 ≤ D.seen.length := findE_len (h.elim (fun e => Or.inr e.1) (fun e => Or.inl e.1))
  have hw := h.may hr
  have hseen : (wD D r).seen = D.seen.set (findN D) ⟨put r, 0⟩ := by
    rw [wD, if_pos hw]
    show D.seen.set _ ⟨Dk.pad _, 0⟩ = _
    rw [pad_put]
  have hlen : ¬ (wD D r).seen.length < 8 := by rw [hseen, List.length_set]; omega
  obtain ⟨p1, p2, p3⟩ := say_put r ho
  have hE : findE D = 7 ∨ findE D = 0 := h.elim (fun e => Or.inl e.1) (fun e => Or.inr e.1)
  have hs : sayE (Dk.at_ D.seen 0) = 0 ∧ sayE (Dk.at_ D.seen 1) = 0 := by
    have hx : ∀ s : Dk.Sec, sayE s ≠ 7 := fun s => by
      unfold sayE errOf
      split
      · decide
      · split
        · decide
        · split
          · split <;> decide
          · decide
    rw [findE, if_neg (by omega)] at hE
    by_cases a : sayE (Dk.at_ D.seen 0) = 0
    · refine ⟨a, ?_⟩
      rw [if_neg (fun e => e a)] at hE
      by_cases b : sayE (Dk.at_ D.seen 1) = 0
      · exact b
      · rw [if_pos b] at hE
        exact hE.elim (fun e => absurd e (hx _)) id
    · rw [if_pos a] at hE
      exact absurd (hE.elim (fun e => absurd e (hx _)) id) a
  by_cases hN : findN D = 0
  · have a0 : Dk.at_ (wD D r).seen 0 = ⟨put r, 0⟩ := by rw [hseen, hN]; exact at_set_same _ _ _ (by omega)
    have a1 : Dk.at_ (wD D r).seen 1 = Dk.at_ D.seen 1 := by rw [hseen, hN]; exact at_set_other _ _ _ _ (by decide)
    have hf : findE (wD D r) = 0 := by
      rw [findE, if_neg hlen, a0, a1, p1, p2, hs.2]
      simp
    refine ⟨hf, ?_⟩
    have hsec : second (wD D r) = false := by
      rw [second, a0, a1, p2, p3]
      simp only [Bool.not_true, Bool.false_or, Bool.and_eq_false_iff, decide_eq_false_iff_not]
      rcases h with ⟨h1, h2⟩ | ⟨h1, h2⟩
      · left
        rw [findE, if_neg (by omega), hs.1, hs.2] at h1
        by_cases hb : sayIs (Dk.at_ D.seen 0) = false ∧ sayIs (Dk.at_ D.seen 1) = false
        · exact hb.2
        · simp [hb] at h1
      · right
        have hsd : second D = true := by
          cases hsd : second D with
          | true => rfl
          | false => rw [findN, if_pos ⟨h1, hsd⟩] at hN; cases hN
        rw [findR, if_pos h1, if_pos hsd] at h2
        omega
    rw [findR, if_pos hf, if_neg (by rw [hsec]; decide), a0, p3]
  · have hN1 : findN D = 1 := by have := findN_le D; omega
    have hz : findE D = 0 ∧ second D = false := by
      by_cases hz : findE D = 0 ∧ second D = false
      · exact hz
      · rw [findN, if_neg hz] at hN1; cases hN1
    have a0 : Dk.at_ (wD D r).seen 0 = Dk.at_ D.seen 0 := by rw [hseen, hN1]; exact at_set_other _ _ _ _ (by decide)
    have a1 : Dk.at_ (wD D r).seen 1 = ⟨put r, 0⟩ := by rw [hseen, hN1]; exact at_set_same _ _ _ (by omega)
    have hf : findE (wD D r) = 0 := by
      rw [findE, if_neg hlen, a0, a1, p1, p2, hs.1]
      simp
    refine ⟨hf, ?_⟩
    have h2 : (findR D).epoch = e := by
      rcases h with ⟨h1, _⟩ | ⟨_, h2⟩
      · rw [hz.1] at h1; cases h1
      · exact h2
    rw [findR, if_pos hz.1, if_neg (by rw [hz.2]; decide)] at h2
    have hsec : second (wD D r) = true := by
      rw [second, a0, a1, p2, p3]
      simp only [Bool.true_and, Bool.or_eq_true, decide_eq_true_eq]
      right
      omega
    rw [findR, if_pos hf, if_pos hsec, a1, p3]
theorem new_no {n : Nat} (h : 8 ≤ n) : findE (Dk.new n) = 7 := by
  have a : ∀ i, i < n → Dk.at_ (Dk.new n).seen i = Dk.noughts := fun i hi => by
    simp [Dk.at_, Dk.new, List.getD_eq_getElem?_getD, List.getElem?_replicate, hi]
  rw [findE, if_neg (by simp [Dk.new]; omega), a 0 (by omega), a 1 (by omega), say_no.1, say_no.2]
  simp
theorem At.new {n : Nat} (h : 8 ≤ n) : At (Dk.new n) 0 := Or.inl ⟨new_no h, rfl⟩
theorem At.page {D : Dk.Disk} {e : Nat} (h : At D e) {p : Nat} (hp : 1 ≤ p) (ep : Nat) (q : List Nat) : At (Pg.wD D p ep q) e := by
  by_cases hw : Pg.wE D p q = 0
  · obtain ⟨h1, _, h3⟩ := Pg.wD_ok hw
    exact h.congr h1 (by rw [h3, if_neg (by omega)]) (by rw [h3, if_neg (by omega)])
  · rw [Pg.wD, if_neg hw]; exact h
theorem At.pages {D : Dk.Disk} {e : Nat} (h : At D e) {l : List Nat} (hp : ∀ p ∈ l, 1 ≤ p) (ep : Nat) (b : List Nat) : At (Ex.wD D ep l b) e := by
  by_cases hM : Ex.may D l b.length
  · have ho : ∀ n, n < 4 → Dk.at_ (Ex.wD D ep l b).seen n = Dk.at_ D.seen n := fun n hn => by
      rw [Ex.wD, if_pos hM]
      exact Ex.wr_other hM _ (Nat.le_refl _) n (fun i hi => by
        have := hp _ (Ex.at_mem (nums := l) (i := i) (by rw [hM.2.2]; exact hi))
        omega)
    exact h.congr (Ex.wD_len _ _ _ _) (ho 0 (by omega)) (ho 1 (by omega))
  · rw [Ex.wD, if_neg hM]; exact h
end Rt
namespace Sh
/-- so many pages are free -/
theorem Ok.count {T : Sto} (h : Ok T) {L : List Nat} (hn : L.Nodup) (hL : ∀ x, x ∈ L ↔ Used T x) : (Fr.lst T.S).length + L.length = many T.D := by
  have hm := many_le h.hi
  have hp : (Fr.lst T.S ++ L).Perm (List.range' 1 (many T.D)) := by
    refine (List.perm_ext_iff_of_nodup (List.nodup_append.2 ⟨Fr.lst_nodup _, hn, fun a ha b hb e => ?_⟩) List.nodup_range').2 (fun x => ?_)
    · subst e
      exact ((h.free a).1 (Fr.mem_lst.1 ha).2).2.2 ((hL a).1 hb)
    · rw [List.mem_append, Fr.mem_lst, h.free, hL, List.mem_range'_1]
      constructor
      · rintro (⟨h1, h2, h3, h4⟩ | h1)
        · omega
        · have := h.rng x h1; omega
      · intro hx
        by_cases hu : Used T x
        · exact Or.inr hu
        · exact Or.inl ⟨by omega, by omega, by omega, hu⟩
  have := hp.length_eq
  rw [List.length_append, List.length_range'] at this
  exact this
theorem flat_nodup {l : List (Nat × Th)} (hu : Mp.Up l) (hn : ∀ p ∈ l, p.2.pages.Nodup) (hd : ∀ p ∈ l, ∀ q ∈ l, p.1 ≠ q.1 → Dj p.2.pages q.2.pages) : (l.flatMap fun p => p.2.pages).Nodup := by
  induction l with
  | nil => exact List.nodup_nil
  | cons p r ih =>
    rw [List.flatMap_cons, List.nodup_append]
    have h1 := List.pairwise_cons.1 hu
    refine ⟨hn p List.mem_cons_self, ih h1.2 (fun q hq => hn q (List.mem_cons_of_mem _ hq)) (fun a ha b hb => hd a (List.mem_cons_of_mem _ ha) b (List.mem_cons_of_mem _ hb)), fun a ha b hb e => ?_⟩
    subst e
    obtain ⟨q, hq, hq2⟩ := List.mem_flatMap.1 hb
    exact hd p List.mem_cons_self q (List.mem_cons_of_mem _ hq) (by have := h1.1 q hq; omega) a ha hq2
/-- how many pages things take -/
def takes (c : List (Nat × List Nat)) : Nat := (c.map fun p => Ex.pages p.2.length).sum
end Sh
end Go.Proofs.YtnffigfafalocaaGreatDoor
namespace Go.Proofs.YtnffigfafalocaaGreatDoor
set_option maxRecDepth 100000
open Go Go.RowKit
set_option linter.unusedSimpArgs false
set_option linter.unusedVariables false
namespace Mp
theorem look_map {α β : Type} (l : List (Nat × α)) (f : α → β) (id : Nat) : look (l.map fun p => (p.1, f p.2)) id = (look l id).map f := by
  induction l with
  | nil => rfl
  | cons p r ih =>
    obtain ⟨k, x⟩ := p
    simp only [List.map_cons, look]
    split
    · rfl
    · exact ih
end Mp
namespace Sh
def pgs (l : List (Nat × Th)) : List Nat := l.flatMap fun p => p.2.pages
theorem pgs_length (l : List (Nat × Th)) : (pgs l).length = (l.map fun p => p.2.pages.length).sum := by
  rw [pgs, List.length_flatMap]
theorem Con.takes {D : Dk.Disk} {l : List (Nat × Th)} {c : List (Nat × List Nat)} (h : Con D l c) (hu : Mp.Up l) (ht : ∀ p ∈ l, ThOk p) : (pgs l).length = Sh.takes c := by
  have e : (l.map fun p => (p.1, Ex.pages p.2.bytes)) = (c.map fun p => (p.1, Ex.pages p.2.length)) := by
    refine Mp.ext (Mp.map_up hu (fun p => Ex.pages p.2.bytes)) (Mp.map_up h.up (fun p => Ex.pages p.2.length)) (fun id => ?_)
    rw [Mp.look_map l (fun x => Ex.pages x.bytes), Mp.look_map c (fun b => Ex.pages b.length)]
    have h1 := h.ids id
    cases hx : Mp.look l id with
    | none =>
      rw [hx] at h1
      cases hb : Mp.look c id with
      | none => rfl
      | some b => rw [hb] at h1; cases h1
    | some x =>
      rw [hx] at h1
      cases hb : Mp.look c id with
      | none => rw [hb] at h1; cases h1
      | some b => simp only [Option.map_some]; rw [(h.good id x b hx hb).bytes]
  have e2 := congrArg (fun l => (l.map Prod.snd).sum) e
  simp only [List.map_map] at e2
  rw [pgs_length, Sh.takes]
  rw [show (l.map fun p => p.2.pages.length) = l.map (Prod.snd ∘ fun p => (p.1, Ex.pages p.2.bytes)) from List.map_congr_left (fun p hp => (ht p hp).len)]
  exact e2
theorem takes_put_le (c : List (Nat × List Nat)) (id : Nat) (b : List Nat) : takes (Mp.put c id b) ≤ takes c + Ex.pages b.length := by
  induction c with
  | nil => simp [Mp.put, takes]
  | cons p r ih =>
    obtain ⟨k, x⟩ := p
    simp only [Mp.put]
    split
    · simp [takes]; omega
    · split
      · simp [takes]; omega
      · simp only [takes, List.map_cons, List.sum_cons] at ih ⊢; omega
/-- how long a table of it is -/
def tabN (c : List (Nat × List Nat)) : Nat := 12 * c.length + 4 * takes c
theorem tabB_len (l : List (Nat × Th)) : (tabB l).length = 12 * l.length + 4 * (pgs l).length := by
  induction l with
  | nil => rfl
  | cons p r ih =>
    rw [show tabB (p :: r) = rowB p ++ tabB r from rfl, List.length_append, rowB_length, ih, show pgs (p :: r) = p.2.pages ++ pgs r from rfl, List.length_append, List.length_cons]
    omega
section
variable {T : Sto} {c k : List (Nat × List Nat)}
theorem Has.tab (h : Has T c k) : (tabB T.now).length = tabN c := by rw [tabB_len, h.len, h.now.takes h.ok.upn h.ok.thn, tabN]
theorem Has.comN (h : Has T c k) : Sh.comN T = Ex.pages (tabN c) := by rw [Sh.comN, h.tab]
theorem nodup_append3 {a b e : List Nat} (ha : a.Nodup) (hb : b.Nodup) (he : e.Nodup) (h1 : Dj a b) (h2 : Dj a e) (h3 : Dj b e) : (a ++ (b ++ e)).Nodup :=
  List.nodup_append.2 ⟨ha, List.nodup_append.2 ⟨hb, he, fun x hx y hy e => by subst e; exact h3 x hx hy⟩, fun x hx y hy e => by
    subst e
    rcases List.mem_append.1 hy with h | h
    · exact h1 x hx h
    · exact h2 x hx h⟩
theorem mem_pgs {l : List (Nat × Th)} {x : Nat} : x ∈ pgs l ↔ ∃ p ∈ l, x ∈ p.2.pages := List.mem_flatMap
theorem Ok.room (h : Ok T) : (Fr.lst T.S).length + (T.table.length + ((pgs T.kept).length + (pgs (T.now.filter fun p => p.2.fresh)).length)) = many T.D := by
  have hf : ∀ p, p ∈ T.now.filter (fun p => p.2.fresh) ↔ p ∈ T.now ∧ p.2.fresh = true := fun p => List.mem_filter
  have := h.count (L := T.table ++ (pgs T.kept ++ pgs (T.now.filter fun p => p.2.fresh))) (nodup_append3 h.tnod (flat_nodup h.upk (fun p hp => (h.thk p hp).nod) h.kk) (flat_nodup (h.upn.filter _) (fun p hp => (h.thn p ((hf p).1 hp).1).nod) (fun p hp q hq => h.nn p ((hf p).1 hp).1 q ((hf q).1 hq).1))
    (fun x hx hy => by obtain ⟨p, hp, h2⟩ := mem_pgs.1 hy; exact h.tk p hp x hx h2)
    (fun x hx hy => by obtain ⟨p, hp, h2⟩ := mem_pgs.1 hy; exact h.tn p ((hf p).1 hp).1 x hx h2)
    (fun x hx hy => by
      obtain ⟨p, hp, h2⟩ := mem_pgs.1 hx
      obtain ⟨q, hq, h3⟩ := mem_pgs.1 hy
      exact h.kn p hp q ((hf q).1 hq).1 ((hf q).1 hq).2 x h2 h3)) (fun x => by
    rw [List.mem_append, List.mem_append, mem_pgs, mem_pgs]
    constructor
    · rintro (h1 | h1 | ⟨p, hp, h2⟩)
      · exact Or.inl h1
      · exact Or.inr (Or.inl h1)
      · exact Or.inr (Or.inr ⟨p, ((hf p).1 hp).1, ((hf p).1 hp).2, h2⟩)
    · rintro (h1 | h1 | ⟨p, hp, h2, h3⟩)
      · exact Or.inl h1
      · exact Or.inr (Or.inl h1)
      · exact Or.inr (Or.inr ⟨p, (hf p).2 ⟨hp, h2⟩, h3⟩))
  rw [List.length_append, List.length_append] at this
  exact this
theorem pgs_filter_le (l : List (Nat × Th)) (q : Nat × Th → Bool) : (pgs (l.filter q)).length ≤ (pgs l).length := by
  induction l with
  | nil => exact Nat.le_refl _
  | cons p r ih =>
    simp only [List.filter_cons]
    split
    · simp only [pgs, List.flatMap_cons, List.length_append] at ih ⊢; omega
    · simp only [pgs, List.flatMap_cons, List.length_append] at ih ⊢; omega
/-- at least so many pages are free -/
theorem Has.room (h : Has T c k) : many T.D ≤ (Fr.lst T.S).length + T.table.length + Sh.takes k + Sh.takes c := by
  have h1 := h.ok.room
  have h2 := pgs_filter_le T.now (fun p => p.2.fresh)
  rw [h.kept.takes h.ok.upk h.ok.thk] at h1
  rw [h.now.takes h.ok.upn h.ok.thn] at h2
  omega
/-- just so many, where nothing was put -/
theorem Has.calm (h : Has T c k) (hc : ∀ p ∈ T.now, p.2.fresh = false) : (Fr.lst T.S).length + T.table.length + Sh.takes k = many T.D := by
  have h1 := h.ok.room
  rw [h.kept.takes h.ok.upk h.ok.thk, show T.now.filter (fun p => p.2.fresh) = [] from List.filter_eq_nil_iff.2 (fun p hp => by rw [hc p hp]; decide)] at h1
  simp only [pgs, List.flatMap_nil, List.length_nil] at h1
  omega
theorem settle_calm (D : Dk.Disk) (e : Nat) (t : List Nat) (l : List (Nat × Th)) : ∀ p ∈ (settle D e t l).now, p.2.fresh = false := fun p hp => by
  obtain ⟨q, _, rfl⟩ := mem_old hp
  rfl
theorem drop_more (T : Sto) (id : Nat) : (Fr.lst T.S).length ≤ (Fr.lst (dropS T (Mp.look T.now id))).length := by
  have hS : ∀ x, T.S x = true → dropS T (Mp.look T.now id) x = true := fun x hx => by
    cases hl : Mp.look T.now id with
    | none => exact hx
    | some y =>
      rw [dropS]
      split
      · exact add_true.2 (Or.inl hx)
      · exact hx
  have e : Fr.lst T.S = (Fr.lst (dropS T (Mp.look T.now id))).filter T.S := by
    rw [Fr.lst, Fr.lst, List.filter_filter]
    refine List.filter_congr (fun x _ => ?_)
    cases h : T.S x with
    | false => rfl
    | true => rw [hS x h]; rfl
  rw [e]
  exact List.length_filter_le _ _
theorem putE_zero {id n : Nat} (h1 : n ≤ 65536) (h2 : T.now.length < 64 ∨ (Mp.look T.now id).isSome = true) (h3 : Ex.pages n ≤ (Fr.lst T.S).length) : putE T id n = 0 := by
  have := drop_more T id
  rw [putE, if_neg (by omega), if_neg (fun e => by rcases h2 with h | h; omega; rw [e.1] at h; cases h), if_neg (by omega)]
/-! ### the root -/
theorem root_new {n : Nat} (h : 8 ≤ n) : Rt.At (newS (Dk.new n)).D (newS (Dk.new n)).epoch := Rt.At.new h
theorem Has.root_put (h : Has T c k) (hr : Rt.At T.D T.epoch) (id : Nat) (b : List Nat) : Rt.At (putT T id b).D (putT T id b).epoch := by
  unfold putT
  split
  · exact hr.pages (fun p hp => (h.ok.put_new hp).1) _ _
  · exact hr
theorem Has.com2_root (h : Has T c k) (hr : Rt.At T.D T.epoch) (hf : comF T) : Rt.At (comD2 T) T.epoch :=
  (hr.page ((h.ok.com_free (x := comH T) (by rw [comL_cons hf]; exact List.mem_cons_self)).1) _ _).pages (fun p hp => (h.ok.com_free (List.mem_of_mem_tail hp)).1) _ _
theorem Has.com_yes (h : Has T c k) (hr : Rt.At T.D T.epoch) (hf : comF T) (he : T.epoch + 1 < 4294967296) : comE T = 0 ∧ Rt.At (comT T).D (comT T).epoch ∧ (comT T).epoch = T.epoch + 1 ∧ (comT T).table.length = Ex.pages (tabN c) + 1 ∧ (∀ p ∈ (comT T).now, p.2.fresh = false) ∧ (comT T).puts = 64 := by
  have hn : nx T.epoch = T.epoch + 1 := Nat.mod_eq_of_lt he
  have h2 := h.com2_root hr hf
  have hH : comH T < 4294967296 := by
    have := (h.ok.com_free (x := comH T) (by rw [comL_cons hf]; exact List.mem_cons_self)).2.1
    have := many_le h.ok.hi
    omega
  have ho : (comR T).Ok := ⟨nx_lt _, hH, by have := h.ok.tab_le; show (tabB T.now).length < _; omega⟩
  have hlt : T.epoch < (comR T).epoch := by show _ < nx _; omega
  have hw := h2.may hlt
  have e0 : comE T = 0 := by rw [comE, if_pos hf, hw]
  have e : comT T = settle (Rt.wD (comD2 T) (comR T)) (nx T.epoch) (comL T) T.now := by rw [comT, if_pos hf, if_pos hw]
  refine ⟨e0, ?_, ?_, ?_, ?_, ?_⟩ <;> rw [e]
  · exact (h2.root hlt ho).2.2
  · exact hn
  · show (comL T).length = _
    rw [comL_length hf, h.comN]
  · exact settle_calm _ _ _ _
  · rfl
theorem Has.com_full (h : Has T c k) (h1 : Ex.pages (tabN c) ≤ 60) (h2 : Ex.pages (tabN c) + 1 ≤ (Fr.lst T.S).length) : comF T := ⟨by rw [h.comN]; exact h1, by rw [h.comN]; exact h2⟩
end
end Sh
end Go.Proofs.YtnffigfafalocaaGreatDoor
namespace Go.Proofs.YtnffigfafalocaaGreatDoor
set_option maxRecDepth 100000
open Go Go.RowKit
set_option linter.unusedSimpArgs false
set_option linter.unusedVariables false
namespace Sh
section
variable {T : Sto} {c k : List (Nat × List Nat)}
theorem waits_put (T : Sto) (id : Nat) (b : List Nat) : (putT T id b).D.waits.length ≤ T.D.waits.length + 4 * Ex.pages b.length := by
  unfold putT
  split
  · exact Ex.wD_waits _ _ _ _
  · omega
theorem waits_com (T : Sto) (h : comE T = 0) : (comT T).D.waits.length = 0 := by
  have hf : comF T := by
    by_cases hf : comF T
    · exact hf
    · rw [comE, if_neg hf] at h; cases h
  have hr : Rt.wE (comD2 T) (comR T) = 0 := by rw [comE, if_pos hf] at h; exact h
  rw [comT, if_pos hf, if_pos hr]
  show (Rt.wD _ _).waits.length = 0
  rw [Rt.wD, if_pos hr]
  rfl
end
/-! ### the chapter's store -/
def b5 : List Nat := (List.replicate 300 0).set 0 5
theorem b5_len : b5.length = 300 := by rw [b5, List.length_set, List.length_replicate]
theorem b5_lt : ∀ x ∈ b5, x < 256 := fun x hx => by
  rcases List.mem_or_eq_of_mem_set hx with h | h
  · rw [List.eq_of_mem_replicate h]; decide
  · rw [h]; decide
def v0 : Sto := newS (Dk.new 400)
def v1 : Sto := putT v0 7 b5
def v2 : Sto := comT v1
def v3 : Sto := putT v2 7 [1]
def v4 : Sto := undoT v3
theorem len400 : (Dk.new 400).seen.length = 400 := by simp [Dk.new]
theorem many0 : many (Dk.new 400) = 99 := by rw [many, len400]; rfl
theorem h0 : Has v0 [] [] := Has.new (by rw [len400]; decide) (by rw [len400]; decide)
theorem free0 : (Fr.lst v0.S).length = 99 := by
  have := h0.calm (fun p hp => by cases hp)
  rw [show v0.D = Dk.new 400 from rfl, many0] at this
  exact this
theorem put0 : putE v0 7 300 = 0 := putE_zero (by decide) (Or.inl (by decide)) (by rw [free0]; decide)
theorem put0' : putE v0 7 b5.length = 0 := by rw [b5_len]; exact put0
theorem h1 : Has v1 [(7, b5)] [] := h0.put (by decide) put0'
theorem v1_is : v1 = ⟨Ex.wD v0.D (nx v0.epoch) (putL v0 7 b5.length) b5, Fr.sub (dropS v0 (Mp.look v0.now 7)) (putL v0 7 b5.length), v0.epoch, Mp.put v0.now 7 ⟨b5.length, nx v0.epoch, putL v0 7 b5.length, true⟩, v0.kept, v0.table, v0.puts + 1⟩ := by rw [v1, putT, if_pos put0']
theorem many1 : many v1.D = 99 := by
  rw [v1_is]
  exact (many_eq (Ex.wD_len _ _ _ _)).trans many0
theorem free1 : (Fr.lst v1.S).length = 97 := by
  have h := h1.ok.room
  have e1 : v1.table = [] := by rw [v1_is]; rfl
  have e2 : v1.kept = [] := by rw [v1_is]; rfl
  have e3 : v1.now = [(7, ⟨b5.length, nx v0.epoch, putL v0 7 b5.length, true⟩)] := by rw [v1_is]; rfl
  rw [many1, e1, e2, e3] at h
  have e4 : (pgs (List.filter (fun p => p.2.fresh) [((7 : Nat), (⟨b5.length, nx v0.epoch, putL v0 7 b5.length, true⟩ : Th))])).length = 2 := by
    show ((putL v0 7 b5.length) ++ []).length = 2
    rw [List.append_nil, putL_length put0', b5_len]
    rfl
  rw [e4] at h
  simp only [List.length_nil, pgs, List.flatMap_nil] at h
  omega
theorem tab1 : Ex.pages (tabN [(7, b5)]) = 1 := by
  rw [tabN, takes]
  simp only [List.map_cons, List.map_nil, b5_len]
  rfl
theorem take1 : takes [(7, b5)] = 2 := by
  rw [takes]
  simp only [List.map_cons, List.map_nil, b5_len]
  rfl
theorem full1 : comF v1 := h1.com_full (by rw [tab1]; decide) (by rw [tab1, free1]; decide)
theorem root1 : Rt.At v1.D v1.epoch := h0.root_put (root_new (by decide)) 7 b5
theorem epoch1 : v1.epoch = 0 := by rw [v1_is]; rfl
theorem com1 : comE v1 = 0 ∧ Rt.At v2.D v2.epoch ∧ v2.epoch = v1.epoch + 1 ∧ v2.table.length = Ex.pages (tabN [(7, b5)]) + 1 ∧ (∀ p ∈ v2.now, p.2.fresh = false) ∧ v2.puts = 64 := h1.com_yes root1 full1 (by rw [epoch1]; decide)
theorem h2 : Has v2 [(7, b5)] [(7, b5)] := h1.com com1.1
theorem epoch2 : v2.epoch = 1 := by rw [com1.2.2.1, epoch1]
theorem many2 : many v2.D = 99 := by
  have e : v2.D.seen.length = v1.D.seen.length := by
    have hr : Rt.wE (comD2 v1) (comR v1) = 0 := by have := com1.1; rw [comE, if_pos full1] at this; exact this
    rw [v2, comT, if_pos full1, if_pos hr]
    show (Rt.wD _ _).seen.length = _
    rw [wD_root_len, comD2_len]
  rw [many_eq e, many1]
theorem free2 : (Fr.lst v2.S).length = 95 := by
  have h := h2.calm com1.2.2.2.2.1
  rw [com1.2.2.2.1, tab1, take1, many2] at h
  omega
theorem put2 : putE v2 7 1 = 0 := putE_zero (by decide) (Or.inr (by rw [h2.now.ids]; rfl)) (by rw [free2]; decide)
theorem h3 : Has v3 (Mp.put [(7, b5)] 7 [1]) [(7, b5)] := h2.put (by decide) put2
theorem h4 : Has v4 [(7, b5)] [(7, b5)] := h3.undo
theorem get4 : getE v4 7 = 0 ∧ getB v4 7 = b5 := h4.get rfl
theorem get8 : getE v4 8 = 7 ∧ getB v4 8 = [] := h4.get_no rfl
theorem w0' : v0.D.waits.length = 0 := rfl
theorem w1' : v1.D.waits.length ≤ 8 := by
  have := waits_put v0 7 b5
  rw [b5_len, w0'] at this
  exact this
theorem w2' : v2.D.waits.length = 0 := waits_com v1 com1.1
theorem p0 : v0.puts = 64 := rfl
theorem p2 : v2.puts = 64 := com1.2.2.2.2.2
end Sh
theorem shOpened (w : World) (n : Nat) (h1 : 32 ≤ n) (h2 : n ≤ 16384) : Calls Tryz.prog 5 #[.int .i64 (n : Nat)] w fun e w' => ∃ d s f, e = .returned (.tuple #[.pointer (some ⟨d, 0, none⟩), .pointer (some ⟨s, 0, none⟩)]) ∧ Sg true w w' s d f (Sh.newS (Dk.new n)) [] := by
  have hlen : (Dk.new n).seen.length = n := by simp [Dk.new]
  have Hlen := Lib.hid hlen
  have Hroot : Hid (Rt.findE (Dk.new n) = 7) := Rt.new_no (by omega)
  clear hlen
  go_enter Tryz.func5, Tryz.ntmps5
  go_wp2_with fail
  refine (new_k w n (by omega) h2).mono ?_
  rintro e w1 ⟨d, rfl, hm⟩
  have S1 : Hid (Dd w w1 d (Dk.new n) []) := Sl.push (Sl.nil (Touch.refl No w)) (born_disk hm)
  clear hm
  go_wp2_with fail
  refine (shOpen_new S1.out (by rw [Hlen.out]; exact h1) (by rw [Hlen.out]; exact h2) Hroot.out).mono ?_
  rintro e w2 ⟨s, f, rfl, s2⟩
  have S2 := Lib.hid s2
  clear s2 S1
  go_wp2
  go_ret2
  exact ⟨d, s, f, rfl, S2.out⟩
end Go.Proofs.YtnffigfafalocaaGreatDoor
namespace Go.Proofs.YtnffigfafalocaaGreatDoor
open Go Go.RowKit
set_option linter.unusedSimpArgs false
set_option linter.unusedVariables false
theorem Sh.putT_epoch (T : Sh.Sto) (id : Nat) (b : List Nat) : (Sh.putT T id b).epoch = T.epoch := by
  unfold Sh.putT; split <;> rfl
theorem Sh.undoT_epoch (T : Sh.Sto) : (Sh.undoT T).epoch = T.epoch := rfl
theorem Sh.epoch4 : Sh.v4.epoch = 1 := (Sh.undoT_epoch Sh.v3).trans ((Sh.putT_epoch Sh.v2 7 [1]).trans Sh.epoch2)
theorem sh_z300 : (z300.setIfInBounds 0 (.int .u8 5)).toList = nums .u8 Sh.b5 := by
  rw [Array.toList_setIfInBounds]
  show (List.replicate 300 (Value.int .u8 0)).set 0 (.int .u8 5) = List.map _ ((List.replicate 300 0).set 0 5)
  rw [List.map_set, List.map_replicate]
  rfl
set_option maxRecDepth 100000 in
set_option maxHeartbeats 8000000 in
theorem shLives (w : World) (hTab : TabAt w) : Calls Tryz.prog 7 #[] w (LawPost w) := by
  have hm3 := made300
  have HTab := Lib.hid hTab
  clear hTab
  go_enter Tryz.func7, Tryz.ntmps7
  go_wp2_with fail
  refine (shOpened w 400 (by decide) (by decide)).mono ?_
  rintro e w1 ⟨d, s, f1, rfl, s1⟩
  have S1 : Hid (Sg true w w1 s d f1 Sh.v0 []) := s1
  clear s1
  have hk : (w1.alloc (.cells z300 5)).cell? ⟨w1.heap.size, 0, none⟩ = some (.int .u8 0) := by rw [cell_new]; rfl
  have hf : (w1.alloc (.cells z300 5)).frozen? ⟨w1.heap.size, 0, none⟩ = false := frozen_new _ _ _ _
  go_wp2_with fail
  obtain ⟨w2, hw2⟩ : ∃ w2, w2 = w1.alloc (.cells (z300.setIfInBounds 0 (.int .u8 5)) 5) := ⟨_, rfl⟩
  obtain ⟨B, hB⟩ : ∃ B, B = w1.heap.size := ⟨_, rfl⟩
  have S2 : Hid (Sg true w w2 s d f1 Sh.v0 [Part.row B 5 (nums .u8 Sh.b5)]) := by
    show Sg _ _ _ _ _ _ _ _
    rw [hw2, hB, ← sh_z300]
    exact Dd.perm (Dd.push S1.out (Born.row w1 5 (z300.setIfInBounds 0 (.int .u8 5)))) (by
      refine (List.Perm.swap _ _ _).trans ((List.Perm.swap _ _ _).cons _))
  rw [← hw2, ← hB]
  clear hw2 hB hk hf hm3 S1
  have C2 := Lib.hid (Ss.freeC S2.out)
  refine C2.out.mono ?_
  rintro e w' ⟨rfl, rfl⟩
  rw [Sh.free0]
  have C3 : Hid (Calls Tryz.prog 42 #[.pointer (some ⟨s, 0, none⟩), .int .u32 7, .slice (some ⟨B, 0, none⟩) 300 300] w2 fun e w' => e = .returned (.int .i64 0) ∧ Sg true w w' s d f1 Sh.v1 [Part.row B 5 (nums .u8 Sh.b5)]) := by
    have := Ss.put S2.out Sh.h0.ok HTab.out 7 (by decide) (some ⟨B, 0, none⟩) 300 300 Sh.b5 Sh.b5_len (by decide) (by decide) (Or.inr (Or.inr (Or.inl ⟨B, _, rfl, List.mem_cons_self⟩))) Sh.b5_lt (by rw [Sh.w0']; decide) (by rw [Sh.p0]; decide)
    rw [Sh.put0] at this
    exact this
  clear C2 S2
  go_wp2_with fail
  refine C3.out.mono ?_
  rintro e w3 ⟨rfl, s3⟩
  have S3 := Lib.hid s3
  clear s3 C3
  go_wp2_with fail
  refine (Ss.freeC S3.out).mono ?_
  rintro e w' ⟨rfl, rfl⟩
  rw [Sh.free1]
  have C4 : Hid (Calls Tryz.prog 9 #[.pointer (some ⟨s, 0, none⟩)] w3 fun e w' => e = .returned (.int .i64 0) ∧ ∃ f', Sg true w w' s d f' Sh.v2 [Part.row B 5 (nums .u8 Sh.b5)]) := by
    have := Ss.commit S3.out Sh.h1.ok HTab.out (by have := Sh.w1'; omega)
    rw [Sh.com1.1] at this
    exact this
  clear S3
  go_wp2_with fail
  refine C4.out.mono ?_
  rintro e w4 ⟨rfl, f2, s4⟩
  have S4 := Lib.hid s4
  clear s4 C4
  go_wp2_with fail
  refine (Ss.freeC S4.out).mono ?_
  rintro e w' ⟨rfl, rfl⟩
  rw [Sh.free2]
  go_wp2_with fail
  obtain ⟨w5, hw5⟩ : ∃ w5, w5 = w4.alloc (.cells #[.int .u8 1] 5) := ⟨_, rfl⟩
  obtain ⟨G, hG⟩ : ∃ G, G = w4.heap.size := ⟨_, rfl⟩
  have S5 : Hid (Sg true w w5 s d f2 Sh.v2 [Part.row G 5 (nums .u8 [1])]) := by
    show Sg _ _ _ _ _ _ _ _
    rw [hw5, hG]
    have h1 : Sg true w w4 s d f2 Sh.v2 [] := S4.out.drop
    exact Dd.perm (Dd.push h1 (Born.row w4 5 #[.int .u8 1])) ((List.Perm.swap _ _ _).trans ((List.Perm.swap _ _ _).cons _))
  rw [← hw5, ← hG]
  have C6 : Hid (Calls Tryz.prog 42 #[.pointer (some ⟨s, 0, none⟩), .int .u32 7, .slice (some ⟨G, 0, none⟩) 1 1] w5 fun e w' => e = .returned (.int .i64 0) ∧ Sg true w w' s d f2 Sh.v3 [Part.row G 5 (nums .u8 [1])]) := by
    have := Ss.put S5.out Sh.h2.ok HTab.out 7 (by decide) (some ⟨G, 0, none⟩) 1 1 [1] rfl (by decide) (by decide) (Or.inr (Or.inr (Or.inl ⟨G, _, rfl, List.mem_cons_self⟩))) (by decide) (by rw [Sh.w2']; decide) (by rw [Sh.p2]; decide)
    rw [Sh.put2] at this
    exact this
  clear hw5 hG S4 S5
  refine C6.out.mono ?_
  rintro e w6 ⟨rfl, s6⟩
  have C7 : Hid (Calls Tryz.prog 43 #[.pointer (some ⟨s, 0, none⟩)] w6 fun e w' => e = .returned (.int .i64 0) ∧ ∃ f', Sg true w w' s d f' Sh.v4 [Part.row G 5 (nums .u8 [1])]) := Ss.undo s6 Sh.h3.ok
  clear s6 C6
  go_wp2_with fail
  refine C7.out.mono ?_
  rintro e w7 ⟨rfl, f3, s7⟩
  have C8 : Hid (Calls Tryz.prog 12 #[.pointer (some ⟨s, 0, none⟩), .int .u32 7] w7 fun e w' => ∃ b, e = .returned (.tuple #[.slice b 300 300, .int .i64 0]) ∧ Sg true w w' s d f3 Sh.v4 (Part.sl 5 b 300 300 (nums .u8 Sh.b5) :: [Part.row G 5 (nums .u8 [1])])) := by
    refine (Ss.get s7 Sh.h4.ok 7 (by decide)).mono ?_
    rintro e w' ⟨b, k, he, hk, h⟩
    rw [Sh.get4.2, Sh.b5_len] at hk
    subst hk
    rw [Sh.get4.1] at he
    rw [Sh.get4.2] at h
    exact ⟨b, he, h⟩
  clear s7 C7
  go_wp2_with fail
  refine C8.out.mono ?_
  rintro e w8 ⟨b, rfl, s8⟩
  have C9 : Hid (Calls Tryz.prog 12 #[.pointer (some ⟨s, 0, none⟩), .int .u32 8] w8 fun e w' => ∃ v, e = .returned (.tuple #[v, .int .i64 7]) ∧ Sg true w w' s d f3 Sh.v4 (Part.sl 5 b 300 300 (nums .u8 Sh.b5) :: [Part.row G 5 (nums .u8 [1])])) := by
    refine (Ss.get s8 Sh.h4.ok 8 (by decide)).mono ?_
    rintro e w' ⟨b, k, he, hk, h⟩
    rw [Sh.get8.1] at he
    exact ⟨_, he, Sg.drop h⟩
  clear s8 C8
  go_wp2_with fail
  refine C9.out.mono ?_
  rintro e w9 ⟨v, rfl, s9⟩
  obtain ⟨gb, go, hb, hc⟩ := (s9.rd List.mem_cons_self).num (i := 0) (by rw [Sh.b5_len]; decide)
  have h5 : Sh.b5.getD 0 0 = 5 := by
    rw [Sh.b5, List.getD_eq_getElem?_getD, List.getElem?_set_self (by rw [List.length_replicate]; decide)]; rfl
  rw [h5] at hc
  subst hb
  have S9 := Lib.hid s9
  have CE : Hid (Calls Tryz.prog 14 #[.pointer (some ⟨s, 0, none⟩)] w9 fun e w' => e = .returned (.int .u32 1) ∧ w9 = w') := by
    have := Ss.epochC s9
    rw [show Sh.v4.epoch = 1 from Sh.epoch4] at this
    exact this
  have hc0 : w9.cell? ⟨gb, go, none⟩ = some (.int .u8 5) := hc
  clear s9 C9 h5 hc
  go_wp2_with fail
  refine (shOpen_nil w9).mono ?_
  rintro e w' ⟨rfl, rfl⟩
  go_wp2_with fail
  refine CE.out.mono ?_
  rintro e w' ⟨rfl, rfl⟩
  go_wp2_with fail
  refine (shCommit_nil w9).mono ?_
  rintro e w' ⟨rfl, rfl⟩
  go_wp2
  go_ret
  exact ⟨rfl, S9.out.end⟩
end Go.Proofs.YtnffigfafalocaaGreatDoor
