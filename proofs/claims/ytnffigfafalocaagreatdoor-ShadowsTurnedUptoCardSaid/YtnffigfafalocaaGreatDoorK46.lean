/-
  A store that was committed, opened again: plain.
  A store that was committed, opened again behind a failure: plain.
  Whatever a disk's bytes are: what is opened is a store. Plain.
-/
import Derived.Test.YtnffigfafalocaaGreatDoorK43
import Derived.Test.YtnffigfafalocaaGreatDoorK45
namespace Go.Proofs.YtnffigfafalocaaGreatDoor
set_option maxRecDepth 100000
open Go Go.RowKit
set_option linter.unusedSimpArgs false
set_option linter.unusedVariables false
namespace Mp
theorem put_mem' {α : Type} (l : List (Nat × α)) (id : Nat) (x : α) : ∀ p ∈ put l id x, p = (id, x) ∨ p ∈ l := by
  induction l with
  | nil => intro p hp; rw [put, List.mem_singleton] at hp; exact Or.inl hp
  | cons q r ih =>
    obtain ⟨k, y⟩ := q
    intro p hp
    unfold put at hp
    split at hp
    · exact (List.mem_cons.1 hp).imp (fun h => h) (fun h => h)
    · split at hp
      · exact (List.mem_cons.1 hp).imp (fun h => h) (List.mem_cons_of_mem _)
      · rcases List.mem_cons.1 hp with rfl | hp
        · exact Or.inr List.mem_cons_self
        · exact (ih p hp).imp (fun h => h) (List.mem_cons_of_mem _)
end Mp
namespace Sh
theorem unfour_put {n : Nat} (h : n < 4294967296) (r : List Nat) : Rt.unfour (Rt.four n ++ r) = n := by
  have e : Rt.unfour (Rt.four n ++ r) = Rt.unfour (Rt.four n) := rfl
  rw [e, Rt.unfour_four h]
theorem nums_put {l : List Nat} (h : ∀ x ∈ l, x < 4294967296) (r : List Nat) : nums (l.flatMap Rt.four ++ r) l.length = l := by
  refine List.ext_getElem (by rw [nums_length]) (fun i h1 h2 => ?_)
  rw [nums_length] at h1
  simp only [nums, List.getElem_map, List.getElem_range]
  have e : (l.flatMap Rt.four ++ r).drop (4 * i) = Rt.four l[i] ++ ((l.drop (i + 1)).flatMap Rt.four ++ r) := by
    conv => lhs; rw [← List.take_append_drop i l]
    rw [List.flatMap_append, List.append_assoc, List.drop_append_of_le_length (by rw [flat_four, List.length_take]; omega), List.drop_of_length_le (by rw [flat_four, List.length_take]; omega), List.nil_append, List.drop_eq_getElem_cons h1, List.flatMap_cons, List.append_assoc]
  rw [e, unfour_put (h _ (List.getElem_mem h1))]
theorem put_last {α : Type} {k : List (Nat × α)} {id : Nat} (h : ∀ q ∈ k, q.1 < id) (x : α) : Mp.put k id x = k ++ [(id, x)] := by
  induction k with
  | nil => rfl
  | cons q r ih =>
    obtain ⟨i, y⟩ := q
    have := h _ List.mem_cons_self
    simp only at this
    unfold Mp.put
    rw [if_neg (by omega), if_neg (by omega), ih (fun q hq => h q (List.mem_cons_of_mem _ hq)), List.cons_append]
def subs (S : Nat → Bool) (l : List (Nat × Th)) : Nat → Bool := l.foldl (fun S p => Fr.sub S p.2.pages) S
theorem subs_true {S : Nat → Bool} {l : List (Nat × Th)} {x : Nat} : subs S l x = true ↔ S x = true ∧ ∀ p ∈ l, x ∉ p.2.pages := by
  induction l generalizing S with
  | nil => simp [subs]
  | cons p r ih =>
    show subs (Fr.sub S p.2.pages) r x = true ↔ _
    rw [ih, sub_true]
    simp [and_assoc]
/-- rows that were written are told -/
theorem rows_tab {ep : Nat} : ∀ (l : List (Nat × Th)) (last : Int) (S : Nat → Bool) (k : List (Nat × Th)), Mp.Up l → (∀ p ∈ l, last < (p.1 : Int)) → (∀ p ∈ l, ThOk p) → (∀ p ∈ l, p.2.epoch ≤ ep) → (∀ p ∈ l, ∀ x ∈ p.2.pages, S x = true ∧ x < 4294967296) → (∀ p ∈ l, ∀ q ∈ l, p.1 ≠ q.1 → Dj p.2.pages q.2.pages) → (∀ q ∈ k, ∀ p ∈ l, q.1 < p.1) →
    rowsP ep (tabB l) last S k = some (subs S l, k ++ l.map old)
  | [], last, S, k, _, _, _, _, _, _, _ => by
    rw [rowsP, if_pos (show (tabB []).length = 0 from rfl)]
    simp [subs]
  | p :: r, last, S, k, hu, hlast, hth, hep, hS, hdj, hk => by
    obtain ⟨h1, h2⟩ := List.pairwise_cons.1 hu
    have ht := hth p List.mem_cons_self
    have eb : tabB (p :: r) = Rt.four p.1 ++ (Rt.four p.2.bytes ++ (Rt.four p.2.epoch ++ (p.2.pages.flatMap Rt.four ++ tabB r))) := by
      show rowB p ++ tabB r = _
      simp only [rowB, List.append_assoc]
    have e4 : (tabB (p :: r)).drop 4 = Rt.four p.2.bytes ++ (Rt.four p.2.epoch ++ (p.2.pages.flatMap Rt.four ++ tabB r)) := by rw [eb]; rfl
    have e8 : (tabB (p :: r)).drop 8 = Rt.four p.2.epoch ++ (p.2.pages.flatMap Rt.four ++ tabB r) := by rw [eb]; rfl
    have e12 : (tabB (p :: r)).drop 12 = p.2.pages.flatMap Rt.four ++ tabB r := by rw [eb]; rfl
    have hlen : (tabB (p :: r)).length = 12 + 4 * p.2.pages.length + (tabB r).length := by
      show (rowB p ++ tabB r).length = _
      rw [List.length_append, rowB_length]
    have u0 : Rt.unfour (tabB (p :: r)) = p.1 := by rw [eb, unfour_put ht.id]
    have u1 : Rt.unfour ((tabB (p :: r)).drop 4) = p.2.bytes := by rw [e4, unfour_put (by have := ht.bytes; omega)]
    have u2 : Rt.unfour ((tabB (p :: r)).drop 8) = p.2.epoch := by rw [e8, unfour_put ht.epoch]
    have hn : nums ((tabB (p :: r)).drop 12) (Ex.pages p.2.bytes) = p.2.pages := by
      rw [e12, ← ht.len]
      exact nums_put (fun x hx => (hS p List.mem_cons_self x hx).2) _
    have hl12 : ((tabB (p :: r)).drop 12).length = 4 * p.2.pages.length + (tabB r).length := by rw [List.length_drop, hlen]; omega
    have hd : (tabB (p :: r)).drop (12 + 4 * Ex.pages p.2.bytes) = tabB r := by
      rw [← List.drop_drop, e12, ← ht.len, List.drop_append_of_le_length (by rw [flat_four]; exact Nat.le_refl _), List.drop_of_length_le (by rw [flat_four]; exact Nat.le_refl _), List.nil_append]
    have hl := hlast p List.mem_cons_self
    have he := hep p List.mem_cons_self
    have hb := ht.bytes
    have hm : marks S p.2.pages = true := marks_true.2 ⟨ht.nod, fun x hx => (hS p List.mem_cons_self x hx).1⟩
    rw [rowsP, if_neg (by rw [hlen]; omega), dif_neg (by rw [hlen]; omega), u0, u1, u2, if_neg (by omega), if_neg (by rw [hl12, ← ht.len]; omega), hn, if_pos hm, hd,
      rows_tab r (p.1 : Int) (Fr.sub S p.2.pages) (Mp.put k p.1 ⟨p.2.bytes, p.2.epoch, p.2.pages, false⟩) h2 (fun q hq => by have := h1 q hq; omega) (fun q hq => hth q (List.mem_cons_of_mem _ hq)) (fun q hq => hep q (List.mem_cons_of_mem _ hq))
        (fun q hq x hx => ⟨sub_true.2 ⟨(hS q (List.mem_cons_of_mem _ hq) x hx).1, fun hy => hdj p List.mem_cons_self q (List.mem_cons_of_mem _ hq) (by have := h1 q hq; omega) x hy hx⟩, (hS q (List.mem_cons_of_mem _ hq) x hx).2⟩)
        (fun q hq s hs => hdj q (List.mem_cons_of_mem _ hq) s (List.mem_cons_of_mem _ hs))
        (fun q hq s hs => by
          rcases Mp.put_mem _ _ _ q hq with e | hq
          · rw [e]; exact h1 s hs
          · exact hk q hq s (List.mem_cons_of_mem _ hs))]
    rw [put_last (fun q hq => hk q hq p List.mem_cons_self), List.map_cons, List.append_assoc]
    rfl
/-- the epochs of what there is -/
structure Eps (T : Sto) : Prop where
  kept : ∀ p ∈ T.kept, p.2.epoch ≤ T.epoch
  now : ∀ p ∈ T.now, p.2.epoch ≤ T.epoch + 1
theorem Eps.new (D : Dk.Disk) : Eps (newS D) := ⟨fun p hp => (by cases hp), fun p hp => by cases hp⟩
theorem Eps.put {T : Sto} (h : Eps T) (he : T.epoch + 1 < 4294967296) (id : Nat) (b : List Nat) : Eps (putT T id b) := by
  unfold putT
  split
  · refine ⟨h.kept, fun p hp => ?_⟩
    rcases Mp.put_mem' _ _ _ p hp with e | hp
    · rw [e]
      show nx T.epoch ≤ T.epoch + 1
      rw [nx, Nat.mod_eq_of_lt he]
      exact Nat.le_refl _
    · exact h.now p hp
  · exact h
theorem Eps.all {T : Sto} (h : Eps T) (he : T.epoch + 1 < 4294967296) (l : List TgDeed) : Eps (putAll T l) ∧ (putAll T l).epoch = T.epoch := by
  induction l generalizing T with
  | nil => exact ⟨h, rfl⟩
  | cons x r ih =>
    have h1 := h.put he x.id x.b
    have e := putT_ep T x.id x.b
    obtain ⟨i1, i2⟩ := ih h1 (by rw [e]; exact he)
    exact ⟨i1, i2.trans e⟩
/-- what a commit leaves, read -/
theorem reads_com {T : Sto} {c k : List (Nat × List Nat)} (h : Has T c k) (hr : Rt.At T.D T.epoch) (hf : comF T) (he : T.epoch + 1 < 4294967296) (hep : Eps T) :
    readsP (comT T).D = .ok { comT T with now := [], puts := 0 } := by
  have hn : nx T.epoch = T.epoch + 1 := Nat.mod_eq_of_lt he
  have h2 := h.com2_root hr hf
  have hHm : comH T ∈ comL T := by rw [comL_cons hf]; exact List.mem_cons_self
  have hHf := h.ok.com_free hHm
  have hmax := many_le h.ok.hi
  have hH : comH T < 4294967296 := by omega
  have hL : ∀ x ∈ comL T, 1 ≤ x ∧ x ≤ many T.D := fun x hx => ⟨(h.ok.com_free hx).1, (h.ok.com_free hx).2.1⟩
  have hL32 : ∀ x ∈ (comL T).tail, x < 4294967296 := fun x hx => by have := (hL x (List.mem_of_mem_tail hx)).2; omega
  have ho : (comR T).Ok := ⟨nx_lt _, hH, by have := h.ok.tab_le; show (tabB T.now).length < _; omega⟩
  have hlt : T.epoch < (comR T).epoch := by show _ < nx _; omega
  have hw := h2.may hlt
  obtain ⟨r1, r2, _⟩ := h2.root hlt ho
  have e : comT T = settle (Rt.wD (comD2 T) (comR T)) (nx T.epoch) (comL T) T.now := by rw [comT, if_pos hf, if_pos hw]
  obtain ⟨D3, hD3⟩ : ∃ D3, D3 = Rt.wD (comD2 T) (comR T) := ⟨_, rfl⟩
  rw [← hD3] at e r1 r2
  have hlen : D3.seen.length = T.D.seen.length := by rw [hD3, wD_root_len, comD2_len]
  have hmany : many D3 = many T.D := many_eq hlen
  have hroot : ∀ n, 2 ≤ n → Dk.at_ D3.seen n = Dk.at_ (comD2 T).seen n := fun n hn2 => by
    have := Rt.findN_le (comD2 T)
    rw [hD3, Rt.wD, if_pos hw]
    show ((Dk.sync (comD2 T)).seen.set _ _).getD _ _ = (comD2 T).seen.getD _ _
    rw [List.getD_eq_getElem?_getD, List.getD_eq_getElem?_getD, List.getElem?_set_ne (by omega)]
    rfl
  -- the page of the table's numbers
  have hwE : Pg.wE T.D (comH T) (comB T) = 0 := h.ok.com_head hf
  have hnd := comL_nodup T
  rw [comL_cons hf] at hnd
  obtain ⟨hnd1, hnd2⟩ := List.nodup_cons.1 hnd
  have hpage : Pg.rE D3 (comH T) = 0 ∧ Pg.rN D3 (comH T) = nx T.epoch ∧ Pg.rB D3 (comH T) = comB T := by
    refine Pg.r_put (many_on (by rw [hlen]; exact h.ok.lo) (by rw [hmany]; exact hHf.2.1)) hH (nx_lt _) (comB_length hf) (fun i hi => ?_)
    rw [hroot _ (by have := hHf.1; omega)]
    have e2 : Dk.at_ (comD2 T).seen (4 * comH T + i) = Dk.at_ (comD1 T).seen (4 * comH T + i) := by
      rw [comD2, Ex.wD]
      split
      · rename_i hM
        refine Ex.wr_other hM _ (Nat.le_refl _) _ (fun j hj hc => ?_)
        have : Ex.at' (comL T).tail j ∈ (comL T).tail := Ex.at_mem (by rw [hM.2.2]; exact hj)
        exact hnd1 (by rw [show comH T = Ex.at' (comL T).tail j by omega]; exact this)
      · rfl
    rw [e2, comD1, (Pg.wD_ok hwE).2.2, if_pos (by omega), Nat.add_sub_cancel_left]
  -- the table
  have hmay : Ex.may (comD1 T) (comL T).tail (tabB T.now).length := ⟨hnd2, fun x hx => by
    rw [Ex.onD_len (comD1_len T)]
    exact many_on h.ok.lo (hL x (List.mem_of_mem_tail hx)).2, comL_tail hf⟩
  have hgood : Good D3 ⟨(tabB T.now).length, nx T.epoch, (comL T).tail, false⟩ (tabB T.now) := by
    rw [hD3]
    exact (Good.new (nx T.epoch) false hmay).root (comL_tail hf) (fun y hy => (hL y (List.mem_of_mem_tail hy)).1) _
  obtain ⟨t1, t2⟩ := hgood.read ⟨hnd2, fun x hx => many_on (by rw [hlen]; exact h.ok.lo) (by rw [hmany]; exact (hL x (List.mem_of_mem_tail hx)).2), comL_tail hf⟩ hL32 (nx_lt _)
  simp only at t1 t2
  have eB : (comB T).length = 4 * (comL T).tail.length := flat_four _
  have hnums : nums (comB T) ((comB T).length / 4) = (comL T).tail := by
    rw [eB, Nat.mul_div_cancel_left _ (by decide)]
    have := nums_put hL32 []
    rwa [List.append_nil] at this
  have hm : marks (upTo 1 (1 + many D3)) (comH T :: (comL T).tail) = true := by
    rw [← comL_cons hf, hmany]
    exact marks_true.2 ⟨comL_nodup T, fun x hx => by have := hL x hx; simp only [upTo, Bool.and_eq_true, decide_eq_true_eq]; omega⟩
  have hS0 : ∀ x, Fr.sub (upTo 1 (1 + many D3)) (comH T :: (comL T).tail) x = true ↔ 1 ≤ x ∧ x ≤ many D3 ∧ x ∉ comL T := fun x => by
    rw [← comL_cons hf, sub_true]
    simp only [upTo, Bool.and_eq_true, decide_eq_true_eq]
    constructor
    · rintro ⟨⟨a, b⟩, c⟩; exact ⟨a, by omega, c⟩
    · rintro ⟨a, b, c⟩; exact ⟨⟨a, by omega⟩, c⟩
  have hrows := rows_tab (ep := nx T.epoch) T.now (-1) (Fr.sub (upTo 1 (1 + many D3)) (comH T :: (comL T).tail)) [] h.ok.upn (fun p hp => by omega) h.ok.thn (fun p hp => by rw [hn]; exact hep.now p hp)
    (fun p hp x hx => ⟨(hS0 x).2 ⟨(h.ok.nrng hp hx).1, by rw [hmany]; exact (h.ok.nrng hp hx).2, fun hc => h.ok.com_now p hp x hc hx⟩, by have := (h.ok.nrng hp hx).2; omega⟩) h.ok.nn (fun q hq => by cases hq)
  have hSS : subs (Fr.sub (upTo 1 (1 + many D3)) (comH T :: (comL T).tail)) T.now = restS D3 (comL T) T.now := by
    funext x
    rw [Bool.eq_iff_iff, subs_true, hS0, restS_true]
    constructor
    · rintro ⟨⟨a, b, c⟩, d⟩
      exact ⟨a, b, fun e => e.elim c (fun ⟨p, hp, hx⟩ => d p hp hx)⟩
    · rintro ⟨a, b, c⟩
      exact ⟨⟨a, b, fun hx => c (Or.inl hx)⟩, fun p hp hx => c (Or.inr ⟨p, hp, hx⟩)⟩
  have eR1 : (comR T).first = comH T := rfl
  have eR2 : (comR T).epoch = nx T.epoch := rfl
  have eR3 : (comR T).bytes = (tabB T.now).length := rfl
  rw [e]
  show readsP D3 = .ok { settle D3 (nx T.epoch) (comL T) T.now with now := [], puts := 0 }
  unfold readsP
  rw [r1, r2, eR1, eR2, eR3, hpage.1, hpage.2.1, hpage.2.2, hnums, if_neg (by decide), if_neg (by decide), if_neg (by rw [hmany]; omega), if_neg (by decide),
    if_neg (by rw [eB, comL_tail hf]; rintro (h | h | h); exact h rfl; omega; exact h (by rw [Nat.mul_div_cancel_left _ (by decide)]; rfl)), hm, if_neg (by decide), t1, if_neg (by decide), t2, hrows]
  simp only [List.nil_append, List.length_map]
  rw [if_neg (by have := h.ok.lenn; omega), hSS, ← comL_cons hf]
  rfl
end Sh
end Go.Proofs.YtnffigfafalocaaGreatDoor
namespace Go.Proofs.YtnffigfafalocaaGreatDoor
set_option maxRecDepth 100000
open Go Go.RowKit
set_option linter.unusedSimpArgs false
set_option linter.unusedVariables false
namespace Dk
theorem at_set_ne (l : List Sec) (n m : Nat) (s : Sec) (h : n ≠ m) : at_ (l.set n s) m = at_ l m := by
  unfold at_; rw [List.getD_eq_getElem?_getD, List.getD_eq_getElem?_getD, List.getElem?_set_ne h]
end Dk
namespace Sh
/-- a disk of which some sectors are as they were, whatever waits -/
structure Safe (D2 : Dk.Disk) (P : Nat → Prop) (D : Dk.Disk) : Prop where
  len : D.seen.length = D2.seen.length
  sure : D.sure = D2.seen
  waits : ∀ x ∈ D.waits, ¬ P x.n
  seen : ∀ n, P n → Dk.at_ D.seen n = Dk.at_ D2.seen n
section
variable {D2 D : Dk.Disk} {P : Nat → Prop}
theorem Safe.start (h1 : D2.sure = D2.seen) (h2 : D2.waits = []) : Safe D2 P D2 := ⟨rfl, h1, fun x hx => by rw [h2] at hx; (cases hx), fun n _ => rfl⟩
theorem Safe.write (h : Safe D2 P D) {n : Nat} (hn : ¬ P n) (b : List Nat) : Safe D2 P (Dk.write D n b) :=
  ⟨by rw [← h.len]; exact List.length_set, h.sure, fun x hx => by
    rcases List.mem_append.1 hx with hx | hx
    · exact h.waits x hx
    · rw [List.mem_singleton] at hx; subst hx; exact hn, fun m hm => by
    rw [← h.seen m hm]
    exact Dk.at_set_ne _ _ _ _ (fun e => hn (by rw [e]; exact hm))⟩
theorem Safe.wr (h : Safe D2 P D) {p : Nat} (b : List Nat) : ∀ k, k ≤ 4 → (∀ j, j < 4 → ¬ P (4 * p + j)) → Safe D2 P (Pg.wr D p b k)
  | 0, _, _ => h
  | k + 1, hk, hp => (Safe.wr h b k (by omega) hp).write (hp k (by omega)) _
theorem Safe.page (h : Safe D2 P D) {p : Nat} (hp : ∀ j, j < 4 → ¬ P (4 * p + j)) (e : Nat) (q : List Nat) : Safe D2 P (Pg.wD D p e q) := by
  unfold Pg.wD
  split
  · exact h.wr _ 4 (Nat.le_refl _) hp
  · exact h
theorem Safe.exw {ep : Nat} {l b : List Nat} (h : Safe D2 P D) : ∀ k, k ≤ l.length → (∀ p ∈ l, ∀ j, j < 4 → ¬ P (4 * p + j)) → Safe D2 P (Ex.wr D ep l b k)
  | 0, _, _ => h
  | k + 1, hk, hp => (Safe.exw h k (by omega) hp).page (hp _ (Ex.at_mem (by omega))) _ _
theorem Safe.ex (h : Safe D2 P D) {l : List Nat} (hp : ∀ p ∈ l, ∀ j, j < 4 → ¬ P (4 * p + j)) (ep : Nat) (b : List Nat) : Safe D2 P (Ex.wD D ep l b) := by
  unfold Ex.wD
  split
  · rename_i hM
    exact h.exw _ (by rw [hM.2.2]; exact Nat.le_refl _) hp
  · exact h
end
/-- the sectors of what was committed -/
def Prot (table : List Nat) (kept : List (Nat × Th)) (n : Nat) : Prop := n < 4 ∨ ∃ p, (p ∈ table ∨ ∃ q ∈ kept, p ∈ q.2.pages) ∧ 4 * p ≤ n ∧ n < 4 * p + 4
theorem Safe.put {D2 : Dk.Disk} {T : Sto} (hok : Ok T) (h : Safe D2 (Prot T.table T.kept) T.D) (id : Nat) (b : List Nat) : Safe D2 (Prot T.table T.kept) (putT T id b).D := by
  unfold putT
  split
  · refine h.ex (fun p hp j hj hc => ?_) _ _
    obtain ⟨h1, _, h3⟩ := hok.put_new hp
    rcases hc with hc | ⟨q, hq, a, b⟩
    · omega
    · obtain rfl : p = q := by omega
      exact h3 (hq.elim Or.inl (fun h => Or.inr (Or.inl h)))
  · exact h
theorem putT_kept (T : Sto) (id : Nat) (b : List Nat) : (putT T id b).kept = T.kept := by unfold putT; split <;> rfl
theorem Safe.all {D2 : Dk.Disk} {T : Sto} {l : List TgDeed} (hA : AllPut T l) (h : Safe D2 (Prot T.table T.kept) T.D) : Safe D2 (Prot T.table T.kept) (putAll T l).D ∧ (putAll T l).table = T.table ∧ (putAll T l).kept = T.kept := by
  induction l generalizing T with
  | nil => exact ⟨h, rfl, rfl⟩
  | cons x r ih =>
    have h1 := h.put (hA 0 (Nat.zero_lt_succ _)).1 x.id x.b
    have e1 := putT_table T x.id x.b
    have e2 := putT_kept T x.id x.b
    have hA2 : AllPut (putT T x.id x.b) r := fun j hj => by
      have := hA (j + 1) (by rw [List.length_cons]; omega)
      exact this
    obtain ⟨i1, i2, i3⟩ := ih hA2 (by rw [e1, e2]; exact h1)
    rw [e1, e2] at i1
    exact ⟨i1, i2.trans e1, i3.trans e2⟩
theorem rdE_same {D D' : Dk.Disk} (hl : D'.seen.length = D.seen.length) {ep : Nat} {l : List Nat} {n : Nat} (h : ∀ p ∈ l, ∀ i, i < 4 → Dk.at_ D'.seen (4 * p + i) = Dk.at_ D.seen (4 * p + i)) : ∀ k, k ≤ l.length → Ex.rdE D' ep l n k = Ex.rdE D ep l n k ∧ Ex.rdB D' l k = Ex.rdB D l k
  | 0, _ => ⟨rfl, rfl⟩
  | k + 1, hk => by
    obtain ⟨i1, i2⟩ := rdE_same hl h (ep := ep) (n := n) k (by omega)
    obtain ⟨a, b, c⟩ := Pg.r_same (p := Ex.at' l k) hl (h _ (Ex.at_mem (i := k) (by omega)))
    refine ⟨?_, ?_⟩
    · rw [Ex.rdE, Ex.rdE, i1, Ex.one, Ex.one, a, b, c]
    · rw [Ex.rdB, Ex.rdB, i2, c]
theorem ex_same {D D' : Dk.Disk} (hl : D'.seen.length = D.seen.length) {ep : Nat} {l : List Nat} {n : Nat} (h : ∀ p ∈ l, ∀ i, i < 4 → Dk.at_ D'.seen (4 * p + i) = Dk.at_ D.seen (4 * p + i)) : Ex.rE D' ep l n = Ex.rE D ep l n ∧ Ex.rB D' ep l n = Ex.rB D ep l n := by
  have hm : Ex.may D' l n ↔ Ex.may D l n := Ex.may_len hl
  have e : Ex.rE D' ep l n = Ex.rE D ep l n := by
    unfold Ex.rE
    by_cases hM : Ex.may D l n
    · rw [if_pos hM, if_pos (hm.2 hM)]
      exact (rdE_same hl h _ (by rw [hM.2.2]; exact Nat.le_refl _)).1
    · rw [if_neg hM, if_neg (fun x => hM (hm.1 x))]
  refine ⟨e, ?_⟩
  unfold Ex.rB
  rw [e]
  split
  · rename_i h0
    have hM : Ex.may D l n := by
      unfold Ex.rE at h0
      by_cases hM : Ex.may D l n
      · exact hM
      · rw [if_neg hM] at h0; cases h0
    exact (rdE_same hl h (ep := ep) (n := n) _ (by rw [hM.2.2]; exact Nat.le_refl _)).2
  · rfl
/-- which pages the table's are -/
theorem reads_table {D : Dk.Disk} {T : Sto} (h : readsP D = .ok T) (h0 : Rt.findE D = 0) : T.table = (Rt.findR D).first :: nums (Pg.rB D (Rt.findR D).first) ((Pg.rB D (Rt.findR D).first).length / 4) := by
  unfold readsP at h
  rw [h0, if_neg (by decide), if_neg (by decide)] at h
  split at h
  · cases h
  · split at h
    · cases h
    · split at h
      · cases h
      · split at h
        · cases h
        · split at h
          · cases h
          · split at h
            · cases h
            · split at h
              · cases h
              · cases h; rfl
/-- a disk that is alike where it counts is read alike -/
theorem reads_same {D D' : Dk.Disk} {T : Sto} (h : readsP D = .ok T) (h0 : Rt.findE D = 0) (hl : D'.seen.length = D.seen.length) (hr : ∀ n, n < 2 → Dk.at_ D'.seen n = Dk.at_ D.seen n) (hp : ∀ p ∈ T.table, ∀ i, i < 4 → Dk.at_ D'.seen (4 * p + i) = Dk.at_ D.seen (4 * p + i)) :
    readsP D' = .ok { T with D := D' } := by
  have ht := reads_table h h0
  obtain ⟨f1, f2, _⟩ := Rt.find_congr hl (hr 0 (by decide)) (hr 1 (by decide))
  obtain ⟨a, b, c⟩ := Pg.r_same hl (hp (Rt.findR D).first (by rw [ht]; exact List.mem_cons_self))
  have hx := fun ep n => ex_same hl (ep := ep) (n := n) (l := nums (Pg.rB D (Rt.findR D).first) ((Pg.rB D (Rt.findR D).first).length / 4)) (fun p hp' => hp p (by rw [ht]; exact List.mem_cons_of_mem _ hp'))
  have hm : many D' = many D := many_eq hl
  unfold readsP at h ⊢
  rw [f1, f2, a, b, c, (hx _ _).1, (hx _ _).2, hm]
  rw [h0, if_neg (by decide), if_neg (by decide)] at h ⊢
  split at h
  · cases h
  · rename_i g1
    rw [if_neg g1]
    split at h
    · cases h
    · rename_i g2
      rw [if_neg g2]
      split at h
      · cases h
      · rename_i g3
        rw [if_neg g3]
        split at h
        · cases h
        · rename_i g4
          rw [if_neg g4]
          split at h
          · cases h
          · rename_i g5
            rw [if_neg g5]
            split at h
            · cases h
            · rename_i S k g6
              first | (rw [g6]; simp only) | skip
              split at h
              · cases h
              · rename_i g7
                rw [if_neg g7]
                cases h
                rfl
theorem Ok.swapD {T : Sto} (h : Ok T) {D' : Dk.Disk} (hl : D'.seen.length = T.D.seen.length) : Ok { T with D := D' } := by
  have hm : many D' = many T.D := many_eq hl
  exact ⟨by show 32 ≤ D'.seen.length; rw [hl]; exact h.lo, by show D'.seen.length ≤ 16384; rw [hl]; exact h.hi, h.epoch, h.upn, h.upk, h.lenn, h.lenk, h.thn, h.thk, h.kf, h.nk, h.kk, h.nn, h.kn, h.tnod, h.tlen, h.tk, h.tn,
    fun x hx => by show 1 ≤ x ∧ x ≤ many D'; rw [hm]; exact h.rng x hx, fun x => by show T.S x = true ↔ 1 ≤ x ∧ x ≤ many D' ∧ ¬ Used T x; rw [hm]; exact h.free x⟩
end Sh
end Go.Proofs.YtnffigfafalocaaGreatDoor
namespace Go.Proofs.YtnffigfafalocaaGreatDoor
set_option maxRecDepth 100000
open Go Go.RowKit
set_option linter.unusedSimpArgs false
set_option linter.unusedVariables false
namespace Sh
end Sh
end Go.Proofs.YtnffigfafalocaaGreatDoor
