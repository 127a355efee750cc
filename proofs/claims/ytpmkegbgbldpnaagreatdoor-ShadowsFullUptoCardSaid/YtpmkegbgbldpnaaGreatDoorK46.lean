/-
  What a disk's store says when it is opened: plain.
  Layer 18's law: things that are put.
  Layer 18's law: things that are put, plain.
  Layer 18's law: what has asks, plain.
  Layer 18's laws: what is put, committed, gone and undone, plain.
-/
import Derived.Test.YtpmkegbgbldpnaaGreatDoorK45
import Derived.Test.YtpmkegbgbldpnaaGreatDoorK44
namespace Go.Proofs.YtpmkegbgbldpnaaGreatDoor
set_option maxRecDepth 100000
open Go Go.RowKit
set_option linter.unusedSimpArgs false
set_option linter.unusedVariables false
namespace Pg
theorem rB_le (D : Dk.Disk) (p : Nat) : (rB D p).length ≤ 240 := by
  unfold rB bodyOf
  split
  · split
    · rename_i h
      have hf : form (rd D p 4) := by
        unfold err at h
        by_cases hf : form (rd D p 4)
        · exact hf
        · rw [if_neg hf] at h; cases h
      rw [body, List.length_take]
      exact Nat.le_trans (Nat.min_le_left _ _) hf.2.1
    · exact Nat.zero_le _
  · exact Nat.zero_le _
theorem rd_lt {D : Dk.Disk} (h : Dk.Ok D) (p : Nat) : ∀ k, ∀ x ∈ rd D p k, x < 256
  | 0, x, hx => by cases hx
  | k + 1, x, hx => by
    rcases List.mem_append.1 hx with hx | hx
    · exact rd_lt h p k x hx
    · unfold Dk.bytesOf at hx
      split at hx
      · cases hx
      · unfold Dk.at_ at hx
        rw [List.getD_eq_getElem?_getD] at hx
        by_cases hl : 4 * p + k < D.seen.length
        · rw [List.getElem?_eq_getElem hl] at hx
          exact (h.seen _ (List.getElem_mem hl)).b.lt x hx
        · rw [List.getElem?_eq_none (by omega)] at hx
          have h0 : x ∈ (Dk.noughts).b := hx
          simp only [Dk.noughts] at h0
          rw [List.eq_of_mem_replicate h0]; decide
theorem rB_lt {D : Dk.Disk} (h : Dk.Ok D) (p : Nat) : ∀ x ∈ rB D p, x < 256 := fun x hx => by
  unfold rB bodyOf at hx
  split at hx
  · split at hx
    · exact rd_lt h p 4 x (List.mem_of_mem_drop (List.mem_of_mem_take hx))
    · cases hx
  · cases hx
end Pg
theorem Dk.at_lt {D : Dk.Disk} (h : Dk.Ok D) (n : Nat) : ∀ x ∈ (Dk.at_ D.seen n).b, x < 256 := fun x hx => by
  unfold Dk.at_ at hx
  rw [List.getD_eq_getElem?_getD] at hx
  by_cases hl : n < D.seen.length
  · rw [List.getElem?_eq_getElem hl] at hx
    exact (h.seen _ (List.getElem_mem hl)).b.lt x hx
  · rw [List.getElem?_eq_none (by omega)] at hx
    have h0 : x ∈ (Dk.noughts).b := hx
    simp only [Dk.noughts] at h0
    rw [List.eq_of_mem_replicate h0]; decide
theorem Rt.find_ok {D : Dk.Disk} (h : Dk.Ok D) : (Rt.findR D).Ok := by
  unfold Rt.findR
  split
  · split
    · exact Rt.say_ok (Dk.at_lt h 1)
    · exact Rt.say_ok (Dk.at_lt h 0)
  · exact ⟨by decide, by decide, by decide⟩
namespace Ex
theorem rdB_lt {D : Dk.Disk} (h : Dk.Ok D) (nums : List Nat) : ∀ k, ∀ x ∈ rdB D nums k, x < 256
  | 0, x, hx => by cases hx
  | k + 1, x, hx => by
    rcases List.mem_append.1 hx with hx | hx
    · exact rdB_lt h nums k x hx
    · exact Pg.rB_lt h _ x hx
theorem rB_lt {D : Dk.Disk} (h : Dk.Ok D) (ep : Nat) (nums : List Nat) (n : Nat) : ∀ x ∈ rB D ep nums n, x < 256 := fun x hx => by
  unfold rB at hx
  split at hx
  · exact rdB_lt h nums _ x hx
  · cases hx
theorem rdB_le (D : Dk.Disk) (nums : List Nat) : ∀ k, (rdB D nums k).length ≤ 240 * k
  | 0 => Nat.le_refl _
  | k + 1 => by
    rw [rdB, List.length_append]
    have := rdB_le D nums k
    have := Pg.rB_le D (at' nums k)
    omega
theorem rB_le {D : Dk.Disk} {ep : Nat} {nums : List Nat} {n : Nat} (h : nums.length ≤ 60) : (rB D ep nums n).length ≤ 14400 := by
  unfold rB
  split
  · rename_i h0
    have hM : may D nums n := by
      unfold rE at h0
      by_cases hM : may D nums n
      · exact hM
      · rw [if_neg hM] at h0; cases h0
    have := rdB_le D nums (pages n)
    have := hM.2.2
    omega
  · exact Nat.zero_le _
end Ex
namespace Sh
/-- so it is read: an error, or a store (what there is now is not made yet) -/
def readsP (D : Dk.Disk) : Except Nat Sto :=
  if Rt.findE D = 7 then .ok ⟨D, upTo 1 (1 + many D), 0, [], [], [], 0⟩
  else if Rt.findE D ≠ 0 then .error (Rt.findE D)
  else if (Rt.findR D).first < 1 ∨ many D < (Rt.findR D).first then .error 4
  else if Pg.rE D (Rt.findR D).first ≠ 0 then .error (Pg.rE D (Rt.findR D).first)
  else if Pg.rN D (Rt.findR D).first ≠ (Rt.findR D).epoch ∨ (Pg.rB D (Rt.findR D).first).length % 4 ≠ 0 ∨ (Pg.rB D (Rt.findR D).first).length / 4 ≠ Ex.pages (Rt.findR D).bytes then .error 4
  else if marks (upTo 1 (1 + many D)) ((Rt.findR D).first :: nums (Pg.rB D (Rt.findR D).first) ((Pg.rB D (Rt.findR D).first).length / 4)) = false then .error 4
  else if Ex.rE D (Rt.findR D).epoch (nums (Pg.rB D (Rt.findR D).first) ((Pg.rB D (Rt.findR D).first).length / 4)) (Rt.findR D).bytes ≠ 0 then .error (Ex.rE D (Rt.findR D).epoch (nums (Pg.rB D (Rt.findR D).first) ((Pg.rB D (Rt.findR D).first).length / 4)) (Rt.findR D).bytes)
  else match rowsP (Rt.findR D).epoch (Ex.rB D (Rt.findR D).epoch (nums (Pg.rB D (Rt.findR D).first) ((Pg.rB D (Rt.findR D).first).length / 4)) (Rt.findR D).bytes) (-1) (Fr.sub (upTo 1 (1 + many D)) ((Rt.findR D).first :: nums (Pg.rB D (Rt.findR D).first) ((Pg.rB D (Rt.findR D).first).length / 4))) [] with
    | none => .error 4
    | some (S, k) => if 64 < k.length then .error 4 else .ok ⟨D, S, (Rt.findR D).epoch, [], k, (Rt.findR D).first :: nums (Pg.rB D (Rt.findR D).first) ((Pg.rB D (Rt.findR D).first).length / 4), 0⟩
end Sh
end Go.Proofs.YtpmkegbgbldpnaaGreatDoor
namespace Go.Proofs.YtpmkegbgbldpnaaGreatDoor
open Go Go.RowKit
set_option linter.unusedSimpArgs false
set_option linter.unusedVariables false
namespace Sh
end Sh
/-- the cells of things, where they lie -/
def TgRow (w : World) (ad : Option Addr) (l : List TgDeed) : Prop := ∀ i x, l[i]? = some x → ∃ c o, ad = some ⟨c, o, none⟩ ∧ ∀ j, j < 2 → w.cell? ⟨c, o + i * 2 + j, none⟩ = x.cells[j]?
/-- their bytes are old ones -/
def TgGood (w0 : World) (l : List TgDeed) : Prop := ∀ x ∈ l, x.id < 4294967296 ∧ Rd w0 x.b_a (nums .u8 x.b) ∧ x.b.length ≤ x.b_cap ∧ ∀ y ∈ x.b, y < 256
theorem IsTgDeeds.good {w : World} {ad : Option Addr} {l : List TgDeed} (h : IsTgDeeds w ad l) : TgGood w l := fun x hx => by
  obtain ⟨i, hi, e⟩ := List.mem_iff_getElem.1 hx
  obtain ⟨c, o, _, ha⟩ := h i x (by rw [List.getElem?_eq_getElem hi, e])
  exact ⟨ha.id_lt, ha.b_rd, ha.b_le, ha.b_each⟩
/-- wherever a store stands among these, things lie so -/
def TgAny (w0 : World) (s d : Nat) (E : List Part) (a : Option Addr) (l : List TgDeed) : Prop := ∀ w' f' T', Sg true w0 w' s d f' T' E → TgRow w' a l
section
variable {w0 w w' : World} {s d f : Nat} {T : Sh.Sto} {E : List Part}
end
end Go.Proofs.YtpmkegbgbldpnaaGreatDoor
namespace Go.Proofs.YtpmkegbgbldpnaaGreatDoor
set_option maxRecDepth 100000
open Go Go.RowKit
set_option linter.unusedSimpArgs false
set_option linter.unusedVariables false
namespace Sh
def putC (c : List (Nat × List Nat)) (l : List TgDeed) : List (Nat × List Nat) := l.foldl (fun c x => Mp.put c x.id x.b) c
def pgSum (l : List TgDeed) : Nat := (l.map fun x => Ex.pages x.b.length).sum
theorem putT_table (T : Sto) (id : Nat) (b : List Nat) : (putT T id b).table = T.table := by unfold putT; split <;> rfl
theorem putT_ep (T : Sto) (id : Nat) (b : List Nat) : (putT T id b).epoch = T.epoch := by unfold putT; split <;> rfl
theorem putT_puts (T : Sto) (id : Nat) (b : List Nat) : (putT T id b).puts ≤ T.puts + 1 := by
  unfold putT; split
  · exact Nat.le_refl _
  · omega
/-- what fits takes 62 pages at most -/
theorem bulk_pages (l : List TgDeed) : 240 * pgSum l ≤ bulk l ∧ 500 * l.length ≤ bulk l := by
  induction l with
  | nil => exact ⟨Nat.le_refl _, Nat.le_refl _⟩
  | cons x r ih =>
    have e1 : pgSum (x :: r) = Ex.pages x.b.length + pgSum r := by simp [pgSum]
    have e2 : bulk (x :: r) = 500 + x.b.length + bulk r := by simp [bulk]
    rw [e1, e2, List.length_cons]
    have : 240 * Ex.pages x.b.length ≤ 500 + x.b.length := by unfold Ex.pages; omega
    omega
end Sh
end Go.Proofs.YtpmkegbgbldpnaaGreatDoor
namespace Go.Proofs.YtpmkegbgbldpnaaGreatDoor
open Go Go.RowKit
set_option linter.unusedSimpArgs false
set_option linter.unusedVariables false
namespace Sh
/-- so many ids -/
def cnt : List TgDeed → Nat
  | [] => 0
  | x :: r => (if r.any (fun y => y.id == x.id) then 0 else 1) + cnt r
/-- what stands last under an id -/
def lastB : List TgDeed → Nat → Option (List Nat)
  | [], _ => none
  | x :: r, id => match lastB r id with
    | some b => some b
    | none => if x.id = id then some x.b else none
theorem putC_look (l : List TgDeed) (c : List (Nat × List Nat)) (id : Nat) : Mp.look (putC c l) id = match lastB l id with
    | some b => some b
    | none => Mp.look c id := by
  induction l generalizing c with
  | nil => rfl
  | cons x r ih =>
    show Mp.look (putC (Mp.put c x.id x.b) r) id = _
    rw [ih, lastB]
    cases lastB r id with
    | some b => rfl
    | none =>
      by_cases e : x.id = id
      · subst e; simp [Mp.look_put_same]
      · simp [e, Mp.look_put_other _ (fun h => e h.symm)]
theorem lastB_none (l : List TgDeed) (id : Nat) : lastB l id = none ↔ l.any (fun y => y.id == id) = false := by
  induction l with
  | nil => simp [lastB]
  | cons x r ih =>
    rw [lastB, List.any_cons]
    cases h : lastB r id with
    | some b =>
      have : ¬ (r.any (fun y => y.id == id) = false) := fun e => by rw [ih.2 e] at h; cases h
      simp only [Bool.not_eq_false] at this
      simp [this]
    | none =>
      rw [ih.1 h]
      by_cases e : x.id = id <;> simp [e]
theorem lastB_drop {l : List TgDeed} {i : Nat} {id : Nat} {b : List Nat} (h : lastB (l.drop i) id = some b) : lastB l id = some b := by
  induction i generalizing l with
  | zero => exact h
  | succ i ih =>
    cases l with
    | nil => simpa using h
    | cons x r =>
      have := ih (l := r) h
      rw [lastB, this]
/-- the one that counts -/
theorem look_last {l : List TgDeed} {i : Nat} (hi : i < l.length) (h : (l.drop (i + 1)).any (fun y => y.id == l[i].id) = false) : Mp.look (putC [] l) l[i].id = some l[i].b := by
  have e : lastB (l.drop i) l[i].id = some l[i].b := by
    rw [List.drop_eq_getElem_cons hi, lastB, (lastB_none _ _).2 h]
    simp
  rw [putC_look, lastB_drop e]
theorem cnt_drop {l : List TgDeed} {i : Nat} (hi : i < l.length) : cnt (l.drop i) = (if (l.drop (i + 1)).any (fun y => y.id == l[i].id) then 0 else 1) + cnt (l.drop (i + 1)) := by
  rw [List.drop_eq_getElem_cons hi, cnt]
theorem any_drop {l : List TgDeed} {k : Nat} (hk : k < l.length) (id : Nat) : (l.drop k).any (fun y => y.id == id) = (decide (l[k].id = id) || (l.drop (k + 1)).any (fun y => y.id == id)) := by
  rw [List.drop_eq_getElem_cons hk, List.any_cons]
  rfl
theorem cnt_le (l : List TgDeed) : cnt l ≤ l.length := by
  induction l with
  | nil => exact Nat.le_refl _
  | cons x r ih =>
    rw [cnt, List.length_cons]
    split <;> omega
theorem filter_put {c : List (Nat × List Nat)} (h : Mp.Up c) (id : Nat) (b : List Nat) (q : Nat → Bool) :
    ((Mp.put c id b).filter fun p => q p.1).length = (c.filter fun p => q p.1 && !decide (p.1 = id)).length + if q id then 1 else 0 := by
  induction c with
  | nil => simp only [Mp.put, List.filter_cons, List.filter_nil]; split <;> simp
  | cons p r ih =>
    obtain ⟨k, x⟩ := p
    obtain ⟨h1, h2⟩ := List.pairwise_cons.1 h
    have ih := ih h2
    have rest : (r.filter fun p => q p.1 && !decide (p.1 = k)) = r.filter fun p => q p.1 := List.filter_congr (fun p hp => by
      have := h1 p hp
      simp only at this
      rw [decide_eq_false (by omega)]; simp)
    unfold Mp.put
    split
    · rename_i hk
      have e : ((k, x) :: r).filter (fun p => q p.1 && !decide (p.1 = id)) = ((k, x) :: r).filter (fun p => q p.1) := List.filter_congr (fun p hp => by
        have : p.1 ≠ id := by
          rcases List.mem_cons.1 hp with rfl | hp
          · show k ≠ id; omega
          · have := h1 p hp; simp only at this; omega
        simp [this])
      rw [e, List.filter_cons]
      split <;> simp
    · split
      · rename_i h3 h4
        subst h4
        rw [List.filter_cons, List.filter_cons]
        simp only [decide_true, Bool.not_true, Bool.and_false, Bool.false_eq_true, if_false]
        rw [rest]
        split <;> simp
      · rename_i h3 h4
        rw [List.filter_cons, List.filter_cons]
        have e : decide (k = id) = false := decide_eq_false (by omega)
        simp only [e, Bool.not_false, Bool.and_true]
        split
        · rw [List.length_cons, List.length_cons, ih]; omega
        · exact ih
theorem putC_count {c : List (Nat × List Nat)} (l : List TgDeed) (h : Mp.Up c) : (putC c l).length = (c.filter fun p => !(l.any fun y => y.id == p.1)).length + cnt l := by
  induction l generalizing c with
  | nil => show c.length = (c.filter fun p => true).length + 0; rw [List.filter_eq_self.2 (fun _ _ => rfl)]; rfl
  | cons x r ih =>
    show (putC (Mp.put c x.id x.b) r).length = _
    rw [ih (Mp.up_put h x.id x.b), filter_put h x.id x.b (fun i => !(r.any fun y => y.id == i)), cnt]
    have e : (c.filter fun p => (!(r.any fun y => y.id == p.1)) && !decide (p.1 = x.id)) = c.filter fun p => !((x :: r).any fun y => y.id == p.1) := List.filter_congr (fun p hp => by
      rw [List.any_cons, Bool.not_or, Bool.and_comm]
      congr 1
      by_cases e : p.1 = x.id
      · simp [e]
      · have e2 : ¬ x.id = p.1 := fun h => e h.symm
        simp [e, e2])
    rw [e]
    cases r.any (fun y => y.id == x.id) <;> simp <;> omega
theorem putC_len (l : List TgDeed) : (putC [] l).length = cnt l := by
  rw [putC_count l List.Pairwise.nil]
  simp
theorem putC_append (c : List (Nat × List Nat)) (l m : List TgDeed) : putC c (l ++ m) = putC (putC c l) m := by rw [putC, List.foldl_append]; rfl
end Sh
end Go.Proofs.YtpmkegbgbldpnaaGreatDoor
namespace Go.Proofs.YtpmkegbgbldpnaaGreatDoor
set_option maxRecDepth 100000
open Go Go.RowKit
set_option linter.unusedSimpArgs false
set_option linter.unusedVariables false
namespace Sh
section
variable {T T' : Sto} {c c' k : List (Nat × List Nat)} {e n : Nat}
end
/-- things that have room -/
structure Fits (l : List TgDeed) : Prop where
  len : l.length ≤ 30
  pgs : pgSum l ≤ 62
  each : ∀ x ∈ l, x.id < 4294967296 ∧ x.b.length ≤ 65536
theorem fits_of {l : List TgDeed} (h : bulk l ≤ 15000) (hi : ∀ x ∈ l, x.id < 4294967296) : Fits l := by
  obtain ⟨h1, h2⟩ := bulk_pages l
  refine ⟨by omega, by omega, fun x hx => ⟨hi x hx, ?_⟩⟩
  have : 500 + x.b.length ≤ bulk l := by
    clear h h1 h2 hi
    induction l with
    | nil => cases hx
    | cons y r ih =>
      have e : bulk (y :: r) = 500 + y.b.length + bulk r := by simp [bulk]
      rcases List.mem_cons.1 hx with rfl | hx
      · omega
      · have := ih hx; omega
  omega
end Sh
end Go.Proofs.YtpmkegbgbldpnaaGreatDoor
