/-
  Layer 18's law: things that are put, plain.
  Layer 18's law: what has asks, plain.
  Layer 18's laws: what is put, committed, gone and undone, plain.
  Package drydocklaw01 by its own text: SameBytes.
  Package drydocklaw01 by its own text: SameNumbers of lists that are alike, SameBytes likewise, Beyond of one and of two; bytes as a text.
-/
import Derived.Test.YtpmkegbgbldpnaaGreatDoorK48
import Derived.Test.YtpmkegbgbldpnaaGreatDoorRows
import Derived.Test.YtpmkegbgbldpnaaGreatDoorK01
import Derived.Deep.LoopGhost
import Derived.Test.YtpmkegbgbldpnaaGreatDoorK11
import Derived.Laws.BytesArg
import Derived.Test.YtpmkegbgbldpnaaGreatDoorK22
namespace Go.Proofs.YtpmkegbgbldpnaaGreatDoor
set_option maxRecDepth 100000
open Go Go.RowKit
set_option linter.unusedSimpArgs false
set_option linter.unusedVariables false
namespace Sh
def putC (c : List (Nat × List Nat)) (l : List TgDeed) : List (Nat × List Nat) := l.foldl (fun c x => Mp.put c x.id x.b) c
def pgSum (l : List TgDeed) : Nat := (l.map fun x => Ex.pages x.b.length).sum
theorem putT_table (T : Sto) (id : Nat) (b : List Nat) : (putT T id b).table = T.table := by unfold putT; split <;> rfl
theorem putT_many (T : Sto) (id : Nat) (b : List Nat) : many (putT T id b).D = many T.D := by
  unfold putT; split
  · exact many_eq (Ex.wD_len _ _ _ _)
  · rfl
theorem putT_ep (T : Sto) (id : Nat) (b : List Nat) : (putT T id b).epoch = T.epoch := by unfold putT; split <;> rfl
theorem putT_puts (T : Sto) (id : Nat) (b : List Nat) : (putT T id b).puts ≤ T.puts + 1 := by
  unfold putT; split
  · exact Nat.le_refl _
  · omega
theorem putAll_is {T : Sto} {c k : List (Nat × List Nat)} (l : List TgDeed) (h : Has T c k) (hr : Rt.At T.D T.epoch) (hid : ∀ x ∈ l, x.id < 4294967296 ∧ x.b.length ≤ 65536)
    (hroom : T.table.length + takes k + takes c + pgSum l ≤ many T.D) (hcount : c.length + l.length ≤ 64) (hw : T.D.waits.length + 4 * pgSum l ≤ 90000) (hp : T.puts + l.length ≤ 1000000) :
    AllPut T l ∧ Has (putAll T l) (putC c l) k ∧ Rt.At (putAll T l).D (putAll T l).epoch ∧ (putAll T l).table = T.table ∧ many (putAll T l).D = many T.D ∧ (putAll T l).epoch = T.epoch ∧ (putAll T l).D.waits.length ≤ T.D.waits.length + 4 * pgSum l ∧ (putAll T l).puts ≤ T.puts + l.length ∧ takes (putC c l) ≤ takes c + pgSum l ∧ (putC c l).length ≤ c.length + l.length := by
  induction l generalizing T c with
  | nil => exact ⟨fun j hj => absurd hj (Nat.not_lt_zero _), h, hr, rfl, rfl, rfl, Nat.le_add_right _ _, Nat.le_refl _, Nat.le_add_right _ _, Nat.le_refl _⟩
  | cons x r ih =>
    have hx := hid x List.mem_cons_self
    have hs : pgSum (x :: r) = Ex.pages x.b.length + pgSum r := by simp [pgSum]
    rw [hs] at hroom hw
    rw [List.length_cons] at hcount hp
    have hfree := h.room
    have he : putE T x.id x.b.length = 0 := putE_zero hx.2 (Or.inl (by rw [h.len]; omega)) (by omega)
    have h1 := h.put hx.1 he
    have e1 := putT_table T x.id x.b
    have e2 := putT_many T x.id x.b
    have e3 := putT_ep T x.id x.b
    have e4 := waits_put T x.id x.b
    have e5 := putT_puts T x.id x.b
    have e6 := takes_put_le c x.id x.b
    have e7 := Mp.put_length_le c x.id x.b
    obtain ⟨i1, i2, i3, i4, i5, i6, i7, i8, i9, i10⟩ := ih h1 (h.root_put hr x.id x.b) (fun y hy => hid y (List.mem_cons_of_mem _ hy)) (by rw [e1, e2]; omega) (by omega) (by omega) (by omega)
    refine ⟨fun j hj => ?_, i2, i3, i4.trans e1, i5.trans e2, i6.trans e3, ?_, ?_, ?_, ?_⟩
    · cases j with
      | zero => exact ⟨h.ok, he, by show T.D.waits.length ≤ _; omega, by show T.puts ≤ _; omega⟩
      | succ j => exact i1 j (by rw [List.length_cons] at hj; omega)
    · rw [hs]; show (putAll (putT T x.id x.b) r).D.waits.length ≤ _; omega
    · rw [List.length_cons]; show (putAll (putT T x.id x.b) r).puts ≤ _; omega
    · rw [hs]; show takes (putC (Mp.put c x.id x.b) r) ≤ _; omega
    · rw [List.length_cons]; show (putC (Mp.put c x.id x.b) r).length ≤ _; omega
/-- what fits takes 62 pages at most -/
theorem bulk_pages (l : List TgDeed) : 240 * pgSum l ≤ bulk l ∧ 500 * l.length ≤ bulk l := by
  induction l with
  | nil => exact ⟨Nat.le_refl _, Nat.le_refl _⟩
  | cons x r ih =>
    have e1 : pgSum (x :: r) = Ex.pages x.b.length + pgSum r := by simp [pgSum]
    have e2 : bulk (x :: r) = 500 + x.b.length + bulk r := by simp [bulk]
    rw [e1, e2, List.length_cons]
    have : 240 * Ex.pages x.b.length ≤ 500 + x.b.length := by unfold Ex.pages; omega
    omega
end Sh
end Go.Proofs.YtpmkegbgbldpnaaGreatDoor
namespace Go.Proofs.YtpmkegbgbldpnaaGreatDoor
open Go Go.RowKit
set_option linter.unusedSimpArgs false
set_option linter.unusedVariables false
namespace Sh
/-- so many ids -/
def cnt : List TgDeed → Nat
  | [] => 0
  | x :: r => (if r.any (fun y => y.id == x.id) then 0 else 1) + cnt r
/-- what stands last under an id -/
def lastB : List TgDeed → Nat → Option (List Nat)
  | [], _ => none
  | x :: r, id => match lastB r id with
    | some b => some b
    | none => if x.id = id then some x.b else none
theorem putC_look (l : List TgDeed) (c : List (Nat × List Nat)) (id : Nat) : Mp.look (putC c l) id = match lastB l id with
    | some b => some b
    | none => Mp.look c id := by
  induction l generalizing c with
  | nil => rfl
  | cons x r ih =>
    show Mp.look (putC (Mp.put c x.id x.b) r) id = _
    rw [ih, lastB]
    cases lastB r id with
    | some b => rfl
    | none =>
      by_cases e : x.id = id
      · subst e; simp [Mp.look_put_same]
      · simp [e, Mp.look_put_other _ (fun h => e h.symm)]
theorem lastB_none (l : List TgDeed) (id : Nat) : lastB l id = none ↔ l.any (fun y => y.id == id) = false := by
  induction l with
  | nil => simp [lastB]
  | cons x r ih =>
    rw [lastB, List.any_cons]
    cases h : lastB r id with
    | some b =>
      have : ¬ (r.any (fun y => y.id == id) = false) := fun e => by rw [ih.2 e] at h; cases h
      simp only [Bool.not_eq_false] at this
      simp [this]
    | none =>
      rw [ih.1 h]
      by_cases e : x.id = id <;> simp [e]
theorem lastB_drop {l : List TgDeed} {i : Nat} {id : Nat} {b : List Nat} (h : lastB (l.drop i) id = some b) : lastB l id = some b := by
  induction i generalizing l with
  | zero => exact h
  | succ i ih =>
    cases l with
    | nil => simpa using h
    | cons x r =>
      have := ih (l := r) h
      rw [lastB, this]
/-- the one that counts -/
theorem look_last {l : List TgDeed} {i : Nat} (hi : i < l.length) (h : (l.drop (i + 1)).any (fun y => y.id == l[i].id) = false) : Mp.look (putC [] l) l[i].id = some l[i].b := by
  have e : lastB (l.drop i) l[i].id = some l[i].b := by
    rw [List.drop_eq_getElem_cons hi, lastB, (lastB_none _ _).2 h]
    simp
  rw [putC_look, lastB_drop e]
theorem cnt_drop {l : List TgDeed} {i : Nat} (hi : i < l.length) : cnt (l.drop i) = (if (l.drop (i + 1)).any (fun y => y.id == l[i].id) then 0 else 1) + cnt (l.drop (i + 1)) := by
  rw [List.drop_eq_getElem_cons hi, cnt]
theorem any_drop {l : List TgDeed} {k : Nat} (hk : k < l.length) (id : Nat) : (l.drop k).any (fun y => y.id == id) = (decide (l[k].id = id) || (l.drop (k + 1)).any (fun y => y.id == id)) := by
  rw [List.drop_eq_getElem_cons hk, List.any_cons]
  rfl
theorem cnt_le (l : List TgDeed) : cnt l ≤ l.length := by
  induction l with
  | nil => exact Nat.le_refl _
  | cons x r ih =>
    rw [cnt, List.length_cons]
    split <;> omega
theorem filter_put {c : List (Nat × List Nat)} (h : Mp.Up c) (id : Nat) (b : List Nat) (q : Nat → Bool) :
    ((Mp.put c id b).filter fun p => q p.1).length = (c.filter fun p => q p.1 && !decide (p.1 = id)).length + if q id then 1 else 0 := by
  induction c with
  | nil => simp only [Mp.put, List.filter_cons, List.filter_nil]; split <;> simp
  | cons p r ih =>
    obtain ⟨k, x⟩ := p
    obtain ⟨h1, h2⟩ := List.pairwise_cons.1 h
    have ih := ih h2
    have rest : (r.filter fun p => q p.1 && !decide (p.1 = k)) = r.filter fun p => q p.1 := List.filter_congr (fun p hp => by
      have := h1 p hp
      simp only at this
      rw [decide_eq_false (by omega)]; simp)
    unfold Mp.put
    split
    · rename_i hk
      have e : ((k, x) :: r).filter (fun p => q p.1 && !decide (p.1 = id)) = ((k, x) :: r).filter (fun p => q p.1) := List.filter_congr (fun p hp => by
        have : p.1 ≠ id := by
          rcases List.mem_cons.1 hp with rfl | hp
          · show k ≠ id; omega
          · have := h1 p hp; simp only at this; omega
        simp [this])
      rw [e, List.filter_cons]
      split <;> simp
    · split
      · rename_i h3 h4
        subst h4
        rw [List.filter_cons, List.filter_cons]
        simp only [decide_true, Bool.not_true, Bool.and_false, Bool.false_eq_true, if_false]
        rw [rest]
        split <;> simp
      · rename_i h3 h4
        rw [List.filter_cons, List.filter_cons]
        have e : decide (k = id) = false := decide_eq_false (by omega)
        simp only [e, Bool.not_false, Bool.and_true]
        split
        · rw [List.length_cons, List.length_cons, ih]; omega
        · exact ih
theorem putC_count {c : List (Nat × List Nat)} (l : List TgDeed) (h : Mp.Up c) : (putC c l).length = (c.filter fun p => !(l.any fun y => y.id == p.1)).length + cnt l := by
  induction l generalizing c with
  | nil => show c.length = (c.filter fun p => true).length + 0; rw [List.filter_eq_self.2 (fun _ _ => rfl)]; rfl
  | cons x r ih =>
    show (putC (Mp.put c x.id x.b) r).length = _
    rw [ih (Mp.up_put h x.id x.b), filter_put h x.id x.b (fun i => !(r.any fun y => y.id == i)), cnt]
    have e : (c.filter fun p => (!(r.any fun y => y.id == p.1)) && !decide (p.1 = x.id)) = c.filter fun p => !((x :: r).any fun y => y.id == p.1) := List.filter_congr (fun p hp => by
      rw [List.any_cons, Bool.not_or, Bool.and_comm]
      congr 1
      by_cases e : p.1 = x.id
      · simp [e]
      · have e2 : ¬ x.id = p.1 := fun h => e h.symm
        simp [e, e2])
    rw [e]
    cases r.any (fun y => y.id == x.id) <;> simp <;> omega
theorem putC_len (l : List TgDeed) : (putC [] l).length = cnt l := by
  rw [putC_count l List.Pairwise.nil]
  simp
end Sh
end Go.Proofs.YtpmkegbgbldpnaaGreatDoor
namespace Go.Proofs.YtpmkegbgbldpnaaGreatDoor
set_option maxRecDepth 100000
open Go Go.RowKit
set_option linter.unusedSimpArgs false
set_option linter.unusedVariables false
namespace Sh
/-- a store of a disk of 1200 sectors, at rest -/
structure Calm (T : Sto) (c : List (Nat × List Nat)) (e n : Nat) : Prop where
  has : Has T c c
  root : Rt.At T.D T.epoch
  ep : T.epoch = e
  tab : T.table.length = Ex.pages (tabN c) + 1
  calm : ∀ p ∈ T.now, p.2.fresh = false
  many : Sh.many T.D = 299
  waits : T.D.waits.length ≤ n
  puts : T.puts = 64
/-- how much room things take -/
structure Small (c : List (Nat × List Nat)) (n m : Nat) : Prop where
  len : c.length ≤ n
  takes : Sh.takes c ≤ m
theorem Small.tab {c : List (Nat × List Nat)} (h : Small c 31 79) : Ex.pages (tabN c) ≤ 3 := by
  have h1 := h.len
  have h2 := h.takes
  unfold Ex.pages tabN
  omega
theorem Small.mono {c : List (Nat × List Nat)} {n m n' m' : Nat} (h : Small c n m) (hn : n ≤ n') (hm : m ≤ m') : Small c n' m' := ⟨Nat.le_trans h.len hn, Nat.le_trans h.takes hm⟩
section
variable {T T' : Sto} {c c' k : List (Nat × List Nat)} {e n : Nat}
theorem Calm.free (h : Calm T c e n) : (Fr.lst T.S).length + (Ex.pages (tabN c) + 1) + takes c = 299 := by
  have := h.has.calm h.calm
  rw [h.tab, h.many] at this
  exact this
theorem Calm.free_eq {e' n' : Nat} (h : Calm T c e n) (h' : Calm T' c e' n') : (Fr.lst T'.S).length = (Fr.lst T.S).length := by
  have h1 := h.free
  have h2 := h'.free
  omega
/-- a commit -/
theorem calm_com (h : Has T c k) (hr : Rt.At T.D T.epoch) (hm : Sh.many T.D = 299) (hc : Small c 31 79) (hk : Small k 31 79) (ht : T.table.length ≤ 4) (he : T.epoch < 1000) : comE T = 0 ∧ Calm (comT T) c (T.epoch + 1) 0 := by
  have h1 := hc.tab
  have h2 := h.room
  have h3 := hc.takes
  have h4 := hk.takes
  have hf := h.com_full (by omega) (by omega)
  obtain ⟨a1, a2, a3, a4, a5, a6⟩ := h.com_yes hr hf (by omega)
  refine ⟨a1, h.com a1, a2, a3, a4, a5, ?_, Nat.le_of_eq (waits_com T a1), a6⟩
  have e : (comT T).D.seen.length = T.D.seen.length := by
    have hr : Rt.wE (comD2 T) (comR T) = 0 := by have := a1; rw [comE, if_pos hf] at this; exact this
    rw [comT, if_pos hf, if_pos hr]
    show (Rt.wD _ _).seen.length = _
    rw [wD_root_len, comD2_len]
  rw [many_eq e, hm]
theorem Calm.com (h : Calm T c e n) (hc : Small c 31 79) (he : e < 1000) : comE T = 0 ∧ Calm (comT T) c (e + 1) 0 := by
  have h1 := hc.tab
  have := calm_com h.has h.root h.many hc hc (by have := h.tab; omega) (by have := h.ep; omega)
  rw [h.ep] at this
  exact this
/-- beside what is committed, other things -/
structure Busy (T : Sto) (c k : List (Nat × List Nat)) (e n : Nat) : Prop where
  has : Has T c k
  root : Rt.At T.D T.epoch
  ep : T.epoch = e
  tab : T.table.length = Ex.pages (tabN k) + 1
  many : Sh.many T.D = 299
  waits : T.D.waits.length ≤ n
theorem Calm.busy (h : Calm T c e n) : Busy T c c e n := ⟨h.has, h.root, h.ep, h.tab, h.many, h.waits⟩
theorem Busy.del (h : Busy T c k e n) (id : Nat) : Busy (delT T id) (Mp.del c id) k e n := ⟨h.has.del id, h.root, h.ep, h.tab, h.many, h.waits⟩
theorem Busy.undo (h : Busy T c k e n) : Calm (undoT T) k e n := ⟨h.has.undo, h.root, h.ep, h.tab, undo_calm T, h.many, h.waits, rfl⟩
theorem Busy.com (h : Busy T c k e n) (hc : Small c 31 79) (hk : Small k 31 79) (he : e < 1000) : comE T = 0 ∧ Calm (comT T) c (e + 1) 0 := by
  have h1 := hk.tab
  have := calm_com h.has h.root h.many hc hk (by have := h.tab; omega) (by have := h.ep; omega)
  rw [h.ep] at this
  exact this
end
/-- things that have room -/
structure Fits (l : List TgDeed) : Prop where
  len : l.length ≤ 30
  pgs : pgSum l ≤ 62
  each : ∀ x ∈ l, x.id < 4294967296 ∧ x.b.length ≤ 65536
theorem fits_of {l : List TgDeed} (h : bulk l ≤ 15000) (hi : ∀ x ∈ l, x.id < 4294967296) : Fits l := by
  obtain ⟨h1, h2⟩ := bulk_pages l
  refine ⟨by omega, by omega, fun x hx => ⟨hi x hx, ?_⟩⟩
  have : 500 + x.b.length ≤ bulk l := by
    clear h h1 h2 hi
    induction l with
    | nil => cases hx
    | cons y r ih =>
      have e : bulk (y :: r) = 500 + y.b.length + bulk r := by simp [bulk]
      rcases List.mem_cons.1 hx with rfl | hx
      · omega
      · have := ih hx; omega
  omega
theorem small_put {c : List (Nat × List Nat)} {l : List TgDeed} {n m : Nat} (h : Small c n m) : Small (putC c l) (n + l.length) (m + pgSum l) := by
  induction l generalizing c n m with
  | nil => exact h
  | cons x r ih =>
    have e1 : pgSum (x :: r) = Ex.pages x.b.length + pgSum r := by simp [pgSum]
    have h1 : Small (Mp.put c x.id x.b) (n + 1) (m + Ex.pages x.b.length) := ⟨Nat.le_trans (Mp.put_length_le c x.id x.b) (Nat.add_le_add_right h.len 1), Nat.le_trans (takes_put_le c x.id x.b) (Nat.add_le_add_right h.takes _)⟩
    have h2 := ih h1
    rw [e1, List.length_cons]
    exact h2.mono (by omega) (by omega)
theorem small_nil : Small [] 0 0 := ⟨Nat.le_refl _, Nat.le_refl _⟩
theorem Fits.small {l : List TgDeed} (h : Fits l) : Small (putC [] l) 30 62 := (small_put small_nil).mono (by have := h.len; omega) (by have := h.pgs; omega)
theorem new_many : many (newS (Dk.new 1200)).D = 299 := by
  have : (Dk.new 1200).seen.length = 1200 := by simp [Dk.new]
  show many (Dk.new 1200) = 299
  rw [many, this]; rfl
theorem new_has : Has (newS (Dk.new 1200)) [] [] := by
  have : (Dk.new 1200).seen.length = 1200 := by simp [Dk.new]
  exact Has.new (by rw [this]; decide) (by rw [this]; decide)
/-- the first things -/
theorem first_put {l : List TgDeed} (hl : l.length ≤ 31) (hp : pgSum l ≤ 79) (hi : ∀ x ∈ l, x.id < 4294967296 ∧ x.b.length ≤ 65536) :
    AllPut (newS (Dk.new 1200)) l ∧ ∀ T, T = putAll (newS (Dk.new 1200)) l → Has T (putC [] l) [] ∧ T.D.waits.length ≤ 1000 ∧ comE T = 0 ∧ Calm (comT T) (putC [] l) 1 0 := by
  have e0 : (newS (Dk.new 1200)).table.length = 0 := rfl
  have e1 : takes ([] : List (Nat × List Nat)) = 0 := rfl
  have e2 : (newS (Dk.new 1200)).D.waits.length = 0 := rfl
  have e3 : (newS (Dk.new 1200)).puts = 64 := rfl
  obtain ⟨i1, i2, i3, i4, i5, i6, i7, i8, i9, i10⟩ := putAll_is l new_has (root_new (by decide)) hi (by rw [new_many, e0, e1]; omega) (by simp; omega) (by rw [e2]; omega) (by rw [e3]; omega)
  refine ⟨i1, fun T hT => ?_⟩
  subst hT
  have hsm : Small (putC [] l) 31 79 := (small_put small_nil).mono (by omega) (by omega)
  have h5 : (putAll (newS (Dk.new 1200)) l).epoch = 0 := i6
  have := calm_com i2 i3 (i5.trans new_many) hsm (small_nil.mono (by decide) (by decide)) (by rw [i4, e0]; decide) (by rw [h5]; decide)
  rw [h5] at this
  exact ⟨i2, by rw [e2] at i7; omega, this.1, this.2⟩
/-- other things beside what is committed -/
theorem Calm.put {T : Sto} {k : List (Nat × List Nat)} {e n : Nat} (h : Calm T k e n) (hk : Small k 31 79) {l : List TgDeed} (hl : Fits l) (hn : n ≤ 1000) : AllPut T l ∧ Busy (putAll T l) (putC k l) k e (n + 1000) := by
  have h1 := hk.tab
  have h2 := hk.takes
  have h3 := hl.pgs
  have h4 := hl.len
  have h5 := h.waits
  obtain ⟨i1, i2, i3, i4, i5, i6, i7, i8, i9, i10⟩ := putAll_is l h.has h.root hl.each (by rw [h.tab, h.many]; omega) (by have := hk.len; omega) (by omega) (by rw [h.puts]; omega)
  exact ⟨i1, i2, i3, i6.trans h.ep, by rw [i4]; exact h.tab, i5.trans h.many, by omega⟩
def delAll (T : Sto) (l : List Nat) : Sto := l.foldl delT T
def delC (c : List (Nat × List Nat)) (l : List Nat) : List (Nat × List Nat) := l.foldl Mp.del c
theorem delAll_snoc {T : Sto} {l : List Nat} {k : Nat} (hk : k < l.length) : delAll T (l.take (k + 1)) = delT (delAll T (l.take k)) l[k] := by
  rw [delAll, List.take_add_one, List.getElem?_eq_getElem hk, List.foldl_append]
  rfl
theorem Busy.dels {T : Sto} {c k : List (Nat × List Nat)} {e n : Nat} (h : Busy T c k e n) (l : List Nat) : Busy (delAll T l) (delC c l) k e n := by
  induction l generalizing T c with
  | nil => exact h
  | cons x r ih => exact ih (h.del x)
end Sh
end Go.Proofs.YtpmkegbgbldpnaaGreatDoor
namespace Go.Proofs.YtpmkegbgbldpnaaGreatDoor
open Go Go.RowKit

theorem take_getD_sb {xs : List Nat} {k : Nat} (h : k < xs.length) : xs.take (k + 1) = xs.take k ++ [xs.getD k 0] := by
  rw [List.take_succ_eq_append_getElem h, List.getD_eq_getElem?_getD, List.getElem?_eq_getElem h]; rfl

/-- two slices of numbers: alike? -/
def sameBytes (xs ys : List Nat) : Bool := decide (xs = ys)

theorem same_next {xs ys : List Nat} {k : Nat} (hx : k < xs.length) (hy : k < ys.length) (h : xs.take k = ys.take k) (he : xs.getD k 0 = ys.getD k 0) : xs.take (k + 1) = ys.take (k + 1) := by
  rw [take_getD_sb hx, take_getD_sb hy, h, he]
theorem same_not {xs ys : List Nat} {k : Nat} (he : xs.getD k 0 ≠ ys.getD k 0) : sameBytes xs ys = false := by
  simp only [sameBytes, decide_eq_false_iff_not]
  rintro rfl; exact he rfl

def SamePost (w : World) (xs ys : List Nat) (e : Ending) (w' : World) : Prop := e = .returned (.bool (sameBytes xs ys)) ∧ Touch No w w'

set_option maxHeartbeats 1000000 in
theorem sameBytes_eq (w : World) (a b : Option Addr) (n c d : Nat) (xs ys : List Nat) (hx : xs.length = n) (hy : ys.length = n) (hn : (n : Int) ≤ 9223372036854775807)
    (ha : Rd w a (nums .u8 xs)) (hb : Rd w b (nums .u8 ys)) :
    Calls Tryz.prog 27 #[.slice a n c, .slice b n d] w (SamePost w xs ys) := by
  have Hx := Lib.hid hx; clear hx
  have Hy := Lib.hid hy; clear hy
  have Ha := Lib.hid ha; clear ha
  have Hb := Lib.hid hb; clear hb
  go_enter Tryz.func27, Tryz.ntmps27
  go_wp2
  go_loopg [5] n (fun g s5 wr => ∃ k : Nat, k + g = n ∧ s5 = .int .i64 ((k : Nat) : Int) ∧ Hid (xs.take k = ys.take k) ∧ Hid (Touch No w wr))
  case atStart => exact ⟨0, by omega, rfl, rfl, Touch.refl _ _⟩
  case round =>
    obtain ⟨k, hkg, rfl, E, T⟩ := hrel
    cases gk with
    | zero =>
      obtain rfl : k = n := by omega
      have Fin : Hid (sameBytes xs ys = true) := by
        have := E.out
        rw [List.take_of_length_le (by have := Hx.out; omega), List.take_of_length_le (by have := Hy.out; omega)] at this
        show _ = _
        simp [sameBytes, this]
      go_wp2
      go_ret
      exact ⟨ret_bool Fin.out.symm, T.out⟩
    | succ g =>
      have hlt : k < n := by omega
      have hxl : k < xs.length := by have := Hx.out; omega
      have hyl : k < ys.length := by have := Hy.out; omega
      obtain ⟨b1, o1, rfl, h1⟩ := (Ha.out.no T.out).num hxl
      obtain ⟨b2, o2, rfl, h2⟩ := (Hb.out.no T.out).num hyl
      have Next := Lib.hid (same_next hxl hyl E.out)
      have Not := Lib.hid (same_not (xs := xs) (ys := ys) (k := k))
      clear hxl hyl
      generalize xs.getD k 0 = x at *
      generalize ys.getD k 0 = y at *
      by_cases hxy : x = y
      · subst hxy
        go_wp2_with fail
        go_quiet (fail)
        go_wp2
        go_roundg g
        case measure => omega
        case rel => exact ⟨k + 1, by omega, by go_num, Next.out (by first | rfl | trivial), T.out.drewN _⟩
      · have hne : ((x : Int) != (y : Int)) = true := by simp; omega
        have Hxy := Lib.hid hxy; clear hxy
        go_wp2_with fail
        go_quiet (fail)
        go_wp2
        go_ret
        exact ⟨ret_bool (Not.out Hxy.out).symm, T.out.drewN _⟩
end Go.Proofs.YtpmkegbgbldpnaaGreatDoor
namespace Go.Proofs.YtpmkegbgbldpnaaGreatDoor
open Go Go.RowKit
set_option linter.unusedSimpArgs false

def TruePost (w : World) (e : Ending) (w' : World) : Prop := e = .returned (.bool true) ∧ Touch No w w'
theorem sameB_any (w : World) (a b : Option Addr) (n c d : Nat) (xs : List Nat) (hx : xs.length = n) (hn : (n : Int) ≤ 9223372036854775807) (ha : Rd w a (nums .u8 xs)) (hb : Rd w b (nums .u8 xs)) :
    Calls Tryz.prog 27 #[.slice a n c, .slice b n d] w (TruePost w) :=
  (sameBytes_eq w a b n c d xs xs hx hx hn ha hb).mono fun _ _ ⟨he, ht⟩ => ⟨by rw [he, sameBytes, decide_eq_true rfl], ht⟩

end Go.Proofs.YtpmkegbgbldpnaaGreatDoor
