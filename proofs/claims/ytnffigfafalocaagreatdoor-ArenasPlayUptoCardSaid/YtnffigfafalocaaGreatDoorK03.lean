/-
  The plain mathematics of arenas (chapter 24). No program in sight.
  The lock of package sync, under this program's numbers.
  append of a slice that reads as a list (nil or not), and of so many zeros. No program in sight.
-/
import Derived.Test.YtnffigfafalocaaGreatDoorK01
import Derived.Test.YtnffigfafalocaaGreatDoorRows
import Derived.Conc.MuLone
import Derived.KernelRfl
import Derived.IntWalk
namespace Go.Proofs.YtnffigfafalocaaGreatDoor
open Go Go.RowKit
namespace Ar
/-- what an id has: bytes, and what is put there -/
structure It where
  bytes : Nat
  t : Option (List Int × List Int)
/-- an arena; puts: how often its map was written; its: by the ids -/
structure Arena where
  room : Nat
  used : Nat
  peak : Nat
  puts : Nat
  its : List (Nat × It)
def look : List (Nat × It) → Nat → Option It
  | [], _ => none
  | (k, x) :: r, id => if k = id then some x else look r id
def put : List (Nat × It) → Nat → It → List (Nat × It)
  | [], id, x => [(id, x)]
  | (k, y) :: r, id, x => if id < k then (id, x) :: (k, y) :: r else if id = k then (id, x) :: r else (k, y) :: put r id x
def del (l : List (Nat × It)) (id : Nat) : List (Nat × It) := l.filter fun p => p.1 != id
def sum : List (Nat × It) → Nat
  | [] => 0
  | (_, x) :: r => x.bytes + sum r
/-- rising -/
def Up (l : List (Nat × It)) : Prop := l.Pairwise (fun p q => p.1 < q.1)
theorem look_put_same (l : List (Nat × It)) (id : Nat) (x : It) : look (put l id x) id = some x := by
  induction l with
  | nil => simp [put, look]
  | cons p r ih =>
    obtain ⟨k, y⟩ := p
    unfold put
    split
    · simp [look]
    · split
      · simp [look]
      · rename_i h1 h2
        rw [look, if_neg (fun e => h2 e.symm)]; exact ih
theorem look_put_other (l : List (Nat × It)) {id id' : Nat} (h : id' ≠ id) (x : It) : look (put l id x) id' = look l id' := by
  induction l with
  | nil => simp [put, look, Ne.symm h]
  | cons p r ih =>
    obtain ⟨k, y⟩ := p
    unfold put
    split
    · rw [look, if_neg (Ne.symm h)]
    · split
      · rename_i h2
        subst h2
        rw [look, look, if_neg (Ne.symm h), if_neg (Ne.symm h)]
      · rw [look, look, ih]
theorem look_del_same (l : List (Nat × It)) (id : Nat) : look (del l id) id = none := by
  induction l with
  | nil => rfl
  | cons p r ih =>
    obtain ⟨k, y⟩ := p
    by_cases h : k = id
    · subst h
      rw [del, List.filter_cons_of_neg (by simp)]
      exact ih
    · rw [del, List.filter_cons_of_pos (by simpa using h), look, if_neg h]
      exact ih
theorem look_del_other (l : List (Nat × It)) {id id' : Nat} (hne : id' ≠ id) : look (del l id) id' = look l id' := by
  induction l with
  | nil => rfl
  | cons p r ih =>
    obtain ⟨k, y⟩ := p
    by_cases h : k = id
    · subst h
      rw [del, List.filter_cons_of_neg (by simp), look, if_neg (Ne.symm hne)]
      exact ih
    · rw [del, List.filter_cons_of_pos (by simpa using h), look, look]
      rw [del] at ih
      rw [ih]
theorem put_mem (l : List (Nat × It)) (id : Nat) (x : It) : ∀ p ∈ put l id x, p.1 = id ∨ p ∈ l := by
  induction l with
  | nil => intro p hp; rw [put, List.mem_singleton] at hp; exact Or.inl (by rw [hp])
  | cons q r ih =>
    obtain ⟨k, y⟩ := q
    intro p hp
    unfold put at hp
    split at hp
    · rcases List.mem_cons.1 hp with rfl | hp
      · exact Or.inl rfl
      · exact Or.inr hp
    · split at hp
      · rcases List.mem_cons.1 hp with rfl | hp
        · exact Or.inl rfl
        · exact Or.inr (List.mem_cons_of_mem _ hp)
      · rcases List.mem_cons.1 hp with rfl | hp
        · exact Or.inr List.mem_cons_self
        · exact (ih p hp).imp (fun h => h) (List.mem_cons_of_mem _)
theorem up_put {l : List (Nat × It)} (h : Up l) (id : Nat) (x : It) : Up (put l id x) := by
  induction l with
  | nil => exact List.pairwise_singleton _ _
  | cons q r ih =>
    obtain ⟨k, y⟩ := q
    obtain ⟨h1, h2⟩ := List.pairwise_cons.1 h
    unfold put
    split
    · rename_i hk
      refine List.pairwise_cons.2 ⟨fun p hp => ?_, h⟩
      rcases List.mem_cons.1 hp with rfl | hp
      · exact hk
      · exact Nat.lt_trans hk (h1 p hp)
    · split
      · rename_i h3 h4
        subst h4
        exact List.pairwise_cons.2 ⟨fun p hp => h1 p hp, h2⟩
      · rename_i h3 h4
        refine List.pairwise_cons.2 ⟨fun p hp => ?_, ih h2⟩
        rcases put_mem r id x p hp with e | hp
        · rw [e]; show k < id; omega
        · exact h1 p hp
theorem up_del {l : List (Nat × It)} (h : Up l) (id : Nat) : Up (del l id) := h.sublist List.filter_sublist
theorem look_none {l : List (Nat × It)} {id : Nat} (h : ∀ p ∈ l, p.1 ≠ id) : look l id = none := by
  induction l with
  | nil => rfl
  | cons q r ih =>
    obtain ⟨k, y⟩ := q
    rw [look, if_neg (h (k, y) List.mem_cons_self)]
    exact ih (fun p hp => h p (List.mem_cons_of_mem _ hp))
theorem sum_put_new {l : List (Nat × It)} {id : Nat} (h : look l id = none) (x : It) : sum (put l id x) = sum l + x.bytes := by
  induction l with
  | nil => simp [put, sum]
  | cons q r ih =>
    obtain ⟨k, y⟩ := q
    have hk : k ≠ id := fun e => by rw [look, if_pos e] at h; cases h
    rw [look, if_neg hk] at h
    unfold put
    split
    · simp only [sum]; omega
    · rw [if_neg (fun e => hk e.symm)]
      simp only [sum, ih h]; omega
theorem sum_put_same {l : List (Nat × It)} {id : Nat} {y : It} (h : look l id = some y) (hu : Up l) (x : It) (hx : x.bytes = y.bytes) : sum (put l id x) = sum l := by
  induction l with
  | nil => cases h
  | cons q r ih =>
    obtain ⟨k, z⟩ := q
    obtain ⟨h1, h2⟩ := List.pairwise_cons.1 hu
    unfold put
    by_cases hk : k = id
    · subst hk
      rw [look, if_pos rfl] at h
      cases h
      rw [if_neg (Nat.lt_irrefl _), if_pos rfl]
      simp only [sum]; omega
    · rw [look, if_neg hk] at h
      by_cases hlt : id < k
      · exfalso
        have : look r id = none := look_none (fun p hp e => by have := h1 p hp; simp only at this; omega)
        rw [this] at h; cases h
      · rw [if_neg hlt, if_neg (fun e => hk e.symm)]
        simp only [sum, ih h h2]
theorem sum_del {l : List (Nat × It)} {id : Nat} {y : It} (h : look l id = some y) (hu : Up l) : sum (del l id) + y.bytes = sum l := by
  induction l with
  | nil => cases h
  | cons q r ih =>
    obtain ⟨k, z⟩ := q
    obtain ⟨h1, h2⟩ := List.pairwise_cons.1 hu
    by_cases hk : k = id
    · subst hk
      rw [look, if_pos rfl] at h
      cases h
      rw [del, List.filter_cons_of_neg (by simp), List.filter_eq_self.2 (fun p hp => by have := h1 p hp; simp; omega)]
      simp only [sum]; omega
    · rw [look, if_neg hk] at h
      rw [del, List.filter_cons_of_pos (by simpa using hk)]
      have := ih h h2
      rw [del] at this
      simp only [sum]; omega
theorem le_sum {l : List (Nat × It)} {id : Nat} {y : It} (h : look l id = some y) : y.bytes ≤ sum l := by
  induction l with
  | nil => cases h
  | cons q r ih =>
    obtain ⟨k, z⟩ := q
    simp only [sum]
    by_cases hk : k = id
    · rw [look, if_pos hk] at h; cases h; omega
    · rw [look, if_neg hk] at h
      have := ih h; omega
structure Ok (A : Arena) : Prop where
  up : Up A.its
  ids : ∀ p ∈ A.its, p.1 < 4294967296
  sum : A.used = sum A.its
  peak : A.used ≤ A.peak
  room : A.peak ≤ A.room
  max : A.room ≤ 1048576
def new (room : Nat) : Arena := ⟨room, 0, 0, 0, []⟩
theorem ok_new {room : Nat} (h : room ≤ 1048576) : Ok (new room) := ⟨List.Pairwise.nil, (fun p hp => by cases hp), rfl, Nat.le_refl _, Nat.zero_le _, h⟩
def takeE (A : Arena) (id : Nat) (b : Int) : Nat := if b < 0 then 1 else if (look A.its id).isSome then 8 else if b > (A.room : Int) - A.used then 13 else 0
def takeA (A : Arena) (id : Nat) (b : Int) : Arena := if takeE A id b = 0 then ⟨A.room, A.used + b.toNat, Nat.max A.peak (A.used + b.toNat), A.puts + 1, put A.its id ⟨b.toNat, none⟩⟩ else A
def giveE (A : Arena) (id : Nat) : Nat := if (look A.its id).isSome then 0 else 7
def giveA (A : Arena) (id : Nat) : Arena := match look A.its id with
  | some x => ⟨A.room, A.used - x.bytes, A.peak, A.puts, del A.its id⟩
  | none => A
theorem takeE_ok {A : Arena} {id : Nat} {b : Int} (h : takeE A id b = 0) : 0 ≤ b ∧ look A.its id = none ∧ b ≤ (A.room : Int) - A.used := by
  unfold takeE at h
  split at h
  · cases h
  · split at h
    · cases h
    · split at h
      · cases h
      · rename_i h1 h2 h3
        refine ⟨by omega, ?_, by omega⟩
        cases hl : look A.its id with
        | none => rfl
        | some y => rw [hl] at h2; exact absurd rfl h2
theorem ok_take {A : Arena} (hA : Ok A) {id : Nat} (hid : id < 4294967296) (b : Int) : Ok (takeA A id b) := by
  unfold takeA
  split
  · rename_i h
    obtain ⟨h1, h2, h3⟩ := takeE_ok h
    have hs := hA.sum
    have hp := hA.peak
    have hr := hA.room
    refine ⟨up_put hA.up _ _, fun p hp => ?_, ?_, ?_, ?_, hA.max⟩
    · rcases put_mem _ _ _ p hp with e | hp
      · rw [e]; exact hid
      · exact hA.ids p hp
    · show A.used + b.toNat = _
      rw [sum_put_new h2, hs]
    · exact Nat.le_max_right _ _
    · show Nat.max A.peak (A.used + b.toNat) ≤ A.room
      exact Nat.max_le.2 ⟨hr, by omega⟩
  · exact hA
theorem ok_give {A : Arena} (hA : Ok A) (id : Nat) : Ok (giveA A id) := by
  unfold giveA
  cases h : look A.its id with
  | none => exact hA
  | some x =>
    have := sum_del h hA.up
    have hs := hA.sum
    have hp := hA.peak
    refine ⟨up_del hA.up _, fun p hp => hA.ids p (List.mem_filter.1 hp).1, ?_, ?_, hA.room, hA.max⟩
    · show A.used - x.bytes = sum (del A.its id)
      omega
    · show A.used - x.bytes ≤ A.peak
      omega
/-- shapes -/
def times : Nat → List Int → Nat
  | n, [] => n
  | n, x :: r => if x < 1 ∨ 64 < x then 0 else if 4096 < n * x.toNat then 0 else times (n * x.toNat) r
def size (s : List Int) : Nat := if s.length < 1 ∨ 4 < s.length then 0 else times 1 s
def check (s l : List Int) : Bool := decide (0 < size s) && decide (l.length = size s)
theorem times_le : ∀ (l : List Int) (n : Nat), n ≤ 4096 → times n l ≤ 4096
  | [], n, h => h
  | x :: r, n, h => by
    rw [times]
    split
    · exact Nat.zero_le _
    · split
      · exact Nat.zero_le _
      · exact times_le r _ (by omega)
theorem size_le (s : List Int) : size s ≤ 4096 := by
  unfold size
  split
  · exact Nat.zero_le _
  · exact times_le _ _ (by decide)
theorem check_pos {s l : List Int} (h : check s l = true) : 1 ≤ s.length ∧ s.length ≤ 4 ∧ 1 ≤ l.length := by
  unfold check at h
  rw [Bool.and_eq_true, decide_eq_true_iff, decide_eq_true_iff] at h
  obtain ⟨h1, h2⟩ := h
  have h3 : ¬ (s.length < 1 ∨ 4 < s.length) := fun e => by unfold size at h1; rw [if_pos e] at h1; omega
  omega
def putE (A : Arena) (id : Nat) (s l : List Int) : Nat := match look A.its id with
  | none => 7
  | some x => if check s l = false then 1 else if 4 * l.length > x.bytes then 13 else 0
def putA (A : Arena) (id : Nat) (s l : List Int) : Arena := match look A.its id with
  | none => A
  | some x => if check s l = false then A else if 4 * l.length > x.bytes then A else ⟨A.room, A.used, A.peak, A.puts + 1, put A.its id ⟨x.bytes, some (s, l)⟩⟩
def getE (A : Arena) (id : Nat) : Nat := match look A.its id with
  | none => 7
  | some x => match x.t with
    | none => 9
    | some _ => 0
def getS (A : Arena) (id : Nat) : List Int := match look A.its id with
  | some ⟨_, some (s, _)⟩ => s
  | _ => []
def getL (A : Arena) (id : Nat) : List Int := match look A.its id with
  | some ⟨_, some (_, l)⟩ => l
  | _ => []
theorem ok_put {A : Arena} (hA : Ok A) {id : Nat} (hid : id < 4294967296) (s l : List Int) : Ok (putA A id s l) := by
  unfold putA
  cases h : look A.its id with
  | none => exact hA
  | some x =>
    simp only
    split
    · exact hA
    · split
      · exact hA
      · refine ⟨up_put hA.up _ _, fun p hp => ?_, ?_, hA.peak, hA.room, hA.max⟩
        · rcases put_mem _ _ _ p hp with e | hp
          · rw [e]; exact hid
          · exact hA.ids p hp
        · show A.used = sum (put A.its id ⟨x.bytes, some (s, l)⟩)
          rw [sum_put_same h hA.up ⟨x.bytes, some (s, l)⟩ rfl]; exact hA.sum
end Ar
end Go.Proofs.YtnffigfafalocaaGreatDoor
namespace Go.Proofs.YtnffigfafalocaaGreatDoor
open Go Go.RowKit
abbrev muLink : Go.Conc.Locks.MuLink := { lock := 66, unlock := 67, ilock := 164, iunlock := 165, lockSlow := 230, unlockSlow := 233, disable := 226, enable := 228, acquire := 229, relMerge := 231, cas32 := 227, add32 := 232, tMutex := 151, tIMutex := 149, tPMutex := 231, tPIMutex := 357, tPI32 := 359, tUP := 210, tNoCopy := 147, tU32 := 38 }
theorem muLib : Go.Conc.Locks.MuLib Tryz.prog muLink :=
  ⟨Tryz.func66, Tryz.func67, Tryz.func164, Tryz.func165, Tryz.func226, Tryz.func228, Tryz.func229, Tryz.func231, Tryz.func227, Tryz.func232, Tryz.underlying149, Tryz.runUnderlying149, Tryz.sizeOf149, Tryz.isAgg149, Tryz.zeroValue149, Tryz.underlying151, Tryz.runUnderlying151, Tryz.sizeOf151, Tryz.isAgg151, Tryz.zeroValue151, Tryz.underlying231, Tryz.runUnderlying231, Tryz.sizeOf231, Tryz.isAgg231, Tryz.zeroValue231, Tryz.underlying357, Tryz.runUnderlying357, Tryz.sizeOf357, Tryz.isAgg357, Tryz.zeroValue357, Tryz.underlying359, Tryz.runUnderlying359, Tryz.sizeOf359, Tryz.isAgg359, Tryz.zeroValue359, Tryz.underlying210, Tryz.runUnderlying210, Tryz.sizeOf210, Tryz.isAgg210, Tryz.zeroValue210, Tryz.underlying147, Tryz.runUnderlying147, Tryz.sizeOf147, Tryz.isAgg147, Tryz.zeroValue147, Tryz.underlying21, Tryz.runUnderlying21, Tryz.sizeOf21, Tryz.isAgg21, Tryz.zeroValue21, (by kernel_rfl)⟩
end Go.Proofs.YtnffigfafalocaaGreatDoor
namespace Go.Proofs.YtnffigfafalocaaGreatDoor
open Go Go.RowKit
set_option linter.unusedSimpArgs false

theorem Own.rd {w : World} {base : Nat} {T : TypeId} {a : Option Addr} {n c : Nat} {vs : List Value} (h : Own w base T (.slice a n c) vs) : Rd w a vs := by
  obtain ⟨a', c', e, _, hr, _⟩ := h.form
  cases e; exact hr
section
variable {P : Program} {w : World}

/-- 'append(v, a...)', one cell each -/
theorem run_append_rd (base : Nat) (t ty e : TypeId) (i : TypeInfo) (z : Value) (bytes : Nat) (ht : P.underlying t = some (.slice e)) (hi : P.info? e = some i) (hz : i.zero = some z) (hsize : i.size = 1) (hby : i.bytes = bytes) (hzs : z.cells.size = 1)
    (v : Value) (vs : List Value) (hown : Own w base e v vs) (a : Option Addr) (m c : Nat) (us : List Value) (hl : us.length = m) (hr : Rd w a us) (h1 : ∀ u ∈ us, u.oneCell' = true)
    (h63 : vs.length + m ≤ maxLen) (hbytes : (vs.length + m) * bytes ≤ 140737488355328) (hbase : base ≤ w.heap.size) :
    ∃ v' w', (Builtin.append_ #[t, t] ty #[v, .slice a m c]).run P w = .ok v' w' ∧ Own w' base e v' (vs ++ us) ∧ Touch (InBlock v) w w' := by
  cases a with
  | some ad =>
    have hnews : ∀ j u, us[j]? = some u → w.cell? (ad.add j) = some u := fun j u hj => by
      obtain ⟨b, o, e1, hc⟩ := hr j u hj
      cases e1
      unfold Addr.add
      split
      · rename_i h0; subst h0; exact hc
      · exact hc
    obtain ⟨v', w', h2, h3, h4, _⟩ := run_append_own (P := P) w base t ty e i z 1 bytes ht hi hz hsize hby hzs (by decide) v vs.length vs hown ad m c us (by omega) hnews h1 h63 hbytes hbase
    refine ⟨v', w', h2, ?_, (Touch.refl _ w).grown h4 (fun k hk _ => hk)⟩
    rw [Own, List.length_append, hl]; exact h3
  | none =>
    have hus : us = [] := by
      cases us with
      | nil => rfl
      | cons u r => obtain ⟨b, o, e1, _⟩ := hr 0 u rfl; cases e1
    subst hus
    obtain rfl : m = 0 := by simpa using hl.symm
    obtain ⟨b, cap, rfl, hcap, _, _, _⟩ := hown.form
    refine ⟨.slice b vs.length cap, w, ?_, by rw [List.append_nil]; exact hown, Touch.refl _ _⟩
    cases b <;> simp [Builtin.append_, run_underlying ht, sizeOf, typeInfo, hi, Builtin.lenOf, hcap, Builtin.firstCells, storeCells]

theorem wp_append_run {o : Oper} {a : Act} {K : Act → World → Prop} {Q : Exit → Act → World → Prop} (s x : Operand) (t t2 : TypeId) (ho : o.op = .call { callee := .builtin .append, args := #[s, x], argTypes := #[t, t2] }) (v u : Value) (hs : a.eval s = v) (hx : a.eval x = u)
    {R : Value → World → Prop} (hr : ∃ v' w', (Builtin.append_ #[t, t2] o.type #[v, u]).run P w = .ok v' w' ∧ R v' w') (h : ∀ v' w', R v' w' → K (a.put o.dst v') w') : o.wp P a w K Q := by
  obtain ⟨v', w', h1, h2⟩ := hr
  unfold Oper.wp execOp
  simp only [ho, resolve, invoke, builtin, Sem.run_bind, Sem.run_pure, Result.andThen_ok, List.map_toArray, List.map_cons, List.map_nil, hs, hx, h1]
  exact h v' w' h2

/-- 'append(v, a...)', one cell each, in a plain region and in one that draws its order -/
theorem wpList_append_rd {ops : Array Oper} {rest : List Oper} {o : Oper} {a : Act} {Q : Exit → Act → World → Prop} (hgd : o.guard = none) (s x : Operand) (t : TypeId) (ho : o.op = .call { callee := .builtin .append, args := #[s, x], argTypes := #[t, t] })
    (base : Nat) (e : TypeId) (i : TypeInfo) (z : Value) (bytes : Nat) (ht : P.underlying t = some (.slice e)) (hi : P.info? e = some i) (hz : i.zero = some z) (hsize : i.size = 1) (hby : i.bytes = bytes) (hzs : z.cells.size = 1)
    (v : Value) (vs : List Value) (hown : Own w base e v vs) (hs : a.eval s = v) (ad : Option Addr) (m c : Nat) (us : List Value) (hx : a.eval x = .slice ad m c) (hl : us.length = m) (hr : Rd w ad us) (h1 : ∀ u ∈ us, u.oneCell' = true)
    (h63 : vs.length + m ≤ maxLen) (hbytes : (vs.length + m) * bytes ≤ 140737488355328) (hbase : base ≤ w.heap.size)
    (h : ∀ v' w', Own w' base e v' (vs ++ us) → Touch (InBlock v) w w' → wpList P ops Q rest (a.put o.dst v') w') : wpList P ops Q (o :: rest) a w :=
  wpList_plain hgd fun _ hK => wp_append_run s x t t ho v _ hs hx (R := fun v' w' => Own w' base e v' (vs ++ us) ∧ Touch (InBlock v) w w') (run_append_rd base t _ e i z bytes ht hi hz hsize hby hzs v vs hown ad m c us hl hr h1 h63 hbytes hbase) fun v' w' hh => hK _ _ (h v' w' hh.1 hh.2)
theorem step_append_rd {ops : Array Oper} {o : Oper} {a : Act} {K : Act → World → Prop} {Q : Exit → Act → World → Prop} {E : Prop} (hw : Region.wanted o (yielded ops a.tmps) = true) (s x : Operand) (t : TypeId) (ho : o.op = .call { callee := .builtin .append, args := #[s, x], argTypes := #[t, t] })
    (base : Nat) (e : TypeId) (i : TypeInfo) (z : Value) (bytes : Nat) (ht : P.underlying t = some (.slice e)) (hi : P.info? e = some i) (hz : i.zero = some z) (hsize : i.size = 1) (hby : i.bytes = bytes) (hzs : z.cells.size = 1)
    (v : Value) (vs : List Value) (hown : Own w base e v vs) (hs : a.eval s = v) (ad : Option Addr) (m c : Nat) (us : List Value) (hx : a.eval x = .slice ad m c) (hl : us.length = m) (hr : Rd w ad us) (h1 : ∀ u ∈ us, u.oneCell' = true)
    (h63 : vs.length + m ≤ maxLen) (hbytes : (vs.length + m) * bytes ≤ 140737488355328) (hbase : base ≤ w.heap.size)
    (h : ∀ v' w', Own w' base e v' (vs ++ us) → Touch (InBlock v) w w' → K (a.put o.dst v') w') : if Region.wanted o (yielded ops a.tmps) = true then Oper.wp P o a w K Q else E := by
  rw [if_pos hw]
  exact wp_append_run s x t t ho v _ hs hx (R := fun v' w' => Own w' base e v' (vs ++ us) ∧ Touch (InBlock v) w w') (run_append_rd base t _ e i z bytes ht hi hz hsize hby hzs v vs hown ad m c us hl hr h1 h63 hbytes hbase) fun v' w' hh => h v' w' hh.1 hh.2
/-- the same, the outcome's form laid open -/
theorem step_append_rds {ops : Array Oper} {o : Oper} {a : Act} {K : Act → World → Prop} {Q : Exit → Act → World → Prop} {E : Prop} (hw : Region.wanted o (yielded ops a.tmps) = true) (s x : Operand) (t : TypeId) (ho : o.op = .call { callee := .builtin .append, args := #[s, x], argTypes := #[t, t] })
    (base : Nat) (e : TypeId) (i : TypeInfo) (z : Value) (bytes : Nat) (ht : P.underlying t = some (.slice e)) (hi : P.info? e = some i) (hz : i.zero = some z) (hsize : i.size = 1) (hby : i.bytes = bytes) (hzs : z.cells.size = 1)
    (v : Value) (vs : List Value) (hown : Own w base e v vs) (hs : a.eval s = v) (ad : Option Addr) (m c n' : Nat) (us : List Value) (hx : a.eval x = .slice ad m c) (hl : us.length = m) (hr : Rd w ad us) (h1 : ∀ u ∈ us, u.oneCell' = true) (hn : vs.length + m = n')
    (h63 : n' ≤ maxLen) (hbytes : n' * bytes ≤ 140737488355328) (hbase : base ≤ w.heap.size)
    (h : ∀ a' c' w', Own w' base e (.slice a' n' c') (vs ++ us) → Touch (InBlock v) w w' → K (a.put o.dst (.slice a' n' c')) w') : if Region.wanted o (yielded ops a.tmps) = true then Oper.wp P o a w K Q else E := by
  subst hn
  refine step_append_rd hw s x t ho base e i z bytes ht hi hz hsize hby hzs v vs hown hs ad m c us hx hl hr h1 h63 hbytes hbase fun v' w' ho ht => ?_
  obtain ⟨a', c', rfl, _⟩ := ho.form' (n := vs.length + m) (by simp [hl])
  exact h a' c' w' ho ht
end
end Go.Proofs.YtnffigfafalocaaGreatDoor
