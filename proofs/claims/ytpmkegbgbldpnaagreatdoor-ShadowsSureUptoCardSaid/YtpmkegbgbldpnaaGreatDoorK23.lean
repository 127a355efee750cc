/-
  The plain mathematics of a store of things (chapter 18): what its calls make of it. No program in sight.
  A store in memory: a struct, the two maps that it leads to, lists of pages.
  Package shadows by its own text: there, pages, drops.
  Package shadows by its own text: drops, marks.
-/
import Derived.Test.YtpmkegbgbldpnaaGreatDoorK02
import Derived.Test.YtpmkegbgbldpnaaGreatDoorK21
import Derived.Test.YtpmkegbgbldpnaaGreatDoorK22
import Derived.Maps.OwnSet
import Derived.Lib.Hide
import Derived.Deep.DeepCutAuto
import Derived.Deep.CutBlock
import Derived.Lib.SmallJoins
namespace Go.Proofs.YtpmkegbgbldpnaaGreatDoor
open Go Go.RowKit
set_option linter.unusedVariables false
set_option linter.unusedSimpArgs false
namespace Sh
structure Th where
  bytes : Nat
  epoch : Nat
  pages : List Nat
  fresh : Bool
/-- a store; puts: how often the map of what there is now was written, at most -/
structure Sto where
  D : Dk.Disk
  S : Nat → Bool
  epoch : Nat
  now : List (Nat × Th)
  kept : List (Nat × Th)
  table : List Nat
  puts : Nat
def many (D : Dk.Disk) : Nat := min 4096 (D.seen.length / 4 - 1)
theorem many_le {D : Dk.Disk} (h : D.seen.length ≤ 16384) : many D ≤ 4095 := by unfold many; omega
theorem many_on {D : Dk.Disk} {x : Nat} (h : 32 ≤ D.seen.length) (hx : x ≤ many D) : onD D x = 0 := by
  unfold onD; rw [if_pos]; unfold many at hx; omega
theorem many_eq {D D' : Dk.Disk} (h : D'.seen.length = D.seen.length) : many D' = many D := by unfold many; rw [h]
def nx (e : Nat) : Nat := (e + 1) % 4294967296
theorem nx_lt (e : Nat) : nx e < 4294967296 := Nat.mod_lt _ (by decide)
def Dj (a b : List Nat) : Prop := ∀ x ∈ a, x ∉ b
theorem Dj.symm {a b : List Nat} (h : Dj a b) : Dj b a := fun x hx hy => h x hy hx
structure ThOk (p : Nat × Th) : Prop where
  id : p.1 < 4294967296
  bytes : p.2.bytes ≤ 65536
  len : p.2.pages.length = Ex.pages p.2.bytes
  nod : p.2.pages.Nodup
  epoch : p.2.epoch < 4294967296
theorem pages_max {n : Nat} (h : n ≤ 65536) : Ex.pages n ≤ 274 := by unfold Ex.pages; omega
def Used (T : Sto) (x : Nat) : Prop := x ∈ T.table ∨ (∃ p ∈ T.kept, x ∈ p.2.pages) ∨ ∃ p ∈ T.now, p.2.fresh = true ∧ x ∈ p.2.pages
/-- .. but for what an id has now -/
def UsedBut (T : Sto) (id x : Nat) : Prop := x ∈ T.table ∨ (∃ p ∈ T.kept, x ∈ p.2.pages) ∨ ∃ p ∈ T.now, p.1 ≠ id ∧ p.2.fresh = true ∧ x ∈ p.2.pages
structure Ok (T : Sto) : Prop where
  lo : 32 ≤ T.D.seen.length
  hi : T.D.seen.length ≤ 16384
  epoch : T.epoch < 4294967296
  upn : Mp.Up T.now
  upk : Mp.Up T.kept
  lenn : T.now.length ≤ 64
  lenk : T.kept.length ≤ 64
  thn : ∀ p ∈ T.now, ThOk p
  thk : ∀ p ∈ T.kept, ThOk p
  kf : ∀ p ∈ T.kept, p.2.fresh = false
  nk : ∀ p ∈ T.now, p.2.fresh = false → p ∈ T.kept
  kk : ∀ p ∈ T.kept, ∀ q ∈ T.kept, p.1 ≠ q.1 → Dj p.2.pages q.2.pages
  nn : ∀ p ∈ T.now, ∀ q ∈ T.now, p.1 ≠ q.1 → Dj p.2.pages q.2.pages
  kn : ∀ p ∈ T.kept, ∀ q ∈ T.now, q.2.fresh = true → Dj p.2.pages q.2.pages
  tnod : T.table.Nodup
  tlen : T.table.length ≤ 61
  tk : ∀ p ∈ T.kept, Dj T.table p.2.pages
  tn : ∀ p ∈ T.now, Dj T.table p.2.pages
  rng : ∀ x, Used T x → 1 ≤ x ∧ x ≤ many T.D
  free : ∀ x, T.S x = true ↔ 1 ≤ x ∧ x ≤ many T.D ∧ ¬ Used T x
section
variable {T : Sto}
theorem Ok.used_but (h : Ok T) {id x : Nat} (hx : UsedBut T id x) : Used T x := by
  rcases hx with h1 | h1 | ⟨p, hp, _, h2⟩
  · exact Or.inl h1
  · exact Or.inr (Or.inl h1)
  · exact Or.inr (Or.inr ⟨p, hp, h2⟩)
theorem Ok.nrng (h : Ok T) {p : Nat × Th} (hp : p ∈ T.now) {x : Nat} (hx : x ∈ p.2.pages) : 1 ≤ x ∧ x ≤ many T.D := by
  cases hf : p.2.fresh with
  | true => exact h.rng x (Or.inr (Or.inr ⟨p, hp, hf, hx⟩))
  | false => exact h.rng x (Or.inr (Or.inl ⟨p, h.nk p hp hf, hx⟩))
theorem Ok.krng (h : Ok T) {p : Nat × Th} (hp : p ∈ T.kept) {x : Nat} (hx : x ∈ p.2.pages) : 1 ≤ x ∧ x ≤ many T.D := h.rng x (Or.inr (Or.inl ⟨p, hp, hx⟩))
theorem Ok.trng (h : Ok T) {x : Nat} (hx : x ∈ T.table) : 1 ≤ x ∧ x ≤ many T.D := h.rng x (Or.inl hx)
/-- what is free when an id's pages are dropped -/
def dropS (T : Sto) (o : Option Th) : Nat → Bool := match o with
  | some x => if x.fresh = true then Fr.add T.S x.pages else T.S
  | none => T.S
theorem add_true {S : Nat → Bool} {l : List Nat} {x : Nat} : Fr.add S l x = true ↔ S x = true ∨ x ∈ l := by simp [Fr.add]
theorem sub_true {S : Nat → Bool} {l : List Nat} {x : Nat} : Fr.sub S l x = true ↔ S x = true ∧ x ∉ l := by simp [Fr.sub]
theorem Ok.drop (h : Ok T) (id x : Nat) : dropS T (Mp.look T.now id) x = true ↔ 1 ≤ x ∧ x ≤ many T.D ∧ ¬ UsedBut T id x := by
  cases hl : Mp.look T.now id with
  | none =>
    rw [dropS, h.free]
    have hn := Mp.look_none_iff.1 hl
    have : Used T x ↔ UsedBut T id x := ⟨fun hu => by
      rcases hu with h1 | h1 | ⟨p, hp, h2⟩
      · exact Or.inl h1
      · exact Or.inr (Or.inl h1)
      · exact Or.inr (Or.inr ⟨p, hp, hn p hp, h2⟩), h.used_but⟩
    rw [this]
  | some w =>
    have hw := Mp.mem_of_look hl
    have huni : ∀ p ∈ T.now, p.1 = id → p.2 = w := fun p hp e => by
      have := Mp.look_mem h.upn hp
      rw [e, hl] at this
      injection this with this
      exact this.symm
    rw [dropS]
    by_cases hf : w.fresh = true
    · rw [if_pos hf, add_true, h.free]
      constructor
      · rintro (⟨h1, h2, h3⟩ | hx)
        · exact ⟨h1, h2, fun hu => h3 (h.used_but hu)⟩
        · have hr := h.nrng hw hx
          refine ⟨hr.1, hr.2, fun hu => ?_⟩
          rcases hu with h1 | ⟨p, hp, h1⟩ | ⟨p, hp, hne, hpf, h1⟩
          · exact h.tn _ hw x h1 hx
          · exact h.kn p hp _ hw hf x h1 hx
          · exact h.nn p hp _ hw hne x h1 hx
      · rintro ⟨h1, h2, h3⟩
        by_cases hx : x ∈ w.pages
        · exact Or.inr hx
        · refine Or.inl ⟨h1, h2, fun hu => h3 ?_⟩
          rcases hu with h4 | h4 | ⟨p, hp, hpf, h4⟩
          · exact Or.inl h4
          · exact Or.inr (Or.inl h4)
          · refine Or.inr (Or.inr ⟨p, hp, fun e => hx ?_, hpf, h4⟩)
            rw [← huni p hp e]; exact h4
    · rw [if_neg hf, h.free]
      have : Used T x ↔ UsedBut T id x := ⟨fun hu => by
        rcases hu with h1 | h1 | ⟨p, hp, hpf, h2⟩
        · exact Or.inl h1
        · exact Or.inr (Or.inl h1)
        · refine Or.inr (Or.inr ⟨p, hp, fun e => hf ?_, hpf, h2⟩)
          rw [← huni p hp e]; exact hpf, h.used_but⟩
      rw [this]
/-- .. and Give says so -/
theorem Ok.give (h : Ok T) {id : Nat} {x : Th} (hl : Mp.look T.now id = some x) (hf : x.fresh = true) : giveSays 1 (1 + many T.D) T.S x.pages = 0 ∧ giveSet 1 (1 + many T.D) T.S x.pages = Fr.add T.S x.pages := by
  have hw := Mp.mem_of_look hl
  have e : giveSays 1 (1 + many T.D) T.S x.pages = 0 := by
    rw [giveSays, if_pos, if_pos]
    · refine fresh_true.2 ⟨(h.thn _ hw).nod, fun y hy => ?_⟩
      cases hS : T.S y with
      | false => rfl
      | true => exact absurd (Or.inr (Or.inr ⟨_, hw, hf, hy⟩)) ((h.free y).1 hS).2.2
    · refine List.all_eq_true.2 (fun y hy => inMap_true.2 ?_)
      have := h.nrng hw hy
      omega
  exact ⟨e, by rw [giveSet, if_pos e]⟩

/-! ### Put -/
def putE (T : Sto) (id n : Nat) : Nat := if 65536 < n then 1 else if Mp.look T.now id = none ∧ 64 ≤ T.now.length then 3 else if (Fr.lst (dropS T (Mp.look T.now id))).length < Ex.pages n then 6 else 0
def putL (T : Sto) (id n : Nat) : List Nat := (Fr.lst (dropS T (Mp.look T.now id))).take (Ex.pages n)
def putT (T : Sto) (id : Nat) (b : List Nat) : Sto := if putE T id b.length = 0 then
    ⟨Ex.wD T.D (nx T.epoch) (putL T id b.length) b, Fr.sub (dropS T (Mp.look T.now id)) (putL T id b.length), T.epoch, Mp.put T.now id ⟨b.length, nx T.epoch, putL T id b.length, true⟩, T.kept, T.table, T.puts + 1⟩ else T
theorem lst_pos {S : Nat → Bool} {n x : Nat} (h : x ∈ (Fr.lst S).take n) : S x = true := (Fr.mem_lst.1 (List.mem_of_mem_take h)).2
theorem take_nodup (S : Nat → Bool) (n : Nat) : ((Fr.lst S).take n).Nodup := (Fr.lst_nodup S).sublist (List.take_sublist _ _)
theorem putE_ok {id n : Nat} (h : putE T id n = 0) : n ≤ 65536 ∧ ¬ (Mp.look T.now id = none ∧ 64 ≤ T.now.length) ∧ Ex.pages n ≤ (Fr.lst (dropS T (Mp.look T.now id))).length := by
  unfold putE at h
  split at h
  · cases h
  · split at h
    · cases h
    · split at h
      · cases h
      · exact ⟨by omega, by assumption, by omega⟩
theorem putL_length {id n : Nat} (h : putE T id n = 0) : (putL T id n).length = Ex.pages n := by
  rw [putL, List.length_take]; have := (putE_ok h).2.2; omega
theorem Ok.put_new (h : Ok T) {id n x : Nat} (hx : x ∈ putL T id n) : 1 ≤ x ∧ x ≤ many T.D ∧ ¬ UsedBut T id x := (h.drop id x).1 (lst_pos hx)
theorem Ok.put_may (h : Ok T) {id : Nat} {b : List Nat} (he : putE T id b.length = 0) : Ex.may T.D (putL T id b.length) b.length :=
  ⟨take_nodup _ _, fun x hx => many_on h.lo (h.put_new hx).2.1, putL_length he⟩
theorem Ok.put (h : Ok T) {id : Nat} (hid : id < 4294967296) (b : List Nat) : Ok (putT T id b) := by
  unfold putT
  by_cases he : putE T id b.length = 0
  · rw [if_pos he]
    obtain ⟨hn, hroom, hfr⟩ := putE_ok he
    have hlen : (Ex.wD T.D (nx T.epoch) (putL T id b.length) b).seen.length = T.D.seen.length := Ex.wD_len _ _ _ _
    have hmany := many_eq hlen
    have hnew := fun x hx => h.put_new (id := id) (n := b.length) (x := x) hx
    have hmem : ∀ p, p ∈ Mp.put T.now id ⟨b.length, nx T.epoch, putL T id b.length, true⟩ ↔ p = (id, ⟨b.length, nx T.epoch, putL T id b.length, true⟩) ∨ p.1 ≠ id ∧ p ∈ T.now := fun p => Mp.mem_put h.upn
    have hused : ∀ x, Used ⟨Ex.wD T.D (nx T.epoch) (putL T id b.length) b, Fr.sub (dropS T (Mp.look T.now id)) (putL T id b.length), T.epoch, Mp.put T.now id ⟨b.length, nx T.epoch, putL T id b.length, true⟩, T.kept, T.table, T.puts + 1⟩ x ↔ UsedBut T id x ∨ x ∈ putL T id b.length := fun x => by
      constructor
      · rintro (h1 | h1 | ⟨p, hp, hf, h1⟩)
        · exact Or.inl (Or.inl h1)
        · exact Or.inl (Or.inr (Or.inl h1))
        · rcases (hmem p).1 hp with rfl | ⟨hne, hp⟩
          · exact Or.inr h1
          · exact Or.inl (Or.inr (Or.inr ⟨p, hp, hne, hf, h1⟩))
      · rintro ((h1 | h1 | ⟨p, hp, hne, hf, h1⟩) | h1)
        · exact Or.inl h1
        · exact Or.inr (Or.inl h1)
        · exact Or.inr (Or.inr ⟨p, (hmem p).2 (Or.inr ⟨hne, hp⟩), hf, h1⟩)
        · exact Or.inr (Or.inr ⟨_, (hmem _).2 (Or.inl rfl), rfl, h1⟩)
    have hother : ∀ p ∈ T.now, p.1 ≠ id → Dj (putL T id b.length) p.2.pages := fun p hp hne x hx hy => by
      refine (hnew x hx).2.2 ?_
      cases hf : p.2.fresh with
      | true => exact Or.inr (Or.inr ⟨p, hp, hne, hf, hy⟩)
      | false => exact Or.inr (Or.inl ⟨p, h.nk p hp hf, hy⟩)
    refine ⟨by rw [hlen]; exact h.lo, by rw [hlen]; exact h.hi, h.epoch, Mp.up_put h.upn _ _, h.upk, ?_, h.lenk, ?_, h.thk, h.kf, ?_, h.kk, ?_, ?_, h.tnod, h.tlen, h.tk, ?_, ?_, ?_⟩
    · show (Mp.put T.now id _).length ≤ 64
      cases hl : Mp.look T.now id with
      | none =>
        rw [Mp.put_length_none hl]
        have : ¬ 64 ≤ T.now.length := fun h => hroom ⟨hl, h⟩
        omega
      | some w => rw [Mp.put_length_some h.upn hl]; exact h.lenn
    · intro p hp
      rcases (hmem p).1 hp with rfl | ⟨_, hp⟩
      · exact ⟨hid, hn, putL_length he, take_nodup _ _, nx_lt _⟩
      · exact h.thn p hp
    · intro p hp hf
      rcases (hmem p).1 hp with rfl | ⟨_, hp⟩
      · cases hf
      · exact h.nk p hp hf
    · intro p hp q hq hne
      rcases (hmem p).1 hp with rfl | ⟨hp1, hp⟩
      · rcases (hmem q).1 hq with rfl | ⟨hq1, hq⟩
        · exact absurd rfl hne
        · exact hother q hq hq1
      · rcases (hmem q).1 hq with rfl | ⟨hq1, hq⟩
        · exact (hother p hp hp1).symm
        · exact h.nn p hp q hq hne
    · intro p hp q hq hf
      rcases (hmem q).1 hq with rfl | ⟨_, hq⟩
      · exact fun x hx hy => (hnew x hy).2.2 (Or.inr (Or.inl ⟨p, hp, hx⟩))
      · exact h.kn p hp q hq hf
    · intro p hp
      rcases (hmem p).1 hp with rfl | ⟨_, hp⟩
      · exact fun x hx hy => (hnew x hy).2.2 (Or.inl hx)
      · exact h.tn p hp
    · intro x hx
      show 1 ≤ x ∧ x ≤ many (Ex.wD _ _ _ _)
      rw [hmany]
      rcases (hused x).1 hx with h1 | h1
      · exact h.rng x (h.used_but h1)
      · exact ⟨(hnew x h1).1, (hnew x h1).2.1⟩
    · intro x
      show Fr.sub _ _ x = true ↔ 1 ≤ x ∧ x ≤ many (Ex.wD _ _ _ _) ∧ _
      rw [hmany, hused, sub_true, h.drop]
      constructor
      · rintro ⟨⟨h1, h2, h3⟩, h4⟩
        exact ⟨h1, h2, fun e => e.elim h3 h4⟩
      · rintro ⟨h1, h2, h3⟩
        exact ⟨⟨h1, h2, fun e => h3 (Or.inl e)⟩, fun e => h3 (Or.inr e)⟩
  · rw [if_neg he]; exact h

/-! ### Del -/
/-! ### settle -/
def old (p : Nat × Th) : Nat × Th := (p.1, ⟨p.2.bytes, p.2.epoch, p.2.pages, false⟩)
/-- the pages that a table and things leave free -/
def restS (D : Dk.Disk) (table : List Nat) (l : List (Nat × Th)) : Nat → Bool := fun x => decide (1 ≤ x) && decide (x ≤ many D) && !table.contains x && !(l.any fun p => p.2.pages.contains x)
theorem restS_true {D : Dk.Disk} {table : List Nat} {l : List (Nat × Th)} {x : Nat} : restS D table l x = true ↔ 1 ≤ x ∧ x ≤ many D ∧ ¬ (x ∈ table ∨ ∃ p ∈ l, x ∈ p.2.pages) := by
  simp only [restS, Bool.and_eq_true, Bool.not_eq_true', decide_eq_true_eq, List.any_eq_false, List.contains_eq_mem, decide_eq_false_iff_not, not_or, not_exists, not_and]
  constructor
  · rintro ⟨⟨⟨h1, h2⟩, h3⟩, h4⟩
    exact ⟨h1, h2, h3, fun p hp => by simpa using h4 p hp⟩
  · rintro ⟨h1, h2, h3, h4⟩
    exact ⟨⟨⟨h1, h2⟩, h3⟩, fun p hp => by simpa using h4 p hp⟩
def settle (D : Dk.Disk) (e : Nat) (table : List Nat) (now : List (Nat × Th)) : Sto := ⟨D, restS D table now, e, now.map old, now.map old, table, 64⟩
/-- what settles well -/
structure Fit (D : Dk.Disk) (e : Nat) (table : List Nat) (now : List (Nat × Th)) : Prop where
  lo : 32 ≤ D.seen.length
  hi : D.seen.length ≤ 16384
  epoch : e < 4294967296
  up : Mp.Up now
  len : now.length ≤ 64
  th : ∀ p ∈ now, ThOk p
  nn : ∀ p ∈ now, ∀ q ∈ now, p.1 ≠ q.1 → Dj p.2.pages q.2.pages
  tnod : table.Nodup
  tlen : table.length ≤ 61
  tn : ∀ p ∈ now, Dj table p.2.pages
  trng : ∀ x ∈ table, 1 ≤ x ∧ x ≤ many D
  nrng : ∀ p ∈ now, ∀ x ∈ p.2.pages, 1 ≤ x ∧ x ≤ many D
theorem mem_old {l : List (Nat × Th)} {p : Nat × Th} (h : p ∈ l.map old) : ∃ q ∈ l, p = old q := by
  obtain ⟨q, hq, e⟩ := List.mem_map.1 h
  exact ⟨q, hq, e.symm⟩
theorem up_old {l : List (Nat × Th)} (h : Mp.Up l) : Mp.Up (l.map old) := List.pairwise_map.2 h
theorem Fit.ok {D : Dk.Disk} {e : Nat} {table : List Nat} {now : List (Nat × Th)} (h : Fit D e table now) : Ok (settle D e table now) := by
  have hth : ∀ p ∈ now.map old, ThOk p := fun p hp => by
    obtain ⟨q, hq, rfl⟩ := mem_old hp
    have := h.th q hq
    exact ⟨this.id, this.bytes, this.len, this.nod, this.epoch⟩
  have hnn : ∀ p ∈ now.map old, ∀ q ∈ now.map old, p.1 ≠ q.1 → Dj p.2.pages q.2.pages := fun p hp q hq hne => by
    obtain ⟨p', hp', rfl⟩ := mem_old hp
    obtain ⟨q', hq', rfl⟩ := mem_old hq
    exact h.nn p' hp' q' hq' hne
  have hf : ∀ p ∈ now.map old, p.2.fresh = false := fun p hp => by
    obtain ⟨q, hq, rfl⟩ := mem_old hp
    rfl
  have htn : ∀ p ∈ now.map old, Dj table p.2.pages := fun p hp => by
    obtain ⟨q, hq, rfl⟩ := mem_old hp
    exact h.tn q hq
  have hused : ∀ x, Used (settle D e table now) x ↔ x ∈ table ∨ ∃ p ∈ now, x ∈ p.2.pages := fun x => by
    constructor
    · rintro (h1 | ⟨p, hp, h1⟩ | ⟨p, hp, hf', h1⟩)
      · exact Or.inl h1
      · obtain ⟨q, hq, rfl⟩ := mem_old hp
        exact Or.inr ⟨q, hq, h1⟩
      · rw [hf p hp] at hf'; cases hf'
    · rintro (h1 | ⟨p, hp, h1⟩)
      · exact Or.inl h1
      · exact Or.inr (Or.inl ⟨old p, List.mem_map_of_mem hp, h1⟩)
  refine ⟨h.lo, h.hi, h.epoch, up_old h.up, up_old h.up, ?_, ?_, hth, hth, hf, fun p hp _ => hp, hnn, hnn, fun p hp q hq hf' => ?_, h.tnod, h.tlen, htn, htn, fun x hx => ?_, fun x => ?_⟩
  · show (now.map old).length ≤ 64
    rw [List.length_map]; exact h.len
  · show (now.map old).length ≤ 64
    rw [List.length_map]; exact h.len
  · rw [hf q hq] at hf'; cases hf'
  · rcases (hused x).1 hx with h1 | ⟨p, hp, h1⟩
    · exact h.trng x h1
    · exact h.nrng p hp x h1
  · rw [hused]; exact restS_true
def undoT (T : Sto) : Sto := settle T.D T.epoch T.table T.kept
theorem Ok.undo_fit (h : Ok T) : Fit T.D T.epoch T.table T.kept := ⟨h.lo, h.hi, h.epoch, h.upk, h.lenk, h.thk, h.kk, h.tnod, h.tlen, h.tk, fun _ hx => h.trng hx, fun _ hp _ hx => h.krng hp hx⟩
theorem Ok.undo (h : Ok T) : Ok (undoT T) := h.undo_fit.ok
/-! ### Commit -/
def rowB (p : Nat × Th) : List Nat := Rt.four p.1 ++ Rt.four p.2.bytes ++ Rt.four p.2.epoch ++ p.2.pages.flatMap Rt.four
def tabB (l : List (Nat × Th)) : List Nat := l.flatMap rowB
def comN (T : Sto) : Nat := Ex.pages (tabB T.now).length
def comL (T : Sto) : List Nat := (Fr.lst T.S).take (comN T + 1)
def comB (T : Sto) : List Nat := (comL T).tail.flatMap Rt.four
def comH (T : Sto) : Nat := (comL T).headD 0
def comD1 (T : Sto) : Dk.Disk := Pg.wD T.D (comH T) (nx T.epoch) (comB T)
def comD2 (T : Sto) : Dk.Disk := Ex.wD (comD1 T) (nx T.epoch) (comL T).tail (tabB T.now)
def comR (T : Sto) : Rt.Root := ⟨nx T.epoch, comH T, (tabB T.now).length⟩
/-- is there room for the table? -/
def comF (T : Sto) : Prop := comN T ≤ 60 ∧ comN T + 1 ≤ (Fr.lst T.S).length
instance (T : Sto) : Decidable (comF T) := by unfold comF; infer_instance
def comE (T : Sto) : Nat := if comF T then Rt.wE (comD2 T) (comR T) else 6
def comT (T : Sto) : Sto := if comF T then (if Rt.wE (comD2 T) (comR T) = 0 then settle (Rt.wD (comD2 T) (comR T)) (nx T.epoch) (comL T) T.now else { T with D := comD2 T }) else T
theorem flat_four (l : List Nat) : (l.flatMap Rt.four).length = 4 * l.length := by
  induction l with
  | nil => rfl
  | cons x l ih => rw [List.flatMap_cons, List.length_append, ih, Rt.four_length, List.length_cons]; omega
theorem rowB_length (p : Nat × Th) : (rowB p).length = 12 + 4 * p.2.pages.length := by
  simp only [rowB, List.length_append, Rt.four_length, flat_four]
theorem tabB_le {l : List (Nat × Th)} (h : ∀ p ∈ l, ThOk p) : (tabB l).length ≤ 1108 * l.length := by
  induction l with
  | nil => exact Nat.le_refl _
  | cons p l ih =>
    have h1 := h p List.mem_cons_self
    have h2 := ih (fun q hq => h q (List.mem_cons_of_mem _ hq))
    have h3 := pages_max h1.bytes
    have h4 := h1.len
    rw [tabB, List.flatMap_cons, List.length_append, rowB_length, List.length_cons]
    rw [tabB] at h2
    omega
theorem Ok.tab_le (h : Ok T) : (tabB T.now).length ≤ 70912 := by
  have := tabB_le h.thn
  have := h.lenn
  omega
theorem comL_length (h : comF T) : (comL T).length = comN T + 1 := by rw [comL, List.length_take]; have := h.2; omega
theorem comL_cons (h : comF T) : comL T = comH T :: (comL T).tail := by
  have := comL_length h
  unfold comH
  cases hc : comL T with
  | nil => rw [hc] at this; cases this
  | cons x l => rfl
theorem comL_tail (h : comF T) : (comL T).tail.length = comN T := by rw [List.length_tail, comL_length h]; omega
theorem Ok.com_free (h : Ok T) {x : Nat} (hx : x ∈ comL T) : 1 ≤ x ∧ x ≤ many T.D ∧ ¬ Used T x := (h.free x).1 (lst_pos hx)
theorem comL_nodup (T : Sto) : (comL T).Nodup := take_nodup _ _
theorem comB_length (h : comF T) : (comB T).length ≤ 240 := by
  rw [comB, flat_four, comL_tail h]; have := h.1; omega
theorem comD1_len (T : Sto) : (comD1 T).seen.length = T.D.seen.length := Pg.wD_len _ _ _ _
theorem comD2_len (T : Sto) : (comD2 T).seen.length = T.D.seen.length := by rw [comD2, Ex.wD_len, comD1_len]
theorem Ok.com_head (h : Ok T) (hf : comF T) : Pg.wE T.D (comH T) (comB T) = 0 := by
  have : comH T ∈ comL T := by rw [comL_cons hf]; exact List.mem_cons_self
  rw [Pg.wE, if_pos ⟨many_on h.lo (h.com_free this).2.1, comB_length hf⟩]
theorem Ok.com_may (h : Ok T) (hf : comF T) : Ex.may (comD1 T) (comL T).tail (tabB T.now).length := by
  refine ⟨(comL_nodup T).sublist (List.tail_sublist _), fun x hx => ?_, comL_tail hf⟩
  rw [Ex.onD_len (comD1_len T)]
  exact many_on h.lo (h.com_free (List.mem_of_mem_tail hx)).2.1
theorem wD_root_len (D : Dk.Disk) (r : Rt.Root) : (Rt.wD D r).seen.length = D.seen.length := by
  unfold Rt.wD; split
  · simp [Dk.sync, Dk.write]
  · rfl
theorem Ok.com_fit (h : Ok T) (hf : comF T) : Fit (Rt.wD (comD2 T) (comR T)) (nx T.epoch) (comL T) T.now := by
  have hlen : (Rt.wD (comD2 T) (comR T)).seen.length = T.D.seen.length := by rw [wD_root_len, comD2_len]
  have hm := many_eq hlen
  refine ⟨by rw [hlen]; exact h.lo, by rw [hlen]; exact h.hi, nx_lt _, h.upn, h.lenn, h.thn, h.nn, comL_nodup T, ?_, ?_, ?_, ?_⟩
  · rw [comL_length hf]; have := hf.1; omega
  · intro p hp x hx hy
    refine (h.com_free hx).2.2 ?_
    cases hfr : p.2.fresh with
    | true => exact Or.inr (Or.inr ⟨p, hp, hfr, hy⟩)
    | false => exact Or.inr (Or.inl ⟨p, h.nk p hp hfr, hy⟩)
  · intro x hx; rw [hm]; exact ⟨(h.com_free hx).1, (h.com_free hx).2.1⟩
  · intro p hp x hx; rw [hm]; exact h.nrng hp hx
theorem Ok.disk (h : Ok T) {D : Dk.Disk} (hl : D.seen.length = T.D.seen.length) : Ok { T with D := D } := by
  have hm := many_eq hl
  refine ⟨by show 32 ≤ D.seen.length; rw [hl]; exact h.lo, by show D.seen.length ≤ 16384; rw [hl]; exact h.hi, h.epoch, h.upn, h.upk, h.lenn, h.lenk, h.thn, h.thk, h.kf, h.nk, h.kk, h.nn, h.kn, h.tnod, h.tlen, h.tk, h.tn, fun x hx => ?_, fun x => ?_⟩
  · show 1 ≤ x ∧ x ≤ many D
    rw [hm]; exact h.rng x hx
  · show T.S x = true ↔ 1 ≤ x ∧ x ≤ many D ∧ _
    rw [hm]; exact h.free x
theorem Ok.com (h : Ok T) : Ok (comT T) := by
  unfold comT
  split
  · rename_i hf
    split
    · exact (h.com_fit hf).ok
    · exact h.disk (comD2_len T)
  · exact h
end
end Sh
end Go.Proofs.YtpmkegbgbldpnaaGreatDoor
namespace Go.Proofs.YtpmkegbgbldpnaaGreatDoor
open Go Go.RowKit Go.Maps
set_option linter.unusedSimpArgs false
set_option linter.unusedVariables false

/-- an element reads as itself -/
def asHeld (v : Value) : Option (DataW Value × List MemPlace) := some (.held v, [])
def noTh : Value := .agg #[.int .u32 0, .int .u32 0, .slice none 0 0, .bool false]
theorem keyU32 : Keyed Tryz.prog 24 := int_keyed Tryz.underlying24
theorem keyOf_id {id : Nat} (h : id < 4294967296) : keyOf Tryz.prog 24 (.int .u32 (id : Nat)) = some (.int .u32 (id : Nat)) := keyOf_int_mk Tryz.underlying24 (WalkArith.wf_u32 (by omega))
theorem isKey_id (x : Int) : WideAt.IsKeyLit (.int .u32 x) := by simp [WideAt.IsKeyLit]
theorem lit_ne {a b : Nat} (h : a ≠ b) : (Lit.int .u32 (a : Nat)) ≠ Lit.int .u32 (b : Nat) := fun e => h (by injection e with _ e; omega)
theorem zeroTh (w : World) : (zeroValue 137).run Tryz.prog w = .ok noTh w := by kernel_rfl
/-- a list of pages in the blocks of L -/
def ListAt (w : World) (L : Nat → Prop) (a : Option Addr) (c : Nat) (l : List Nat) : Prop := l.length ≤ c ∧ c ≤ maxLen ∧ Rd w a (nums .u32 l) ∧ ∀ g o, a = some ⟨g, o, none⟩ → l ≠ [] → L g
theorem rd_off {F L : Nat → Prop} {w w' : World} {a : Option Addr} {l : List Nat} (h : Rd w a (nums .u32 l)) (hL : ∀ g o, a = some ⟨g, o, none⟩ → l ≠ [] → L g) (t : Touch F w w') (hF : ∀ k, L k → ¬ F k) : Rd w' a (nums .u32 l) := by
  by_cases h0 : l = []
  · subst h0; exact Rd.nil _ _
  · exact h.touch t (fun b o e _ => hF b (hL b o e h0))
theorem ListAt.touch {F L L' : Nat → Prop} {w w' : World} {a : Option Addr} {c : Nat} {l : List Nat} (h : ListAt w L a c l) (t : Touch F w w') (hF : ∀ k, L k → ¬ F k) (hL : ∀ k, L k → L' k) : ListAt w' L' a c l :=
  ⟨h.1, h.2.1, rd_off h.2.2.1 h.2.2.2 t hF, fun g o e h0 => hL g (h.2.2.2 g o e h0)⟩
def thV (x : Sh.Th) (a : Option Addr) (c : Nat) : Value := .agg #[.int .u32 (x.bytes : Nat), .int .u32 (x.epoch : Nat), .slice a x.pages.length c, .bool x.fresh]
/-- the value of a thing -/
def ThAt (w : World) (L : Nat → Prop) (x : Sh.Th) (v : Value) : Prop := ∃ a c, v = thV x a c ∧ ListAt w L a c x.pages
theorem ThAt.touch {F L L' : Nat → Prop} {w w' : World} {x : Sh.Th} {v : Value} (h : ThAt w L x v) (t : Touch F w w') (hF : ∀ k, L k → ¬ F k) (hL : ∀ k, L k → L' k) : ThAt w' L' x v := by
  obtain ⟨a, c, h1, h2⟩ := h
  exact ⟨a, c, h1, h2.touch t hF hL⟩
/-- what a map of things reads as -/
def MapT (w : World) (L : Nat → Prop) (D : DataW Value) (its : List (Nat × Sh.Th)) : Prop :=
  IsMap D ∧ ∀ id, id < 4294967296 → Maps.has D (.int .u32 (id : Nat)) = (Mp.look its id).isSome ∧ ∀ x, Mp.look its id = some x → ∃ v, ThAt w L x v ∧ D.atKey (.int .u32 (id : Nat)) (.held noTh) = .held v
theorem MapT.touch {F L L' : Nat → Prop} {w w' : World} {D : DataW Value} {its : List (Nat × Sh.Th)} (h : MapT w L D its) (t : Touch F w w') (hF : ∀ k, L k → ¬ F k) (hL : ∀ k, L k → L' k) : MapT w' L' D its :=
  ⟨h.1, fun id hid => ⟨(h.2 id hid).1, fun x hx => by
    obtain ⟨v, hv, ha⟩ := (h.2 id hid).2 x hx
    exact ⟨v, hv.touch t hF hL, ha⟩⟩⟩
theorem MapT.nil (w : World) (L : Nat → Prop) : MapT w L (.map []) [] := ⟨isMap_empty, fun id _ => ⟨rfl, fun x hx => by cases hx⟩⟩
theorem MapT.put {w : World} {L : Nat → Prop} {D : DataW Value} {its : List (Nat × Sh.Th)} (h : MapT w L D its) (id : Nat) (x : Sh.Th) (v : Value) (hv : ThAt w L x v) : MapT w L (D.put (.int .u32 (id : Nat)) (.held v)) (Mp.put its id x) := by
  refine ⟨h.1.put _ _, fun id' hid' => ?_⟩
  by_cases e : id' = id
  · subst e
    refine ⟨by rw [has_put_same h.1 (isKey_id _), Mp.look_put_same]; rfl, fun y hy => ?_⟩
    rw [Mp.look_put_same] at hy
    cases hy
    exact ⟨v, hv, atKey_put_same h.1 (isKey_id _) _ _⟩
  · refine ⟨by rw [has_put_other (lit_ne e), Mp.look_put_other _ e]; exact (h.2 id' hid').1, fun y hy => ?_⟩
    rw [Mp.look_put_other _ e] at hy
    rw [atKey_put_other (lit_ne e)]
    exact (h.2 id' hid').2 y hy
theorem ownsMap_touch {F : Nat → Prop} {w w' : World} {b n : Nat} {D : DataW Value} (h : w.ownsMap Tryz.prog 24 asHeld b n D) (t : Touch F w w') (hF : ¬ F b) : w'.ownsMap Tryz.prog 24 asHeld b n D := by
  have hlt := h.lt
  obtain ⟨es, clock, hb, r⟩ := h
  exact ⟨es, clock, by rw [t.block b hlt hF]; exact hb, r⟩
/-- the map at b, written n times at most -/
def MapAtT (w : World) (L : Nat → Prop) (b n : Nat) (its : List (Nat × Sh.Th)) : Prop := ∃ cnt D, cnt ≤ n ∧ w.ownsMap Tryz.prog 24 asHeld b cnt D ∧ MapT w L D its
theorem MapAtT.touch {F L L' : Nat → Prop} {w w' : World} {b n : Nat} {its : List (Nat × Sh.Th)} (h : MapAtT w L b n its) (t : Touch F w w') (hb : ¬ F b) (hF : ∀ k, L k → ¬ F k) (hL : ∀ k, L k → L' k) : MapAtT w' L' b n its := by
  obtain ⟨cnt, D, h1, h2, h3⟩ := h
  exact ⟨cnt, D, h1, ownsMap_touch h2 t hb, h3.touch t hF hL⟩
theorem MapAtT.lt {w : World} {L : Nat → Prop} {b n : Nat} {its : List (Nat × Sh.Th)} (h : MapAtT w L b n its) : b < w.heap.size := by
  obtain ⟨cnt, D, h1, h2, h3⟩ := h
  exact h2.lt
/-- what lies in the struct -/
structure Sm where
  epoch : Nat
  now : List (Nat × Sh.Th)
  puts : Nat
  kept : List (Nat × Sh.Th)
  table : List Nat
def Sh.Sto.m (T : Sh.Sto) : Sm := ⟨T.epoch, T.now, T.puts, T.kept, T.table⟩
structure StoIn (w : World) (s : Nat) (d f : Option Addr) (m : Sm) (nb : Option Nat) (bk : Nat) (ta : Option Addr) (tc : Nat) (L : Nat → Prop) : Prop where
  row : Row w s 124 [.pointer d, .int .u32 (m.epoch : Nat), .map nb, .map (some bk), .slice ta m.table.length tc, .pointer f]
  now : ∀ b, nb = some b → MapAtT w L b m.puts m.now ∧ ¬ L b ∧ b ≠ s ∧ b ≠ bk
  kept : MapAtT w L bk 5000 m.kept
  tab : ListAt w L ta tc m.table
  ls : ¬ L s
  lk : ¬ L bk
  sk : s ≠ bk
  llt : ∀ k, L k → k < w.heap.size
/-- its blocks -/
def stoO (s : Nat) (nb : Option Nat) (bk : Nat) (L : Nat → Prop) : Nat → Prop := fun k => k = s ∨ nb = some k ∨ k = bk ∨ L k
theorem StoIn.lt {w : World} {s : Nat} {d f : Option Addr} {m : Sm} {nb : Option Nat} {bk : Nat} {ta : Option Addr} {tc : Nat} {L : Nat → Prop} (h : StoIn w s d f m nb bk ta tc L) : ∀ k, stoO s nb bk L k → k < w.heap.size := by
  rintro k (rfl | e | rfl | hk)
  · exact h.row.lt
  · exact (h.now k e).1.lt
  · exact h.kept.lt
  · exact h.llt k hk
theorem StoIn.touch {F : Nat → Prop} {w w' : World} {s : Nat} {d f : Option Addr} {m : Sm} {nb : Option Nat} {bk : Nat} {ta : Option Addr} {tc : Nat} {L : Nat → Prop} (h : StoIn w s d f m nb bk ta tc L) (t : Touch F w w') (hF : ∀ k, stoO s nb bk L k → ¬ F k) : StoIn w' s d f m nb bk ta tc L :=
  have hL : ∀ k, L k → ¬ F k := fun k hk => hF k (Or.inr (Or.inr (Or.inr hk)))
  ⟨h.row.touch t (hF s (Or.inl rfl)), fun b e => ⟨(h.now b e).1.touch t (hF b (Or.inr (Or.inl e))) hL (fun _ h => h), (h.now b e).2⟩, h.kept.touch t (hF bk (Or.inr (Or.inr (Or.inl rfl)))) hL (fun _ h => h), h.tab.touch t hL (fun _ h => h), h.ls, h.lk, h.sk, fun k hk => Nat.lt_of_lt_of_le (h.llt k hk) t.size⟩
/-- u: is the map of what there is now made? X: lists in its blocks that nothing there leads to yet -/
def Part.stoX (s : Nat) (d f : Option Addr) (u : Bool) (m : Sm) (X : List (Option Addr × Nat × List Nat)) : Part where
  P w O := ∃ nb bk ta tc L, StoIn w s d f m nb bk ta tc L ∧ nb.isSome = u ∧ (∀ x ∈ X, ListAt w L x.1 x.2.1 x.2.2) ∧ ∀ k, O k ↔ stoO s nb bk L k
  stable := fun {F w w' O} ⟨nb, bk, ta, tc, L, h1, h2, hx, h3⟩ t hF => ⟨nb, bk, ta, tc, L, h1.touch t (fun k hk => hF k ((h3 k).2 hk)), h2, fun x hX => (hx x hX).touch t (fun k hk => hF k ((h3 k).2 (Or.inr (Or.inr (Or.inr hk))))) (fun _ h => h), h3⟩
  lt := fun {w O} ⟨nb, bk, ta, tc, L, h1, h2, hx, h3⟩ k hk => h1.lt k ((h3 k).1 hk)
abbrev Part.sto (s : Nat) (d f : Option Addr) (u : Bool) (m : Sm) : Part := Part.stoX s d f u m []
/-- a store beside its disk and its free pages, and beside what else stands there -/
def Sg (u : Bool) (w0 w : World) (s d f : Nat) (T : Sh.Sto) (E : List Part) : Prop := Dd w0 w d T.D (Part.sto s (some ⟨d, 0, none⟩) (some ⟨f, 0, none⟩) u T.m :: Part.map f 1 (1 + Sh.many T.D) T.S :: E)
abbrev Ss := Sg true
end Go.Proofs.YtpmkegbgbldpnaaGreatDoor
namespace Go.Proofs.YtpmkegbgbldpnaaGreatDoor
open Go Go.RowKit Go.Maps
set_option linter.unusedSimpArgs false
set_option linter.unusedVariables false

section
variable {u : Bool} {w0 w w' : World} {s d f : Nat} {T : Sh.Sto} {E : List Part}
theorem Sg.end (h : Sg u w0 w s d f T E) : Touch No w0 w := Dd.end h
theorem Sg.no (h : Sg u w0 w s d f T E) (t : Touch No w w') : Sg u w0 w' s d f T E := Dd.no h t
theorem Sg.disk (h : Sg u w0 w s d f T E) : ∃ O, DiskAt w d T.D O := Dd.disk h
theorem Sg.stoIn (h : Sg u w0 w s d f T E) : ∃ nb bk ta tc L, StoIn w s (some ⟨d, 0, none⟩) (some ⟨f, 0, none⟩) T.m nb bk ta tc L := by
  obtain ⟨A, ⟨nb, bk, ta, tc, L, h1, h2, hx, h3⟩, _⟩ := Dd.rest h List.mem_cons_self
  exact ⟨nb, bk, ta, tc, L, h1⟩
theorem Sg.push {p : Part} (h : Sg u w0 w s d f T E) (hb : Born w p w') : Sg u w0 w' s d f T (p :: E) :=
  Dd.perm (Dd.push h hb) ((List.Perm.swap _ _ _).trans ((List.Perm.swap _ _ _).cons _))
theorem Sg.perm {E' : List Part} (h : Sg u w0 w s d f T E) (hp : E.Perm E') : Sg u w0 w s d f T E' := Dd.perm h ((hp.cons _).cons _)
theorem Sg.drop {p : Part} (h : Sg u w0 w s d f T (p :: E)) : Sg u w0 w s d f T E := (Dd.perm h (((List.Perm.swap _ _ _).cons _).trans (List.Perm.swap _ _ _))).drop
theorem Sg.row (h : Sg u w0 w s d f T E) {Ty : TypeId} {x : Nat} {vs : List Value} (hp : Part.row x Ty vs ∈ E) : Row w x Ty vs := Dd.row h (List.mem_cons_of_mem _ (List.mem_cons_of_mem _ hp))
theorem Sg.rd (h : Sg u w0 w s d f T E) {Ty : TypeId} {a : Option Addr} {m c : Nat} {vs : List Value} (hp : Part.sl Ty a m c vs ∈ E) : Rd w a vs := Dd.rd h (List.mem_cons_of_mem _ (List.mem_cons_of_mem _ hp))
/-- the map of free pages, taken up and turned -/
theorem Sg.map (h : Sg u w0 w s d f T E) : MapAt w f 1 (1 + Sh.many T.D) T.S ∧ (∀ q ∈ Part.disk d T.D :: Part.sto s (some ⟨d, 0, none⟩) (some ⟨f, 0, none⟩) u T.m :: E, ∃ C, q.P w C ∧ ¬ C f) ∧ w0.heap.size ≤ f ∧
    ∀ w' S', Touch (One f) w w' → MapAt w' f 1 (1 + Sh.many T.D) S' → Sg u w0 w' s d f { T with S := S' } E := by
  have h1 : Sl w0 w (Part.map f 1 (1 + Sh.many T.D) T.S :: Part.disk d T.D :: Part.sto s (some ⟨d, 0, none⟩) (some ⟨f, 0, none⟩) u T.m :: E) := Sl.perm h (((List.Perm.swap _ _ _).cons _).trans (List.Perm.swap _ _ _))
  obtain ⟨A, ⟨ha, hf, hlt⟩, hA, hq, hk⟩ := Sl.step2 h1
  refine ⟨ha, fun q hq' => ?_, (hA f hf).1, fun w' S' t hm => ?_⟩
  · obtain ⟨C, hC, hd⟩ := hq q hq'
    exact ⟨C, hC, hd f hf⟩
  · have := hk w' [Part.map f 1 (1 + Sh.many T.D) S'] ⟨t.mono (fun k _ e => by rw [show k = f from e]; exact hf), One f, ⟨One f, fun _ => False, ⟨hm, rfl, fun k e => by rw [show k = f from e]; exact hm.lt⟩, trivial, fun _ _ f => f, fun _ h => h, fun _ f => f.elim⟩, fun k e => Or.inl (by rw [show k = f from e]; exact hf)⟩
    exact Sl.perm this ((List.Perm.swap _ _ _).trans ((List.Perm.swap _ _ _).cons _))
theorem Sg.c0 (h : Sg u w0 w s d f T E) : w.cell? ⟨s, 0, none⟩ = some (.pointer (some ⟨d, 0, none⟩)) := by
  obtain ⟨bn, bk, ta, tc, L, h⟩ := h.stoIn
  exact h.row.cell 0
theorem Sg.c1 (h : Sg u w0 w s d f T E) : w.cell? ⟨s, 1, none⟩ = some (.int .u32 (T.epoch : Nat)) := by
  obtain ⟨bn, bk, ta, tc, L, h⟩ := h.stoIn
  exact h.row.cell 1
theorem Sg.c5 (h : Sg u w0 w s d f T E) : w.cell? ⟨s, 5, none⟩ = some (.pointer (some ⟨f, 0, none⟩)) := by
  obtain ⟨bn, bk, ta, tc, L, h⟩ := h.stoIn
  exact h.row.cell 5
end
theorem shThere_at (w : World) (s d : Nat) (c0 : w.cell? ⟨s, 0, none⟩ = some (.pointer (some ⟨d, 0, none⟩))) : Calls Tryz.prog 59 #[.pointer (some ⟨s, 0, none⟩)] w fun e w' => e = .returned (.bool true) ∧ w = w' := by
  go_enter Tryz.func59, Tryz.ntmps59
  go_wp2
  go_ret
  exact ⟨rfl, rfl⟩
theorem shThere_nil (w : World) : Calls Tryz.prog 59 #[.pointer none] w fun e w' => e = .returned (.bool false) ∧ w = w' := by
  go_enter Tryz.func59, Tryz.ntmps59
  go_wp2
  go_ret
  exact ⟨rfl, rfl⟩
set_option maxRecDepth 100000 in
theorem shPages_at (w : World) (s d : Nat) (D : Dk.Disk) (O : Nat → Prop) (h : DiskAt w d D O) (hl : 32 ≤ D.seen.length) (c0 : w.cell? ⟨s, 0, none⟩ = some (.pointer (some ⟨d, 0, none⟩))) :
    Calls Tryz.prog 148 #[.pointer (some ⟨s, 0, none⟩)] w fun e w' => e = .returned (.int .i64 (Sh.many D : Nat)) ∧ w = w' := by
  have H := Lib.hid h
  obtain ⟨n, hn⟩ : ∃ n, D.seen.length = n := ⟨_, rfl⟩
  have hm : Sh.many D = min 4096 (n / 4 - 1) := by rw [Sh.many, hn]
  rw [hn] at hl
  have ht := h.ok.top
  rw [hn] at ht
  have Hn := Lib.hid hn
  have e1 : Int.tdiv (n : Int) 4 = (n / 4 : Nat) := by rw [Int.tdiv_eq_ediv_of_nonneg (by omega)]; rfl
  obtain ⟨q, hq⟩ : ∃ q, n / 4 = q := ⟨_, rfl⟩
  rw [hq] at e1 hm
  have hq2 : 8 ≤ q ∧ q ≤ 4096 := by omega
  have Hm := Lib.hid hm
  clear h hn hm
  go_enter Tryz.func148, Tryz.ntmps148
  go_wp2_with fail
  refine (len_in w d D O H.out).mono ?_
  rintro e w' ⟨rfl, rfl⟩
  rw [Hn.out]
  go_wp2
  go_ret
  refine ⟨?_, rfl⟩
  rw [Hm.out]
  show Ending.returned (Value.int .i64 _) = _
  congr 2
  omega
end Go.Proofs.YtpmkegbgbldpnaaGreatDoor
namespace Go.Proofs.YtpmkegbgbldpnaaGreatDoor
open Go Go.RowKit Go.Maps
set_option linter.unusedSimpArgs false
set_option linter.unusedVariables false

/-- what dropping a thing leaves free -/
def Sh.dropped (T : Sh.Sto) (x : Sh.Th) : Nat → Bool := if x.fresh = true then giveSet 1 (1 + Sh.many T.D) T.S x.pages else T.S
set_option maxRecDepth 100000 in
set_option maxHeartbeats 4000000 in
theorem shDrops_any {u : Bool} {w0 w : World} {s d f : Nat} {T : Sh.Sto} {E : List Part} (h : Sg u w0 w s d f T E) (x : Sh.Th) (a : Option Addr) (c : Nat) (hl : x.pages.length ≤ c) (hc : c ≤ maxLen) (hr : Rd w a (nums .u32 x.pages)) (hoff : ∀ g o, a = some ⟨g, o, none⟩ → 0 < x.pages.length → g ≠ f) (hx : ∀ y ∈ x.pages, y < 4294967296) :
    Calls Tryz.prog 60 #[.pointer (some ⟨s, 0, none⟩), thV x a c] w fun e w' => e = .returned (.tuple #[]) ∧ Sg u w0 w' s d f { T with S := Sh.dropped T x } E ∧ Touch (One f) w w' := by
  obtain ⟨xb, xe, xp, xf⟩ := x
  have H := Lib.hid h
  have HR := Lib.hid hr
  have HO := Lib.hid hoff
  have HX := Lib.hid hx
  obtain ⟨n, hn⟩ : ∃ n, xp.length = n := ⟨_, rfl⟩
  have HN := Lib.hid hn
  have Hl : Hid (n ≤ c) := by show _ ≤ _; rw [← hn]; exact hl
  have Hc := Lib.hid hc
  unfold thV
  rw [show (Sh.Th.pages ⟨xb, xe, xp, xf⟩).length = n from hn]
  dsimp only at *
  clear h hr hoff hx hl hn hc
  go_enter Tryz.func60, Tryz.ntmps60
  go_upto_region 1 with fail
  obtain ⟨X, hX⟩ : ∃ X, X = w.heap.size := ⟨_, rfl⟩
  obtain ⟨w2, hw2⟩ : ∃ w2, w2 = w.alloc (.cells #[.int .u32 (xb : Nat), .int .u32 (xe : Nat), .slice a n c, .bool xf] 137) := ⟨_, rfl⟩
  have S2 : Hid (Sg u w0 w2 s d f T (Part.row X 137 [.int .u32 (xb : Nat), .int .u32 (xe : Nat), .slice a n c, .bool xf] :: E)) := by
    show Sg _ _ _ _ _ _ _ _
    rw [hw2, hX]
    exact H.out.push (Born.row w 137 #[.int .u32 (xb : Nat), .int .u32 (xe : Nat), .slice a n c, .bool xf])
  have HT2 : Hid (Touch No w w2) := by show Touch _ _ _; rw [hw2]; exact (Touch.refl No w).alloc _
  have HR2 : Hid (Rd w2 a (nums .u32 xp)) := by show Rd _ _ _; rw [hw2]; exact HR.out.no ((Touch.refl No w).alloc _)
  rw [← hw2, ← hX]
  clear hw2 hX H HR
  have k3 : w2.cell? ⟨X, 3, none⟩ = some (.bool xf) := (S2.out.row List.mem_cons_self).cell 3
  cases xf with
  | false =>
    go_wp2
    go_end0
    exact ⟨rfl, S2.out.drop, HT2.out.no⟩
  | true =>
    have k5 : w2.cell? ⟨s, 5, none⟩ = some (.pointer (some ⟨f, 0, none⟩)) := S2.out.c5
    have k2 : w2.cell? ⟨X, 2, none⟩ = some (.slice a n c) := (S2.out.row List.mem_cons_self).cell 2
    have hS : w2.cell? ⟨s, 5, none⟩ = some (.pointer (some ⟨f, 0, none⟩)) ∧ w2.cell? ⟨X, 2, none⟩ = some (.slice a n c) := ⟨k5, k2⟩
    have S2D := Lib.hid (S2.out.no (Touch.refl No w2).drew)
    have G : Hid (Calls Tryz.prog 72 #[.pointer (some ⟨f, 0, none⟩), .slice a n c] w2.drew fun e w' => e = .returned (.int .i64 (giveSays 1 (1 + Sh.many T.D) T.S xp : Nat)) ∧ Sg u w0 w' s d f { T with S := giveSet 1 (1 + Sh.many T.D) T.S xp } (Part.row X 137 [.int .u32 (xb : Nat), .int .u32 (xe : Nat), .slice a n c, .bool true] :: E) ∧ Touch (One f) w2.drew w') := by
      obtain ⟨hm, _, _, hk⟩ := S2D.out.map
      exact (give_any _ f 1 (1 + Sh.many T.D) T.S a n c xp hm HN.out Hl.out (by have := Hc.out; unfold maxLen at this; omega) (HR2.out.no (Touch.refl No w2).drew) (fun g o e h0 => HO.out g o e (by rw [HN.out]; exact h0)) HX.out).mono fun e w' ⟨he, ht, hm'⟩ => ⟨he, hk w' _ ht hm', ht⟩
    clear k5 k2
    go_wp2_with fail
    go_region_held3 (fun w' => w'.cell? ⟨s, 5, none⟩ = some (.pointer (some ⟨f, 0, none⟩)) ∧ w'.cell? ⟨X, 2, none⟩ = some (.slice a n c)) (first | exact hS | exact ⟨s9.c5, (s9.row List.mem_cons_self).cell 2⟩ | exact ⟨S2D.out.c5, (S2D.out.row List.mem_cons_self).cell 2⟩) (first
      | (go_at_call 72; refine G.out.mono ?_; rintro e w9 ⟨rfl, s9, t9⟩))
    go_wp2
    go_end0
    refine ⟨rfl, ?_, (HT2.out.drew.no : Touch (One f) w w2.drew).then t9 (fun _ _ h => h)⟩
    rw [Sh.dropped, if_pos rfl]
    exact s9.drop

/-- may these be marked, one by one? -/
def Sh.marks (S : Nat → Bool) (l : List Nat) : Bool := decide (l.Nodup) && l.all S
theorem Sh.marks_true {S : Nat → Bool} {l : List Nat} : Sh.marks S l = true ↔ l.Nodup ∧ ∀ p ∈ l, S p = true := by simp [Sh.marks]
def faultV (b : Nat) : Value := .iface 125 (.pointer (some ⟨b, 0, none⟩))
def MarksPost (u : Bool) (w0 w : World) (s d f : Nat) (T : Sh.Sto) (E : List Part) (l : List Nat) (e : Ending) (w' : World) : Prop :=
  (Sh.marks T.S l = true ∧ e = .returned .nilIface ∧ Sg u w0 w' s d f { T with S := Fr.sub T.S l } E ∧ Touch (One f) w w') ∨
  (Sh.marks T.S l = false ∧ ∃ b S' st, e = .returned (faultV b) ∧ Sg u w0 w' s d f { T with S := S' } (Part.row b 132 [.string st, .int .i64 4] :: E))
theorem Sh.marks_step {S : Nat → Bool} {l : List Nat} {k : Nat} (hk : k < l.length) (h : (l.take k).Nodup ∧ ∀ p ∈ l.take k, S p = true) (hs : Fr.sub S (l.take k) (l.getD k 0) = true) : ((l.take (k + 1)).Nodup ∧ ∀ p ∈ l.take (k + 1), S p = true) ∧ Fr.flip (Fr.sub S (l.take k)) (l.getD k 0) = Fr.sub S (l.take (k + 1)) := by
  have e : l.take (k + 1) = l.take k ++ [l.getD k 0] := by rw [List.take_add_one, List.getD_eq_getElem?_getD, List.getElem?_eq_getElem hk]; rfl
  have h2 := Sh.sub_true.1 hs
  rw [e]
  refine ⟨⟨List.nodup_append.2 ⟨h.1, by simp, fun a ha b hb e2 => ?_⟩, fun p hp => ?_⟩, Fr.flip_sub hs⟩
  · rw [List.mem_singleton] at hb; subst hb; subst e2; exact h2.2 ha
  · rcases List.mem_append.1 hp with hp | hp
    · exact h.2 p hp
    · rw [List.mem_singleton] at hp; rw [hp]; exact h2.1
theorem Sh.marks_not {S : Nat → Bool} {l : List Nat} {k : Nat} (hk : k < l.length) (hs : Fr.sub S (l.take k) (l.getD k 0) = false) : Sh.marks S l = false := by
  rw [Bool.eq_false_iff]
  intro h
  obtain ⟨h1, h2⟩ := Sh.marks_true.1 h
  have hm : l.getD k 0 ∈ l := by rw [List.getD_eq_getElem?_getD, List.getElem?_eq_getElem hk]; exact List.getElem_mem hk
  have : Fr.sub S (l.take k) (l.getD k 0) = true := by
    refine Sh.sub_true.2 ⟨h2 _ hm, fun hx => ?_⟩
    rw [List.getD_eq_getElem?_getD, List.getElem?_eq_getElem hk] at hx
    obtain ⟨j, hj, e⟩ := List.mem_iff_getElem.1 hx
    rw [List.getElem_take] at e
    rw [List.length_take] at hj
    have := (List.getElem_inj h1).1 e
    omega
  rw [this] at hs; cases hs
set_option maxRecDepth 100000 in
set_option maxHeartbeats 4000000 in
theorem shMarks_any {u : Bool} {w0 w : World} {s d f : Nat} {T : Sh.Sto} {E : List Part} (h : Sg u w0 w s d f T E) (a : Option Addr) (n c : Nat) (l : List Nat) (hn : l.length = n) (hmax : (n : Int) ≤ 1000000000000) (hr : Rd w a (nums .u32 l)) (hoff : ∀ g o, a = some ⟨g, o, none⟩ → 0 < n → g ≠ f) (hx : ∀ y ∈ l, y < 4294967296) :
    Calls Tryz.prog 152 #[.pointer (some ⟨s, 0, none⟩), .slice a n c] w (MarksPost u w0 w s d f T E l) := by
  have H := Lib.hid h
  have HN := Lib.hid hn
  have HX := Lib.hid hx
  have HR : Hid (∀ w', Touch (One f) w w' → Rd w' a (nums .u32 l)) := by
    intro w' t
    by_cases h0 : 0 < n
    · exact hr.touch t (fun b o e _ => fun e2 => hoff b o e h0 e2)
    · have : l = [] := List.eq_nil_of_length_eq_zero (by omega)
      rw [this]; exact Rd.nil _ _
  clear h hn hr hoff hx
  go_enter Tryz.func152, Tryz.ntmps152
  go_wp2
  go_loopg [10] n (fun g s10 wr => ∃ k : Nat, k + g = n ∧ s10 = .int .i64 ((k : Nat) : Int) ∧ Hid (Touch (One f) w wr) ∧ Hid ((l.take k).Nodup ∧ ∀ p ∈ l.take k, T.S p = true) ∧ Hid (Sg u w0 wr s d f { T with S := Fr.sub T.S (l.take k) } E))
  case atStart => exact ⟨0, by omega, rfl, Touch.refl _ _, ⟨List.nodup_nil, fun p hp => by cases hp⟩, by show Sg _ _ _ _ _ _ _ _; rw [List.take_zero, Fr.sub_nil]; exact H.out⟩
  case round =>
    clear H
    obtain ⟨k, hkn, rfl, HT, HK, HS⟩ := hrel
    cases gk with
    | zero =>
      obtain rfl : k = n := by omega
      have e : l.take k = l := List.take_of_length_le (by rw [HN.out]; exact Nat.le_refl _)
      go_wp2
      go_ret
      exact Or.inl ⟨Sh.marks_true.2 (by rw [e] at HK; exact HK.out), rfl, by rw [e] at HS; exact HS.out, HT.out⟩
    | succ g =>
      have hki : (k : Int) < (n : Nat) := by omega
      have hkl : k < l.length := by rw [HN.out]; omega
      obtain ⟨gb, go, rfl, hc⟩ := (HR.out _ HT.out).num hkl
      obtain ⟨y, hy⟩ : ∃ y, l.getD k 0 = y := ⟨_, rfl⟩
      have hy32 : y < 4294967296 := by rw [← hy]; exact nums_lt HX.out
      rw [hy] at hc
      have Hy := Lib.hid hy
      have Hkl := Lib.hid hkl
      have k5 := HS.out.c5
      obtain ⟨hm, _, _, hk⟩ := HS.out.map
      have C := Lib.hid (mark_any wr f 1 (1 + Sh.many T.D) y (Fr.sub T.S (l.take k)) hm hy32)
      have HKK := Lib.hid hk
      have hrng := hm.rng
      clear hy hkl hm hk
      by_cases hs : Fr.sub T.S (l.take k) y = true
      · have hsay : markSays 1 (1 + Sh.many T.D) (Fr.sub T.S (l.take k)) y = 0 := by rw [markSays, if_pos (inMap_true.2 (hrng y hs)), if_pos hs]
        have hset : markSet (Fr.sub T.S (l.take k)) y = Fr.flip (Fr.sub T.S (l.take k)) y := by rw [markSet, if_pos hs]
        rw [hsay, hset] at C
        have hst := Sh.marks_step Hkl.out HK.out (by rw [Hy.out]; exact hs)
        rw [Hy.out] at hst
        rw [hst.2] at C
        have HK2 := Lib.hid hst.1
        clear hs hsay hset hst hrng
        go_wp2_with fail
        refine C.out.mono ?_
        rintro e w1 ⟨rfl, t1, m1⟩
        have HS2 := Lib.hid (HKK.out _ _ t1 m1)
        have HT2 := Lib.hid (HT.out.then t1 (fun _ _ h => h))
        clear t1 m1 HKK HS HT k5 hc
        go_wp2
        go_roundg g
        case measure => omega
        case rel => exact ⟨k + 1, by omega, by go_num, HT2.out, HK2.out, HS2.out⟩
      · have hs0 : Fr.sub T.S (l.take k) y = false := by simpa using hs
        obtain ⟨v, hv⟩ : ∃ v, markSays 1 (1 + Sh.many T.D) (Fr.sub T.S (l.take k)) y = v := ⟨_, rfl⟩
        have hv0 : ¬ (v : Int) = 0 := by
          intro e
          have e' : v = 0 := by omega
          rw [← hv, markSays, hs0] at e'
          split at e' <;> cases e'
        have hnot := Lib.hid (Sh.marks_not Hkl.out (by rw [Hy.out]; exact hs0))
        rw [hv] at C
        clear hs hs0 hv hrng
        go_wp2_with fail
        refine C.out.mono ?_
        rintro e w1 ⟨rfl, t1, m1⟩
        have HS2 := Lib.hid (HKK.out _ _ t1 m1)
        clear t1 m1 HKK HS k5 hc
        go_wp2
        go_ret
        exact Or.inr ⟨hnot.out, _, _, _, rfl, HS2.out.push (Born.row _ _ _)⟩
end Go.Proofs.YtpmkegbgbldpnaaGreatDoor
