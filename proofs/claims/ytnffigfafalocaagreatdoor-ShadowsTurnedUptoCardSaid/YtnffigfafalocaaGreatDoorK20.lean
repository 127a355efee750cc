/-
  The plain mathematics of a store of things (chapter 18): what its calls make of it. No program in sight.
-/
import Derived.Test.YtnffigfafalocaaGreatDoorK02
import Derived.Test.YtnffigfafalocaaGreatDoorK18
import Derived.Test.YtnffigfafalocaaGreatDoorK19
namespace Go.Proofs.YtnffigfafalocaaGreatDoor
open Go Go.RowKit
set_option linter.unusedVariables false
set_option linter.unusedSimpArgs false
namespace Sh
structure Th where
  bytes : Nat
  epoch : Nat
  pages : List Nat
  fresh : Bool
/-- a store; puts: how often the map of what there is now was written, at most -/
structure Sto where
  D : Dk.Disk
  S : Nat → Bool
  epoch : Nat
  now : List (Nat × Th)
  kept : List (Nat × Th)
  table : List Nat
  puts : Nat
def many (D : Dk.Disk) : Nat := min 4096 (D.seen.length / 4 - 1)
theorem many_le {D : Dk.Disk} (h : D.seen.length ≤ 16384) : many D ≤ 4095 := by unfold many; omega
theorem many_on {D : Dk.Disk} {x : Nat} (h : 32 ≤ D.seen.length) (hx : x ≤ many D) : onD D x = 0 := by
  unfold onD; rw [if_pos]; unfold many at hx; omega
theorem many_eq {D D' : Dk.Disk} (h : D'.seen.length = D.seen.length) : many D' = many D := by unfold many; rw [h]
def nx (e : Nat) : Nat := (e + 1) % 4294967296
theorem nx_lt (e : Nat) : nx e < 4294967296 := Nat.mod_lt _ (by decide)
def Dj (a b : List Nat) : Prop := ∀ x ∈ a, x ∉ b
theorem Dj.symm {a b : List Nat} (h : Dj a b) : Dj b a := fun x hx hy => h x hy hx
structure ThOk (p : Nat × Th) : Prop where
  id : p.1 < 4294967296
  bytes : p.2.bytes ≤ 65536
  len : p.2.pages.length = Ex.pages p.2.bytes
  nod : p.2.pages.Nodup
  epoch : p.2.epoch < 4294967296
theorem pages_max {n : Nat} (h : n ≤ 65536) : Ex.pages n ≤ 274 := by unfold Ex.pages; omega
def Used (T : Sto) (x : Nat) : Prop := x ∈ T.table ∨ (∃ p ∈ T.kept, x ∈ p.2.pages) ∨ ∃ p ∈ T.now, p.2.fresh = true ∧ x ∈ p.2.pages
/-- .. but for what an id has now -/
def UsedBut (T : Sto) (id x : Nat) : Prop := x ∈ T.table ∨ (∃ p ∈ T.kept, x ∈ p.2.pages) ∨ ∃ p ∈ T.now, p.1 ≠ id ∧ p.2.fresh = true ∧ x ∈ p.2.pages
structure Ok (T : Sto) : Prop where
  lo : 32 ≤ T.D.seen.length
  hi : T.D.seen.length ≤ 16384
  epoch : T.epoch < 4294967296
  upn : Mp.Up T.now
  upk : Mp.Up T.kept
  lenn : T.now.length ≤ 64
  lenk : T.kept.length ≤ 64
  thn : ∀ p ∈ T.now, ThOk p
  thk : ∀ p ∈ T.kept, ThOk p
  kf : ∀ p ∈ T.kept, p.2.fresh = false
  nk : ∀ p ∈ T.now, p.2.fresh = false → p ∈ T.kept
  kk : ∀ p ∈ T.kept, ∀ q ∈ T.kept, p.1 ≠ q.1 → Dj p.2.pages q.2.pages
  nn : ∀ p ∈ T.now, ∀ q ∈ T.now, p.1 ≠ q.1 → Dj p.2.pages q.2.pages
  kn : ∀ p ∈ T.kept, ∀ q ∈ T.now, q.2.fresh = true → Dj p.2.pages q.2.pages
  tnod : T.table.Nodup
  tlen : T.table.length ≤ 61
  tk : ∀ p ∈ T.kept, Dj T.table p.2.pages
  tn : ∀ p ∈ T.now, Dj T.table p.2.pages
  rng : ∀ x, Used T x → 1 ≤ x ∧ x ≤ many T.D
  free : ∀ x, T.S x = true ↔ 1 ≤ x ∧ x ≤ many T.D ∧ ¬ Used T x
section
variable {T : Sto}
theorem Ok.used_but (h : Ok T) {id x : Nat} (hx : UsedBut T id x) : Used T x := by
  rcases hx with h1 | h1 | ⟨p, hp, _, h2⟩
  · exact Or.inl h1
  · exact Or.inr (Or.inl h1)
  · exact Or.inr (Or.inr ⟨p, hp, h2⟩)
theorem Ok.nrng (h : Ok T) {p : Nat × Th} (hp : p ∈ T.now) {x : Nat} (hx : x ∈ p.2.pages) : 1 ≤ x ∧ x ≤ many T.D := by
  cases hf : p.2.fresh with
  | true => exact h.rng x (Or.inr (Or.inr ⟨p, hp, hf, hx⟩))
  | false => exact h.rng x (Or.inr (Or.inl ⟨p, h.nk p hp hf, hx⟩))
theorem Ok.krng (h : Ok T) {p : Nat × Th} (hp : p ∈ T.kept) {x : Nat} (hx : x ∈ p.2.pages) : 1 ≤ x ∧ x ≤ many T.D := h.rng x (Or.inr (Or.inl ⟨p, hp, hx⟩))
theorem Ok.trng (h : Ok T) {x : Nat} (hx : x ∈ T.table) : 1 ≤ x ∧ x ≤ many T.D := h.rng x (Or.inl hx)
/-- what is free when an id's pages are dropped -/
def dropS (T : Sto) (o : Option Th) : Nat → Bool := match o with
  | some x => if x.fresh = true then Fr.add T.S x.pages else T.S
  | none => T.S
theorem add_true {S : Nat → Bool} {l : List Nat} {x : Nat} : Fr.add S l x = true ↔ S x = true ∨ x ∈ l := by simp [Fr.add]
theorem sub_true {S : Nat → Bool} {l : List Nat} {x : Nat} : Fr.sub S l x = true ↔ S x = true ∧ x ∉ l := by simp [Fr.sub]
theorem Ok.drop (h : Ok T) (id x : Nat) : dropS T (Mp.look T.now id) x = true ↔ 1 ≤ x ∧ x ≤ many T.D ∧ ¬ UsedBut T id x := by
  cases hl : Mp.look T.now id with
  | none =>
    rw [dropS, h.free]
    have hn := Mp.look_none_iff.1 hl
    have : Used T x ↔ UsedBut T id x := ⟨fun hu => by
      rcases hu with h1 | h1 | ⟨p, hp, h2⟩
      · exact Or.inl h1
      · exact Or.inr (Or.inl h1)
      · exact Or.inr (Or.inr ⟨p, hp, hn p hp, h2⟩), h.used_but⟩
    rw [this]
  | some w =>
    have hw := Mp.mem_of_look hl
    have huni : ∀ p ∈ T.now, p.1 = id → p.2 = w := fun p hp e => by
      have := Mp.look_mem h.upn hp
      rw [e, hl] at this
      injection this with this
      exact this.symm
    rw [dropS]
    by_cases hf : w.fresh = true
    · rw [if_pos hf, add_true, h.free]
      constructor
      · rintro (⟨h1, h2, h3⟩ | hx)
        · exact ⟨h1, h2, fun hu => h3 (h.used_but hu)⟩
        · have hr := h.nrng hw hx
          refine ⟨hr.1, hr.2, fun hu => ?_⟩
          rcases hu with h1 | ⟨p, hp, h1⟩ | ⟨p, hp, hne, hpf, h1⟩
          · exact h.tn _ hw x h1 hx
          · exact h.kn p hp _ hw hf x h1 hx
          · exact h.nn p hp _ hw hne x h1 hx
      · rintro ⟨h1, h2, h3⟩
        by_cases hx : x ∈ w.pages
        · exact Or.inr hx
        · refine Or.inl ⟨h1, h2, fun hu => h3 ?_⟩
          rcases hu with h4 | h4 | ⟨p, hp, hpf, h4⟩
          · exact Or.inl h4
          · exact Or.inr (Or.inl h4)
          · refine Or.inr (Or.inr ⟨p, hp, fun e => hx ?_, hpf, h4⟩)
            rw [← huni p hp e]; exact h4
    · rw [if_neg hf, h.free]
      have : Used T x ↔ UsedBut T id x := ⟨fun hu => by
        rcases hu with h1 | h1 | ⟨p, hp, hpf, h2⟩
        · exact Or.inl h1
        · exact Or.inr (Or.inl h1)
        · refine Or.inr (Or.inr ⟨p, hp, fun e => hf ?_, hpf, h2⟩)
          rw [← huni p hp e]; exact hpf, h.used_but⟩
      rw [this]
/-- .. and Give says so -/
theorem Ok.give (h : Ok T) {id : Nat} {x : Th} (hl : Mp.look T.now id = some x) (hf : x.fresh = true) : giveSays 1 (1 + many T.D) T.S x.pages = 0 ∧ giveSet 1 (1 + many T.D) T.S x.pages = Fr.add T.S x.pages := by
  have hw := Mp.mem_of_look hl
  have e : giveSays 1 (1 + many T.D) T.S x.pages = 0 := by
    rw [giveSays, if_pos, if_pos]
    · refine fresh_true.2 ⟨(h.thn _ hw).nod, fun y hy => ?_⟩
      cases hS : T.S y with
      | false => rfl
      | true => exact absurd (Or.inr (Or.inr ⟨_, hw, hf, hy⟩)) ((h.free y).1 hS).2.2
    · refine List.all_eq_true.2 (fun y hy => inMap_true.2 ?_)
      have := h.nrng hw hy
      omega
  exact ⟨e, by rw [giveSet, if_pos e]⟩

/-! ### Put -/
def putE (T : Sto) (id n : Nat) : Nat := if 65536 < n then 1 else if Mp.look T.now id = none ∧ 64 ≤ T.now.length then 3 else if (Fr.lst (dropS T (Mp.look T.now id))).length < Ex.pages n then 6 else 0
def putL (T : Sto) (id n : Nat) : List Nat := (Fr.lst (dropS T (Mp.look T.now id))).take (Ex.pages n)
def putT (T : Sto) (id : Nat) (b : List Nat) : Sto := if putE T id b.length = 0 then
    ⟨Ex.wD T.D (nx T.epoch) (putL T id b.length) b, Fr.sub (dropS T (Mp.look T.now id)) (putL T id b.length), T.epoch, Mp.put T.now id ⟨b.length, nx T.epoch, putL T id b.length, true⟩, T.kept, T.table, T.puts + 1⟩ else T
theorem lst_pos {S : Nat → Bool} {n x : Nat} (h : x ∈ (Fr.lst S).take n) : S x = true := (Fr.mem_lst.1 (List.mem_of_mem_take h)).2
theorem take_nodup (S : Nat → Bool) (n : Nat) : ((Fr.lst S).take n).Nodup := (Fr.lst_nodup S).sublist (List.take_sublist _ _)
theorem putE_ok {id n : Nat} (h : putE T id n = 0) : n ≤ 65536 ∧ ¬ (Mp.look T.now id = none ∧ 64 ≤ T.now.length) ∧ Ex.pages n ≤ (Fr.lst (dropS T (Mp.look T.now id))).length := by
  unfold putE at h
  split at h
  · cases h
  · split at h
    · cases h
    · split at h
      · cases h
      · exact ⟨by omega, by assumption, by omega⟩
theorem putL_length {id n : Nat} (h : putE T id n = 0) : (putL T id n).length = Ex.pages n := by
  rw [putL, List.length_take]; have := (putE_ok h).2.2; omega
theorem Ok.put_new (h : Ok T) {id n x : Nat} (hx : x ∈ putL T id n) : 1 ≤ x ∧ x ≤ many T.D ∧ ¬ UsedBut T id x := (h.drop id x).1 (lst_pos hx)
theorem Ok.put_may (h : Ok T) {id : Nat} {b : List Nat} (he : putE T id b.length = 0) : Ex.may T.D (putL T id b.length) b.length :=
  ⟨take_nodup _ _, fun x hx => many_on h.lo (h.put_new hx).2.1, putL_length he⟩
theorem Ok.put (h : Ok T) {id : Nat} (hid : id < 4294967296) (b : List Nat) : Ok (putT T id b) := by
  unfold putT
  by_cases he : putE T id b.length = 0
  · rw [if_pos he]
    obtain ⟨hn, hroom, hfr⟩ := putE_ok he
    have hlen : (Ex.wD T.D (nx T.epoch) (putL T id b.length) b).seen.length = T.D.seen.length := Ex.wD_len _ _ _ _
    have hmany := many_eq hlen
    have hnew := fun x hx => h.put_new (id := id) (n := b.length) (x := x) hx
    have hmem : ∀ p, p ∈ Mp.put T.now id ⟨b.length, nx T.epoch, putL T id b.length, true⟩ ↔ p = (id, ⟨b.length, nx T.epoch, putL T id b.length, true⟩) ∨ p.1 ≠ id ∧ p ∈ T.now := fun p => Mp.mem_put h.upn
    have hused : ∀ x, Used ⟨Ex.wD T.D (nx T.epoch) (putL T id b.length) b, Fr.sub (dropS T (Mp.look T.now id)) (putL T id b.length), T.epoch, Mp.put T.now id ⟨b.length, nx T.epoch, putL T id b.length, true⟩, T.kept, T.table, T.puts + 1⟩ x ↔ UsedBut T id x ∨ x ∈ putL T id b.length := fun x => by
      constructor
      · rintro (h1 | h1 | ⟨p, hp, hf, h1⟩)
        · exact Or.inl (Or.inl h1)
        · exact Or.inl (Or.inr (Or.inl h1))
        · rcases (hmem p).1 hp with rfl | ⟨hne, hp⟩
          · exact Or.inr h1
          · exact Or.inl (Or.inr (Or.inr ⟨p, hp, hne, hf, h1⟩))
      · rintro ((h1 | h1 | ⟨p, hp, hne, hf, h1⟩) | h1)
        · exact Or.inl h1
        · exact Or.inr (Or.inl h1)
        · exact Or.inr (Or.inr ⟨p, (hmem p).2 (Or.inr ⟨hne, hp⟩), hf, h1⟩)
        · exact Or.inr (Or.inr ⟨_, (hmem _).2 (Or.inl rfl), rfl, h1⟩)
    have hother : ∀ p ∈ T.now, p.1 ≠ id → Dj (putL T id b.length) p.2.pages := fun p hp hne x hx hy => by
      refine (hnew x hx).2.2 ?_
      cases hf : p.2.fresh with
      | true => exact Or.inr (Or.inr ⟨p, hp, hne, hf, hy⟩)
      | false => exact Or.inr (Or.inl ⟨p, h.nk p hp hf, hy⟩)
    refine ⟨by rw [hlen]; exact h.lo, by rw [hlen]; exact h.hi, h.epoch, Mp.up_put h.upn _ _, h.upk, ?_, h.lenk, ?_, h.thk, h.kf, ?_, h.kk, ?_, ?_, h.tnod, h.tlen, h.tk, ?_, ?_, ?_⟩
    · show (Mp.put T.now id _).length ≤ 64
      cases hl : Mp.look T.now id with
      | none =>
        rw [Mp.put_length_none hl]
        have : ¬ 64 ≤ T.now.length := fun h => hroom ⟨hl, h⟩
        omega
      | some w => rw [Mp.put_length_some h.upn hl]; exact h.lenn
    · intro p hp
      rcases (hmem p).1 hp with rfl | ⟨_, hp⟩
      · exact ⟨hid, hn, putL_length he, take_nodup _ _, nx_lt _⟩
      · exact h.thn p hp
    · intro p hp hf
      rcases (hmem p).1 hp with rfl | ⟨_, hp⟩
      · cases hf
      · exact h.nk p hp hf
    · intro p hp q hq hne
      rcases (hmem p).1 hp with rfl | ⟨hp1, hp⟩
      · rcases (hmem q).1 hq with rfl | ⟨hq1, hq⟩
        · exact absurd rfl hne
        · exact hother q hq hq1
      · rcases (hmem q).1 hq with rfl | ⟨hq1, hq⟩
        · exact (hother p hp hp1).symm
        · exact h.nn p hp q hq hne
    · intro p hp q hq hf
      rcases (hmem q).1 hq with rfl | ⟨_, hq⟩
      · exact fun x hx hy => (hnew x hy).2.2 (Or.inr (Or.inl ⟨p, hp, hx⟩))
      · exact h.kn p hp q hq hf
    · intro p hp
      rcases (hmem p).1 hp with rfl | ⟨_, hp⟩
      · exact fun x hx hy => (hnew x hy).2.2 (Or.inl hx)
      · exact h.tn p hp
    · intro x hx
      show 1 ≤ x ∧ x ≤ many (Ex.wD _ _ _ _)
      rw [hmany]
      rcases (hused x).1 hx with h1 | h1
      · exact h.rng x (h.used_but h1)
      · exact ⟨(hnew x h1).1, (hnew x h1).2.1⟩
    · intro x
      show Fr.sub _ _ x = true ↔ 1 ≤ x ∧ x ≤ many (Ex.wD _ _ _ _) ∧ _
      rw [hmany, hused, sub_true, h.drop]
      constructor
      · rintro ⟨⟨h1, h2, h3⟩, h4⟩
        exact ⟨h1, h2, fun e => e.elim h3 h4⟩
      · rintro ⟨h1, h2, h3⟩
        exact ⟨⟨h1, h2, fun e => h3 (Or.inl e)⟩, fun e => h3 (Or.inr e)⟩
  · rw [if_neg he]; exact h

/-! ### Del -/
/-! ### settle -/
def old (p : Nat × Th) : Nat × Th := (p.1, ⟨p.2.bytes, p.2.epoch, p.2.pages, false⟩)
/-- the pages that a table and things leave free -/
def restS (D : Dk.Disk) (table : List Nat) (l : List (Nat × Th)) : Nat → Bool := fun x => decide (1 ≤ x) && decide (x ≤ many D) && !table.contains x && !(l.any fun p => p.2.pages.contains x)
theorem restS_true {D : Dk.Disk} {table : List Nat} {l : List (Nat × Th)} {x : Nat} : restS D table l x = true ↔ 1 ≤ x ∧ x ≤ many D ∧ ¬ (x ∈ table ∨ ∃ p ∈ l, x ∈ p.2.pages) := by
  simp only [restS, Bool.and_eq_true, Bool.not_eq_true', decide_eq_true_eq, List.any_eq_false, List.contains_eq_mem, decide_eq_false_iff_not, not_or, not_exists, not_and]
  constructor
  · rintro ⟨⟨⟨h1, h2⟩, h3⟩, h4⟩
    exact ⟨h1, h2, h3, fun p hp => by simpa using h4 p hp⟩
  · rintro ⟨h1, h2, h3, h4⟩
    exact ⟨⟨⟨h1, h2⟩, h3⟩, fun p hp => by simpa using h4 p hp⟩
def settle (D : Dk.Disk) (e : Nat) (table : List Nat) (now : List (Nat × Th)) : Sto := ⟨D, restS D table now, e, now.map old, now.map old, table, 64⟩
/-- what settles well -/
structure Fit (D : Dk.Disk) (e : Nat) (table : List Nat) (now : List (Nat × Th)) : Prop where
  lo : 32 ≤ D.seen.length
  hi : D.seen.length ≤ 16384
  epoch : e < 4294967296
  up : Mp.Up now
  len : now.length ≤ 64
  th : ∀ p ∈ now, ThOk p
  nn : ∀ p ∈ now, ∀ q ∈ now, p.1 ≠ q.1 → Dj p.2.pages q.2.pages
  tnod : table.Nodup
  tlen : table.length ≤ 61
  tn : ∀ p ∈ now, Dj table p.2.pages
  trng : ∀ x ∈ table, 1 ≤ x ∧ x ≤ many D
  nrng : ∀ p ∈ now, ∀ x ∈ p.2.pages, 1 ≤ x ∧ x ≤ many D
theorem mem_old {l : List (Nat × Th)} {p : Nat × Th} (h : p ∈ l.map old) : ∃ q ∈ l, p = old q := by
  obtain ⟨q, hq, e⟩ := List.mem_map.1 h
  exact ⟨q, hq, e.symm⟩
theorem up_old {l : List (Nat × Th)} (h : Mp.Up l) : Mp.Up (l.map old) := List.pairwise_map.2 h
theorem Fit.ok {D : Dk.Disk} {e : Nat} {table : List Nat} {now : List (Nat × Th)} (h : Fit D e table now) : Ok (settle D e table now) := by
  have hth : ∀ p ∈ now.map old, ThOk p := fun p hp => by
    obtain ⟨q, hq, rfl⟩ := mem_old hp
    have := h.th q hq
    exact ⟨this.id, this.bytes, this.len, this.nod, this.epoch⟩
  have hnn : ∀ p ∈ now.map old, ∀ q ∈ now.map old, p.1 ≠ q.1 → Dj p.2.pages q.2.pages := fun p hp q hq hne => by
    obtain ⟨p', hp', rfl⟩ := mem_old hp
    obtain ⟨q', hq', rfl⟩ := mem_old hq
    exact h.nn p' hp' q' hq' hne
  have hf : ∀ p ∈ now.map old, p.2.fresh = false := fun p hp => by
    obtain ⟨q, hq, rfl⟩ := mem_old hp
    rfl
  have htn : ∀ p ∈ now.map old, Dj table p.2.pages := fun p hp => by
    obtain ⟨q, hq, rfl⟩ := mem_old hp
    exact h.tn q hq
  have hused : ∀ x, Used (settle D e table now) x ↔ x ∈ table ∨ ∃ p ∈ now, x ∈ p.2.pages := fun x => by
    constructor
    · rintro (h1 | ⟨p, hp, h1⟩ | ⟨p, hp, hf', h1⟩)
      · exact Or.inl h1
      · obtain ⟨q, hq, rfl⟩ := mem_old hp
        exact Or.inr ⟨q, hq, h1⟩
      · rw [hf p hp] at hf'; cases hf'
    · rintro (h1 | ⟨p, hp, h1⟩)
      · exact Or.inl h1
      · exact Or.inr (Or.inl ⟨old p, List.mem_map_of_mem hp, h1⟩)
  refine ⟨h.lo, h.hi, h.epoch, up_old h.up, up_old h.up, ?_, ?_, hth, hth, hf, fun p hp _ => hp, hnn, hnn, fun p hp q hq hf' => ?_, h.tnod, h.tlen, htn, htn, fun x hx => ?_, fun x => ?_⟩
  · show (now.map old).length ≤ 64
    rw [List.length_map]; exact h.len
  · show (now.map old).length ≤ 64
    rw [List.length_map]; exact h.len
  · rw [hf q hq] at hf'; cases hf'
  · rcases (hused x).1 hx with h1 | ⟨p, hp, h1⟩
    · exact h.trng x h1
    · exact h.nrng p hp x h1
  · rw [hused]; exact restS_true
def undoT (T : Sto) : Sto := settle T.D T.epoch T.table T.kept
theorem Ok.undo_fit (h : Ok T) : Fit T.D T.epoch T.table T.kept := ⟨h.lo, h.hi, h.epoch, h.upk, h.lenk, h.thk, h.kk, h.tnod, h.tlen, h.tk, fun _ hx => h.trng hx, fun _ hp _ hx => h.krng hp hx⟩
theorem Ok.undo (h : Ok T) : Ok (undoT T) := h.undo_fit.ok
/-! ### Commit -/
def rowB (p : Nat × Th) : List Nat := Rt.four p.1 ++ Rt.four p.2.bytes ++ Rt.four p.2.epoch ++ p.2.pages.flatMap Rt.four
def tabB (l : List (Nat × Th)) : List Nat := l.flatMap rowB
def comN (T : Sto) : Nat := Ex.pages (tabB T.now).length
def comL (T : Sto) : List Nat := (Fr.lst T.S).take (comN T + 1)
def comB (T : Sto) : List Nat := (comL T).tail.flatMap Rt.four
def comH (T : Sto) : Nat := (comL T).headD 0
def comD1 (T : Sto) : Dk.Disk := Pg.wD T.D (comH T) (nx T.epoch) (comB T)
def comD2 (T : Sto) : Dk.Disk := Ex.wD (comD1 T) (nx T.epoch) (comL T).tail (tabB T.now)
def comR (T : Sto) : Rt.Root := ⟨nx T.epoch, comH T, (tabB T.now).length⟩
/-- is there room for the table? -/
def comF (T : Sto) : Prop := comN T ≤ 60 ∧ comN T + 1 ≤ (Fr.lst T.S).length
instance (T : Sto) : Decidable (comF T) := by unfold comF; infer_instance
def comE (T : Sto) : Nat := if comF T then Rt.wE (comD2 T) (comR T) else 6
def comT (T : Sto) : Sto := if comF T then (if Rt.wE (comD2 T) (comR T) = 0 then settle (Rt.wD (comD2 T) (comR T)) (nx T.epoch) (comL T) T.now else { T with D := comD2 T }) else T
theorem flat_four (l : List Nat) : (l.flatMap Rt.four).length = 4 * l.length := by
  induction l with
  | nil => rfl
  | cons x l ih => rw [List.flatMap_cons, List.length_append, ih, Rt.four_length, List.length_cons]; omega
theorem four_each {l : List Nat} : ∀ x ∈ l.flatMap Rt.four, x < 256 := fun x hx => by
  obtain ⟨y, _, h⟩ := List.mem_flatMap.1 hx
  exact Rt.four_lt y x h
theorem rowB_lt (p : Nat × Th) : ∀ x ∈ rowB p, x < 256 := fun x hx => by
  simp only [rowB, List.mem_append] at hx
  rcases hx with ((h | h) | h) | h
  · exact Rt.four_lt _ x h
  · exact Rt.four_lt _ x h
  · exact Rt.four_lt _ x h
  · exact four_each x h
theorem tabB_lt (l : List (Nat × Th)) : ∀ x ∈ tabB l, x < 256 := fun x hx => by
  obtain ⟨y, _, h⟩ := List.mem_flatMap.1 hx
  exact rowB_lt y x h
theorem rowB_length (p : Nat × Th) : (rowB p).length = 12 + 4 * p.2.pages.length := by
  simp only [rowB, List.length_append, Rt.four_length, flat_four]
theorem tabB_le {l : List (Nat × Th)} (h : ∀ p ∈ l, ThOk p) : (tabB l).length ≤ 1108 * l.length := by
  induction l with
  | nil => exact Nat.le_refl _
  | cons p l ih =>
    have h1 := h p List.mem_cons_self
    have h2 := ih (fun q hq => h q (List.mem_cons_of_mem _ hq))
    have h3 := pages_max h1.bytes
    have h4 := h1.len
    rw [tabB, List.flatMap_cons, List.length_append, rowB_length, List.length_cons]
    rw [tabB] at h2
    omega
theorem Ok.tab_le (h : Ok T) : (tabB T.now).length ≤ 70912 := by
  have := tabB_le h.thn
  have := h.lenn
  omega
theorem comL_length (h : comF T) : (comL T).length = comN T + 1 := by rw [comL, List.length_take]; have := h.2; omega
theorem comL_cons (h : comF T) : comL T = comH T :: (comL T).tail := by
  have := comL_length h
  unfold comH
  cases hc : comL T with
  | nil => rw [hc] at this; cases this
  | cons x l => rfl
theorem comL_tail (h : comF T) : (comL T).tail.length = comN T := by rw [List.length_tail, comL_length h]; omega
theorem Ok.com_free (h : Ok T) {x : Nat} (hx : x ∈ comL T) : 1 ≤ x ∧ x ≤ many T.D ∧ ¬ Used T x := (h.free x).1 (lst_pos hx)
theorem comL_nodup (T : Sto) : (comL T).Nodup := take_nodup _ _
theorem comB_length (h : comF T) : (comB T).length ≤ 240 := by
  rw [comB, flat_four, comL_tail h]; have := h.1; omega
theorem comD1_len (T : Sto) : (comD1 T).seen.length = T.D.seen.length := Pg.wD_len _ _ _ _
theorem comD2_len (T : Sto) : (comD2 T).seen.length = T.D.seen.length := by rw [comD2, Ex.wD_len, comD1_len]
theorem Ok.com_head (h : Ok T) (hf : comF T) : Pg.wE T.D (comH T) (comB T) = 0 := by
  have : comH T ∈ comL T := by rw [comL_cons hf]; exact List.mem_cons_self
  rw [Pg.wE, if_pos ⟨many_on h.lo (h.com_free this).2.1, comB_length hf⟩]
theorem Ok.com_may (h : Ok T) (hf : comF T) : Ex.may (comD1 T) (comL T).tail (tabB T.now).length := by
  refine ⟨(comL_nodup T).sublist (List.tail_sublist _), fun x hx => ?_, comL_tail hf⟩
  rw [Ex.onD_len (comD1_len T)]
  exact many_on h.lo (h.com_free (List.mem_of_mem_tail hx)).2.1
theorem wD_root_len (D : Dk.Disk) (r : Rt.Root) : (Rt.wD D r).seen.length = D.seen.length := by
  unfold Rt.wD; split
  · simp [Dk.sync, Dk.write]
  · rfl
theorem Ok.com_fit (h : Ok T) (hf : comF T) : Fit (Rt.wD (comD2 T) (comR T)) (nx T.epoch) (comL T) T.now := by
  have hlen : (Rt.wD (comD2 T) (comR T)).seen.length = T.D.seen.length := by rw [wD_root_len, comD2_len]
  have hm := many_eq hlen
  refine ⟨by rw [hlen]; exact h.lo, by rw [hlen]; exact h.hi, nx_lt _, h.upn, h.lenn, h.thn, h.nn, comL_nodup T, ?_, ?_, ?_, ?_⟩
  · rw [comL_length hf]; have := hf.1; omega
  · intro p hp x hx hy
    refine (h.com_free hx).2.2 ?_
    cases hfr : p.2.fresh with
    | true => exact Or.inr (Or.inr ⟨p, hp, hfr, hy⟩)
    | false => exact Or.inr (Or.inl ⟨p, h.nk p hp hfr, hy⟩)
  · intro x hx; rw [hm]; exact ⟨(h.com_free hx).1, (h.com_free hx).2.1⟩
  · intro p hp x hx; rw [hm]; exact h.nrng hp hx
theorem Ok.disk (h : Ok T) {D : Dk.Disk} (hl : D.seen.length = T.D.seen.length) : Ok { T with D := D } := by
  have hm := many_eq hl
  refine ⟨by show 32 ≤ D.seen.length; rw [hl]; exact h.lo, by show D.seen.length ≤ 16384; rw [hl]; exact h.hi, h.epoch, h.upn, h.upk, h.lenn, h.lenk, h.thn, h.thk, h.kf, h.nk, h.kk, h.nn, h.kn, h.tnod, h.tlen, h.tk, h.tn, fun x hx => ?_, fun x => ?_⟩
  · show 1 ≤ x ∧ x ≤ many D
    rw [hm]; exact h.rng x hx
  · show T.S x = true ↔ 1 ≤ x ∧ x ≤ many D ∧ _
    rw [hm]; exact h.free x
theorem Ok.com (h : Ok T) : Ok (comT T) := by
  unfold comT
  split
  · rename_i hf
    split
    · exact (h.com_fit hf).ok
    · exact h.disk (comD2_len T)
  · exact h
end
end Sh
end Go.Proofs.YtnffigfafalocaaGreatDoor
