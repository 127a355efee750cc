/-
  Several disks beside each other, each in blocks of its own.
-/
import Derived.Test.YtmjeigceclmdoaaGreatDoorK13
namespace Go.Proofs.YtmjeigceclmdoaaGreatDoor
open Go Go.RowKit


/-- these disks, made since w0, none of which has a block of another one's; and rows beside them -/
def Fm (w0 wi : World) (l : List (Nat × Dk.Disk)) (rs : List (Nat × TypeId × List Value)) : Prop :=
  ∃ O : Nat → Nat → Prop, (∀ i p, l[i]? = some p → Dsk wi p.1 p.2 w0.heap.size (O i)) ∧ (∀ i j p q, l[i]? = some p → l[j]? = some q → i ≠ j → ∀ k, O i k → O j k → False) ∧ Touch (fun k => w0.heap.size ≤ k) w0 wi ∧ ∀ r ∈ rs, Row wi r.1 r.2.1 r.2.2 ∧ ∀ i p, l[i]? = some p → ¬ O i r.1
abbrev Fam (w0 wi : World) (l : List (Nat × Dk.Disk)) : Prop := Fm w0 wi l []

theorem Fam.nil (w0 wi : World) (t : Touch No w0 wi) : Fam w0 wi [] := ⟨fun _ _ => True, fun i p h => by simp at h, fun i j p q h => by simp at h, t.mono (fun _ _ f => f.elim), fun _ h => by simp at h⟩
section
variable {w0 wi w' : World} {l : List (Nat × Dk.Disk)} {rs : List (Nat × TypeId × List Value)}
theorem Fm.end (h : Fm w0 wi l rs) : Touch No w0 wi := by
  obtain ⟨O, h1, h2, t0, h3⟩ := h
  exact t0.mono (fun k hk h => absurd hk (Nat.not_lt.2 h))
theorem Fm.no (h : Fm w0 wi l rs) (t : Touch No wi w') : Fm w0 w' l rs := by
  obtain ⟨O, h1, h2, t0, h3⟩ := h
  exact ⟨O, fun i p hp => (h1 i p hp).no t, h2, t0.then t (fun _ _ f => f.elim), fun r hr => ⟨(h3 r hr).1.touch t id, (h3 r hr).2⟩⟩
theorem Fm.row (h : Fm w0 wi l rs) (g : Nat) (T : TypeId) (vs : List Value) (hr : (g, T, vs) ∈ rs) : Row wi g T vs := by
  obtain ⟨O, h1, h2, t0, h3⟩ := h
  exact (h3 _ hr).1
/-- a new row beside them -/
theorem Fm.lay (h : Fm w0 wi l rs) (T : TypeId) (vs : Array Value) : Fm w0 (wi.alloc (.cells vs T)) l ((wi.heap.size, T, vs.toList) :: rs) := by
  obtain ⟨O, h1, h2, t0, h3⟩ := h
  have t : Touch No wi (wi.alloc (.cells vs T)) := (Touch.refl No wi).alloc _
  refine ⟨O, fun i p hp => (h1 i p hp).no t, h2, t0.then t (fun _ _ f => f.elim), fun r hr => ?_⟩
  rcases List.mem_cons.1 hr with rfl | hr
  · exact ⟨Row.new wi T vs, fun i p hp ho => absurd ((h1 i p hp).lt _ ho) (Nat.lt_irrefl _)⟩
  · exact ⟨(h3 r hr).1.touch t id, (h3 r hr).2⟩
theorem Fm.st (h : Fm w0 wi l rs) (i : Nat) {a : Nat} {A : Dk.Disk} (hi : l[i]? = some (a, A)) : St w0 wi a A := by
  obtain ⟨O, h1, h2, t0, _⟩ := h
  exact ⟨O i, h1 i _ hi, t0⟩
theorem Fm.push {b : Nat} {B : Dk.Disk} (h : Fm w0 wi l rs) (m : Made wi b B w') : Fm w0 w' (l ++ [(b, B)]) rs := by
  obtain ⟨O, h1, h2, t0, h3⟩ := h
  obtain ⟨t, OB, hB⟩ := m
  have hlt : ∀ {i : Nat} {p : Nat × Dk.Disk}, l[i]? = some p → i < l.length := fun {i p} hi => by
    rcases Nat.lt_or_ge i l.length with h | h
    · exact h
    · rw [List.getElem?_eq_none h] at hi; cases hi
  have part : ∀ (i : Nat) (p : Nat × Dk.Disk), (l ++ [(b, B)])[i]? = some p → (i < l.length ∧ l[i]? = some p) ∨ (i = l.length ∧ p = (b, B)) := fun i p hp => by
    rcases Nat.lt_or_ge i l.length with h | h
    · rw [List.getElem?_append_left h] at hp; exact Or.inl ⟨h, hp⟩
    · rw [List.getElem?_append_right h] at hp
      have : i - l.length = 0 := by
        by_cases h0 : i - l.length = 0
        · exact h0
        · rw [List.getElem?_eq_none (by simp; omega)] at hp; cases hp
      rw [this] at hp
      exact Or.inr ⟨by omega, by simpa using hp.symm⟩
  refine ⟨fun i => if i = l.length then OB else O i, fun i p hp => ?_, fun i j p q hp hq hij k hk1 hk2 => ?_, t0.then t (fun _ _ f => f.elim), fun r hr => ⟨(h3 r hr).1.touch t id, fun i p hp ho => ?_⟩⟩
  · dsimp only
    rcases part i p hp with ⟨hi, hp⟩ | ⟨rfl, rfl⟩
    · rw [if_neg (by omega)]; exact (h1 i p hp).no t
    · rw [if_pos rfl]; exact hB.base t0.size
  · dsimp only at hk1 hk2
    rcases part i p hp with ⟨hi, hp⟩ | ⟨rfl, rfl⟩
    · rw [if_neg (by omega)] at hk1
      rcases part j q hq with ⟨hj, hq⟩ | ⟨rfl, rfl⟩
      · rw [if_neg (by omega)] at hk2; exact h2 i j p q hp hq hij k hk1 hk2
      · rw [if_pos rfl] at hk2
        have := (h1 i p hp).lt k hk1
        have := hB.ge k hk2
        omega
    · rw [if_pos rfl] at hk1
      rcases part j q hq with ⟨hj, hq⟩ | ⟨rfl, rfl⟩
      · rw [if_neg (by omega)] at hk2
        have := (h1 j q hq).lt k hk2
        have := hB.ge k hk1
        omega
      · exact hij rfl
  · dsimp only at ho
    rcases part i p hp with ⟨hi, hp⟩ | ⟨rfl, rfl⟩
    · rw [if_neg (by omega)] at ho; exact (h3 r hr).2 i p hp ho
    · rw [if_pos rfl] at ho
      have := (h3 r hr).1.lt
      have := hB.ge _ ho
      omega
theorem Fm.use (h : Fm w0 wi l rs) (i : Nat) {a : Nat} {A : Dk.Disk} (hi : l[i]? = some (a, A)) (A' : Dk.Disk) :
    ∃ O, Dsk wi a A w0.heap.size O ∧ w0.heap.size ≤ wi.heap.size ∧ ∀ w', After wi a A' w0.heap.size O w' → Fm w0 w' (l.set i (a, A')) rs := by
  obtain ⟨O, h1, h2, t0, h3⟩ := h
  refine ⟨O i, h1 i _ hi, t0.size, fun w' m => ?_⟩
  obtain ⟨t, O', hO', hin⟩ := m
  have part : ∀ (j : Nat) (p : Nat × Dk.Disk), (l.set i (a, A'))[j]? = some p → (j ≠ i ∧ l[j]? = some p) ∨ (j = i ∧ p = (a, A')) := fun j p hp => by
    by_cases e : j = i
    · subst e
      rw [List.getElem?_set] at hp
      simp only [if_true] at hp
      split at hp
      · exact Or.inr ⟨rfl, (Option.some.inj hp).symm⟩
      · cases hp
    · rw [List.getElem?_set_ne (fun h => e h.symm)] at hp
      exact Or.inl ⟨e, hp⟩
  have out : ∀ (j : Nat) (p : Nat × Dk.Disk), j ≠ i → l[j]? = some p → ∀ k, O j k → ¬ O' k := fun j p hj hp k hk hk' => by
    rcases hin k hk' with e | e
    · exact h2 j i p _ hp hi hj k hk e
    · have := (h1 j p hp).lt k hk; omega
  refine ⟨fun j => if j = i then O' else O j, fun j p hp => ?_, fun j1 j2 p q hp hq hij k hk1 hk2 => ?_, t0.then t (fun k _ hk => (h1 i _ hi).ge k hk), fun r hr => ⟨(h3 r hr).1.touch t ((h3 r hr).2 i _ hi), fun j p hp ho => ?_⟩⟩
  · dsimp only
    rcases part j p hp with ⟨hj, hp⟩ | ⟨rfl, rfl⟩
    · rw [if_neg hj]; exact (h1 j p hp).touch t (fun k hk e => h2 j i p _ hp hi hj k hk e)
    · rw [if_pos rfl]; exact hO'
  · dsimp only at hk1 hk2
    rcases part j1 p hp with ⟨hj1, hp'⟩ | ⟨rfl, rfl⟩
    · rw [if_neg hj1] at hk1
      rcases part j2 q hq with ⟨hj2, hq'⟩ | ⟨rfl, rfl⟩
      · rw [if_neg hj2] at hk2; exact h2 j1 j2 p q hp' hq' hij k hk1 hk2
      · rw [if_pos rfl] at hk2; exact out j1 p hj1 hp' k hk1 hk2
    · rw [if_pos rfl] at hk1
      rcases part j2 q hq with ⟨hj2, hq'⟩ | ⟨rfl, rfl⟩
      · rw [if_neg hj2] at hk2; exact out j2 q hj2 hq' k hk2 hk1
      · exact hij rfl
  · dsimp only at ho
    rcases part j p hp with ⟨hj, hp⟩ | ⟨rfl, rfl⟩
    · rw [if_neg hj] at ho; exact (h3 r hr).2 j p hp ho
    · rw [if_pos rfl] at ho
      rcases hin _ ho with e | e
      · exact (h3 r hr).2 _ _ hi e
      · have := (h3 r hr).1.lt; omega
theorem Fm.sync (h : Fm w0 wi l rs) (i : Nat) {d : Nat} {D : Dk.Disk} (hi : l[i]? = some (d, D)) :
    Calls Tryz.prog 51 #[.pointer (some ⟨d, 0, none⟩)] wi fun e w' => e = .returned (.int .i64 0) ∧ Fm w0 w' (l.set i (d, Dk.sync D)) rs := by
  obtain ⟨O, hx, hs, hf⟩ := h.use i hi (Dk.sync D)
  exact (sync_k wi d D w0.heap.size O hs hx).mono fun _ _ ⟨he, m⟩ => ⟨he, hf _ m⟩
theorem Fm.same (h : Fm w0 wi l rs) (i : Nat) {d : Nat} {D : Dk.Disk} (hi : l[i]? = some (d, D)) : Fm w0 wi (l.set i (d, D)) rs := by
  have e : l.set i (d, D) = l := by
    refine List.ext_getElem? (fun j => ?_)
    rw [List.getElem?_set]
    by_cases e : i = j
    · subst e
      rw [hi]
      have : i < l.length := by
        rcases Nat.lt_or_ge i l.length with h' | h'
        · exact h'
        · rw [List.getElem?_eq_none h'] at hi; cases hi
      simp [this]
    · simp [e]
  rw [e]; exact h
theorem Fm.write (h : Fm w0 wi l rs) (i : Nat) {d : Nat} {D : Dk.Disk} (hi : l[i]? = some (d, D)) (n : Int) (a : Option Addr) (m c : Nat) (b : List Nat) (hl : b.length = m) (hlt : ∀ x ∈ b, x < 256) (hr : Rd wi a (nums .u8 b)) (hw : D.waits.length ≤ 1000000) :
    Calls Tryz.prog 49 #[.pointer (some ⟨d, 0, none⟩), .int .i64 n, .slice a m c] wi fun e w' => e = .returned (.int .i64 (Dk.writeR D n b : Nat)) ∧ Fm w0 w' (l.set i (d, Dk.writeA D n b)) rs := by
  subst hl
  have S := h.st i hi
  by_cases hc : (0 ≤ n ∧ n < D.seen.length) ∧ b.length ≤ 64
  · rw [Dk.writeR, Dk.writeA, if_pos hc, if_pos hc]
    obtain ⟨m, rfl⟩ : ∃ m : Nat, n = (m : Nat) := ⟨n.toNat, by omega⟩
    obtain ⟨O, hx, hs, hf⟩ := h.use i hi (Dk.write D m b)
    exact (write_k wi d D w0.heap.size O m a _ c b hs hx (by omega) rfl hc.2 hlt hr hw).mono fun _ _ ⟨he, m⟩ => ⟨he, hf _ m⟩
  · rw [Dk.writeR, Dk.writeA, if_neg hc, if_neg hc]
    refine (S.write_bad n a b.length c ?_).mono fun _ _ ⟨he, e⟩ => ⟨he, e ▸ h.same i hi⟩
    by_cases h1 : 0 ≤ n ∧ n < D.seen.length
    · exact Or.inr (by
        rcases Nat.lt_or_ge 64 b.length with h2 | h2
        · exact h2
        · exact absurd ⟨h1, h2⟩ hc)
    · exact Or.inl h1
theorem Fm.bad (h : Fm w0 wi l rs) (i : Nat) {d : Nat} {D : Dk.Disk} (hi : l[i]? = some (d, D)) (n : Nat) (hn : n < D.seen.length) (hw : D.waits.length ≤ 1000000) :
    Calls Tryz.prog 57 #[.pointer (some ⟨d, 0, none⟩), .int .i64 (n : Nat)] wi fun e w' => e = .returned (.int .i64 0) ∧ Fm w0 w' (l.set i (d, Dk.bad D n)) rs := by
  obtain ⟨O, hx, hs, hf⟩ := h.use i hi (Dk.bad D n)
  exact (bad_k wi d D w0.heap.size O n hs hx hn hw).mono fun _ _ ⟨he, m⟩ => ⟨he, hf _ m⟩
theorem Fm.rot (h : Fm w0 wi l rs) (i : Nat) {d : Nat} {D : Dk.Disk} (hi : l[i]? = some (d, D)) (n p x : Nat) (hn : n < D.seen.length) (hp : p < 64) (hx : x < 256) (hw : D.waits.length ≤ 1000000) :
    Calls Tryz.prog 55 #[.pointer (some ⟨d, 0, none⟩), .int .i64 (n : Nat), .int .i64 (p : Nat), .int .u8 (x : Nat)] wi fun e w' => e = .returned (.int .i64 0) ∧ Fm w0 w' (l.set i (d, Dk.rot D n p x)) rs := by
  obtain ⟨O, hy, hs, hf⟩ := h.use i hi (Dk.rot D n p x)
  exact (rot_k wi d D w0.heap.size O n p x hs hy hn hp hx hw).mono fun _ _ ⟨he, m⟩ => ⟨he, hf _ m⟩
theorem Fm.new (h : Fm w0 wi l rs) (n : Nat) (h1 : 1 ≤ n) (hn : n ≤ 16384) :
    Calls Tryz.prog 47 #[.int .i64 (n : Nat)] wi fun e w' => ∃ d, e = .returned (.tuple #[.pointer (some ⟨d, 0, none⟩), .int .i64 0]) ∧ Fm w0 w' (l ++ [(d, Dk.new n)]) rs :=
  (new_k wi n h1 hn).mono fun _ _ ⟨d, he, m⟩ => ⟨d, he, h.push m⟩
theorem Fm.put (h : Fm w0 wi l rs) (i : Nat) {d : Nat} {D : Dk.Disk} (hi : l[i]? = some (d, D)) (n : Nat) (a : Option Addr) (m c : Nat) (b : List Nat) (hn : n < D.seen.length) (hl : b.length = m) (h64 : m ≤ 64) (hlt : ∀ x ∈ b, x < 256) (hr : Rd wi a (nums .u8 b)) (hw : D.waits.length ≤ 1000000) :
    Calls Tryz.prog 49 #[.pointer (some ⟨d, 0, none⟩), .int .i64 (n : Nat), .slice a m c] wi fun e w' => e = .returned (.int .i64 0) ∧ Fm w0 w' (l.set i (d, Dk.write D n b)) rs := by
  obtain ⟨O, hx, hs, hf⟩ := h.use i hi (Dk.write D n b)
  exact (write_k wi d D w0.heap.size O n a m c b hs hx hn hl h64 hlt hr hw).mono fun _ _ ⟨he, m⟩ => ⟨he, hf _ m⟩
/-- the cells of a row of three beside them -/
theorem Fm.three (h : Fm w0 wi l rs) (i : Nat) {g : Nat} {T : TypeId} {x y z : Value} (hr : rs[i]? = some (g, T, [x, y, z])) :
    wi.cell? ⟨g, 0, none⟩ = some x ∧ wi.cell? ⟨g, 1, none⟩ = some y ∧ wi.cell? ⟨g, 2, none⟩ = some z ∧ g < wi.heap.size ∧ ∀ k, wi.frozen? ⟨g, k, none⟩ = false := by
  have R := h.row g T _ (List.mem_of_getElem? hr)
  exact ⟨R.cell 0, R.cell 1, R.cell 2, R.lt, fun k => R.soft k⟩
/-- a row beside them, written anew -/
theorem Fm.store (h : Fm w0 wi l rs) (g : Nat) (T : TypeId) (vs vs' : List Value) (hr : (g, T, vs) ∈ rs) (hg : w0.heap.size ≤ g) {w' : World} (t : Touch (One g) wi w') (hw : Row w' g T vs') (rs' : List (Nat × TypeId × List Value)) (hrs : ∀ r ∈ rs', r ∈ rs ∧ r.1 ≠ g) :
    Fm w0 w' l ((g, T, vs') :: rs') := by
  obtain ⟨O, h1, h2, t0, h3⟩ := h
  have hn := (h3 _ hr).2
  refine ⟨O, fun i p hp => (h1 i p hp).touch t (fun k hk (e : k = g) => hn i p hp (e ▸ hk)), h2, t0.then t (fun k _ (e : k = g) => e ▸ hg), fun r hr' => ?_⟩
  rcases List.mem_cons.1 hr' with rfl | hr'
  · exact ⟨hw, hn⟩
  · obtain ⟨hin, hne⟩ := hrs r hr'
    exact ⟨(h3 r hin).1.touch t hne, (h3 r hin).2⟩
theorem touch_three (w : World) (g : Nat) (x y z : Value) : Touch (One g) w (((w.setCell ⟨g, 0, none⟩ x).setCell ⟨g, 1, none⟩ y).setCell ⟨g, 2, none⟩ z) :=
  (((Touch.refl (One g) w).setCell (p := ⟨g, 0, none⟩) (fun _ => rfl) x).setCell (p := ⟨g, 1, none⟩) (fun _ => rfl) y).setCell (p := ⟨g, 2, none⟩) (fun _ => rfl) z
theorem Fm.store3 (h : Fm w0 wi l rs) (i : Nat) {g : Nat} {T : TypeId} {x y z : Value} (x' y' z' : Value) (hr : rs[i]? = some (g, T, [x, y, z])) (hg : w0.heap.size ≤ g) (rs' : List (Nat × TypeId × List Value)) (hrs : ∀ r ∈ rs', r ∈ rs ∧ r.1 ≠ g) :
    Fm w0 (((wi.setCell ⟨g, 0, none⟩ x').setCell ⟨g, 1, none⟩ y').setCell ⟨g, 2, none⟩ z') l ((g, T, [x', y', z']) :: rs') :=
  h.store g T _ [x', y', z'] (List.mem_of_getElem? hr) hg (touch_three _ _ _ _ _) ((((h.row g T _ (List.mem_of_getElem? hr)).setCell 0 x').setCell 1 y').setCell 2 z') rs' hrs
/-- a copy, left behind by a failure -/
theorem Fm.fail (h : Fm w0 wi l rs) (i : Nat) {d : Nat} {D : Dk.Disk} (hi : l[i]? = some (d, D)) (keep : Nat) (torn : Int) (hk : keep < 18446744073709551616) (hw : D.waits.length ≤ 1000000) :
    Calls Tryz.prog 53 #[.pointer (some ⟨d, 0, none⟩), .int .u64 (keep : Nat), .int .i64 torn] wi fun e w' => ∃ d', e = .returned (.tuple #[.pointer (some ⟨d', 0, none⟩), .int .i64 0]) ∧ Fm w0 w' (l ++ [(d', Dk.fail D keep torn)]) rs := by
  have h0 := h
  obtain ⟨O, h1, _⟩ := h
  exact (fail_k wi d D w0.heap.size (O i) keep torn hk (h1 i _ hi) hw).mono fun _ _ ⟨d', he, m⟩ => ⟨d', he, h0.push m⟩
theorem Fm.drop {r : Nat × TypeId × List Value} (h : Fm w0 wi l (r :: rs)) : Fm w0 wi l rs := by
  obtain ⟨O, h1, h2, t0, h3⟩ := h
  exact ⟨O, h1, h2, t0, fun r hr => h3 r (List.mem_cons_of_mem _ hr)⟩
theorem St.fam {d : Nat} {D : Dk.Disk} (h : St w0 wi d D) : Fam w0 wi [(d, D)] := by
  obtain ⟨O, h1, t⟩ := h
  refine ⟨fun _ => O, fun i p hp => ?_, fun i j p q hp hq hij => ?_, t, fun _ h => by simp at h⟩
  · match i, hp with
    | 0, hp => cases hp; exact h1
  · match i, j, hp, hq with
    | 0, 0, _, _ => exact absurd rfl hij
end
end Go.Proofs.YtmjeigceclmdoaaGreatDoor
