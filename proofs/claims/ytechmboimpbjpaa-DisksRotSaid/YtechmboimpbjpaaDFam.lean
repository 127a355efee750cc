/-
  Several disks beside each other, each in blocks of its own.
-/
import Derived.Test.YtechmboimpbjpaaDAlike
namespace Go.Proofs.Ytechmboimpbjpaa
open Go Go.RowKit

/-- these disks, made since w0, none of which has a block of another one's -/
def Fam (w0 wi : World) (l : List (Nat × Dk.Disk)) : Prop :=
  ∃ O : Nat → Nat → Prop, (∀ i p, l[i]? = some p → Dsk wi p.1 p.2 w0.heap.size (O i)) ∧ (∀ i j p q, l[i]? = some p → l[j]? = some q → i ≠ j → ∀ k, O i k → O j k → False) ∧ Touch (fun k => w0.heap.size ≤ k) w0 wi

theorem Fam.nil (w0 wi : World) (t : Touch No w0 wi) : Fam w0 wi [] := ⟨fun _ _ => True, fun i p h => by simp at h, fun i j p q h => by simp at h, t.mono (fun _ _ f => f.elim)⟩
theorem Fam.end {w0 wi : World} {l : List (Nat × Dk.Disk)} (h : Fam w0 wi l) : Touch No w0 wi := by
  obtain ⟨O, h1, h2, t0⟩ := h
  exact t0.mono (fun k hk h => absurd hk (Nat.not_lt.2 h))
theorem Fam.no {w0 wi w' : World} {l : List (Nat × Dk.Disk)} (h : Fam w0 wi l) (t : Touch No wi w') : Fam w0 w' l := by
  obtain ⟨O, h1, h2, t0⟩ := h
  exact ⟨O, fun i p hp => (h1 i p hp).no t, h2, t0.then t (fun _ _ f => f.elim)⟩
theorem Fam.st {w0 wi : World} {l : List (Nat × Dk.Disk)} (h : Fam w0 wi l) (i : Nat) {a : Nat} {A : Dk.Disk} (hi : l[i]? = some (a, A)) : St w0 wi a A := by
  obtain ⟨O, h1, h2, t0⟩ := h
  exact ⟨O i, h1 i _ hi, t0⟩
theorem Fam.push {w0 wi w' : World} {l : List (Nat × Dk.Disk)} {b : Nat} {B : Dk.Disk} (h : Fam w0 wi l) (m : Made wi b B w') : Fam w0 w' (l ++ [(b, B)]) := by
  obtain ⟨O, h1, h2, t0⟩ := h
  obtain ⟨t, OB, hB⟩ := m
  have hlt : ∀ {i : Nat} {p : Nat × Dk.Disk}, l[i]? = some p → i < l.length := fun {i p} hi => by
    rcases Nat.lt_or_ge i l.length with h | h
    · exact h
    · rw [List.getElem?_eq_none h] at hi; cases hi
  have part : ∀ (i : Nat) (p : Nat × Dk.Disk), (l ++ [(b, B)])[i]? = some p → (i < l.length ∧ l[i]? = some p) ∨ (i = l.length ∧ p = (b, B)) := fun i p hp => by
    rcases Nat.lt_or_ge i l.length with h | h
    · rw [List.getElem?_append_left h] at hp; exact Or.inl ⟨h, hp⟩
    · rw [List.getElem?_append_right h] at hp
      have : i - l.length = 0 := by
        by_cases h0 : i - l.length = 0
        · exact h0
        · rw [List.getElem?_eq_none (by simp; omega)] at hp; cases hp
      rw [this] at hp
      exact Or.inr ⟨by omega, by simpa using hp.symm⟩
  refine ⟨fun i => if i = l.length then OB else O i, fun i p hp => ?_, fun i j p q hp hq hij k hk1 hk2 => ?_, t0.then t (fun _ _ f => f.elim)⟩
  · dsimp only
    rcases part i p hp with ⟨hi, hp⟩ | ⟨rfl, rfl⟩
    · rw [if_neg (by omega)]; exact (h1 i p hp).no t
    · rw [if_pos rfl]; exact hB.base t0.size
  · dsimp only at hk1 hk2
    rcases part i p hp with ⟨hi, hp⟩ | ⟨rfl, rfl⟩
    · rw [if_neg (by omega)] at hk1
      rcases part j q hq with ⟨hj, hq⟩ | ⟨rfl, rfl⟩
      · rw [if_neg (by omega)] at hk2; exact h2 i j p q hp hq hij k hk1 hk2
      · rw [if_pos rfl] at hk2
        have := (h1 i p hp).lt k hk1
        have := hB.ge k hk2
        omega
    · rw [if_pos rfl] at hk1
      rcases part j q hq with ⟨hj, hq⟩ | ⟨rfl, rfl⟩
      · rw [if_neg (by omega)] at hk2
        have := (h1 j q hq).lt k hk2
        have := hB.ge k hk1
        omega
      · exact hij rfl
theorem Fam.use {w0 wi : World} {l : List (Nat × Dk.Disk)} (h : Fam w0 wi l) (i : Nat) {a : Nat} {A : Dk.Disk} (hi : l[i]? = some (a, A)) (A' : Dk.Disk) :
    ∃ O, Dsk wi a A w0.heap.size O ∧ w0.heap.size ≤ wi.heap.size ∧ ∀ w', After wi a A' w0.heap.size O w' → Fam w0 w' (l.set i (a, A')) := by
  obtain ⟨O, h1, h2, t0⟩ := h
  refine ⟨O i, h1 i _ hi, t0.size, fun w' m => ?_⟩
  obtain ⟨t, O', hO', hin⟩ := m
  have part : ∀ (j : Nat) (p : Nat × Dk.Disk), (l.set i (a, A'))[j]? = some p → (j ≠ i ∧ l[j]? = some p) ∨ (j = i ∧ p = (a, A')) := fun j p hp => by
    by_cases e : j = i
    · subst e
      rw [List.getElem?_set] at hp
      simp only [if_true] at hp
      split at hp
      · exact Or.inr ⟨rfl, (Option.some.inj hp).symm⟩
      · cases hp
    · rw [List.getElem?_set_ne (fun h => e h.symm)] at hp
      exact Or.inl ⟨e, hp⟩
  have out : ∀ (j : Nat) (p : Nat × Dk.Disk), j ≠ i → l[j]? = some p → ∀ k, O j k → ¬ O' k := fun j p hj hp k hk hk' => by
    rcases hin k hk' with e | e
    · exact h2 j i p _ hp hi hj k hk e
    · have := (h1 j p hp).lt k hk; omega
  refine ⟨fun j => if j = i then O' else O j, fun j p hp => ?_, fun j1 j2 p q hp hq hij k hk1 hk2 => ?_, t0.then t (fun k _ hk => (h1 i _ hi).ge k hk)⟩
  · dsimp only
    rcases part j p hp with ⟨hj, hp⟩ | ⟨rfl, rfl⟩
    · rw [if_neg hj]; exact (h1 j p hp).touch t (fun k hk e => h2 j i p _ hp hi hj k hk e)
    · rw [if_pos rfl]; exact hO'
  · dsimp only at hk1 hk2
    rcases part j1 p hp with ⟨hj1, hp'⟩ | ⟨rfl, rfl⟩
    · rw [if_neg hj1] at hk1
      rcases part j2 q hq with ⟨hj2, hq'⟩ | ⟨rfl, rfl⟩
      · rw [if_neg hj2] at hk2; exact h2 j1 j2 p q hp' hq' hij k hk1 hk2
      · rw [if_pos rfl] at hk2; exact out j1 p hj1 hp' k hk1 hk2
    · rw [if_pos rfl] at hk1
      rcases part j2 q hq with ⟨hj2, hq'⟩ | ⟨rfl, rfl⟩
      · rw [if_neg hj2] at hk2; exact out j2 q hj2 hq' k hk2 hk1
      · exact hij rfl

theorem Fam.left {w0 wi : World} {l : List (Nat × Dk.Disk)} (h : Fam w0 wi l) (i : Nat) {d : Nat} {D : Dk.Disk} (hi : l[i]? = some (d, D)) (keep : Nat) (torn : Int) (hk : keep < 18446744073709551616) (hw : D.waits.length ≤ 1000000) :
    Calls Try.prog 17 #[.pointer (some ⟨d, 0, none⟩), .int .u64 (keep : Nat), .int .i64 torn] wi fun e w' => ∃ d', e = .returned (.pointer (some ⟨d', 0, none⟩)) ∧ Fam w0 w' (l ++ [(d', Dk.fail D keep torn)]) := by
  have h0 := h
  obtain ⟨O, h1, _, t0⟩ := h
  exact (left_k wi d D w0.heap.size (O i) keep torn hk (h1 i _ hi) hw).mono fun _ _ ⟨d', he, h'⟩ => ⟨d', he, h0.push h'⟩
theorem Fam.does {w0 wi : World} {l : List (Nat × Dk.Disk)} (h : Fam w0 wi l) (ad : Option Addr) (n cap : Nat) (acts : List Deed) (hn : acts.length = n) (hmax : n ≤ 150) (hd : IsDeeds wi ad acts) :
    Calls Try.prog 26 #[.slice ad n cap] wi fun e w' => ∃ d, e = .returned (.pointer (some ⟨d, 0, none⟩)) ∧ Fam w0 w' (l ++ [(d, Dk.does acts)]) :=
  (does_any wi ad n cap acts hn hmax hd).mono fun _ _ ⟨d, he, s⟩ => ⟨d, he, h.push ⟨s.end, by obtain ⟨O, hO, _⟩ := s; exact ⟨O, hO⟩⟩⟩
theorem Fam.sync {w0 wi : World} {l : List (Nat × Dk.Disk)} (h : Fam w0 wi l) (i : Nat) {d : Nat} {D : Dk.Disk} (hi : l[i]? = some (d, D)) :
    Calls Try.prog 18 #[.pointer (some ⟨d, 0, none⟩)] wi fun e w' => e = .returned (.int .i64 0) ∧ Fam w0 w' (l.set i (d, Dk.sync D)) := by
  obtain ⟨O, hx, hs, hf⟩ := h.use i hi (Dk.sync D)
  exact (sync_k wi d D w0.heap.size O hs hx).mono fun _ _ ⟨he, m⟩ => ⟨he, hf _ m⟩
theorem Fam.same {w0 wi : World} {l : List (Nat × Dk.Disk)} (h : Fam w0 wi l) (i : Nat) {d : Nat} {D : Dk.Disk} (hi : l[i]? = some (d, D)) : Fam w0 wi (l.set i (d, D)) := by
  have e : l.set i (d, D) = l := by
    refine List.ext_getElem? (fun j => ?_)
    rw [List.getElem?_set]
    by_cases e : i = j
    · subst e
      rw [hi]
      have : i < l.length := by
        rcases Nat.lt_or_ge i l.length with h' | h'
        · exact h'
        · rw [List.getElem?_eq_none h'] at hi; cases hi
      simp [this]
    · simp [e]
  rw [e]; exact h
theorem Fam.write {w0 wi : World} {l : List (Nat × Dk.Disk)} (h : Fam w0 wi l) (i : Nat) {d : Nat} {D : Dk.Disk} (hi : l[i]? = some (d, D)) (n : Int) (a : Option Addr) (m c : Nat) (b : List Nat) (hl : b.length = m) (hlt : ∀ x ∈ b, x < 256) (hr : Rd wi a (nums .u8 b)) (hw : D.waits.length ≤ 1000000) :
    Calls Try.prog 13 #[.pointer (some ⟨d, 0, none⟩), .int .i64 n, .slice a m c] wi fun e w' => e = .returned (.int .i64 (Dk.writeR D n b : Nat)) ∧ Fam w0 w' (l.set i (d, Dk.writeA D n b)) := by
  subst hl
  have S := h.st i hi
  by_cases hc : (0 ≤ n ∧ n < D.seen.length) ∧ b.length ≤ 64
  · rw [Dk.writeR, Dk.writeA, if_pos hc, if_pos hc]
    obtain ⟨m, rfl⟩ : ∃ m : Nat, n = (m : Nat) := ⟨n.toNat, by omega⟩
    obtain ⟨O, hx, hs, hf⟩ := h.use i hi (Dk.write D m b)
    exact (write_k wi d D w0.heap.size O m a _ c b hs hx (by omega) rfl hc.2 hlt hr hw).mono fun _ _ ⟨he, m⟩ => ⟨he, hf _ m⟩
  · rw [Dk.writeR, Dk.writeA, if_neg hc, if_neg hc]
    refine (S.write_bad n a b.length c ?_).mono fun _ _ ⟨he, e⟩ => ⟨he, e ▸ h.same i hi⟩
    by_cases h1 : 0 ≤ n ∧ n < D.seen.length
    · exact Or.inr (by
        rcases Nat.lt_or_ge 64 b.length with h2 | h2
        · exact h2
        · exact absurd ⟨h1, h2⟩ hc)
    · exact Or.inl h1
theorem Fam.bad {w0 wi : World} {l : List (Nat × Dk.Disk)} (h : Fam w0 wi l) (i : Nat) {d : Nat} {D : Dk.Disk} (hi : l[i]? = some (d, D)) (n : Nat) (hn : n < D.seen.length) (hw : D.waits.length ≤ 1000000) :
    Calls Try.prog 23 #[.pointer (some ⟨d, 0, none⟩), .int .i64 (n : Nat)] wi fun e w' => e = .returned (.int .i64 0) ∧ Fam w0 w' (l.set i (d, Dk.bad D n)) := by
  obtain ⟨O, hx, hs, hf⟩ := h.use i hi (Dk.bad D n)
  exact (bad_k wi d D w0.heap.size O n hs hx hn hw).mono fun _ _ ⟨he, m⟩ => ⟨he, hf _ m⟩
theorem Fam.rot {w0 wi : World} {l : List (Nat × Dk.Disk)} (h : Fam w0 wi l) (i : Nat) {d : Nat} {D : Dk.Disk} (hi : l[i]? = some (d, D)) (n p x : Nat) (hn : n < D.seen.length) (hp : p < 64) (hx : x < 256) (hw : D.waits.length ≤ 1000000) :
    Calls Try.prog 22 #[.pointer (some ⟨d, 0, none⟩), .int .i64 (n : Nat), .int .i64 (p : Nat), .int .u8 (x : Nat)] wi fun e w' => e = .returned (.int .i64 0) ∧ Fam w0 w' (l.set i (d, Dk.rot D n p x)) := by
  obtain ⟨O, hy, hs, hf⟩ := h.use i hi (Dk.rot D n p x)
  exact (rot_k wi d D w0.heap.size O n p x hs hy hn hp hx hw).mono fun _ _ ⟨he, m⟩ => ⟨he, hf _ m⟩
end Go.Proofs.Ytechmboimpbjpaa
