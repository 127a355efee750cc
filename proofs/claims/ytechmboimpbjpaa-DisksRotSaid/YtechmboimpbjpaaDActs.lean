/-
  The statements' own helpers for a disk: great, does, alike.
-/
import Derived.Test.YtechmboimpbjpaaDiskL
import Derived.Test.YtechmboimpbjpaaSameB
namespace Go.Proofs.Ytechmboimpbjpaa
open Go Go.RowKit

namespace Dk
def writeA (D : Disk) (n : Int) (b : List Nat) : Disk := if (0 ≤ n ∧ n < D.seen.length) ∧ b.length ≤ 64 then write D n.toNat b else D
def writeR (D : Disk) (n : Int) (b : List Nat) : Nat := if (0 ≤ n ∧ n < D.seen.length) ∧ b.length ≤ 64 then 0 else 1
def badA (D : Disk) (n : Int) : Disk := if 0 ≤ n ∧ n < D.seen.length then bad D n.toNat else D
def badR (D : Disk) (n : Int) : Nat := if 0 ≤ n ∧ n < D.seen.length then 0 else 1
def rotA (D : Disk) (n p : Int) (x : Nat) : Disk := if (0 ≤ n ∧ n < D.seen.length) ∧ (0 ≤ p ∧ p < 64) then rot D n.toNat p.toNat x else D
def rotR (D : Disk) (n p : Int) : Nat := if (0 ≤ n ∧ n < D.seen.length) ∧ (0 ≤ p ∧ p < 64) then 0 else 1
end Dk

theorem St.write_any {w0 wi : World} {d : Nat} {D : Dk.Disk} (h : St w0 wi d D) (n : Int) (a : Option Addr) (l c : Nat) (b : List Nat) (hl : b.length = l) (hlt : ∀ x ∈ b, x < 256) (hr : Rd wi a (nums .u8 b)) (hw : D.waits.length ≤ 1000000) :
    Calls Try.prog 13 #[.pointer (some ⟨d, 0, none⟩), .int .i64 n, .slice a l c] wi fun e w' => e = .returned (.int .i64 (Dk.writeR D n b : Nat)) ∧ St w0 w' d (Dk.writeA D n b) := by
  subst hl
  by_cases hc : (0 ≤ n ∧ n < D.seen.length) ∧ b.length ≤ 64
  · rw [Dk.writeR, Dk.writeA, if_pos hc, if_pos hc]
    obtain ⟨m, rfl⟩ : ∃ m : Nat, n = (m : Nat) := ⟨n.toNat, by omega⟩
    exact h.write m a _ c b (by omega) rfl hc.2 hlt hr hw
  · rw [Dk.writeR, Dk.writeA, if_neg hc, if_neg hc]
    exact (h.write_bad n a b.length c (by
      by_cases h1 : 0 ≤ n ∧ n < D.seen.length
      · exact Or.inr (by
          rcases Nat.lt_or_ge 64 b.length with h2 | h2
          · exact h2
          · exact absurd ⟨h1, h2⟩ hc)
      · exact Or.inl h1)).mono fun _ _ ⟨he, e⟩ => ⟨he, e ▸ h⟩
theorem St.bad_any {w0 wi : World} {d : Nat} {D : Dk.Disk} (h : St w0 wi d D) (n : Int) (hw : D.waits.length ≤ 1000000) :
    Calls Try.prog 23 #[.pointer (some ⟨d, 0, none⟩), .int .i64 n] wi fun e w' => e = .returned (.int .i64 (Dk.badR D n : Nat)) ∧ St w0 w' d (Dk.badA D n) := by
  by_cases hc : 0 ≤ n ∧ n < D.seen.length
  · rw [Dk.badR, Dk.badA, if_pos hc, if_pos hc]
    obtain ⟨m, rfl⟩ : ∃ m : Nat, n = (m : Nat) := ⟨n.toNat, by omega⟩
    exact h.bad m (by omega) hw
  · rw [Dk.badR, Dk.badA, if_neg hc, if_neg hc]
    have h0 := h
    obtain ⟨O, h, t⟩ := h
    exact (bad_out wi d D O n h.on hc).mono fun _ _ ⟨he, e⟩ => ⟨he, e ▸ h0⟩
theorem St.rot_any {w0 wi : World} {d : Nat} {D : Dk.Disk} (h : St w0 wi d D) (n p : Int) (x : Nat) (hx : x < 256) (hw : D.waits.length ≤ 1000000) :
    Calls Try.prog 22 #[.pointer (some ⟨d, 0, none⟩), .int .i64 n, .int .i64 p, .int .u8 (x : Nat)] wi fun e w' => e = .returned (.int .i64 (Dk.rotR D n p : Nat)) ∧ St w0 w' d (Dk.rotA D n p x) := by
  by_cases hc : (0 ≤ n ∧ n < D.seen.length) ∧ (0 ≤ p ∧ p < 64)
  · rw [Dk.rotR, Dk.rotA, if_pos hc, if_pos hc]
    obtain ⟨m, rfl⟩ : ∃ m : Nat, n = (m : Nat) := ⟨n.toNat, by omega⟩
    obtain ⟨q, rfl⟩ : ∃ q : Nat, p = (q : Nat) := ⟨p.toNat, by omega⟩
    exact h.rot m q x (by omega) (by omega) hx hw
  · rw [Dk.rotR, Dk.rotA, if_neg hc, if_neg hc]
    have h0 := h
    obtain ⟨O, h, t⟩ := h
    by_cases h1 : 0 ≤ n ∧ n < D.seen.length
    · exact (rot_bad wi d D O n p (x : Nat) h.on h1 (by omega)).mono fun _ _ ⟨he, e⟩ => ⟨he, e ▸ h0⟩
    · exact (rot_out wi d D O n p (x : Nat) h.on h1).mono fun _ _ ⟨he, e⟩ => ⟨he, e ▸ h0⟩

/-- an act as it lies in memory -/
structure Deed where
  kind : Nat
  n : Int
  at_ : Int
  a : Option Addr
  cap : Nat
  xs : List Nat
  keep : Nat

structure DeedAt (w : World) (c o : Nat) (x : Deed) : Prop where
  kind : w.cell? ⟨c, o, none⟩ = some (.int .u8 (x.kind : Nat))
  n : w.cell? ⟨c, o + 1, none⟩ = some (.int .i64 x.n)
  at_ : w.cell? ⟨c, o + 2, none⟩ = some (.int .i64 x.at_)
  l : w.cell? ⟨c, o + 3, none⟩ = some (.slice x.a x.xs.length x.cap)
  keep : w.cell? ⟨c, o + 4, none⟩ = some (.int .u64 (x.keep : Nat))
  rd : Rd w x.a (nums .u8 x.xs)
  k8 : x.kind < 256
  k64 : x.keep < 18446744073709551616
  le : x.xs.length ≤ x.cap
  max : (x.cap : Int) ≤ 140737488355328
  x8 : ∀ y ∈ x.xs, y < 256

theorem DeedAt.touch {w w' : World} {c o : Nat} {x : Deed} (h : DeedAt w c o x) (t : Touch No w w') : DeedAt w' c o x :=
  ⟨t.cell (fun f => f) h.kind, t.cell (fun f => f) h.n, t.cell (fun f => f) h.at_, t.cell (fun f => f) h.l, t.cell (fun f => f) h.keep, h.rd.no t, h.k8, h.k64, h.le, h.max, h.x8⟩

/-- the slice at ad reads as these acts -/
def IsDeeds (w : World) (ad : Option Addr) (acts : List Deed) : Prop := ∀ i x, acts[i]? = some x → ∃ c o, ad = some ⟨c, o, none⟩ ∧ DeedAt w c (o + i * 5) x
theorem IsDeeds.touch {w w' : World} {ad : Option Addr} {acts : List Deed} (h : IsDeeds w ad acts) (t : Touch No w w') : IsDeeds w' ad acts := fun i x hx =>
  let ⟨c, o, e, ha⟩ := h i x hx; ⟨c, o, e, ha.touch t⟩

/-- great: more than is gone through -/
def greatFrom (m : Nat) : List Deed → Bool
  | [] => false
  | x :: l => decide (30000 < m + 1 + x.xs.length) || greatFrom (m + 1 + x.xs.length) l
def great (l : List Deed) : Bool := greatFrom 0 l || decide (150 < l.length)
theorem great_not {l : List Deed} (h : great l = false) : l.length ≤ 150 := by
  simp only [great, Bool.or_eq_false_iff, decide_eq_false_iff_not] at h
  omega

set_option maxRecDepth 100000 in
set_option maxHeartbeats 1000000 in
theorem great_any (w : World) (ad : Option Addr) (n cap : Nat) (acts : List Deed) (hn : acts.length = n) (hmax : (n : Int) ≤ 9223372036854775807) (h : IsDeeds w ad acts) :
    Calls Try.prog 25 #[.slice ad n cap] w fun e w' => e = .returned (.bool (great acts)) ∧ w = w' := by
  have H := Lib.hid h; clear h
  have HN := Lib.hid hn; clear hn
  go_enter Try.func25, Try.ntmps25
  go_wp2
  go_loopg [3, 4] n (fun g s3 s4 wr => ∃ k m, k + g = n ∧ s4 = .int .i64 ((k : Nat) : Int) ∧ s3 = .int .i64 ((m : Nat) : Int) ∧ m ≤ 30000 ∧ Hid (greatFrom 0 acts = greatFrom m (acts.drop k)) ∧ Hid (wr = w))
  case atStart => exact ⟨0, 0, by omega, rfl, rfl, by omega, rfl, rfl⟩
  case round =>
    obtain ⟨k, m, hkg, rfl, rfl, hm, hf, hwr⟩ := hrel
    have hww : w = wr := hwr.out.symm
    clear hwr
    subst hww
    cases gk with
    | zero =>
      obtain rfl : k = n := by omega
      have Hres : Hid (great acts = decide (150 < k)) := by
        have e : acts.drop k = [] := List.drop_eq_nil_of_le (by have := HN.out; omega)
        show great acts = _
        rw [great, hf.out, e, HN.out]; simp [greatFrom]
      go_wp2
      go_ret
      exact ⟨ret_bool (by rw [Hres.out, Bool.eq_iff_iff]; simp; omega), rfl⟩
    | succ g =>
      have hlt : (k : Int) < n := by omega
      obtain ⟨x, hx⟩ : ∃ x, acts[k]? = some x := ⟨_, List.getElem?_eq_getElem (by have := HN.out; omega)⟩
      obtain ⟨c, o, rfl, ha⟩ := H.out k x hx
      have hl := ha.l
      have hle := ha.le
      have hmx := ha.max
      clear ha
      have HF : Hid (greatFrom 0 acts = (decide (30000 < m + 1 + x.xs.length) || greatFrom (m + 1 + x.xs.length) (acts.drop (k + 1)))) := by
        have hd : acts.drop k = x :: acts.drop (k + 1) := by
          have hlen : k < acts.length := by have := HN.out; omega
          rw [List.drop_eq_getElem_cons hlen]
          rw [List.getElem?_eq_getElem hlen] at hx
          rw [Option.some.inj hx]
        show greatFrom 0 acts = _
        rw [hf.out, hd]; rfl
      clear hx hf
      generalize x.xs.length = q at *
      generalize x.a = qa at *
      generalize x.cap = qc at *
      by_cases hbig : 30000 < m + 1 + q
      · have hbig' : (30000 : Int) < (m : Int) + 1 + (q : Int) := by omega
        have Hres : Hid (great acts = true) := by
          show great acts = true
          rw [great, HF.out]; simp [hbig]
        clear hbig
        go_wp2
        go_ret
        exact ⟨ret_bool Hres.out.symm, rfl⟩
      · have hbig' : ¬ (30000 : Int) < (m : Int) + 1 + (q : Int) := by omega
        have HF2 : Hid (greatFrom 0 acts = greatFrom (m + 1 + q) (acts.drop (k + 1))) := by
          show greatFrom 0 acts = _
          rw [HF.out, decide_eq_false hbig, Bool.false_or]
        have hbound : m + 1 + q ≤ 30000 := by omega
        clear hbig
        go_wp2
        go_roundg g
        case measure => omega
        case rel => exact ⟨k + 1, m + 1 + q, by omega, by go_num, by go_num, hbound, HF2.out, rfl⟩

/-! ### what acts do to a disk -/
namespace Dk
def act (D : Disk) (x : Deed) : Disk :=
  if x.kind % 9 ≤ 3 then writeA D x.n x.xs
  else if x.kind % 9 = 4 then sync D
  else if x.kind % 9 = 6 then rotA D x.n x.at_ (x.keep % 256)
  else if x.kind % 9 = 7 then badA D x.n
  else D
def acted (D : Disk) : List Deed → Disk
  | [] => D
  | x :: l => acted (act D x) l
def does (l : List Deed) : Disk := acted (new 8) l
theorem act_seen (D : Disk) (x : Deed) : (act D x).seen.length = D.seen.length := by
  unfold act
  split
  · unfold writeA; split
    · simp [write]
    · rfl
  · split
    · rfl
    · split
      · unfold rotA; split
        · simp [rot, upd_length]
        · rfl
      · split
        · unfold badA; split
          · simp [bad, upd_length]
          · rfl
        · rfl
theorem act_waits (D : Disk) (x : Deed) : (act D x).waits.length ≤ D.waits.length + 1 := by
  unfold act
  split
  · unfold writeA; split
    · simp [write]
    · omega
  · split
    · simp [sync]
    · split
      · unfold rotA; split
        · simp [rot]
        · omega
      · split
        · unfold badA; split
          · simp [bad]
          · omega
        · omega
theorem acted_seen : ∀ (l : List Deed) (D : Disk), (acted D l).seen.length = D.seen.length
  | [], _ => rfl
  | x :: l, D => by rw [acted, acted_seen l, act_seen]
theorem acted_waits : ∀ (l : List Deed) (D : Disk), (acted D l).waits.length ≤ D.waits.length + l.length
  | [], _ => Nat.le_refl _
  | x :: l, D => by
    have h1 := acted_waits l (act D x)
    have h2 := act_waits D x
    rw [acted, List.length_cons]; omega
theorem does_seen (l : List Deed) : (does l).seen.length = 8 := by rw [does, acted_seen]; rfl
theorem does_waits (l : List Deed) : (does l).waits.length ≤ l.length := by
  have := acted_waits l (new 8)
  have e : (new 8).waits.length = 0 := rfl
  rw [does]; omega
end Dk

set_option maxRecDepth 100000 in
set_option maxHeartbeats 4000000 in
theorem does_any (w : World) (ad : Option Addr) (n cap : Nat) (acts : List Deed) (hn : acts.length = n) (hmax : n ≤ 150) (h : IsDeeds w ad acts) :
    Calls Try.prog 26 #[.slice ad n cap] w fun e w' => ∃ d, e = .returned (.pointer (some ⟨d, 0, none⟩)) ∧ St w w' d (Dk.does acts) := by
  have H := Lib.hid h; clear h
  have HN := Lib.hid hn; clear hn
  go_enter Try.func26, Try.ntmps26
  go_wp2_with fail
  refine (new_k w 8 (by decide) (by decide)).mono ?_
  rintro e w1 ⟨d, rfl, h1⟩
  have s1 : St w w1 d (Dk.new 8) := St.made (Touch.refl _ _) h1
  clear h1
  go_wp2
  go_loopg [5] n (fun g s5 wr => ∃ k D, k + g = n ∧ s5 = .int .i64 ((k : Nat) : Int) ∧ St w wr d D ∧ D.waits.length ≤ k ∧ Hid (Dk.does acts = Dk.acted D (acts.drop k)))
  case atStart => exact ⟨0, _, by omega, rfl, s1, Nat.le_refl _, rfl⟩
  case round =>
    clear s1
    obtain ⟨k, D, hkg, rfl, S, hwt, HF⟩ := hrel
    cases gk with
    | zero =>
      obtain rfl : k = n := by omega
      have Fin : Hid (St w wr d (Dk.does acts)) := by
        show St w wr d _
        rw [HF.out, List.drop_eq_nil_of_le (by have := HN.out; omega)]
        exact S
      clear S
      go_wp2
      go_ret
      exact ⟨d, rfl, Fin.out⟩
    | succ g =>
      have hlt : (k : Int) < n := by omega
      obtain ⟨x, hx⟩ : ∃ x, acts[k]? = some x := ⟨_, List.getElem?_eq_getElem (by have := HN.out; omega)⟩
      have HF2 : Hid (Dk.does acts = Dk.acted (Dk.act D x) (acts.drop (k + 1))) := by
        have hd : acts.drop k = x :: acts.drop (k + 1) := by
          have hlen : k < acts.length := by have := HN.out; omega
          rw [List.drop_eq_getElem_cons hlen]
          rw [List.getElem?_eq_getElem hlen] at hx
          rw [Option.some.inj hx]
        show Dk.does acts = _
        rw [HF.out, hd]; rfl
      obtain ⟨c, o, rfl, ha⟩ := (H.out.touch S.end) k x hx
      have hkind := ha.kind
      have hnn := ha.n
      have hat := ha.at_
      have hkp := ha.keep
      have hl := ha.l
      have hk8 := ha.k8
      have hw2 := Dk.act_waits D x
      have hw3 : (Dk.act D x).waits.length ≤ k + 1 := by omega
      have hw1 : Hid (D.waits.length ≤ 1000000) := by show _ ≤ _; omega
      have Hw3 := Lib.hid hw3
      have Ha := Lib.hid ha
      clear ha HF hx hw2 hw3
      have hq9 : x.kind % 9 < 9 := Nat.mod_lt _ (by decide)
      obtain ⟨q, hq⟩ : ∃ q, x.kind % 9 = q := ⟨_, rfl⟩
      rw [hq] at hq9
      have hkq : ((x.kind : Nat) : Int) % 9 = (q : Nat) := by omega
      have hku : IntKind.u8.wrap (x.keep : Int) = ((x.keep % 256 : Nat) : Int) := by rw [IntKind.wrap_u8']; omega
      have Hq := Lib.hid hq; clear hq
      have hcases : q = 0 ∨ q = 1 ∨ q = 2 ∨ q = 3 ∨ q = 4 ∨ q = 5 ∨ q = 6 ∨ q = 7 ∨ q = 8 := by omega
      clear hq9
      have hact : Hid (∀ D', (q ≤ 3 → D' = Dk.writeA D x.n x.xs) → (q = 4 → D' = Dk.sync D) → (q = 6 → D' = Dk.rotA D x.n x.at_ (x.keep % 256)) → (q = 7 → D' = Dk.badA D x.n) → (q = 5 ∨ q = 8 → D' = D) → Dk.act D x = D') := fun D' h1 h2 h3 h4 h5 => by
        rw [Dk.act, Hq.out]
        by_cases g1 : q ≤ 3
        · rw [if_pos g1, h1 g1]
        · by_cases g2 : q = 4
          · rw [if_neg g1, if_pos g2, h2 g2]
          · by_cases g3 : q = 6
            · rw [if_neg g1, if_neg g2, if_pos g3, h3 g3]
            · by_cases g4 : q = 7
              · rw [if_neg g1, if_neg g2, if_neg g3, if_pos g4, h4 g4]
              · rw [if_neg g1, if_neg g2, if_neg g3, if_neg g4, h5 (by omega)]
      have Sb : ∀ oo, St w (wr.alloc oo) d D := fun oo => S.alloc oo
      have Rb : Hid (∀ oo, Rd (wr.alloc oo) x.a (nums .u8 x.xs)) := fun oo => Ha.out.rd.no ((Touch.refl No wr).alloc oo)
      have HSb := Lib.hid Sb
      clear Sb S
      rcases hcases with rfl | rfl | rfl | rfl | rfl | rfl | rfl | rfl | rfl
      all_goals
        go_wp2_with (first
          | (go_at_call 13; refine ((HSb.out _).write_any _ _ _ _ x.xs rfl Ha.out.x8 (Rb.out _) hw1.out).mono ?_; rintro e w2 ⟨rfl, hs2⟩)
          | (go_at_call 18; refine ((HSb.out _).sync).mono ?_; rintro e w2 ⟨rfl, hs2⟩)
          | (go_at_call 22; refine ((HSb.out _).rot_any _ _ (x.keep % 256) (Nat.mod_lt _ (by decide)) hw1.out).mono ?_; rintro e w2 ⟨rfl, hs2⟩)
          | (go_at_call 23; refine ((HSb.out _).bad_any _ hw1.out).mono ?_; rintro e w2 ⟨rfl, hs2⟩))
        go_roundg g
        case measure => omega
        case rel =>
          first
            | exact ⟨k + 1, Dk.act D x, by omega, by go_num, (by rw [hact.out (Dk.writeA D x.n x.xs) (fun _ => rfl) (by intro h; omega) (by intro h; omega) (by intro h; omega) (by intro h; omega)]; exact hs2), Hw3.out, HF2.out⟩
            | exact ⟨k + 1, Dk.act D x, by omega, by go_num, (by rw [hact.out (Dk.sync D) (by intro h; omega) (fun _ => rfl) (by intro h; omega) (by intro h; omega) (by intro h; omega)]; exact hs2), Hw3.out, HF2.out⟩
            | exact ⟨k + 1, Dk.act D x, by omega, by go_num, (by rw [hact.out (Dk.rotA D x.n x.at_ (x.keep % 256)) (by intro h; omega) (by intro h; omega) (fun _ => rfl) (by intro h; omega) (by intro h; omega)]; exact hs2), Hw3.out, HF2.out⟩
            | exact ⟨k + 1, Dk.act D x, by omega, by go_num, (by rw [hact.out (Dk.badA D x.n) (by intro h; omega) (by intro h; omega) (by intro h; omega) (fun _ => rfl) (by intro h; omega)]; exact hs2), Hw3.out, HF2.out⟩
            | exact ⟨k + 1, Dk.act D x, by omega, by go_num, (by rw [hact.out D (by intro h; omega) (by intro h; omega) (by intro h; omega) (by intro h; omega) (fun _ => rfl)]; exact HSb.out _), Hw3.out, HF2.out⟩
end Go.Proofs.Ytechmboimpbjpaa
