/-
  Package drydocklaw01 by its own text: SameBytes.
  The statements' own helpers for a disk: great, does, alike.
-/
import Derived.Test.YtmjeigceclmdoaaGreatDoorRows
import Derived.Test.YtmjeigceclmdoaaGreatDoorK01
import Derived.Deep.LoopGhost
import Derived.Test.YtmjeigceclmdoaaGreatDoorK13
import Derived.Test.YtmjeigceclmdoaaGreatDoorK14
namespace Go.Proofs.YtmjeigceclmdoaaGreatDoor
open Go Go.RowKit

theorem take_getD {xs : List Nat} {k : Nat} (h : k < xs.length) : xs.take (k + 1) = xs.take k ++ [xs.getD k 0] := by
  rw [List.take_succ_eq_append_getElem h, List.getD_eq_getElem?_getD, List.getElem?_eq_getElem h]; rfl

/-- two slices of numbers: alike? -/
def sameBytes (xs ys : List Nat) : Bool := decide (xs = ys)

set_option maxHeartbeats 400000 in
theorem sameBytes_len (w : World) (a b : Option Addr) (n m c d : Nat) (h : n ≠ m) :
    Calls Tryz.prog 16 #[.slice a n c, .slice b m d] w fun e w' => e = .returned (.bool false) ∧ w = w' := by
  go_enter Tryz.func16, Tryz.ntmps16
  go_wp2
  go_ret
  exact ⟨rfl, rfl⟩

theorem same_next {xs ys : List Nat} {k : Nat} (hx : k < xs.length) (hy : k < ys.length) (h : xs.take k = ys.take k) (he : xs.getD k 0 = ys.getD k 0) : xs.take (k + 1) = ys.take (k + 1) := by
  rw [take_getD hx, take_getD hy, h, he]
theorem same_not {xs ys : List Nat} {k : Nat} (he : xs.getD k 0 ≠ ys.getD k 0) : sameBytes xs ys = false := by
  simp only [sameBytes, decide_eq_false_iff_not]
  rintro rfl; exact he rfl

def SamePost (w : World) (xs ys : List Nat) (e : Ending) (w' : World) : Prop := e = .returned (.bool (sameBytes xs ys)) ∧ Touch No w w'

set_option maxHeartbeats 1000000 in
theorem sameBytes_eq (w : World) (a b : Option Addr) (n c d : Nat) (xs ys : List Nat) (hx : xs.length = n) (hy : ys.length = n) (hn : (n : Int) ≤ 9223372036854775807)
    (ha : Rd w a (nums .u8 xs)) (hb : Rd w b (nums .u8 ys)) :
    Calls Tryz.prog 16 #[.slice a n c, .slice b n d] w (SamePost w xs ys) := by
  have Hx := Lib.hid hx; clear hx
  have Hy := Lib.hid hy; clear hy
  have Ha := Lib.hid ha; clear ha
  have Hb := Lib.hid hb; clear hb
  go_enter Tryz.func16, Tryz.ntmps16
  go_wp2
  go_loopg [5] n (fun g s5 wr => ∃ k : Nat, k + g = n ∧ s5 = .int .i64 ((k : Nat) : Int) ∧ Hid (xs.take k = ys.take k) ∧ Hid (Touch No w wr))
  case atStart => exact ⟨0, by omega, rfl, rfl, Touch.refl _ _⟩
  case round =>
    obtain ⟨k, hkg, rfl, E, T⟩ := hrel
    cases gk with
    | zero =>
      obtain rfl : k = n := by omega
      have Fin : Hid (sameBytes xs ys = true) := by
        have := E.out
        rw [List.take_of_length_le (by have := Hx.out; omega), List.take_of_length_le (by have := Hy.out; omega)] at this
        show _ = _
        simp [sameBytes, this]
      go_wp2
      go_ret
      exact ⟨ret_bool Fin.out.symm, T.out⟩
    | succ g =>
      have hlt : k < n := by omega
      have hxl : k < xs.length := by have := Hx.out; omega
      have hyl : k < ys.length := by have := Hy.out; omega
      obtain ⟨b1, o1, rfl, h1⟩ := (Ha.out.no T.out).num hxl
      obtain ⟨b2, o2, rfl, h2⟩ := (Hb.out.no T.out).num hyl
      have Next := Lib.hid (same_next hxl hyl E.out)
      have Not := Lib.hid (same_not (xs := xs) (ys := ys) (k := k))
      clear hxl hyl
      generalize xs.getD k 0 = x at *
      generalize ys.getD k 0 = y at *
      by_cases hxy : x = y
      · subst hxy
        go_wp2_with fail
        go_quiet (fail)
        go_wp2
        go_roundg g
        case measure => omega
        case rel => exact ⟨k + 1, by omega, by go_num, Next.out (by first | rfl | trivial), T.out.drewN _⟩
      · have hne : ((x : Int) != (y : Int)) = true := by simp; omega
        have Hxy := Lib.hid hxy; clear hxy
        go_wp2_with fail
        go_quiet (fail)
        go_wp2
        go_ret
        exact ⟨ret_bool (Not.out Hxy.out).symm, T.out.drewN _⟩
end Go.Proofs.YtmjeigceclmdoaaGreatDoor
namespace Go.Proofs.YtmjeigceclmdoaaGreatDoor
open Go Go.RowKit

theorem St.write_any {w0 wi : World} {d : Nat} {D : Dk.Disk} (h : St w0 wi d D) (n : Int) (a : Option Addr) (l c : Nat) (b : List Nat) (hl : b.length = l) (hlt : ∀ x ∈ b, x < 256) (hr : Rd wi a (nums .u8 b)) (hw : D.waits.length ≤ 1000000) :
    Calls Tryz.prog 49 #[.pointer (some ⟨d, 0, none⟩), .int .i64 n, .slice a l c] wi fun e w' => e = .returned (.int .i64 (Dk.writeR D n b : Nat)) ∧ St w0 w' d (Dk.writeA D n b) := by
  subst hl
  by_cases hc : (0 ≤ n ∧ n < D.seen.length) ∧ b.length ≤ 64
  · rw [Dk.writeR, Dk.writeA, if_pos hc, if_pos hc]
    obtain ⟨m, rfl⟩ : ∃ m : Nat, n = (m : Nat) := ⟨n.toNat, by omega⟩
    exact h.write m a _ c b (by omega) rfl hc.2 hlt hr hw
  · rw [Dk.writeR, Dk.writeA, if_neg hc, if_neg hc]
    exact (h.write_bad n a b.length c (by
      by_cases h1 : 0 ≤ n ∧ n < D.seen.length
      · exact Or.inr (by
          rcases Nat.lt_or_ge 64 b.length with h2 | h2
          · exact h2
          · exact absurd ⟨h1, h2⟩ hc)
      · exact Or.inl h1)).mono fun _ _ ⟨he, e⟩ => ⟨he, e ▸ h⟩
theorem St.bad_any {w0 wi : World} {d : Nat} {D : Dk.Disk} (h : St w0 wi d D) (n : Int) (hw : D.waits.length ≤ 1000000) :
    Calls Tryz.prog 57 #[.pointer (some ⟨d, 0, none⟩), .int .i64 n] wi fun e w' => e = .returned (.int .i64 (Dk.badR D n : Nat)) ∧ St w0 w' d (Dk.badA D n) := by
  by_cases hc : 0 ≤ n ∧ n < D.seen.length
  · rw [Dk.badR, Dk.badA, if_pos hc, if_pos hc]
    obtain ⟨m, rfl⟩ : ∃ m : Nat, n = (m : Nat) := ⟨n.toNat, by omega⟩
    exact h.bad m (by omega) hw
  · rw [Dk.badR, Dk.badA, if_neg hc, if_neg hc]
    have h0 := h
    obtain ⟨O, h, t⟩ := h
    exact (bad_out wi d D O n h.on hc).mono fun _ _ ⟨he, e⟩ => ⟨he, e ▸ h0⟩
theorem St.rot_any {w0 wi : World} {d : Nat} {D : Dk.Disk} (h : St w0 wi d D) (n p : Int) (x : Nat) (hx : x < 256) (hw : D.waits.length ≤ 1000000) :
    Calls Tryz.prog 55 #[.pointer (some ⟨d, 0, none⟩), .int .i64 n, .int .i64 p, .int .u8 (x : Nat)] wi fun e w' => e = .returned (.int .i64 (Dk.rotR D n p : Nat)) ∧ St w0 w' d (Dk.rotA D n p x) := by
  by_cases hc : (0 ≤ n ∧ n < D.seen.length) ∧ (0 ≤ p ∧ p < 64)
  · rw [Dk.rotR, Dk.rotA, if_pos hc, if_pos hc]
    obtain ⟨m, rfl⟩ : ∃ m : Nat, n = (m : Nat) := ⟨n.toNat, by omega⟩
    obtain ⟨q, rfl⟩ : ∃ q : Nat, p = (q : Nat) := ⟨p.toNat, by omega⟩
    exact h.rot m q x (by omega) (by omega) hx hw
  · rw [Dk.rotR, Dk.rotA, if_neg hc, if_neg hc]
    have h0 := h
    obtain ⟨O, h, t⟩ := h
    by_cases h1 : 0 ≤ n ∧ n < D.seen.length
    · exact (rot_bad wi d D O n p (x : Nat) h.on h1 (by omega)).mono fun _ _ ⟨he, e⟩ => ⟨he, e ▸ h0⟩
    · exact (rot_out wi d D O n p (x : Nat) h.on h1).mono fun _ _ ⟨he, e⟩ => ⟨he, e ▸ h0⟩

/-- an act as it lies in memory -/
structure Deed where
  kind : Nat
  n : Int
  at_ : Int
  a : Option Addr
  cap : Nat
  xs : List Nat
  keep : Nat

structure DeedAt (w : World) (c o : Nat) (x : Deed) : Prop where
  kind : w.cell? ⟨c, o, none⟩ = some (.int .u8 (x.kind : Nat))
  n : w.cell? ⟨c, o + 1, none⟩ = some (.int .i64 x.n)
  at_ : w.cell? ⟨c, o + 2, none⟩ = some (.int .i64 x.at_)
  l : w.cell? ⟨c, o + 3, none⟩ = some (.slice x.a x.xs.length x.cap)
  keep : w.cell? ⟨c, o + 4, none⟩ = some (.int .u64 (x.keep : Nat))
  rd : Rd w x.a (nums .u8 x.xs)
  k8 : x.kind < 256
  k64 : x.keep < 18446744073709551616
  le : x.xs.length ≤ x.cap
  max : (x.cap : Int) ≤ 140737488355328
  x8 : ∀ y ∈ x.xs, y < 256

theorem DeedAt.touch {w w' : World} {c o : Nat} {x : Deed} (h : DeedAt w c o x) (t : Touch No w w') : DeedAt w' c o x :=
  ⟨t.cell (fun f => f) h.kind, t.cell (fun f => f) h.n, t.cell (fun f => f) h.at_, t.cell (fun f => f) h.l, t.cell (fun f => f) h.keep, h.rd.no t, h.k8, h.k64, h.le, h.max, h.x8⟩

/-- the slice at ad reads as these acts -/
def IsDeeds (w : World) (ad : Option Addr) (acts : List Deed) : Prop := ∀ i x, acts[i]? = some x → ∃ c o, ad = some ⟨c, o, none⟩ ∧ DeedAt w c (o + i * 5) x
theorem IsDeeds.touch {w w' : World} {ad : Option Addr} {acts : List Deed} (h : IsDeeds w ad acts) (t : Touch No w w') : IsDeeds w' ad acts := fun i x hx =>
  let ⟨c, o, e, ha⟩ := h i x hx; ⟨c, o, e, ha.touch t⟩

/-- great: more than is gone through -/
def greatFrom (m : Nat) : List Deed → Bool
  | [] => false
  | x :: l => decide (30000 < m + 1 + x.xs.length) || greatFrom (m + 1 + x.xs.length) l
def great (l : List Deed) : Bool := greatFrom 0 l || decide (150 < l.length)
theorem great_not {l : List Deed} (h : great l = false) : l.length ≤ 150 := by
  simp only [great, Bool.or_eq_false_iff, decide_eq_false_iff_not] at h
  omega

set_option maxRecDepth 100000 in
set_option maxHeartbeats 1000000 in
theorem great_any (w : World) (ad : Option Addr) (n cap : Nat) (acts : List Deed) (hn : acts.length = n) (hmax : (n : Int) ≤ 9223372036854775807) (h : IsDeeds w ad acts) :
    Calls Tryz.prog 46 #[.slice ad n cap] w fun e w' => e = .returned (.bool (great acts)) ∧ w = w' := by
  have H := Lib.hid h; clear h
  have HN := Lib.hid hn; clear hn
  go_enter Tryz.func46, Tryz.ntmps46
  go_wp2
  go_loopg [3, 4] n (fun g s3 s4 wr => ∃ k m, k + g = n ∧ s4 = .int .i64 ((k : Nat) : Int) ∧ s3 = .int .i64 ((m : Nat) : Int) ∧ m ≤ 30000 ∧ Hid (greatFrom 0 acts = greatFrom m (acts.drop k)) ∧ Hid (wr = w))
  case atStart => exact ⟨0, 0, by omega, rfl, rfl, by omega, rfl, rfl⟩
  case round =>
    obtain ⟨k, m, hkg, rfl, rfl, hm, hf, hwr⟩ := hrel
    have hww : w = wr := hwr.out.symm
    clear hwr
    subst hww
    cases gk with
    | zero =>
      obtain rfl : k = n := by omega
      have Hres : Hid (great acts = decide (150 < k)) := by
        have e : acts.drop k = [] := List.drop_eq_nil_of_le (by have := HN.out; omega)
        show great acts = _
        rw [great, hf.out, e, HN.out]; simp [greatFrom]
      go_wp2
      go_ret
      exact ⟨ret_bool (by rw [Hres.out, Bool.eq_iff_iff]; simp; omega), rfl⟩
    | succ g =>
      have hlt : (k : Int) < n := by omega
      obtain ⟨x, hx⟩ : ∃ x, acts[k]? = some x := ⟨_, List.getElem?_eq_getElem (by have := HN.out; omega)⟩
      obtain ⟨c, o, rfl, ha⟩ := H.out k x hx
      have hl := ha.l
      have hle := ha.le
      have hmx := ha.max
      clear ha
      have HF : Hid (greatFrom 0 acts = (decide (30000 < m + 1 + x.xs.length) || greatFrom (m + 1 + x.xs.length) (acts.drop (k + 1)))) := by
        have hd : acts.drop k = x :: acts.drop (k + 1) := by
          have hlen : k < acts.length := by have := HN.out; omega
          rw [List.drop_eq_getElem_cons hlen]
          rw [List.getElem?_eq_getElem hlen] at hx
          rw [Option.some.inj hx]
        show greatFrom 0 acts = _
        rw [hf.out, hd]; rfl
      clear hx hf
      generalize x.xs.length = q at *
      generalize x.a = qa at *
      generalize x.cap = qc at *
      by_cases hbig : 30000 < m + 1 + q
      · have hbig' : (30000 : Int) < (m : Int) + 1 + (q : Int) := by omega
        have Hres : Hid (great acts = true) := by
          show great acts = true
          rw [great, HF.out]; simp [hbig]
        clear hbig
        go_wp2
        go_ret
        exact ⟨ret_bool Hres.out.symm, rfl⟩
      · have hbig' : ¬ (30000 : Int) < (m : Int) + 1 + (q : Int) := by omega
        have HF2 : Hid (greatFrom 0 acts = greatFrom (m + 1 + q) (acts.drop (k + 1))) := by
          show greatFrom 0 acts = _
          rw [HF.out, decide_eq_false hbig, Bool.false_or]
        have hbound : m + 1 + q ≤ 30000 := by omega
        clear hbig
        go_wp2
        go_roundg g
        case measure => omega
        case rel => exact ⟨k + 1, m + 1 + q, by omega, by go_num, by go_num, hbound, HF2.out, rfl⟩

/-! ### what acts do to a disk -/
namespace Dk
def act (D : Disk) (x : Deed) : Disk :=
  if x.kind % 9 ≤ 3 then writeA D x.n x.xs
  else if x.kind % 9 = 4 then sync D
  else if x.kind % 9 = 6 then rotA D x.n x.at_ (x.keep % 256)
  else if x.kind % 9 = 7 then badA D x.n
  else D
def acted (D : Disk) : List Deed → Disk
  | [] => D
  | x :: l => acted (act D x) l
def does (l : List Deed) : Disk := acted (new 8) l
theorem act_seen (D : Disk) (x : Deed) : (act D x).seen.length = D.seen.length := by
  unfold act
  split
  · unfold writeA; split
    · simp [write]
    · rfl
  · split
    · rfl
    · split
      · unfold rotA; split
        · simp [rot, upd_length]
        · rfl
      · split
        · unfold badA; split
          · simp [bad, upd_length]
          · rfl
        · rfl
theorem act_waits (D : Disk) (x : Deed) : (act D x).waits.length ≤ D.waits.length + 1 := by
  unfold act
  split
  · unfold writeA; split
    · simp [write]
    · omega
  · split
    · simp [sync]
    · split
      · unfold rotA; split
        · simp [rot]
        · omega
      · split
        · unfold badA; split
          · simp [bad]
          · omega
        · omega
theorem acted_seen : ∀ (l : List Deed) (D : Disk), (acted D l).seen.length = D.seen.length
  | [], _ => rfl
  | x :: l, D => by rw [acted, acted_seen l, act_seen]
theorem acted_waits : ∀ (l : List Deed) (D : Disk), (acted D l).waits.length ≤ D.waits.length + l.length
  | [], _ => Nat.le_refl _
  | x :: l, D => by
    have h1 := acted_waits l (act D x)
    have h2 := act_waits D x
    rw [acted, List.length_cons]; omega
theorem does_seen (l : List Deed) : (does l).seen.length = 8 := by rw [does, acted_seen]; rfl
theorem does_waits (l : List Deed) : (does l).waits.length ≤ l.length := by
  have := acted_waits l (new 8)
  have e : (new 8).waits.length = 0 := rfl
  rw [does]; omega
end Dk

end Go.Proofs.YtmjeigceclmdoaaGreatDoor
