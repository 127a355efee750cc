/-
  The statements' own helpers for a map of pages: great, behind, free, SameIds.
-/
import Derived.Test.YtjmkfpiahnibkaaDoorFreesF
namespace Go.Proofs.YtjmkfpiahnibkaaDoor
open Go.RowKit

/-- an act as it lies in memory -/
structure Deed where
  kind : Nat
  n : Int
  num : Nat
  a : Option Addr
  cap : Nat
  xs : List Nat

structure DeedAt (w : World) (c o : Nat) (x : Deed) : Prop where
  kind : w.cell? ⟨c, o, none⟩ = some (.int .u8 (x.kind : Nat))
  n : w.cell? ⟨c, o + 1, none⟩ = some (.int .i64 x.n)
  num : w.cell? ⟨c, o + 2, none⟩ = some (.int .u32 (x.num : Nat))
  l : w.cell? ⟨c, o + 3, none⟩ = some (.slice x.a x.xs.length x.cap)
  rd : Rd w x.a (nums .u32 x.xs)
  k8 : x.kind < 256
  n32 : x.num < 4294967296
  le : x.xs.length ≤ x.cap
  max : (x.cap : Int) ≤ 35184372087808
  x32 : ∀ y ∈ x.xs, y < 4294967296

theorem DeedAt.touch {w w' : World} {c o : Nat} {x : Deed} (h : DeedAt w c o x) (t : Touch No w w') : DeedAt w' c o x :=
  ⟨t.cell (fun f => f) h.kind, t.cell (fun f => f) h.n, t.cell (fun f => f) h.num, t.cell (fun f => f) h.l, h.rd.no t, h.k8, h.n32, h.le, h.max, h.x32⟩

/-- the slice at ad reads as these acts -/
def IsDeeds (w : World) (ad : Option Addr) (acts : List Deed) : Prop := ∀ i x, acts[i]? = some x → ∃ c o, ad = some ⟨c, o, none⟩ ∧ DeedAt w c (o + i * 4) x
theorem IsDeeds.touch {w w' : World} {ad : Option Addr} {acts : List Deed} (h : IsDeeds w ad acts) (t : Touch No w w') : IsDeeds w' ad acts := fun i x hx =>
  let ⟨c, o, e, ha⟩ := h i x hx; ⟨c, o, e, ha.touch t⟩

/-- great: more than is gone through -/
def greatFrom (m : Nat) : List Deed → Bool
  | [] => false
  | x :: l => decide (5000 < m + 1 + x.xs.length) || greatFrom (m + 1 + x.xs.length) l
def great (l : List Deed) : Bool := greatFrom 0 l || decide (200 < l.length)

set_option maxRecDepth 100000 in
set_option maxHeartbeats 1000000 in
theorem great_any (w : World) (ad : Option Addr) (n cap : Nat) (acts : List Deed) (hn : acts.length = n) (hmax : (n : Int) ≤ 9223372036854775807) (h : IsDeeds w ad acts) :
    Calls Tryd.prog 14 #[.slice ad n cap] w fun e w' => e = .returned (.bool (great acts)) ∧ w = w' := by
  have H := Lib.hid h; clear h
  have HN := Lib.hid hn; clear hn
  go_enter Tryd.func14, Tryd.ntmps14
  go_wp2
  go_loopg [3, 4] n (fun g s3 s4 wr => ∃ k m, k + g = n ∧ s4 = .int .i64 ((k : Nat) : Int) ∧ s3 = .int .i64 ((m : Nat) : Int) ∧ m ≤ 5000 ∧ Hid (greatFrom 0 acts = greatFrom m (acts.drop k)) ∧ Hid (wr = w))
  case atStart => exact ⟨0, 0, by omega, rfl, rfl, by omega, rfl, rfl⟩
  case round =>
    obtain ⟨k, m, hkg, rfl, rfl, hm, hf, hwr⟩ := hrel
    have hww : w = wr := hwr.out.symm
    clear hwr
    subst hww
    cases gk with
    | zero =>
      obtain rfl : k = n := by omega
      have Hres : Hid (great acts = decide (200 < k)) := by
        have e : acts.drop k = [] := List.drop_eq_nil_of_le (by have := HN.out; omega)
        show great acts = _
        rw [great, hf.out, e, HN.out]; simp [greatFrom]
      go_wp2
      go_ret
      exact ⟨ret_bool (by rw [Hres.out, Bool.eq_iff_iff]; simp; omega), rfl⟩
    | succ g =>
      have hlt : (k : Int) < n := by omega
      obtain ⟨x, hx⟩ : ∃ x, acts[k]? = some x := ⟨_, List.getElem?_eq_getElem (by have := HN.out; omega)⟩
      obtain ⟨c, o, rfl, ha⟩ := H.out k x hx
      have hl := ha.l
      have hle := ha.le
      have hmx := ha.max
      clear ha
      have HF : Hid (greatFrom 0 acts = (decide (5000 < m + 1 + x.xs.length) || greatFrom (m + 1 + x.xs.length) (acts.drop (k + 1)))) := by
        have hd : acts.drop k = x :: acts.drop (k + 1) := by
          have hlen : k < acts.length := by have := HN.out; omega
          rw [List.drop_eq_getElem_cons hlen]
          rw [List.getElem?_eq_getElem hlen] at hx
          rw [Option.some.inj hx]
        show greatFrom 0 acts = _
        rw [hf.out, hd]; rfl
      clear hx hf
      generalize x.xs.length = q at *
      generalize x.a = qa at *
      generalize x.cap = qc at *
      by_cases hbig : 5000 < m + 1 + q
      · have hbig' : (5000 : Int) < (m : Int) + 1 + (q : Int) := by omega
        have Hres : Hid (great acts = true) := by
          show great acts = true
          rw [great, HF.out]; simp [hbig]
        clear hbig
        go_wp2
        go_ret
        exact ⟨ret_bool Hres.out.symm, rfl⟩
      · have hbig' : ¬ (5000 : Int) < (m : Int) + 1 + (q : Int) := by omega
        have HF2 : Hid (greatFrom 0 acts = greatFrom (m + 1 + q) (acts.drop (k + 1))) := by
          show greatFrom 0 acts = _
          rw [HF.out, decide_eq_false hbig, Bool.false_or]
        have hbound : m + 1 + q ≤ 5000 := by omega
        clear hbig
        go_wp2
        go_roundg g
        case measure => omega
        case rel => exact ⟨k + 1, m + 1 + q, by omega, by go_num, by go_num, hbound, HF2.out, rfl⟩

/-! ### what acts do to a map of a hundred pages from 7 on -/
def actSet (S : Nat → Bool) (x : Deed) : Nat → Bool :=
  if x.kind % 8 ≤ 2 then takeSet S x.n
  else if x.kind % 8 ≤ 4 then markSet S x.num
  else if x.kind % 8 ≤ 6 then giveSet 7 107 S x.xs
  else S
def behindSet (S : Nat → Bool) : List Deed → Nat → Bool
  | [] => S
  | x :: l => behindSet (actSet S x) l
def BehindPost (w : World) (S : Nat → Bool) (e : Ending) (w' : World) : Prop :=
  ∃ b, e = .returned (.pointer (some ⟨b, 0, none⟩)) ∧ w.heap.size ≤ b ∧ Touch No w w' ∧ MapAt w' b 7 107 S

theorem behind_step {w wr w2 : World} {b : Nat} {o : Obj} (T : Touch No w wr) (hb : w.heap.size ≤ b) (t : Touch (One b) (wr.alloc o) w2) : Touch No w w2 :=
  (T.alloc o).then t (fun i hi e => by simp only [One] at e; omega)

set_option maxRecDepth 100000 in
set_option maxHeartbeats 4000000 in
theorem behind_any (w : World) (ad : Option Addr) (n cap : Nat) (acts : List Deed) (hn : acts.length = n) (hmax : (n : Int) ≤ 9223372036854775807) (h : IsDeeds w ad acts) (hT : TabAt w) :
    Calls Tryd.prog 15 #[.slice ad n cap] w (BehindPost w (behindSet (upTo 7 107) acts)) := by
  have H := Lib.hid h; clear h
  have HN := Lib.hid hn; clear hn
  have HT := Lib.hid hT; clear hT
  go_enter Tryd.func15, Tryd.ntmps15
  go_wp2_with fail
  refine (new_ok w 7 100 (by decide)).mono ?_
  rintro e w1 ⟨b, rfl, hb, ht1, hm1⟩
  have Hb := Lib.hid hb; clear hb
  have Ht1 := Lib.hid ht1; clear ht1
  have Hm1 := Lib.hid hm1; clear hm1
  go_wp2
  go_loopg [5] n (fun g s5 wr => ∃ k S, k + g = n ∧ s5 = .int .i64 ((k : Nat) : Int) ∧ Hid (MapAt wr b 7 107 S) ∧ Hid (Touch No w wr) ∧ Hid (behindSet (upTo 7 107) acts = behindSet S (acts.drop k)))
  case atStart => exact ⟨0, _, by omega, rfl, Hm1, Ht1, rfl⟩
  case round =>
    clear Hm1 Ht1
    obtain ⟨k, S, hkg, rfl, M, T, HF⟩ := hrel
    cases gk with
    | zero =>
      obtain rfl : k = n := by omega
      have Fin : Hid (MapAt wr b 7 107 (behindSet (upTo 7 107) acts)) := by
        show MapAt wr b 7 107 _
        rw [HF.out, List.drop_eq_nil_of_le (by have := HN.out; omega)]
        exact M.out
      go_wp2
      go_ret
      exact ⟨b, rfl, Hb.out, T.out, Fin.out⟩
    | succ g =>
      have hlt : (k : Int) < n := by omega
      obtain ⟨x, hx⟩ : ∃ x, acts[k]? = some x := ⟨_, List.getElem?_eq_getElem (by have := HN.out; omega)⟩
      have HF2 : Hid (behindSet (upTo 7 107) acts = behindSet (actSet S x) (acts.drop (k + 1))) := by
        have hd : acts.drop k = x :: acts.drop (k + 1) := by
          have hlen : k < acts.length := by have := HN.out; omega
          rw [List.drop_eq_getElem_cons hlen]
          rw [List.getElem?_eq_getElem hlen] at hx
          rw [Option.some.inj hx]
        show behindSet _ acts = _
        rw [HF.out, hd]; rfl
      obtain ⟨c, o, rfl, ha⟩ := (H.out.touch T.out) k x hx
      have hkind := ha.kind
      have hnn := ha.n
      have hnum := ha.num
      have hl := ha.l
      have hk8 := ha.k8
      have Ha := Lib.hid ha
      clear ha HF
      have Tb : Hid (∀ oo, TabAt (wr.alloc oo)) := fun oo => HT.out.touch (T.out.alloc oo) (fun f => f)
      have Mb : Hid (∀ oo, MapAt (wr.alloc oo) b 7 107 S) := fun oo => M.out.touch ((Touch.refl No wr).alloc oo) (fun f => f)
      have Rb : Hid (∀ oo, Rd (wr.alloc oo) x.a (nums .u32 x.xs)) := fun oo => Ha.out.rd.no ((Touch.refl No wr).alloc oo)
      have Offb : Hid (∀ c o, x.a = some ⟨c, o, none⟩ → 0 < x.xs.length → c ≠ b) := fun c o e hpos e2 => by
        obtain ⟨c', o', e', hc⟩ := ((H.out k x ‹_›).choose_spec.choose_spec).2.rd.num hpos
        rw [e] at e'
        simp only [Option.some.injEq, Addr.mk.injEq, and_true] at e'
        have := lt_of_cell hc
        have := Hb.out
        omega
      have hq8 : x.kind % 8 < 8 := Nat.mod_lt _ (by decide)
      obtain ⟨q, hq⟩ : ∃ q, x.kind % 8 = q := ⟨_, rfl⟩
      rw [hq] at hq8
      have hkq : ((x.kind : Nat) : Int) % 8 = (q : Nat) := by omega
      have Hq := Lib.hid hq; clear hq
      have hcases : q = 0 ∨ q = 1 ∨ q = 2 ∨ q = 3 ∨ q = 4 ∨ q = 5 ∨ q = 6 ∨ q = 7 := by omega
      clear hq8
      have HS : Hid (∀ S', (q ≤ 2 → S' = takeSet S x.n) → (q = 3 ∨ q = 4 → S' = markSet S x.num) → (q = 5 ∨ q = 6 → S' = giveSet 7 107 S x.xs) → (q = 7 → S' = S) → actSet S x = S') := fun S' h1 h2 h3 h4 => by
        rw [actSet, Hq.out]
        by_cases g1 : q ≤ 2
        · rw [if_pos g1, h1 g1]
        · by_cases g2 : q ≤ 4
          · rw [if_neg g1, if_pos g2, h2 (by omega)]
          · by_cases g3 : q ≤ 6
            · rw [if_neg g1, if_neg g2, if_pos g3, h3 (by omega)]
            · rw [if_neg g1, if_neg g2, if_neg g3, h4 (by omega)]
      rcases hcases with rfl | rfl | rfl | rfl | rfl | rfl | rfl | rfl
      all_goals
        go_wp2_with (first
          | (go_at_call 8; refine (take_any _ _ _ _ S _ (Mb.out _) (Tb.out _)).mono ?_; rintro e w2 ⟨v, rfl, ht2, hm2⟩)
          | (go_at_call 9; refine (mark_any _ _ _ _ _ S (Mb.out _) Ha.out.n32).mono ?_; rintro e w2 ⟨rfl, ht2, hm2⟩)
          | (go_at_call 10; refine (give_any _ _ _ _ S _ _ _ x.xs (Mb.out _) rfl Ha.out.le (by have := Ha.out.max; omega) (Rb.out _) Offb.out Ha.out.x32).mono ?_; rintro e w2 ⟨rfl, ht2, hm2⟩))
        go_roundg g
        case measure => omega
        case rel =>
          first
            | exact ⟨k + 1, actSet S x, by omega, by go_num, (by rw [HS.out (takeSet S x.n) (fun _ => rfl) (by intro h; omega) (by intro h; omega) (by intro h; omega)]; exact hm2), behind_step T.out Hb.out ht2, HF2.out⟩
            | exact ⟨k + 1, actSet S x, by omega, by go_num, (by rw [HS.out (markSet S x.num) (by intro h; omega) (fun _ => rfl) (by intro h; omega) (by intro h; omega)]; exact hm2), behind_step T.out Hb.out ht2, HF2.out⟩
            | exact ⟨k + 1, actSet S x, by omega, by go_num, (by rw [HS.out (giveSet 7 107 S x.xs) (by intro h; omega) (by intro h; omega) (fun _ => rfl) (by intro h; omega)]; exact hm2), behind_step T.out Hb.out ht2, HF2.out⟩
            | exact ⟨k + 1, actSet S x, by omega, by go_num, (by rw [HS.out S (by intro h; omega) (by intro h; omega) (by intro h; omega) (fun _ => rfl)]; exact Mb.out _), T.out.alloc _, HF2.out⟩
end Go.Proofs.YtjmkfpiahnibkaaDoor
