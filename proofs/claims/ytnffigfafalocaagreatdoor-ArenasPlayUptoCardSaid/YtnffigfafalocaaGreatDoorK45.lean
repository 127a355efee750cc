/-
  Package drydockref24 by its own text: Give.
  Whole arrays and structs loaded out of, and stored into, a stretch of cells. No program in sight.
  Packages drydockref04, drydockref05 by their own text: Check and Size of a shape, Check of a tensor.
-/
import Derived.Test.YtnffigfafalocaaGreatDoorK44
import Derived.StillTailTactics
import Derived.Deep.DeepCutAuto
import Derived.Deep.CutBlock
import Derived.Lib.SmallJoins
import Derived.Test.YtnffigfafalocaaGreatDoorK04
import Derived.Deep.MidRow
import Derived.Test.YtnffigfafalocaaGreatDoorK03
namespace Go.Proofs.YtnffigfafalocaaGreatDoor
open Go Go.RowKit
set_option linter.unusedSimpArgs false
set_option linter.unusedVariables false

set_option maxRecDepth 100000 in
set_option maxHeartbeats 4000000 in
theorem refGive24_any (w : World) (g : Nat) (A : Ar.Arena) (R : List Ar.REnt) (O : Nat → Prop) (h : (Part.ref24 g A.room A.used A.peak R).P w O) (hok : Ar.Ok A) (hR : R.map Ar.REnt.it = A.its) (n : Nat) (hn : R.length ≤ n) (hn4 : n ≤ 10000) (id : Nat) (hid : id < 4294967296) :
    Calls Tryz.prog 21 #[.pointer (some ⟨g, 0, none⟩), .int .u32 (id : Nat)] w (Ref24Post w g O (Ar.giveE A id) (Ar.giveA A id) n) := by
  have hids : ∀ e ∈ R, e.id < 4294967296 := fun e he => hok.ids e.it (by rw [← hR]; exact List.mem_map_of_mem he)
  have hsome := takeE_cases A R hok hR id
  obtain ⟨a, c, A1, A2, A3, hat, p1, p2, p3, d12, d13, d23, o1, o2, o3⟩ := ref24_at h
  have C := Lib.hid (refFind_any hat (by omega) hids id hid)
  cases hi : Ar.isAt R id with
  | false =>
    have hE : Ar.giveE A id = 7 := by rw [Ar.giveE, hsome, hi]; rfl
    have hA : Ar.giveA A id = A := by
      have : Ar.look A.its id = none := by rw [hi] at hsome; exact Option.isNone_iff_eq_none.1 (by simpa using hsome)
      rw [Ar.giveA, this]
    rw [hE, hA]
    rw [hi] at C
    have HF : Hid (∀ w', Touch No w w' → Ref24Post w g O 7 A n (.returned (.int .i64 7)) w') := fun w' t => ref24_same h hR hn t
    obtain ⟨p, hp⟩ : ∃ p, Ar.place R id = p := ⟨_, rfl⟩
    rw [hp] at C
    clear h hok hR hn hE hA hids hsome hat p1 p2 p3 d12 d13 d23 o1 o2 o3 hi hp
    go_enter Tryz.func21, Tryz.ntmps21
    go_wp2_with fail
    refine C.out.mono ?_
    rintro e w1 ⟨rfl, t1⟩
    have T1 := Lib.hid t1
    clear t1
    go_wp2
    go_ret
    exact HF.out _ T1.out
  | true =>
    rw [hi] at C
    obtain ⟨e, he, heid⟩ := Ar.isAt_get hi
    have hlk : Ar.look A.its id = some e.it.2 := by
      rw [← hR, Ar.look_is id (by rw [hR]; exact hok.up), hi, if_pos rfl, he]; rfl
    have hE : Ar.giveE A id = 0 := by rw [Ar.giveE, hsome, hi]; rfl
    have hA : Ar.giveA A id = ⟨A.room, A.used - e.bytes, A.peak, A.puts, Ar.del A.its id⟩ := by rw [Ar.giveA, hlk]; rfl
    have hsum := hok.sum
    have hle := Ar.le_sum hlk
    have hle' : e.bytes ≤ A.used := by rw [hsum]; exact hle
    have hdel := Ar.del_there id (by rw [hR]; exact hok.up) hi
    rw [hR] at hdel
    have hro := hok.room
    have hpk := hok.peak
    have hmx := hok.max
    rw [hE, hA]
    obtain ⟨its', hits⟩ : ∃ x, Ar.del A.its id = x := ⟨_, rfl⟩
    rw [hits] at hdel ⊢
    obtain ⟨room, hroom⟩ : ∃ r, A.room = r := ⟨_, rfl⟩
    obtain ⟨used, hused⟩ : ∃ r, A.used = r := ⟨_, rfl⟩
    obtain ⟨peak, hpeak⟩ : ∃ r, A.peak = r := ⟨_, rfl⟩
    obtain ⟨p, hp⟩ : ∃ p, Ar.place R id = p := ⟨_, rfl⟩
    obtain ⟨y, hy⟩ : ∃ y, e.bytes = y := ⟨_, rfl⟩
    rw [hp] at C he hdel
    rw [hroom, hused, hpeak] at h hat
    rw [hroom] at hro hmx
    rw [hused, hpeak] at hpk
    rw [hpeak] at hro
    rw [hused, hy] at hle'
    rw [hroom, hused, hpeak, hy]
    have Hnew := Lib.hid hdel
    have HPw := Lib.hid h
    obtain ⟨X, hX⟩ : ∃ X, R.length = X := ⟨_, rfl⟩
    have hpX : p < X := by
      rcases Nat.lt_or_ge p R.length with h | h
      · omega
      · rw [List.getElem?_eq_none h] at he; cases he
    obtain ⟨M, hM⟩ : ∃ M, X - (p + 1) = M := ⟨_, rfl⟩
    obtain ⟨I, z0, hI⟩ := part24_is
    have HI := Lib.hid hI
    have hXc : X ≤ c := by
      obtain ⟨a', c', e1, hc, _⟩ := rows_cell hat.rows
      cases e1; rw [← hX]; exact hc
    have hrd : Rd w a (entCells R) := by
      obtain ⟨a', c', e1, _, _, hr⟩ := rows_cell hat.rows
      cases e1; exact hr
    obtain ⟨gb, hae, hInb, hcb⟩ := hat.cell he (j := 1) (by decide)
    have hcb : w.cell? ⟨gb, p * 5 + 1, none⟩ = some (.int .i64 (y : Nat)) := by rw [← hy]; exact hcb
    have hhead : ∀ wx : World, (Instr.slice 158 (.slice a X c) none (some (.int .i64 (p : Nat))) none).run Tryz.prog wx = .ok (.slice a p c) wx := fun wx => run_headS Tryz.underlying158 HI.out.info a X c p .i64 (by omega) wx
    have hcut : ∀ wx : World, (Instr.slice 158 (.slice a X c) (some (.int .i64 ((p : Int) + 1))) none none).run Tryz.prog wx = .ok (.slice (cutAddrS a c (p + 1) 5) M (c - (p + 1))) wx := fun wx => by
      have := run_cutS (s := 5) Tryz.underlying158 HI.out.info HI.out.size a X c (p + 1) .i64 (by omega) wx
      rw [hM] at this; exact this
    have Hrow : Hid (Row w g 160 (refCells room used peak (.slice a X c))) := by
      show Row _ _ _ _
      rw [← hX]; exact hat.row
    have hnb : ¬ InBlock (.slice a X c) g := by rw [← hX]; exact hat.ne
    have r1 : Hid (∀ w', Touch (fun k => k = g) w w' → Rd w' a (entCells (R.take p))) := fun w' t => by
      have := (hrd.touch t (fun b o e1 _ e2 => hat.ne (by rw [e1, hae] at *; cases hae; rw [← e2]; rfl))).take (p * 5)
      rw [entCells_take] at this; exact this
    have r2 : Hid (∀ w', Touch (fun k => k = g) w w' → Rd w' (cutAddrS a c (p + 1) 5) (entCells (R.drop (p + 1)))) := fun w' t => by
      have := (hrd.touch t (fun b o e1 _ e2 => hat.ne (by rw [e1, hae] at *; cases hae; rw [← e2]; rfl))).cutS (cap := c) (l := p + 1) (s := 5) (by rw [entCells_length, hX]; exact Nat.mul_le_mul_right 5 hXc)
      rw [entCells_drop] at this; exact this
    have l1 : Hid ((entCells (R.take p)).length = p * 5) := by show _ = _; rw [entCells_length, List.length_take]; omega
    have l2 : Hid ((entCells (R.drop (p + 1))).length = M * 5) := by show _ = _; rw [entCells_length, List.length_drop]; omega
    have Hn : Hid (p + M ≤ 10001 ∧ p + M ≤ n) := ⟨by omega, by omega⟩
    have HRl : Hid ((R.take p ++ R.drop (p + 1)).length = p + M) := by show _ = _; rw [List.length_append, List.length_take, List.length_drop]; omega
    have HK : Hid (∀ w', Touch No w w' → w'.cell? ⟨g, 1, none⟩ = some (.int .i64 (used : Nat)) ∧ w'.cell? ⟨g, 3, none⟩ = some (.slice a X c) ∧ w'.cell? ⟨gb, p * 5 + 1, none⟩ = some (.int .i64 (y : Nat)) ∧ w'.frozen? ⟨g, 1, none⟩ = false) := fun w' t => by
      have h := Hrow.out.touch t (fun f => f)
      exact ⟨h.cell 1, h.cell 3, t.cell (fun f => f) hcb, h.soft 1⟩
    have hur : used ≤ room := by omega
    have hr1 : (room : Int) ≤ 1048576 := by omega
    have hu1 : (used : Int) ≤ (room : Nat) := by omega
    have hy1 : (y : Int) ≤ (used : Nat) := by omega
    have hp1 : (p : Int) ≤ 10000 := by omega
    have hpX' : (p : Int) < (X : Nat) := by omega
    have hwr : IntKind.i64.wrap ((used : Int) - (y : Int)) = (used : Int) - y := IntWalk.i64_in _ (by omega)
    have hwr2 : IntKind.i64.wrap ((p : Int) + 1) = (p : Int) + 1 := IntWalk.i64_in _ (by omega)
    have hgw := hat.row.lt
    have Hle := Lib.hid hle'
    subst hae
    clear h hok hR hn hE hA hids hsome hat p1 p2 p3 d12 d13 d23 o1 o2 o3 hi hp hdel hX hM hI hXc hrd he heid hlk hsum hle hro hpk hmx hroom hused hpeak hits hy hcb hInb hnb
    go_enter Tryz.func21, Tryz.ntmps21
    go_wp2_with fail
    refine C.out.mono ?_
    rintro e w1 ⟨rfl, t1⟩
    have T1 := Lib.hid t1
    obtain ⟨k1, k3, kb, f1⟩ := HK.out w1 t1
    clear t1 C
    go_wp2
    go_still_tail 15, (by kernel_rfl)
    go_upto_region 5 with fail
    obtain ⟨w2, hw2⟩ : ∃ w2, w2 = (w1.setCell ⟨g, 1, none⟩ (.int .i64 ((used : Int) - (y : Int)))).drew := ⟨_, rfl⟩
    have R2 : Row w2 g 160 (refCells room (used - y) peak (.slice (some ⟨gb, 0, none⟩) X c)) := by
      rw [hw2, show (used : Int) - (y : Int) = ((used - y : Nat) : Int) from (Int.natCast_sub Hle.out).symm]
      exact ((Hrow.out.touch T1.out (fun f => f)).setCell 1 (.int .i64 ((used - y : Nat) : Int))).touch (Touch.refl No _).drew (fun f => f)
    have t2 : Touch (fun k => k = g) w w2 := by rw [hw2]; exact ((T1.out.mono (G := fun k => k = g) (fun _ _ f => f.elim)).setCell (p := ⟨g, 1, none⟩) (fun _ => rfl) _).drew
    rw [← hw2]
    have H2 := Lib.hid R2
    have T2 := Lib.hid t2
    have k3 : w2.cell? ⟨g, 3, none⟩ = some (.slice (some ⟨gb, 0, none⟩) X c) := R2.cell 3
    have Td : Hid (Touch (fun k => k = g) w w2.drew) := t2.drew
    clear hw2 t2 R2 T1
    go_region_law (first
      | (refine step_append_rows ?_ _ _ _ rfl 169 I z0 5 72 Tryz.underlying158 HI.out.info HI.out.zero HI.out.size HI.out.bytes (by rw [HI.out.cells]; rfl) (by decide) _ 0 [] (World.ownsRow_nil _ 0 _ 5) rfl (some ⟨gb, 0, none⟩) p c p (entCells (R.take p)) rfl l1.out (r1.out _ Td.out) (entCells_one _) (by omega) (by have := Hn.out; unfold maxLen; omega) (by have := Hn.out; omega) ?_; rfl; intro a3 c3 w3 o3 t3 b3; have O3 := Lib.hid (show w3.ownsRow 0 169 5 (.slice a3 p c3) p (entCells (R.take p)) from o3); have q3' := (Touch.refl No w2).drew.trans (t3.mono (G := No) (fun k _ h => by cases h)); have T3 := Lib.hid q3'; have B3 : Hid (∀ k, InBlock (.slice a3 p c3) k → w2.heap.size ≤ k) := (fun k hk => (b3 k hk).elim (fun h => by cases h) (fun h => h)); have q3 := T3.out.cell (fun f => f) k3; clear o3 t3 b3 q3')
      | (refine step_append_rows ?_ _ _ _ rfl 169 I z0 5 72 Tryz.underlying158 HI.out.info HI.out.zero HI.out.size HI.out.bytes (by rw [HI.out.cells]; rfl) (by decide) _ p _ O3.out rfl (cutAddrS (some ⟨gb, 0, none⟩) c (p + 1) 5) M (c - (p + 1)) (p + M) (entCells (R.drop (p + 1))) rfl l2.out (r2.out _ (T2.out.then T3.out (fun _ _ f => f.elim))) (entCells_one _) (by omega) (by have := Hn.out; unfold maxLen; omega) (by have := Hn.out; omega) ?_; rfl; intro a4 c4 w4 o4 t4 b4; have O4 := Lib.hid o4; have T4 := Lib.hid (T3.out.then t4 (fun i hi hh => by have := B3.out i hh; omega)); have B4 : Hid (∀ k, InBlock (.slice a4 (p + M) c4) k → w.heap.size ≤ k) := (fun k hk => (b4 k hk).elim (fun h => Nat.le_trans T2.out.size (B3.out k h)) (fun h => Nat.le_trans (T2.out.then T3.out (fun _ _ f => f.elim)).size h)); have q4 := T4.out.cell (fun f => f) k3; have q4f := (H2.out.touch T4.out (fun f => f)).soft 3; clear o4 t4 b4))
    all_goals
      have FIN : Hid (Ref24Post w g O 0 ⟨room, used - y, peak, A.puts, its'⟩ n (.returned (.int .i64 0)) (w4.setCell ⟨g, 3, none⟩ (.slice a4 (p + M) c4))) := by
        refine ⟨rfl, R.take p ++ R.drop (p + 1), Hnew.out, by rw [HRl.out]; exact Hn.out.2, ?_⟩
        refine ref24_new HPw.out (T2.out.then T4.out (fun _ _ f => f.elim)) (R' := R.take p ++ R.drop (p + 1)) (v := .slice a4 (p + M) c4) ?_ B4.out (fun e he => Or.inl ?_) ((H2.out.touch T4.out (fun f => f)).setCell 3 (.slice a4 (p + M) c4)) ((Touch.refl (fun k => k = g) w4).setCell (p := ⟨g, 3, none⟩) (fun _ => rfl) _)
        · rw [HRl.out, entCells_append]
          exact O4.out
        · rcases List.mem_append.1 he with he | he
          · exact List.mem_of_mem_take he
          · exact List.mem_of_mem_drop he
      go_wp2
      go_ret
      exact FIN.out
end Go.Proofs.YtnffigfafalocaaGreatDoor
namespace Go.Proofs.YtnffigfafalocaaGreatDoor
open Go Go.RowKit

section
variable {P : Program}
end
end Go.Proofs.YtnffigfafalocaaGreatDoor
namespace Go.Proofs.YtnffigfafalocaaGreatDoor
open Go Go.RowKit
set_option linter.unusedSimpArgs false
set_option linter.unusedVariables false

namespace Ar
def inR (x : Int) : Bool := decide (1 ≤ x) && decide (x ≤ 64)
def prod : List Int → Nat
  | [] => 1
  | x :: r => x.toNat * prod r
theorem prod_append (l m : List Int) : prod (l ++ m) = prod l * prod m := by
  induction l with
  | nil => simp [prod]
  | cons x r ih => rw [List.cons_append, prod, prod, ih, Nat.mul_assoc]
theorem prod_pos {l : List Int} (h : l.all inR = true) : 1 ≤ prod l := by
  induction l with
  | nil => exact Nat.le_refl _
  | cons x r ih =>
    rw [List.all_cons, Bool.and_eq_true] at h
    have h1 := ih h.2
    have h2 : 1 ≤ x.toNat := by have := h.1; simp [inR] at this; omega
    exact Nat.mul_pos h2 h1
theorem prod_le {l : List Int} (h : l.all inR = true) : prod l ≤ 64 ^ l.length := by
  induction l with
  | nil => exact Nat.le_refl _
  | cons x r ih =>
    rw [List.all_cons, Bool.and_eq_true] at h
    have h1 := ih h.2
    have h2 : x.toNat ≤ 64 := by have := h.1; simp [inR] at this; omega
    rw [prod, List.length_cons, Nat.pow_succ, Nat.mul_comm (64 ^ r.length)]
    exact Nat.mul_le_mul h2 h1
theorem times_is : ∀ (l : List Int) (n : Nat), 1 ≤ n → n ≤ 4096 → times n l = if l.all inR = true ∧ n * prod l ≤ 4096 then n * prod l else 0
  | [], n, h1, h2 => by simp [times, prod, h2]
  | x :: r, n, h1, h2 => by
    rw [times]
    by_cases hx : x < 1 ∨ 64 < x
    · rw [if_pos hx, if_neg (fun h => by
        have h1 := h.1
        rw [List.all_cons, Bool.and_eq_true] at h1
        have := h1.1; simp [inR] at this; omega)]
    · rw [if_neg hx]
      have hin : inR x = true := by simp [inR]; omega
      have hxn : 1 ≤ x.toNat := by omega
      by_cases hp : 4096 < n * x.toNat
      · rw [if_pos hp, if_neg (fun h => by
          obtain ⟨ha, hb⟩ := h
          rw [List.all_cons, Bool.and_eq_true] at ha
          have h3 := prod_pos ha.2
          rw [prod, ← Nat.mul_assoc] at hb
          have := Nat.le_mul_of_pos_right (n * x.toNat) h3
          omega)]
      · rw [if_neg hp, times_is r (n * x.toNat) (Nat.mul_pos h1 hxn) (by omega), List.all_cons, hin, Bool.true_and, prod, Nat.mul_assoc]
def shape (s : List Int) : Bool := decide (1 ≤ s.length) && decide (s.length ≤ 4) && s.all inR && decide (prod s ≤ 4096)
theorem shape_iff {s : List Int} : shape s = true ↔ 1 ≤ s.length ∧ s.length ≤ 4 ∧ s.all inR = true ∧ prod s ≤ 4096 := by
  simp [shape, Bool.and_eq_true, and_assoc]
theorem size_is (s : List Int) : size s = if shape s = true then prod s else 0 := by
  unfold size
  by_cases hl : s.length < 1 ∨ 4 < s.length
  · rw [if_pos hl, if_neg (fun h => by rw [shape_iff] at h; omega)]
  · rw [if_neg hl, times_is s 1 (Nat.le_refl _) (by decide), Nat.one_mul]
    by_cases h : s.all inR = true ∧ prod s ≤ 4096
    · rw [if_pos h, if_pos (shape_iff.2 ⟨by omega, by omega, h.1, h.2⟩)]
    · rw [if_neg h, if_neg (fun h2 => h ⟨(shape_iff.1 h2).2.2.1, (shape_iff.1 h2).2.2.2⟩)]
theorem size_pos (s : List Int) : decide (0 < size s) = shape s := by
  rw [size_is]
  cases h : shape s with
  | false => simp
  | true =>
    have := prod_pos (shape_iff.1 h).2.2.1
    simp; omega
theorem check_is (s l : List Int) : check s l = (shape s && decide (l.length = size s)) := by rw [check, size_pos]
theorem all_take {s : List Int} {k : Nat} (h : (s.take k).all inR = true) {x : Int} (hx : s[k]? = some x) (hin : inR x = true) : (s.take (k + 1)).all inR = true := by
  have hk : k < s.length := by
    rcases Nat.lt_or_ge k s.length with h | h
    · exact h
    · rw [List.getElem?_eq_none h] at hx; cases hx
  rw [List.take_succ_eq_append_getElem hk, List.all_append, h]
  rw [List.getElem?_eq_getElem hk] at hx
  rw [Option.some.inj hx]
  simp [hin]
theorem prod_take {s : List Int} {k : Nat} {x : Int} (hx : s[k]? = some x) : prod (s.take (k + 1)) = prod (s.take k) * x.toNat := by
  have hk : k < s.length := by
    rcases Nat.lt_or_ge k s.length with h | h
    · exact h
    · rw [List.getElem?_eq_none h] at hx; cases hx
  rw [List.take_succ_eq_append_getElem hk, prod_append]
  rw [List.getElem?_eq_getElem hk] at hx
  rw [Option.some.inj hx]
  simp [prod]
theorem prod_take_le {s : List Int} {k : Nat} (h : (s.take k).all inR = true) (hs : s.length ≤ 4) (hk : k < s.length) : prod (s.take k) ≤ 262144 := by
  have h1 := prod_le h
  rw [List.length_take, Nat.min_eq_left (by omega)] at h1
  have h2 : 64 ^ k ≤ 64 ^ 3 := Nat.pow_le_pow_right (by decide) (by omega)
  have h3 : 64 ^ 3 = 262144 := by decide
  omega
theorem inR_iff {x : Int} : inR x = true ↔ 1 ≤ x ∧ x ≤ 64 := by simp [inR]
theorem all_get {s : List Int} (h : s.all inR = true) {k : Nat} {x : Int} (hx : s[k]? = some x) : inR x = true := by
  rw [List.all_eq_true] at h
  exact h x (List.mem_of_getElem? hx)
end Ar

set_option maxRecDepth 100000 in
set_option maxHeartbeats 2000000 in
theorem refShape_any (w : World) (a : Option Addr) (n c : Nat) (s : List Int) (hs : s.length = n) (hn : (n : Int) ≤ 1000000000000) (hr : Rd w a (ints .i64 s)) :
    Calls Tryz.prog 172 #[.slice a n c] w fun e w' => e = .returned (.bool (Ar.shape s)) ∧ w = w' := by
  by_cases h1 : n < 1
  · have hv : Ar.shape s = false := by cases h : Ar.shape s; rfl; rw [Ar.shape_iff] at h; omega
    rw [hv]
    have h1' : (n : Int) < 1 := by omega
    clear hv hr
    go_enter Tryz.func172, Tryz.ntmps172
    go_wp2
    go_ret
    exact ⟨rfl, rfl⟩
  by_cases h4 : 4 < n
  · have hv : Ar.shape s = false := by cases h : Ar.shape s; rfl; rw [Ar.shape_iff] at h; omega
    rw [hv]
    have h1' : ¬ (n : Int) < 1 := by omega
    have h4' : (4 : Int) < n := by omega
    clear hv hr
    go_enter Tryz.func172, Tryz.ntmps172
    go_wp2
    go_ret
    exact ⟨rfl, rfl⟩
  have h1' : ¬ (n : Int) < 1 := by omega
  have h4' : ¬ (4 : Int) < n := by omega
  have Hs := Lib.hid hs
  have Hr := Lib.hid hr
  have hn4 : n ≤ 4 := by omega
  have hn1 : 1 ≤ n := by omega
  clear hs hr h1 h4
  go_enter Tryz.func172, Tryz.ntmps172
  go_wp2
  go_loopg [3, 4] n (fun g s3 s4 wr => ∃ k p : Nat, k + g = n ∧ s4 = .int .i64 ((k : Nat) : Int) ∧ s3 = .int .i64 (p : Nat) ∧ Hid (p = Ar.prod (s.take k) ∧ (s.take k).all Ar.inR = true) ∧ Hid (wr = w))
  case atStart => exact ⟨0, 1, by omega, rfl, rfl, ⟨rfl, rfl⟩, rfl⟩
  case round =>
    obtain ⟨k, p, hkg, rfl, rfl, HP, hwr⟩ := hrel
    have hww : w = wr := hwr.out.symm
    clear hwr
    subst hww
    cases gk with
    | zero =>
      obtain rfl : k = n := by omega
      have hall := HP.out.2
      have hpp := HP.out.1
      rw [List.take_of_length_le (by rw [Hs.out]; exact Nat.le_refl _)] at hall hpp
      have hv : Hid (Ar.shape s = decide ((p : Int) ≤ 4096)) := by
        show _ = _
        rw [hpp, Ar.shape, hall, Hs.out, decide_eq_true hn1, decide_eq_true hn4, Bool.true_and, Bool.true_and, Bool.true_and]
        by_cases h : Ar.prod s ≤ 4096
        · rw [decide_eq_true h, decide_eq_true (by omega)]
        · rw [decide_eq_false h, decide_eq_false (by omega)]
      clear hall hpp HP
      go_wp2
      go_ret
      exact ⟨by rw [hv.out]; rfl, rfl⟩
    | succ g' =>
      have hlt : (k : Int) < (n : Nat) := by omega
      have hkl : k < s.length := by rw [Hs.out]; omega
      obtain ⟨x, hx⟩ : ∃ x, s[k]? = some x := ⟨_, List.getElem?_eq_getElem hkl⟩
      obtain ⟨ga, oa, rfl, hca⟩ := Hr.out.int hkl
      have hgx : s.getD k 0 = x := by rw [List.getD_eq_getElem?_getD, hx]; rfl
      rw [hgx] at hca
      by_cases hin : Ar.inR x = true
      · have hxr := Ar.inR_iff.1 hin
        have hx1 : ¬ x < 1 := by omega
        have hx2 : ¬ (64 : Int) < x := by omega
        have hN : Hid (p * x.toNat = Ar.prod (s.take (k + 1)) ∧ (s.take (k + 1)).all Ar.inR = true) := ⟨by rw [Ar.prod_take hx, HP.out.1], Ar.all_take HP.out.2 hx hin⟩
        have hp0 : p ≤ 262144 := by rw [HP.out.1]; exact Ar.prod_take_le HP.out.2 (by rw [Hs.out]; exact hn4) hkl
        have hpx : p * x.toNat ≤ 262144 * 64 := Nat.mul_le_mul hp0 (by omega)
        have he : (p : Int) * x = ((p * x.toNat : Nat) : Int) := by rw [Int.natCast_mul, Int.toNat_of_nonneg (by omega)]
        have hw : IntKind.i64.wrap ((p : Int) * x) = ((p * x.toNat : Nat) : Int) := by rw [he]; exact IntWalk.i64_in _ (by omega)
        obtain ⟨q, hq⟩ : ∃ q, p * x.toNat = q := ⟨_, rfl⟩
        rw [hq] at hw hN
        clear hx hgx hkl hin hxr HP hp0 hpx he hq
        go_wp2
        go_roundg g'
        case measure => omega
        case rel => exact ⟨k + 1, q, by omega, by go_num, rfl, hN, rfl⟩
      · have hv : Hid (Ar.shape s = false) := by
          show _ = _
          cases h : Ar.shape s with
          | false => rfl
          | true => exact absurd (Ar.all_get (Ar.shape_iff.1 h).2.2.1 hx) hin
        have hin' : x < 1 ∨ 64 < x := by
          rw [Ar.inR_iff] at hin; omega
        clear hx hgx hkl hin HP
        by_cases hx1 : x < 1
        · clear hin'
          go_wp2
          go_ret
          exact ⟨by rw [hv.out]; rfl, rfl⟩
        · have hx2 : (64 : Int) < x := by omega
          clear hin'
          go_wp2
          go_ret
          exact ⟨by rw [hv.out]; rfl, rfl⟩

set_option maxRecDepth 100000 in
set_option maxHeartbeats 2000000 in
theorem refSize_any (w : World) (a : Option Addr) (n c : Nat) (s : List Int) (hs : s.length = n) (hn : (n : Int) ≤ 1000000000000) (hr : Rd w a (ints .i64 s)) :
    Calls Tryz.prog 173 #[.slice a n c] w fun e w' => e = .returned (.int .i64 (Ar.size s : Nat)) ∧ w = w' := by
  have C := Lib.hid (refShape_any w a n c s hs hn hr)
  rw [Ar.size_is]
  cases hv : Ar.shape s with
  | false =>
    rw [hv] at C
    rw [if_neg (by decide)]
    clear hr hv
    go_enter Tryz.func173, Tryz.ntmps173
    go_wp2_with fail
    refine C.out.mono ?_
    rintro e w' ⟨rfl, rfl⟩
    go_wp2
    go_ret
    exact ⟨rfl, rfl⟩
  | true =>
    rw [hv] at C
    rw [if_pos rfl]
    obtain ⟨hs1, hs4, hall, hp⟩ := Ar.shape_iff.1 hv
    have Hs := Lib.hid hs
    have Hr := Lib.hid hr
    have HA := Lib.hid hall
    have hn4 : n ≤ 4 := by omega
    clear hs hr hall hv hs1 hs4 hp
    go_enter Tryz.func173, Tryz.ntmps173
    go_wp2_with fail
    refine C.out.mono ?_
    rintro e w' ⟨rfl, rfl⟩
    go_wp2
    go_loopg [3, 4] n (fun g s3 s4 wr => ∃ k p : Nat, k + g = n ∧ s4 = .int .i64 ((k : Nat) : Int) ∧ s3 = .int .i64 (p : Nat) ∧ Hid (p = Ar.prod (s.take k) ∧ (s.take k).all Ar.inR = true) ∧ Hid (wr = w))
    case atStart => exact ⟨0, 1, by omega, rfl, rfl, ⟨rfl, rfl⟩, rfl⟩
    case round =>
      obtain ⟨k, p, hkg, rfl, rfl, HP, hwr⟩ := hrel
      have hww : w = wr := hwr.out.symm
      clear hwr
      subst hww
      cases gk with
      | zero =>
        obtain rfl : k = n := by omega
        have hpp := HP.out.1
        rw [List.take_of_length_le (by rw [Hs.out]; exact Nat.le_refl _)] at hpp
        have Hpp := Lib.hid hpp
        clear hpp HP
        go_wp2
        go_ret
        exact ⟨by rw [← Hpp.out]; rfl, rfl⟩
      | succ g' =>
        have hlt : (k : Int) < (n : Nat) := by omega
        have hkl : k < s.length := by rw [Hs.out]; omega
        obtain ⟨x, hx⟩ : ∃ x, s[k]? = some x := ⟨_, List.getElem?_eq_getElem hkl⟩
        obtain ⟨ga, oa, rfl, hca⟩ := Hr.out.int hkl
        have hgx : s.getD k 0 = x := by rw [List.getD_eq_getElem?_getD, hx]; rfl
        rw [hgx] at hca
        have hin := Ar.all_get HA.out hx
        have hxr := Ar.inR_iff.1 hin
        have hN : Hid (p * x.toNat = Ar.prod (s.take (k + 1)) ∧ (s.take (k + 1)).all Ar.inR = true) := ⟨by rw [Ar.prod_take hx, HP.out.1], Ar.all_take HP.out.2 hx hin⟩
        have hp0 : p ≤ 262144 := by rw [HP.out.1]; exact Ar.prod_take_le HP.out.2 (by rw [Hs.out]; exact hn4) hkl
        have hpx : p * x.toNat ≤ 262144 * 64 := Nat.mul_le_mul hp0 (by omega)
        have he : (p : Int) * x = ((p * x.toNat : Nat) : Int) := by rw [Int.natCast_mul, Int.toNat_of_nonneg (by omega)]
        have hw : IntKind.i64.wrap ((p : Int) * x) = ((p * x.toNat : Nat) : Int) := by rw [he]; exact IntWalk.i64_in _ (by omega)
        obtain ⟨q, hq⟩ : ∃ q, p * x.toNat = q := ⟨_, rfl⟩
        rw [hq] at hw hN
        clear hx hgx hkl hin hxr HP hp0 hpx he hq
        go_wp2
        go_roundg g'
        case measure => omega
        case rel => exact ⟨k + 1, q, by omega, by go_num, rfl, hN, rfl⟩

set_option maxRecDepth 100000 in
set_option maxHeartbeats 2000000 in
theorem refCheck_any (w : World) (sa la : Option Addr) (n c m d : Nat) (s l : List Int) (hs : s.length = n) (hn : (n : Int) ≤ 1000000000000) (hr : Rd w sa (ints .i64 s)) (hl : l.length = m) :
    Calls Tryz.prog 71 #[.agg #[.slice sa n c, .slice la m d]] w fun e w' => e = .returned (.bool (Ar.check s l)) ∧ Touch No w w' := by
  have hck := Ar.check_is s l
  rw [hl] at hck
  have C1 := Lib.hid (fun (wx : World) (t : Touch No w wx) => (refShape_any wx sa n c s hs hn (hr.no t)))
  have C2 := Lib.hid (fun (wx : World) (t : Touch No w wx) => (refSize_any wx sa n c s hs hn (hr.no t)))
  obtain ⟨z, hz⟩ : ∃ z, Ar.size s = z := ⟨_, rfl⟩
  have hz4 : z ≤ 4096 := by rw [← hz]; exact Ar.size_le s
  rw [hz] at C2 hck
  rw [hck]
  cases hv : Ar.shape s with
  | false =>
    rw [hv] at C1
    rw [Bool.false_and]
    clear hr hv hck hs hl hz
    go_enter Tryz.func71, Tryz.ntmps71
    go_wp2_with fail
    obtain ⟨w1, hw1⟩ : ∃ w1, w1 = w.alloc (.cells #[.slice sa n c, .slice la m d] 75) := ⟨_, rfl⟩
    have t1 : Touch No w w1 := by rw [hw1]; exact (Touch.refl No w).alloc _
    have b0 : w1.cell? ⟨w.heap.size, 0, none⟩ = some (.slice sa n c) := by rw [hw1, cell_new]; rfl
    have b1 : w1.cell? ⟨w.heap.size, 1, none⟩ = some (.slice la m d) := by rw [hw1, cell_new]; rfl
    have T1 := Lib.hid t1
    rw [← hw1]
    clear hw1 t1
    go_quiet ((go_at_call 172; exact Calls.quiet_of_same ((C1.out _ (T1.out.drewN _)).mono (fun _ _ h => ⟨h.1, h.2.symm⟩))))
    go_wp2
    go_ret
    exact ⟨rfl, T1.out.drewN _⟩
  | true =>
    rw [hv] at C1
    rw [Bool.true_and]
    clear hr hv hck hs hl hz
    go_enter Tryz.func71, Tryz.ntmps71
    go_wp2_with fail
    obtain ⟨w1, hw1⟩ : ∃ w1, w1 = w.alloc (.cells #[.slice sa n c, .slice la m d] 75) := ⟨_, rfl⟩
    have t1 : Touch No w w1 := by rw [hw1]; exact (Touch.refl No w).alloc _
    have b0 : w1.cell? ⟨w.heap.size, 0, none⟩ = some (.slice sa n c) := by rw [hw1, cell_new]; rfl
    have b1 : w1.cell? ⟨w.heap.size, 1, none⟩ = some (.slice la m d) := by rw [hw1, cell_new]; rfl
    have T1 := Lib.hid t1
    rw [← hw1]
    clear hw1 t1
    go_quiet (first
      | (go_at_call 172; exact Calls.quiet_of_same ((C1.out _ (T1.out.drewN _)).mono (fun _ _ h => ⟨h.1, h.2.symm⟩)))
      | (go_at_call 173; exact Calls.quiet_of_same ((C2.out _ (T1.out.drewN _)).mono (fun _ _ h => ⟨h.1, h.2.symm⟩))))
    go_wp2
    go_ret
    refine ⟨?_, T1.out.drewN _⟩
    have hb : ((m : Int) == (z : Int)) = decide (m = z) := by
      by_cases e : m = z
      · simp [e]
      · simp [e]; omega
    rw [← hb]; rfl
end Go.Proofs.YtnffigfafalocaaGreatDoor
