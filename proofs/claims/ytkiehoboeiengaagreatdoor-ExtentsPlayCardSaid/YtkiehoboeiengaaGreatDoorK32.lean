/-
  Both disks, the program's and the reference's, beside each other and beside what else stands there.
  Acts as they lie in memory (drydock/drydocklaw16.Act).
  What comes in, opened: a list of acts as it is read (drydock/drydocklaw16.Act).
-/
import Derived.Test.YtkiehoboeiengaaGreatDoorK25
import Derived.Test.YtkiehoboeiengaaGreatDoorK30
import Derived.Test.YtkiehoboeiengaaGreatDoorK31
import Derived.Test.YtkiehoboeiengaaGreatDoorK02
namespace Go.Proofs.YtkiehoboeiengaaGreatDoor
open Go Go.RowKit
set_option linter.unusedSimpArgs false
set_option linter.unusedVariables false

theorem refBad3_any (w : World) (g : Nat) (D : Dk.Disk) (A : Nat → Prop) (h : Al w [Part.rdisk g D] A) (n : Int) (hw : D.waits.length ≤ 1000000) :
    Calls Tryz.prog 25 #[.pointer (some ⟨g, 0, none⟩), .int .i64 n] w fun e w' => e = .returned (.int .i64 (Dk.badR D n : Nat)) ∧ TurnsL w A [Part.rdisk g (Dk.badA D n)] w' := by
  by_cases hc : 0 ≤ n ∧ n < D.seen.length
  · rw [Dk.badR, Dk.badA, if_pos hc, if_pos hc]
    obtain ⟨m, rfl⟩ : ∃ m : Nat, n = (m : Nat) := ⟨n.toNat, by omega⟩
    exact refBad3_in w g D A h m (by omega) hw
  · rw [Dk.badR, Dk.badA, if_neg hc, if_neg hc]
    obtain ⟨vs, vn, vw, hR, _⟩ := al_rdisk h
    exact (refBad3_out hR n hc).mono fun _ _ ⟨he, e⟩ => ⟨he, e ▸ TurnsL.same h⟩
theorem refRot3_any (w : World) (g : Nat) (D : Dk.Disk) (A : Nat → Prop) (h : Al w [Part.rdisk g D] A) (n p : Int) (x : Nat) (hx : x < 256) (hw : D.waits.length ≤ 1000000) :
    Calls Tryz.prog 23 #[.pointer (some ⟨g, 0, none⟩), .int .i64 n, .int .i64 p, .int .u8 (x : Nat)] w fun e w' => e = .returned (.int .i64 (Dk.rotR D n p : Nat)) ∧ TurnsL w A [Part.rdisk g (Dk.rotA D n p x)] w' := by
  by_cases hc : (0 ≤ n ∧ n < D.seen.length) ∧ (0 ≤ p ∧ p < 64)
  · rw [Dk.rotR, Dk.rotA, if_pos hc, if_pos hc]
    obtain ⟨m, rfl⟩ : ∃ m : Nat, n = (m : Nat) := ⟨n.toNat, by omega⟩
    obtain ⟨q, rfl⟩ : ∃ q : Nat, p = (q : Nat) := ⟨p.toNat, by omega⟩
    exact refRot3_in w g D A h m q x (by omega) (by omega) hx hw
  · rw [Dk.rotR, Dk.rotA, if_neg hc, if_neg hc]
    obtain ⟨vs, vn, vw, hR, _⟩ := al_rdisk h
    exact (refRot3_out hR n p (x : Nat) hc).mono fun _ _ ⟨he, e⟩ => ⟨he, e ▸ TurnsL.same h⟩
theorem refRead3_any {w : World} {g : Nat} {D : Dk.Disk} {vs vn vw : Value} (h : RdAt w g D vs vn vw) (n : Int) :
    Calls Tryz.prog 69 #[.pointer (some ⟨g, 0, none⟩), .int .i64 n] w fun e w' => ∃ a l c, e = .returned (.tuple #[.slice a l c, .int .i64 (Dk.readE D n : Nat)]) ∧ (Dk.readB D n).length = l ∧ Rd w' a (nums .u8 (Dk.readB D n)) ∧ Touch No w w' := by
  by_cases hc : 0 ≤ n ∧ n < D.seen.length
  · rw [Dk.readE, Dk.readB, if_pos hc, if_pos hc]
    obtain ⟨m, rfl⟩ : ∃ m : Nat, n = (m : Nat) := ⟨n.toNat, by omega⟩
    rw [Int.toNat_natCast]
    exact (refRead3_in h m (by omega)).mono fun _ _ ⟨a, l, c, r, he, hr, hl, hr2, t, _⟩ => ⟨a, l, c, by rw [he, hr2], hl, hr, t⟩
  · rw [Dk.readE, Dk.readB, if_neg hc, if_neg hc]
    exact (refRead3_out h n hc).mono fun _ _ ⟨he, e⟩ => ⟨none, 0, 0, he, rfl, Rd.nil _ _, e ▸ Touch.refl _ _⟩

def Two (w0 w : World) (d g : Nat) (D R : Dk.Disk) (E : List Part) : Prop := Sl w0 w ([Part.disk d D, Part.rdisk g R] ++ E)
section
variable {w0 w w' : World} {d g : Nat} {D R : Dk.Disk} {E E' : List Part}
theorem Two.end (h : Two w0 w d g D R E) : Touch No w0 w := Sl.end h
theorem Two.no (h : Two w0 w d g D R E) (t : Touch No w w') : Two w0 w' d g D R E := Sl.no h t
theorem Two.disk (h : Two w0 w d g D R E) : ∃ O, DiskAt w d D O := by
  obtain ⟨A, ⟨h, _⟩, _⟩ := Sl.mem h (List.mem_cons_self)
  exact ⟨A, h⟩
theorem Two.ok (h : Two w0 w d g D R E) : Dk.Ok D := by
  obtain ⟨O, h⟩ := h.disk
  exact h.ok
theorem Two.rdisk (h : Two w0 w d g D R E) : ∃ vs vn vw, RdAt w g R vs vn vw := by
  obtain ⟨A, h, _⟩ := Sl.mem h (List.mem_cons_of_mem _ List.mem_cons_self)
  obtain ⟨vs, vn, vw, h, _⟩ := rdisk_at h
  exact ⟨vs, vn, vw, h⟩
theorem Two.rest (h : Two w0 w d g D R E) {p : Part} (hp : p ∈ E) : ∃ A, p.P w A ∧ ∀ k, A k → w0.heap.size ≤ k ∧ k < w.heap.size := Sl.mem h (List.mem_append_right _ hp)
theorem Two.rd (h : Two w0 w d g D R E) {T : TypeId} {a : Option Addr} {m c : Nat} {vs : List Value} (hp : Part.sl T a m c vs ∈ E) : Rd w a vs := by
  obtain ⟨A, ha, _⟩ := h.rest hp
  exact sl_rd ha
theorem Two.row (h : Two w0 w d g D R E) {T : TypeId} {x : Nat} {vs : List Value} (hp : Part.row x T vs ∈ E) : Row w x T vs := by
  obtain ⟨A, ⟨h, _⟩, _⟩ := h.rest hp
  exact h
theorem Two.push {p : Part} (h : Two w0 w d g D R E) (hb : Born w p w') : Two w0 w' d g D R (p :: E) := by
  have h1 : Sl w0 w' (p :: ([Part.disk d D, Part.rdisk g R] ++ E)) := Sl.push h hb
  exact h1.perm (List.perm_middle (l₁ := [_, _])).symm
theorem Two.perm (h : Two w0 w d g D R E) (hp : E.Perm E') : Two w0 w d g D R E' := Sl.perm h (hp.append_left _)
theorem Two.drop {p : Part} (h : Two w0 w d g D R (p :: E)) : Two w0 w d g D R E := (Sl.perm h (List.perm_middle (l₁ := [_, _]))).drop
theorem Two.imp1 {p q : Part} (h : Two w0 w d g D R (p :: E)) (hp : ∀ A, p.P w A → q.P w A) : Two w0 w d g D R (q :: E) :=
  Sl.perm ((Sl.perm h (List.perm_middle (l₁ := [_, _]))).imp1 hp) (List.perm_middle (l₁ := [_, _])).symm
theorem Two.turnD {D' : Dk.Disk} {P : Program} {f : FuncId} {args : Array Value} {Z : Ending → Prop} (h : Two w0 w d g D R E)
    (C : ∀ F, Al w [Part.disk d D] F → Calls P f args w fun e w' => Z e ∧ TurnsL w F [Part.disk d D'] w') :
    Calls P f args w fun e w' => Z e ∧ Two w0 w' d g D' R E := by
  obtain ⟨F, hF, _, hf⟩ := Sl.frame (l := [Part.disk d D]) (m := [Part.rdisk g R] ++ E) h
  exact (C F hF).mono fun e w' ⟨he, ht⟩ => ⟨he, hf w' _ ht⟩
theorem Two.turnR {R' : Dk.Disk} {P : Program} {f : FuncId} {args : Array Value} {Z : Ending → Prop} (h : Two w0 w d g D R E)
    (C : ∀ F, Al w [Part.rdisk g R] F → Calls P f args w fun e w' => Z e ∧ TurnsL w F [Part.rdisk g R'] w') :
    Calls P f args w fun e w' => Z e ∧ Two w0 w' d g D R' E := by
  have h1 : Sl w0 w ([Part.rdisk g R] ++ ([Part.disk d D] ++ E)) := Sl.perm h (List.Perm.swap _ _ _)
  obtain ⟨F, hF, _, hf⟩ := Sl.frame h1
  exact (C F hF).mono fun e w' ⟨he, ht⟩ => ⟨he, Sl.perm (hf w' _ ht) (List.Perm.swap _ _ _)⟩
/-- one more of the parts beside them, turned -/
theorem Two.turnE {p p' : Part} {P : Program} {f : FuncId} {args : Array Value} {Z : Ending → Prop} (h : Two w0 w d g D R (p :: E))
    (C : ∀ F, Al w [p] F → Calls P f args w fun e w' => Z e ∧ TurnsL w F [p'] w') :
    Calls P f args w fun e w' => Z e ∧ Two w0 w' d g D R (p' :: E) := by
  have h1 : Sl w0 w ([p] ++ ([Part.disk d D, Part.rdisk g R] ++ E)) := Sl.perm h (List.perm_middle (l₁ := [_, _]))
  obtain ⟨F, hF, _, hf⟩ := Sl.frame h1
  exact (C F hF).mono fun e w' ⟨he, ht⟩ => ⟨he, Sl.perm (hf w' _ ht) (List.perm_middle (l₁ := [_, _])).symm⟩
theorem Two.writeD (h : Two w0 w d g D R E) (n : Int) (a : Option Addr) (l c : Nat) (b : List Nat) (hl : b.length = l) (hlt : ∀ x ∈ b, x < 256) (hr : Rd w a (nums .u8 b)) (hw : D.waits.length ≤ 1000000) :
    Calls Tryz.prog 63 #[.pointer (some ⟨d, 0, none⟩), .int .i64 n, .slice a l c] w fun e w' => e = .returned (.int .i64 (Dk.writeR D n b : Nat)) ∧ Two w0 w' d g (Dk.writeA D n b) R E :=
  h.turnD (fun F hF => diskWrite_al hF n a l c b hl hlt hr hw)
theorem Two.writeR (h : Two w0 w d g D R E) (n : Int) (a : Option Addr) (l c : Nat) (b : List Nat) (hl : b.length = l) (hlt : ∀ x ∈ b, x < 256) (hr : Rd w a (nums .u8 b)) (hw : R.waits.length ≤ 1000000) :
    Calls Tryz.prog 64 #[.pointer (some ⟨g, 0, none⟩), .int .i64 n, .slice a l c] w fun e w' => e = .returned (.int .i64 (Dk.writeR R n b : Nat)) ∧ Two w0 w' d g D (Dk.writeA R n b) E :=
  h.turnR (fun F hF => refWrite3_any w g R F hF n a l c b hl hlt hr hw)
theorem Two.badD (h : Two w0 w d g D R E) (n : Int) (hw : D.waits.length ≤ 1000000) :
    Calls Tryz.prog 24 #[.pointer (some ⟨d, 0, none⟩), .int .i64 n] w fun e w' => e = .returned (.int .i64 (Dk.badR D n : Nat)) ∧ Two w0 w' d g (Dk.badA D n) R E := h.turnD (fun F hF => diskBad_al hF n hw)
theorem Two.badR (h : Two w0 w d g D R E) (n : Int) (hw : R.waits.length ≤ 1000000) :
    Calls Tryz.prog 25 #[.pointer (some ⟨g, 0, none⟩), .int .i64 n] w fun e w' => e = .returned (.int .i64 (Dk.badR R n : Nat)) ∧ Two w0 w' d g D (Dk.badA R n) E := h.turnR (fun F hF => refBad3_any w g R F hF n hw)
theorem Two.rotD (h : Two w0 w d g D R E) (n p : Int) (x : Nat) (hx : x < 256) (hw : D.waits.length ≤ 1000000) :
    Calls Tryz.prog 22 #[.pointer (some ⟨d, 0, none⟩), .int .i64 n, .int .i64 p, .int .u8 (x : Nat)] w fun e w' => e = .returned (.int .i64 (Dk.rotR D n p : Nat)) ∧ Two w0 w' d g (Dk.rotA D n p x) R E := h.turnD (fun F hF => diskRot_al hF n p x hx hw)
theorem Two.rotR (h : Two w0 w d g D R E) (n p : Int) (x : Nat) (hx : x < 256) (hw : R.waits.length ≤ 1000000) :
    Calls Tryz.prog 23 #[.pointer (some ⟨g, 0, none⟩), .int .i64 n, .int .i64 p, .int .u8 (x : Nat)] w fun e w' => e = .returned (.int .i64 (Dk.rotR R n p : Nat)) ∧ Two w0 w' d g D (Dk.rotA R n p x) E := h.turnR (fun F hF => refRot3_any w g R F hF n p x hx hw)
theorem Two.failD (h : Two w0 w d g D R E) (keep : Nat) (torn : Int) (hk : keep < 18446744073709551616) (hw : D.waits.length ≤ 1000000) :
    Calls Tryz.prog 9 #[.pointer (some ⟨d, 0, none⟩), .int .u64 (keep : Nat), .int .i64 torn] w fun e w' => ∃ d', e = .returned (.tuple #[.pointer (some ⟨d', 0, none⟩), .int .i64 0]) ∧ Two w0 w' d' g (Dk.fail D keep torn) R (Part.disk d D :: E) := by
  obtain ⟨O, hO, _⟩ : ∃ O, Dsk w d D 0 O ∧ True := by
    obtain ⟨A, ⟨h, hl⟩, _⟩ := Sl.mem h (List.mem_cons_self)
    exact ⟨A, ⟨h, hl, fun _ _ => Nat.zero_le _⟩, trivial⟩
  refine (fail_k w d D 0 O keep torn hk hO hw).mono fun e w' ⟨d', he, hm⟩ => ⟨d', he, ?_⟩
  have h1 : Sl w0 w' (Part.disk d' (Dk.fail D keep torn) :: ([Part.disk d D, Part.rdisk g R] ++ E)) := Sl.push h (born_disk hm)
  exact h1.perm ((List.Perm.swap _ _ _).cons _)
theorem Two.failR (h : Two w0 w d g D R E) (keep : Nat) (torn : Int) (hk : keep < 18446744073709551616) (hw : R.waits.length ≤ 1000000) :
    Calls Tryz.prog 10 #[.pointer (some ⟨g, 0, none⟩), .int .u64 (keep : Nat), .int .i64 torn] w fun e w' => ∃ g', e = .returned (.tuple #[.pointer (some ⟨g', 0, none⟩), .int .i64 0]) ∧ Two w0 w' d g' D (Dk.fail R keep torn) E := by
  obtain ⟨vs, vn, vw, hR⟩ := h.rdisk
  refine (refFail3_any hR keep torn hk hw).mono fun e w' ⟨g', he, hm⟩ => ⟨g', he, ?_⟩
  have h1 : Sl w0 w' (Part.rdisk g' (Dk.fail R keep torn) :: ([Part.disk d D, Part.rdisk g R] ++ E)) := Sl.push h hm
  have h2 : Sl w0 w' (Part.rdisk g R :: (Part.disk d D :: Part.rdisk g' (Dk.fail R keep torn) :: E)) := h1.perm (((List.Perm.swap _ _ _).cons _).trans ((List.Perm.swap _ _ _).trans ((List.Perm.swap _ _ _).cons _)))
  exact h2.drop
theorem Two.lenD (h : Two w0 w d g D R E) : Calls Tryz.prog 117 #[.pointer (some ⟨d, 0, none⟩)] w fun e w' => e = .returned (.int .i64 (D.seen.length : Nat)) ∧ w = w' := by
  obtain ⟨O, h⟩ := h.disk
  exact len_in w d D O h
theorem Two.lenR (h : Two w0 w d g D R E) : Calls Tryz.prog 153 #[.pointer (some ⟨g, 0, none⟩)] w fun e w' => e = .returned (.int .i64 (R.seen.length : Nat)) ∧ w = w' := by
  obtain ⟨vs, vn, vw, hR⟩ := h.rdisk
  exact refLen_at hR
theorem Two.readD (h : Two w0 w d g D R E) (n : Int) : Calls Tryz.prog 292 #[.pointer (some ⟨d, 0, none⟩), .int .i64 n] w fun e w' => ∃ a l, e = .returned (.tuple #[.slice a l l, .int .i64 (Dk.readE D n : Nat)]) ∧ (Dk.readB D n).length = l ∧ Two w0 w' d g D R (Part.sl 5 a l l (nums .u8 (Dk.readB D n)) :: E) := by
  obtain ⟨O, hd⟩ := h.disk
  exact (diskRead_born hd n).mono fun e w' ⟨a, l, he, hl, hb⟩ => ⟨a, l, he, hl, h.push hb⟩
theorem Two.readR (h : Two w0 w d g D R E) (n : Int) : Calls Tryz.prog 69 #[.pointer (some ⟨g, 0, none⟩), .int .i64 n] w fun e w' => ∃ a l c, e = .returned (.tuple #[.slice a l c, .int .i64 (Dk.readE R n : Nat)]) ∧ (Dk.readB R n).length = l ∧ Rd w' a (nums .u8 (Dk.readB R n)) ∧ Touch No w w' := by
  obtain ⟨vs, vn, vw, hR⟩ := h.rdisk
  exact refRead3_any hR n
theorem Two.bytes {gk n : Nat} {B : List HE} {a : Option Addr} {m c : Nat} {vs : List Value} (h : Two w0 w d g D R (Part.book gk n B [] [] [] :: Part.sl 5 a m c vs :: E)) (hm : B.length ≤ 100000) (hn : n ≤ 1000000) :
    Calls Tryz.prog 15 #[.pointer (some ⟨gk, 0, none⟩), .slice a m c] w fun e w' => e = .returned (.tuple #[]) ∧ Two w0 w' d g D R (Part.book gk (n + 1) (B ++ [⟨a, m, c, n + 1⟩]) [] [] [] :: E) := by
  have h1 : Sl w0 w (Part.book gk n B [] [] [] :: Part.sl 5 a m c vs :: ([Part.disk d D, Part.rdisk g R] ++ E)) := Sl.perm h (List.perm_append_comm_assoc [_, _] [_, _] E)
  refine (h1.bytes hm hn).mono fun e w' ⟨he, hs⟩ => ⟨he, ?_⟩
  exact Sl.perm hs (List.perm_middle (l₁ := [_, _])).symm
theorem Two.ids {gk n : Nat} {B D0 : List HE} {a : Option Addr} {m c : Nat} {vs : List Value} (h : Two w0 w d g D R (Part.book gk n B [] [] D0 :: Part.sl 48 a m c vs :: E)) (hm : D0.length ≤ 100000) (hn : n ≤ 1000000) :
    Calls Tryz.prog 56 #[.pointer (some ⟨gk, 0, none⟩), .slice a m c] w fun e w' => e = .returned (.tuple #[]) ∧ Two w0 w' d g D R (Part.book gk (n + 1) B [] [] (D0 ++ [⟨a, m, c, n + 1⟩]) :: E) := by
  have h1 : Sl w0 w (Part.book gk n B [] [] D0 :: Part.sl 48 a m c vs :: ([Part.disk d D, Part.rdisk g R] ++ E)) := Sl.perm h (List.perm_append_comm_assoc [_, _] [_, _] E)
  refine (h1.ids hm hn).mono fun e w' ⟨he, hs⟩ => ⟨he, ?_⟩
  exact Sl.perm hs (List.perm_middle (l₁ := [_, _])).symm
theorem Two.apart {gk n : Nat} {B : List HE} (h : Two w0 w d g D R (Part.book gk n B [] [] [] :: E)) (hB : BkOkB B) :
    Calls Tryz.prog 16 #[.pointer (some ⟨gk, 0, none⟩)] w fun e w' => e = .returned (.bool true) ∧ Touch No w0 w' :=
  Sl.apart (Sl.perm h (List.perm_middle (l₁ := [_, _]))) hB bkOk_nil bkOk_nil
end
/-! ### bounds -/
namespace Dk
theorem writeA_waits (D : Disk) (n : Int) (b : List Nat) : (writeA D n b).waits.length ≤ D.waits.length + 1 := by
  unfold writeA; split <;> simp [write]
theorem badA_waits (D : Disk) (n : Int) : (badA D n).waits.length = D.waits.length := by
  unfold badA; split <;> simp [bad]
theorem rotA_waits (D : Disk) (n p : Int) (x : Nat) : (rotA D n p x).waits.length = D.waits.length := by
  unfold rotA; split <;> simp [rot]
end Dk
end Go.Proofs.YtkiehoboeiengaaGreatDoor
namespace Go.Proofs.YtkiehoboeiengaaGreatDoor
open Go Go.RowKit

/-- an act as it lies in memory -/
structure EDeed where
  kind : Nat
  epoch : Nat
  pages : List Nat
  pages_a : Option Addr
  pages_cap : Nat
  b : List Nat
  b_a : Option Addr
  b_cap : Nat
  bytes : Int
  n : Int
  at_ : Int
  by_ : Nat
def EDeed.cells (x : EDeed) : List Value := [.int .u8 (x.kind : Nat), .int .u32 (x.epoch : Nat), .slice x.pages_a x.pages.length x.pages_cap, .slice x.b_a x.b.length x.b_cap, .int .i64 x.bytes, .int .i64 x.n, .int .i64 x.at_, .int .u8 (x.by_ : Nat)]
structure EDeedAt (w : World) (c o : Nat) (x : EDeed) : Prop where
  cell : ∀ j, j < 8 → w.cell? ⟨c, o + j, none⟩ = x.cells[j]?
  kind_lt : x.kind < 256
  epoch_lt : x.epoch < 4294967296
  pages_rd : Rd w x.pages_a (nums .u32 x.pages)
  pages_le : x.pages.length ≤ x.pages_cap
  pages_max : (x.pages_cap : Int) * 4 ≤ 140737488355328
  pages_each : ∀ y ∈ x.pages, y < 4294967296
  b_rd : Rd w x.b_a (nums .u8 x.b)
  b_le : x.b.length ≤ x.b_cap
  b_max : (x.b_cap : Int) * 1 ≤ 140737488355328
  b_each : ∀ y ∈ x.b, y < 256
  bytes_in : -9223372036854775808 ≤ x.bytes ∧ x.bytes ≤ 9223372036854775807
  n_in : -9223372036854775808 ≤ x.n ∧ x.n ≤ 9223372036854775807
  at__in : -9223372036854775808 ≤ x.at_ ∧ x.at_ ≤ 9223372036854775807
  by__lt : x.by_ < 256
theorem EDeed.some (x : EDeed) {j : Nat} (hj : j < 8) : ∃ v, x.cells[j]? = Option.some v := ⟨_, List.getElem?_eq_getElem hj⟩
theorem EDeedAt.touch {w w' : World} {c o : Nat} {x : EDeed} (h : EDeedAt w c o x) (t : Touch No w w') : EDeedAt w' c o x :=
  { h with
    cell := fun j hj => by
      obtain ⟨v, hv⟩ := x.some hj
      have := h.cell j hj
      rw [hv] at this ⊢
      exact t.cell (fun f => f) this
    pages_rd := h.pages_rd.no t
    b_rd := h.b_rd.no t
  }
/-- the slice at ad reads as these acts -/
def IsEDeeds (w : World) (ad : Option Addr) (acts : List EDeed) : Prop := ∀ i x, acts[i]? = some x → ∃ c o, ad = some ⟨c, o, none⟩ ∧ EDeedAt w c (o + i * 8) x
theorem IsEDeeds.touch {w w' : World} {ad : Option Addr} {acts : List EDeed} (h : IsEDeeds w ad acts) (t : Touch No w w') : IsEDeeds w' ad acts := fun i x hx =>
  let ⟨c, o, e, ha⟩ := h i x hx; ⟨c, o, e, ha.touch t⟩
end Go.Proofs.YtkiehoboeiengaaGreatDoor
namespace Go.Proofs.YtkiehoboeiengaaGreatDoor
open Go.ChangeShapes Go.WideShapes Go.ChangeAt Go.RowKit

section
variable {H : Type} {enc : TypeId × Value → H} {w : World}

theorem cells_e_act : Tryz.prog.cellsOf 68 = 8 := by kernel_rfl
theorem cells_e_u8 : Tryz.prog.cellsOf 5 = 1 := by kernel_rfl
theorem cells_e_u32 : Tryz.prog.cellsOf 48 = 1 := by kernel_rfl
theorem cells_e_ids : Tryz.prog.cellsOf 66 = 1 := by kernel_rfl
theorem cells_e_bytes : Tryz.prog.cellsOf 49 = 1 := by kernel_rfl
theorem cells_e_int : Tryz.prog.cellsOf 3 = 1 := by kernel_rfl
theorem cells_e_ids_e : Tryz.prog.cellsOf 48 = 1 := by kernel_rfl
theorem bytes_e_ids : Tryz.prog.bytesOf 48 = 4 := by kernel_rfl
theorem cells_e_bytes_e : Tryz.prog.cellsOf 5 = 1 := by kernel_rfl
theorem bytes_e_bytes : Tryz.prog.bytesOf 5 = 1 := by kernel_rfl
set_option maxRecDepth 100000 in
set_option maxHeartbeats 4000000 in
/-- one act -/
theorem open_e_deed {fuel : Nat} {cs : List Value} {x : DataW H × List MemPlace} {c o : Nat} (hc : ∀ j, j < 8 → w.cell? ⟨c, o + j, none⟩ = cs[j]?)
    (h : DataW.trod enc Tryz.prog w 0 (fun _ => true) true fuel 68 cs = some x) (hz : ∀ n ∈ DataW.weights Tryz.prog 68 x.1, n ≤ reachBytes) :
    ∃ d : EDeed, EDeedAt w c o d := by
  obtain ⟨xs, n, rfl, rfl, hlen, hxs, hf⟩ := DataW.trod_struct Tryz.underlying68 h
  rw [cells_e_act] at hlen
  have f0 : DataW.trod enc Tryz.prog w 0 (fun _ => true) true n 5 (List.take (Tryz.prog.cellsOf 5) (List.drop 0 cs)) = xs[0]? := hf 0 _ rfl
  rw [cells_e_u8] at f0
  have f1 : DataW.trod enc Tryz.prog w 0 (fun _ => true) true n 48 (List.take (Tryz.prog.cellsOf 48) (List.drop 1 cs)) = xs[1]? := hf 1 _ rfl
  rw [cells_e_u32] at f1
  have f2 : DataW.trod enc Tryz.prog w 0 (fun _ => true) true n 66 (List.take (Tryz.prog.cellsOf 66) (List.drop 2 cs)) = xs[2]? := hf 2 _ rfl
  rw [cells_e_ids] at f2
  have f3 : DataW.trod enc Tryz.prog w 0 (fun _ => true) true n 49 (List.take (Tryz.prog.cellsOf 49) (List.drop 3 cs)) = xs[3]? := hf 3 _ rfl
  rw [cells_e_bytes] at f3
  have f4 : DataW.trod enc Tryz.prog w 0 (fun _ => true) true n 3 (List.take (Tryz.prog.cellsOf 3) (List.drop 4 cs)) = xs[4]? := hf 4 _ rfl
  rw [cells_e_int] at f4
  have f5 : DataW.trod enc Tryz.prog w 0 (fun _ => true) true n 3 (List.take (Tryz.prog.cellsOf 3) (List.drop 5 cs)) = xs[5]? := hf 5 _ rfl
  rw [cells_e_int] at f5
  have f6 : DataW.trod enc Tryz.prog w 0 (fun _ => true) true n 3 (List.take (Tryz.prog.cellsOf 3) (List.drop 6 cs)) = xs[6]? := hf 6 _ rfl
  rw [cells_e_int] at f6
  have f7 : DataW.trod enc Tryz.prog w 0 (fun _ => true) true n 5 (List.take (Tryz.prog.cellsOf 5) (List.drop 7 cs)) = xs[7]? := hf 7 _ rfl
  rw [cells_e_u8] at f7
  match xs, hxs with
  | [x0, x1, x2, x3, x4, x5, x6, x7], _ =>
  match cs, hlen with
  | [c0, c1, c2, c3, c4, c5, c6, c7], _ =>
    obtain ⟨i0, e0, _, w0⟩ := DataW.trod_int Tryz.underlying5 (show DataW.trod enc Tryz.prog w 0 (fun _ => true) true _ 5 [c0] = some x0 from f0)
    obtain ⟨i1, e1, _, w1⟩ := DataW.trod_int Tryz.underlying48 (show DataW.trod enc Tryz.prog w 0 (fun _ => true) true _ 48 [c1] = some x1 from f1)
    obtain ⟨a2, cap2, z2, e2, hl2, hm2, hr2, hwf2, hwt2, _⟩ := open_list Tryz.underlying66 Tryz.underlying48 cells_e_ids_e (show DataW.trod enc Tryz.prog w 0 (fun _ => true) true _ 66 [c2] = some x2 from f2)
    obtain ⟨a3, cap3, z3, e3, hl3, hm3, hr3, hwf3, hwt3, _⟩ := open_list Tryz.underlying49 Tryz.underlying5 cells_e_bytes_e (show DataW.trod enc Tryz.prog w 0 (fun _ => true) true _ 49 [c3] = some x3 from f3)
    obtain ⟨i4, e4, _, w4⟩ := DataW.trod_int Tryz.underlying3 (show DataW.trod enc Tryz.prog w 0 (fun _ => true) true _ 3 [c4] = some x4 from f4)
    obtain ⟨i5, e5, _, w5⟩ := DataW.trod_int Tryz.underlying3 (show DataW.trod enc Tryz.prog w 0 (fun _ => true) true _ 3 [c5] = some x5 from f5)
    obtain ⟨i6, e6, _, w6⟩ := DataW.trod_int Tryz.underlying3 (show DataW.trod enc Tryz.prog w 0 (fun _ => true) true _ 3 [c6] = some x6 from f6)
    obtain ⟨i7, e7, _, w7⟩ := DataW.trod_int Tryz.underlying5 (show DataW.trod enc Tryz.prog w 0 (fun _ => true) true _ 5 [c7] = some x7 from f7)
    simp only [List.cons.injEq, and_true] at e0 e1 e2 e3 e4 e5 e6 e7
    subst e0 e1 e2 e3 e4 e5 e6 e7
    have b0 := bounds_u8 w0
    have b1 := bounds_u32 w1
    have b4 := bounds_i64 w4
    have b5 := bounds_i64 w5
    have b6 := bounds_i64 w6
    have b7 := bounds_u8 w7
    have hpos2 : ∀ z ∈ z2, 0 ≤ z := fun z hz' => (bounds_u32 (hwf2 z hz')).1
    have hcap2 : (cap2 : Int) * 4 ≤ 140737488355328 := by
      rcases hwt2 with h0 | h0
      · omega
      · have : cap2 * Tryz.prog.bytesOf 48 ≤ reachBytes := hz _ (by
          simp only [DataW.weights, Tryz.underlying68, DataW.weightsEach, List.map_cons, List.map_nil, List.mem_append]
          exact Or.inr (Or.inr (Or.inl h0)))
        rw [bytes_e_ids] at this
        unfold reachBytes at this
        omega
    have hpos3 : ∀ z ∈ z3, 0 ≤ z := fun z hz' => (bounds_u8 (hwf3 z hz')).1
    have hcap3 : (cap3 : Int) * 1 ≤ 140737488355328 := by
      rcases hwt3 with h0 | h0
      · omega
      · have : cap3 * Tryz.prog.bytesOf 5 ≤ reachBytes := hz _ (by
          simp only [DataW.weights, Tryz.underlying68, DataW.weightsEach, List.map_cons, List.map_nil, List.mem_append]
          exact Or.inr (Or.inr (Or.inr (Or.inl h0))))
        rw [bytes_e_bytes] at this
        unfold reachBytes at this
        omega
    refine ⟨⟨i0.toNat, i1.toNat, z2.map Int.toNat, a2, cap2, z3.map Int.toNat, a3, cap3, i4, i5, i6, i7.toNat⟩, { cell := ?_, kind_lt := ?_, epoch_lt := ?_, pages_rd := ?_, pages_le := ?_, pages_max := ?_, pages_each := ?_, b_rd := ?_, b_le := ?_, b_max := ?_, b_each := ?_, bytes_in := ?_, n_in := ?_, at__in := ?_, by__lt := ?_ }⟩
    · intro j hj
      rw [hc j hj]
      simp only [EDeed.cells, List.length_map, Int.toNat_of_nonneg b0.1, Int.toNat_of_nonneg b1.1, Int.toNat_of_nonneg b7.1]
    · show i0.toNat < 256
      omega
    · show i1.toNat < 4294967296
      omega
    · show Rd w a2 (nums .u32 (z2.map Int.toNat))
      rw [← ints_nums hpos2]; exact hr2
    · show (z2.map Int.toNat).length ≤ cap2
      rw [List.length_map]; exact hl2
    · exact hcap2
    · intro y hy
      obtain ⟨z, hz', rfl⟩ := List.mem_map.1 hy
      have := bounds_u32 (hwf2 z hz')
      omega
    · show Rd w a3 (nums .u8 (z3.map Int.toNat))
      rw [← ints_nums hpos3]; exact hr3
    · show (z3.map Int.toNat).length ≤ cap3
      rw [List.length_map]; exact hl3
    · exact hcap3
    · intro y hy
      obtain ⟨z, hz', rfl⟩ := List.mem_map.1 hy
      have := bounds_u8 (hwf3 z hz')
      omega
    · exact b4
    · exact b5
    · exact b6
    · show i7.toNat < 256
      omega

set_option maxRecDepth 100000 in
/-- a slice of acts that came in -/
theorem open_e_deeds {fuel : Nat} {cs : List Value} {x : DataW H × List MemPlace}
    (h : DataW.trod enc Tryz.prog w 0 (fun _ => true) true fuel 64 cs = some x) (hz : ∀ n ∈ DataW.weights Tryz.prog 64 x.1, n ≤ reachBytes) :
    ∃ ad n cap acts, cs = [.slice ad n cap] ∧ acts.length = n ∧ (n : Int) ≤ 9223372036854775807 ∧ IsEDeeds w ad acts := by
  rcases DataW.trod_slice Tryz.underlying64 h with ⟨rfl, rfl⟩ | ⟨a, len, cap, elems, rest, n, rfl, rfl, rfl, hb, hl, hm, hlen, hel, _, _⟩
  · exact ⟨none, 0, 0, [], rfl, rfl, by decide, fun i x hx => by simp at hx⟩
  · rw [cells_e_act] at hel
    have each : ∀ i, i < len → ∃ d : EDeed, a = ⟨a.block, a.off, none⟩ ∧ EDeedAt w a.block (a.off + i * 8) d := by
      intro i hi
      have h1 := hel i hi
      rw [List.getElem?_eq_getElem (by omega)] at h1
      obtain ⟨cs, hcs, htr⟩ := Option.bind_eq_some_iff.1 h1
      have hsp0 : a = ⟨a.block, a.off, none⟩ := by
        have h0 := hel 0 (by omega)
        rw [List.getElem?_eq_getElem (by omega)] at h0
        obtain ⟨cs0, hcs0, _⟩ := Option.bind_eq_some_iff.1 h0
        have := (cells_elem hcs0 (by decide)).2.1
        simpa [Addr.add] using this
      have hadd : a.add (i * 8) = ⟨a.block, a.off + i * 8, none⟩ := by rw [hsp0, add_plain]
      rw [hadd] at hcs
      obtain ⟨_, _, hcell⟩ := cells_elem hcs (by decide)
      obtain ⟨d, hd⟩ := open_e_deed hcell htr (fun m hm' => hz m (by
        have hw : ∀ (l : List (DataW H × List MemPlace)) (y : DataW H × List MemPlace), y ∈ l → m ∈ DataW.weights Tryz.prog 68 y.1 → m ∈ DataW.weightsAll Tryz.prog 68 (l.map (·.1)) := by
          intro l
          induction l with
          | nil => intro y hy; cases hy
          | cons z l ih =>
            intro y hy hm2
            simp only [List.map_cons, DataW.weightsAll, List.mem_append]
            rcases List.mem_cons.1 hy with rfl | hy
            · exact Or.inl hm2
            · exact Or.inr (ih y hy hm2)
        simp only [DataW.weights, Tryz.underlying64, List.mem_cons, List.mem_append]
        exact Or.inr (Or.inl (hw elems _ (List.getElem_mem _) hm'))))
      exact ⟨d, hsp0, hd⟩
    obtain ⟨acts, hacts, hq⟩ := list_choose len each
    refine ⟨some a, len, cap, acts, rfl, hacts, by unfold maxLen at hm; omega, fun i d hd => ?_⟩
    obtain ⟨e, hd'⟩ := hq i d hd
    exact ⟨a.block, a.off, by rw [← e], hd'⟩
end
end Go.Proofs.YtkiehoboeiengaaGreatDoor
