/-
  Both disks, the program's and the reference's, beside each other and beside what else stands there.
-/
import Derived.Test.YtkiehoboeiengaaGreatDoorK27
import Derived.Test.YtkiehoboeiengaaGreatDoorK32
import Derived.Test.YtkiehoboeiengaaGreatDoorK33
namespace Go.Proofs.YtkiehoboeiengaaGreatDoor
open Go Go.RowKit
set_option linter.unusedSimpArgs false
set_option linter.unusedVariables false

theorem refBad3_any (w : World) (g : Nat) (D : Dk.Disk) (A : Nat → Prop) (h : Al w [Part.rdisk g D] A) (n : Int) (hw : D.waits.length ≤ 1000000) :
    Calls Tryz.prog 25 #[.pointer (some ⟨g, 0, none⟩), .int .i64 n] w fun e w' => e = .returned (.int .i64 (Dk.badR D n : Nat)) ∧ TurnsL w A [Part.rdisk g (Dk.badA D n)] w' := by
  by_cases hc : 0 ≤ n ∧ n < D.seen.length
  · rw [Dk.badR, Dk.badA, if_pos hc, if_pos hc]
    obtain ⟨m, rfl⟩ : ∃ m : Nat, n = (m : Nat) := ⟨n.toNat, by omega⟩
    exact refBad3_in w g D A h m (by omega) hw
  · rw [Dk.badR, Dk.badA, if_neg hc, if_neg hc]
    obtain ⟨vs, vn, vw, hR, _⟩ := al_rdisk h
    exact (refBad3_out hR n hc).mono fun _ _ ⟨he, e⟩ => ⟨he, e ▸ TurnsL.same h⟩
theorem refRot3_any (w : World) (g : Nat) (D : Dk.Disk) (A : Nat → Prop) (h : Al w [Part.rdisk g D] A) (n p : Int) (x : Nat) (hx : x < 256) (hw : D.waits.length ≤ 1000000) :
    Calls Tryz.prog 23 #[.pointer (some ⟨g, 0, none⟩), .int .i64 n, .int .i64 p, .int .u8 (x : Nat)] w fun e w' => e = .returned (.int .i64 (Dk.rotR D n p : Nat)) ∧ TurnsL w A [Part.rdisk g (Dk.rotA D n p x)] w' := by
  by_cases hc : (0 ≤ n ∧ n < D.seen.length) ∧ (0 ≤ p ∧ p < 64)
  · rw [Dk.rotR, Dk.rotA, if_pos hc, if_pos hc]
    obtain ⟨m, rfl⟩ : ∃ m : Nat, n = (m : Nat) := ⟨n.toNat, by omega⟩
    obtain ⟨q, rfl⟩ : ∃ q : Nat, p = (q : Nat) := ⟨p.toNat, by omega⟩
    exact refRot3_in w g D A h m q x (by omega) (by omega) hx hw
  · rw [Dk.rotR, Dk.rotA, if_neg hc, if_neg hc]
    obtain ⟨vs, vn, vw, hR, _⟩ := al_rdisk h
    exact (refRot3_out hR n p (x : Nat) hc).mono fun _ _ ⟨he, e⟩ => ⟨he, e ▸ TurnsL.same h⟩
theorem refRead3_any {w : World} {g : Nat} {D : Dk.Disk} {vs vn vw : Value} (h : RdAt w g D vs vn vw) (n : Int) :
    Calls Tryz.prog 69 #[.pointer (some ⟨g, 0, none⟩), .int .i64 n] w fun e w' => ∃ a l c, e = .returned (.tuple #[.slice a l c, .int .i64 (Dk.readE D n : Nat)]) ∧ (Dk.readB D n).length = l ∧ Rd w' a (nums .u8 (Dk.readB D n)) ∧ Touch No w w' := by
  by_cases hc : 0 ≤ n ∧ n < D.seen.length
  · rw [Dk.readE, Dk.readB, if_pos hc, if_pos hc]
    obtain ⟨m, rfl⟩ : ∃ m : Nat, n = (m : Nat) := ⟨n.toNat, by omega⟩
    rw [Int.toNat_natCast]
    exact (refRead3_in h m (by omega)).mono fun _ _ ⟨a, l, c, r, he, hr, hl, hr2, t, _⟩ => ⟨a, l, c, by rw [he, hr2], hl, hr, t⟩
  · rw [Dk.readE, Dk.readB, if_neg hc, if_neg hc]
    exact (refRead3_out h n hc).mono fun _ _ ⟨he, e⟩ => ⟨none, 0, 0, he, rfl, Rd.nil _ _, e ▸ Touch.refl _ _⟩

def Two (w0 w : World) (d g : Nat) (D R : Dk.Disk) (E : List Part) : Prop := Sl w0 w ([Part.disk d D, Part.rdisk g R] ++ E)
section
variable {w0 w w' : World} {d g : Nat} {D R : Dk.Disk} {E E' : List Part}
theorem Two.end (h : Two w0 w d g D R E) : Touch No w0 w := Sl.end h
theorem Two.no (h : Two w0 w d g D R E) (t : Touch No w w') : Two w0 w' d g D R E := Sl.no h t
theorem Two.disk (h : Two w0 w d g D R E) : ∃ O, DiskAt w d D O := by
  obtain ⟨A, ⟨h, _⟩, _⟩ := Sl.mem h (List.mem_cons_self)
  exact ⟨A, h⟩
theorem Two.ok (h : Two w0 w d g D R E) : Dk.Ok D := by
  obtain ⟨O, h⟩ := h.disk
  exact h.ok
theorem Two.rdisk (h : Two w0 w d g D R E) : ∃ vs vn vw, RdAt w g R vs vn vw := by
  obtain ⟨A, h, _⟩ := Sl.mem h (List.mem_cons_of_mem _ List.mem_cons_self)
  obtain ⟨vs, vn, vw, h, _⟩ := rdisk_at h
  exact ⟨vs, vn, vw, h⟩
theorem Two.rest (h : Two w0 w d g D R E) {p : Part} (hp : p ∈ E) : ∃ A, p.P w A ∧ ∀ k, A k → w0.heap.size ≤ k ∧ k < w.heap.size := Sl.mem h (List.mem_append_right _ hp)
theorem Two.rd (h : Two w0 w d g D R E) {T : TypeId} {a : Option Addr} {m c : Nat} {vs : List Value} (hp : Part.sl T a m c vs ∈ E) : Rd w a vs := by
  obtain ⟨A, ha, _⟩ := h.rest hp
  exact sl_rd ha
theorem Two.row (h : Two w0 w d g D R E) {T : TypeId} {x : Nat} {vs : List Value} (hp : Part.row x T vs ∈ E) : Row w x T vs := by
  obtain ⟨A, ⟨h, _⟩, _⟩ := h.rest hp
  exact h
theorem Two.push {p : Part} (h : Two w0 w d g D R E) (hb : Born w p w') : Two w0 w' d g D R (p :: E) := by
  have h1 : Sl w0 w' (p :: ([Part.disk d D, Part.rdisk g R] ++ E)) := Sl.push h hb
  exact h1.perm (List.perm_middle (l₁ := [_, _])).symm
theorem Two.perm (h : Two w0 w d g D R E) (hp : E.Perm E') : Two w0 w d g D R E' := Sl.perm h (hp.append_left _)
theorem Two.drop {p : Part} (h : Two w0 w d g D R (p :: E)) : Two w0 w d g D R E := (Sl.perm h (List.perm_middle (l₁ := [_, _]))).drop
theorem Two.imp1 {p q : Part} (h : Two w0 w d g D R (p :: E)) (hp : ∀ A, p.P w A → q.P w A) : Two w0 w d g D R (q :: E) :=
  Sl.perm ((Sl.perm h (List.perm_middle (l₁ := [_, _]))).imp1 hp) (List.perm_middle (l₁ := [_, _])).symm
theorem Two.turnD {D' : Dk.Disk} {P : Program} {f : FuncId} {args : Array Value} {Z : Ending → Prop} (h : Two w0 w d g D R E)
    (C : ∀ F, Al w [Part.disk d D] F → Calls P f args w fun e w' => Z e ∧ TurnsL w F [Part.disk d D'] w') :
    Calls P f args w fun e w' => Z e ∧ Two w0 w' d g D' R E := by
  obtain ⟨F, hF, _, hf⟩ := Sl.frame (l := [Part.disk d D]) (m := [Part.rdisk g R] ++ E) h
  exact (C F hF).mono fun e w' ⟨he, ht⟩ => ⟨he, hf w' _ ht⟩
theorem Two.turnR {R' : Dk.Disk} {P : Program} {f : FuncId} {args : Array Value} {Z : Ending → Prop} (h : Two w0 w d g D R E)
    (C : ∀ F, Al w [Part.rdisk g R] F → Calls P f args w fun e w' => Z e ∧ TurnsL w F [Part.rdisk g R'] w') :
    Calls P f args w fun e w' => Z e ∧ Two w0 w' d g D R' E := by
  have h1 : Sl w0 w ([Part.rdisk g R] ++ ([Part.disk d D] ++ E)) := Sl.perm h (List.Perm.swap _ _ _)
  obtain ⟨F, hF, _, hf⟩ := Sl.frame h1
  exact (C F hF).mono fun e w' ⟨he, ht⟩ => ⟨he, Sl.perm (hf w' _ ht) (List.Perm.swap _ _ _)⟩
/-- one more of the parts beside them, turned -/
theorem Two.turnE {p p' : Part} {P : Program} {f : FuncId} {args : Array Value} {Z : Ending → Prop} (h : Two w0 w d g D R (p :: E))
    (C : ∀ F, Al w [p] F → Calls P f args w fun e w' => Z e ∧ TurnsL w F [p'] w') :
    Calls P f args w fun e w' => Z e ∧ Two w0 w' d g D R (p' :: E) := by
  have h1 : Sl w0 w ([p] ++ ([Part.disk d D, Part.rdisk g R] ++ E)) := Sl.perm h (List.perm_middle (l₁ := [_, _]))
  obtain ⟨F, hF, _, hf⟩ := Sl.frame h1
  exact (C F hF).mono fun e w' ⟨he, ht⟩ => ⟨he, Sl.perm (hf w' _ ht) (List.perm_middle (l₁ := [_, _])).symm⟩
theorem Two.writeD (h : Two w0 w d g D R E) (n : Int) (a : Option Addr) (l c : Nat) (b : List Nat) (hl : b.length = l) (hlt : ∀ x ∈ b, x < 256) (hr : Rd w a (nums .u8 b)) (hw : D.waits.length ≤ 1000000) :
    Calls Tryz.prog 63 #[.pointer (some ⟨d, 0, none⟩), .int .i64 n, .slice a l c] w fun e w' => e = .returned (.int .i64 (Dk.writeR D n b : Nat)) ∧ Two w0 w' d g (Dk.writeA D n b) R E :=
  h.turnD (fun F hF => diskWrite_al hF n a l c b hl hlt hr hw)
theorem Two.writeR (h : Two w0 w d g D R E) (n : Int) (a : Option Addr) (l c : Nat) (b : List Nat) (hl : b.length = l) (hlt : ∀ x ∈ b, x < 256) (hr : Rd w a (nums .u8 b)) (hw : R.waits.length ≤ 1000000) :
    Calls Tryz.prog 64 #[.pointer (some ⟨g, 0, none⟩), .int .i64 n, .slice a l c] w fun e w' => e = .returned (.int .i64 (Dk.writeR R n b : Nat)) ∧ Two w0 w' d g D (Dk.writeA R n b) E :=
  h.turnR (fun F hF => refWrite3_any w g R F hF n a l c b hl hlt hr hw)
theorem Two.badD (h : Two w0 w d g D R E) (n : Int) (hw : D.waits.length ≤ 1000000) :
    Calls Tryz.prog 24 #[.pointer (some ⟨d, 0, none⟩), .int .i64 n] w fun e w' => e = .returned (.int .i64 (Dk.badR D n : Nat)) ∧ Two w0 w' d g (Dk.badA D n) R E := h.turnD (fun F hF => diskBad_al hF n hw)
theorem Two.badR (h : Two w0 w d g D R E) (n : Int) (hw : R.waits.length ≤ 1000000) :
    Calls Tryz.prog 25 #[.pointer (some ⟨g, 0, none⟩), .int .i64 n] w fun e w' => e = .returned (.int .i64 (Dk.badR R n : Nat)) ∧ Two w0 w' d g D (Dk.badA R n) E := h.turnR (fun F hF => refBad3_any w g R F hF n hw)
theorem Two.rotD (h : Two w0 w d g D R E) (n p : Int) (x : Nat) (hx : x < 256) (hw : D.waits.length ≤ 1000000) :
    Calls Tryz.prog 22 #[.pointer (some ⟨d, 0, none⟩), .int .i64 n, .int .i64 p, .int .u8 (x : Nat)] w fun e w' => e = .returned (.int .i64 (Dk.rotR D n p : Nat)) ∧ Two w0 w' d g (Dk.rotA D n p x) R E := h.turnD (fun F hF => diskRot_al hF n p x hx hw)
theorem Two.rotR (h : Two w0 w d g D R E) (n p : Int) (x : Nat) (hx : x < 256) (hw : R.waits.length ≤ 1000000) :
    Calls Tryz.prog 23 #[.pointer (some ⟨g, 0, none⟩), .int .i64 n, .int .i64 p, .int .u8 (x : Nat)] w fun e w' => e = .returned (.int .i64 (Dk.rotR R n p : Nat)) ∧ Two w0 w' d g D (Dk.rotA R n p x) E := h.turnR (fun F hF => refRot3_any w g R F hF n p x hx hw)
theorem Two.failD (h : Two w0 w d g D R E) (keep : Nat) (torn : Int) (hk : keep < 18446744073709551616) (hw : D.waits.length ≤ 1000000) :
    Calls Tryz.prog 9 #[.pointer (some ⟨d, 0, none⟩), .int .u64 (keep : Nat), .int .i64 torn] w fun e w' => ∃ d', e = .returned (.tuple #[.pointer (some ⟨d', 0, none⟩), .int .i64 0]) ∧ Two w0 w' d' g (Dk.fail D keep torn) R (Part.disk d D :: E) := by
  obtain ⟨O, hO, _⟩ : ∃ O, Dsk w d D 0 O ∧ True := by
    obtain ⟨A, ⟨h, hl⟩, _⟩ := Sl.mem h (List.mem_cons_self)
    exact ⟨A, ⟨h, hl, fun _ _ => Nat.zero_le _⟩, trivial⟩
  refine (fail_k w d D 0 O keep torn hk hO hw).mono fun e w' ⟨d', he, hm⟩ => ⟨d', he, ?_⟩
  have h1 : Sl w0 w' (Part.disk d' (Dk.fail D keep torn) :: ([Part.disk d D, Part.rdisk g R] ++ E)) := Sl.push h (born_disk hm)
  exact h1.perm ((List.Perm.swap _ _ _).cons _)
theorem Two.failR (h : Two w0 w d g D R E) (keep : Nat) (torn : Int) (hk : keep < 18446744073709551616) (hw : R.waits.length ≤ 1000000) :
    Calls Tryz.prog 10 #[.pointer (some ⟨g, 0, none⟩), .int .u64 (keep : Nat), .int .i64 torn] w fun e w' => ∃ g', e = .returned (.tuple #[.pointer (some ⟨g', 0, none⟩), .int .i64 0]) ∧ Two w0 w' d g' D (Dk.fail R keep torn) E := by
  obtain ⟨vs, vn, vw, hR⟩ := h.rdisk
  refine (refFail3_any hR keep torn hk hw).mono fun e w' ⟨g', he, hm⟩ => ⟨g', he, ?_⟩
  have h1 : Sl w0 w' (Part.rdisk g' (Dk.fail R keep torn) :: ([Part.disk d D, Part.rdisk g R] ++ E)) := Sl.push h hm
  have h2 : Sl w0 w' (Part.rdisk g R :: (Part.disk d D :: Part.rdisk g' (Dk.fail R keep torn) :: E)) := h1.perm (((List.Perm.swap _ _ _).cons _).trans ((List.Perm.swap _ _ _).trans ((List.Perm.swap _ _ _).cons _)))
  exact h2.drop
theorem Two.lenD (h : Two w0 w d g D R E) : Calls Tryz.prog 117 #[.pointer (some ⟨d, 0, none⟩)] w fun e w' => e = .returned (.int .i64 (D.seen.length : Nat)) ∧ w = w' := by
  obtain ⟨O, h⟩ := h.disk
  exact len_in w d D O h
theorem Two.lenR (h : Two w0 w d g D R E) : Calls Tryz.prog 153 #[.pointer (some ⟨g, 0, none⟩)] w fun e w' => e = .returned (.int .i64 (R.seen.length : Nat)) ∧ w = w' := by
  obtain ⟨vs, vn, vw, hR⟩ := h.rdisk
  exact refLen_at hR
theorem Two.readD (h : Two w0 w d g D R E) (n : Int) : Calls Tryz.prog 292 #[.pointer (some ⟨d, 0, none⟩), .int .i64 n] w fun e w' => ∃ a l, e = .returned (.tuple #[.slice a l l, .int .i64 (Dk.readE D n : Nat)]) ∧ (Dk.readB D n).length = l ∧ Two w0 w' d g D R (Part.sl 5 a l l (nums .u8 (Dk.readB D n)) :: E) := by
  obtain ⟨O, hd⟩ := h.disk
  exact (diskRead_born hd n).mono fun e w' ⟨a, l, he, hl, hb⟩ => ⟨a, l, he, hl, h.push hb⟩
theorem Two.readR (h : Two w0 w d g D R E) (n : Int) : Calls Tryz.prog 69 #[.pointer (some ⟨g, 0, none⟩), .int .i64 n] w fun e w' => ∃ a l c, e = .returned (.tuple #[.slice a l c, .int .i64 (Dk.readE R n : Nat)]) ∧ (Dk.readB R n).length = l ∧ Rd w' a (nums .u8 (Dk.readB R n)) ∧ Touch No w w' := by
  obtain ⟨vs, vn, vw, hR⟩ := h.rdisk
  exact refRead3_any hR n
theorem Two.bytes {gk n : Nat} {B : List HE} {a : Option Addr} {m c : Nat} {vs : List Value} (h : Two w0 w d g D R (Part.book gk n B [] [] [] :: Part.sl 5 a m c vs :: E)) (hm : B.length ≤ 100000) (hn : n ≤ 1000000) :
    Calls Tryz.prog 15 #[.pointer (some ⟨gk, 0, none⟩), .slice a m c] w fun e w' => e = .returned (.tuple #[]) ∧ Two w0 w' d g D R (Part.book gk (n + 1) (B ++ [⟨a, m, c, n + 1⟩]) [] [] [] :: E) := by
  have h1 : Sl w0 w (Part.book gk n B [] [] [] :: Part.sl 5 a m c vs :: ([Part.disk d D, Part.rdisk g R] ++ E)) := Sl.perm h (List.perm_append_comm_assoc [_, _] [_, _] E)
  refine (h1.bytes hm hn).mono fun e w' ⟨he, hs⟩ => ⟨he, ?_⟩
  exact Sl.perm hs (List.perm_middle (l₁ := [_, _])).symm
theorem Two.ids {gk n : Nat} {B D0 : List HE} {a : Option Addr} {m c : Nat} {vs : List Value} (h : Two w0 w d g D R (Part.book gk n B [] [] D0 :: Part.sl 48 a m c vs :: E)) (hm : D0.length ≤ 100000) (hn : n ≤ 1000000) :
    Calls Tryz.prog 56 #[.pointer (some ⟨gk, 0, none⟩), .slice a m c] w fun e w' => e = .returned (.tuple #[]) ∧ Two w0 w' d g D R (Part.book gk (n + 1) B [] [] (D0 ++ [⟨a, m, c, n + 1⟩]) :: E) := by
  have h1 : Sl w0 w (Part.book gk n B [] [] D0 :: Part.sl 48 a m c vs :: ([Part.disk d D, Part.rdisk g R] ++ E)) := Sl.perm h (List.perm_append_comm_assoc [_, _] [_, _] E)
  refine (h1.ids hm hn).mono fun e w' ⟨he, hs⟩ => ⟨he, ?_⟩
  exact Sl.perm hs (List.perm_middle (l₁ := [_, _])).symm
theorem Two.apart {gk n : Nat} {B : List HE} (h : Two w0 w d g D R (Part.book gk n B [] [] [] :: E)) (hB : BkOkB B) :
    Calls Tryz.prog 16 #[.pointer (some ⟨gk, 0, none⟩)] w fun e w' => e = .returned (.bool true) ∧ Touch No w0 w' :=
  Sl.apart (Sl.perm h (List.perm_middle (l₁ := [_, _]))) hB bkOk_nil bkOk_nil
end
/-! ### bounds -/
namespace Dk
theorem writeA_waits (D : Disk) (n : Int) (b : List Nat) : (writeA D n b).waits.length ≤ D.waits.length + 1 := by
  unfold writeA; split <;> simp [write]
theorem badA_waits (D : Disk) (n : Int) : (badA D n).waits.length = D.waits.length := by
  unfold badA; split <;> simp [bad]
theorem rotA_waits (D : Disk) (n p : Int) (x : Nat) : (rotA D n p x).waits.length = D.waits.length := by
  unfold rotA; split <;> simp [rot]
end Dk
end Go.Proofs.YtkiehoboeiengaaGreatDoor
