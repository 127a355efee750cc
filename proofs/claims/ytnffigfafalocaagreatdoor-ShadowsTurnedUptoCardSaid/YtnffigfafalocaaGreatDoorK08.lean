/-
  Package nums by its own text: put, PutFour, four, GetFour.
  Package drydocklaw01 by its own text: a book's lists of bytes, grown.
  Package drydocklaw01 by its own text: a book's lists of bytes, looked at.
  Package drydocklaw01 by its own text: a book's lists of numbers, filled with marks.
  The plain mathematics of lists of numbers as bytes (chapter 1). No program in sight.
  Package nums by its own text: as (both), and what a list that is filled from its first one on holds.
  Package drydocklaw01 by its own text: a book's lists of numbers, grown.
  Package drydocklaw01 by its own text: a book's lists of numbers, looked at.
  Package drydocklaw01 by its own text: a book's lists of ids, filled with marks.
  Package drydocklaw01 by its own text: a book's lists of ids, grown.
  Package drydocklaw01 by its own text: a book's lists of ids, looked at.
  Package drydocklaw01 by its own text: a book's lists of which there are none.
  Package drydocklaw01 by its own text: Book.Apart.
  What the laws with a book share: parts read, parts told to the book, the end.
  Package disks by its own text: Read, what is read as a part; a disk as a part beside others; what a book's laws make of both disks.
-/
import Derived.Test.YtnffigfafalocaaGreatDoorProg
import Derived.Test.YtnffigfafalocaaGreatDoorK07
import Derived.Test.YtnffigfafalocaaGreatDoorK02
import Derived.Deep.LoopGhost
import Derived.Laws.MakeOwn
import Derived.Laws.CopyOwn
import Derived.Laws.BitsAllLaws
import Derived.Test.YtnffigfafalocaaGreatDoorK04
import Derived.StillTailTactics
import Derived.Test.YtnffigfafalocaaGreatDoorK06
namespace Go.Proofs.YtnffigfafalocaaGreatDoor
open Go Go.RowKit
set_option linter.unusedSimpArgs false

/-- what a type's zero and room are (one cell) -/
theorem one_info {T : TypeId} {k : IntKind} {bytes : Nat} (h : (Tryz.prog.info? T).map (fun i => (i.zero, i.size, i.bytes)) = some (some (.int k 0), 1, bytes)) :
    ∃ i, Tryz.prog.info? T = some i ∧ i.zero = some (.int k 0) ∧ i.size = 1 ∧ i.bytes = bytes := by
  cases hi : Tryz.prog.info? T with
  | none => simp [hi] at h
  | some i =>
    rw [hi] at h
    simp only [Option.map_some, Option.some.injEq, Prod.mk.injEq] at h
    exact ⟨i, rfl, h.1, h.2.1, h.2.2⟩
theorem u8_info : ∃ i, Tryz.prog.info? 5 = some i ∧ i.zero = some (.int .u8 0) ∧ i.size = 1 ∧ i.bytes = 1 := one_info (by kernel_rfl)

theorem made_zeros (n : Nat) : madeCells #[Value.int .u8 0] n = (List.replicate n (Value.int .u8 0)).toArray := by
  apply Array.ext'
  refine List.ext_getElem? (fun j => ?_)
  unfold madeCells
  by_cases hj : j < n
  · simp [hj, List.getElem?_replicate, Nat.mod_one]
  · simp [hj, List.getElem?_replicate]

theorem rd_new (w : World) (T : TypeId) (vs : Array Value) (fr : Nat × Nat) : Rd (w.alloc (.cells vs T fr)) (some ⟨w.heap.size, 0, none⟩) vs.toList := by
  intro i v hi
  refine ⟨_, _, rfl, ?_⟩
  have hh := heap_alloc_new w (.cells vs T fr)
  simp only [World.cell?]; rw [hh, Nat.zero_add]
  simpa using hi
theorem four_cells {x : Nat} (h : x < 4294967296) : #[Value.int IntKind.u8 ((x : Int) % 256), Value.int IntKind.u8 ((x : Int) / 256 % 256), Value.int IntKind.u8 ((x : Int) / 65536 % 256), Value.int IntKind.u8 ((x : Int) / 16777216)].toList = nums .u8 (Rt.four x) := by
  have e0 : (x : Int) % 256 = ((x % 256 : Nat) : Int) := by omega
  have e1 : (x : Int) / 256 % 256 = ((x / 256 % 256 : Nat) : Int) := by omega
  have e2 : (x : Int) / 65536 % 256 = ((x / 65536 % 256 : Nat) : Int) := by omega
  have e3 : (x : Int) / 16777216 = ((x / 16777216 % 256 : Nat) : Int) := by omega
  rw [e0, e1, e2, e3]; rfl
/-- put: numbers behind bytes, in memory of their own -/
def PutPost (w : World) (xs : List Nat) (N : Nat) (e : Ending) (w' : World) : Prop :=
  ∃ a c, e = .returned (.slice a N c) ∧ Own w' w.heap.size 5 (.slice a N c) (nums .u8 xs) ∧ Touch No w w'

set_option maxRecDepth 100000 in
set_option maxHeartbeats 2000000 in
theorem put_any (w : World) (a : Option Addr) (n c : Nat) (b : List Nat) (hb : b.length = n) (hr : Rd w a (nums .u8 b)) (al : Option Addr) (m cl : Nat) (l : List Nat) (hl : l.length = m) (hrl : Rd w al (nums .u32 l)) (hl32 : ∀ x ∈ l, x < 4294967296) (hsz : (n : Int) + 4 * (m : Int) ≤ 100000000000000) (N : Nat) (hN : n + 4 * m = N) :
    Calls Tryz.prog 136 #[.slice a n c, .slice al m cl] w (PutPost w (b ++ l.flatMap Rt.four) N) := by
  have HN := Lib.hid hN
  clear hN
  obtain ⟨I, hi0, hi1, hi2, hi3⟩ := u8_info
  have Hb := Lib.hid hb
  have Hr := Lib.hid hr
  have Hl := Lib.hid hl
  have Hrl := Lib.hid hrl
  have Hl32 := Lib.hid hl32
  have hmk : ∀ wx : World, (Instr.makeSlice 39 (.int .i64 (n : Int)) (.int .i64 ((n : Int) + 4 * (m : Int)))).run Tryz.prog wx = .ok (.slice (some ⟨wx.heap.size, 0, none⟩) n (n + 4 * m)) (wx.alloc (.cells (List.replicate (n + 4 * m) (Value.int .u8 0)).toArray 5)) := fun wx => by
    have := run_make (P := Tryz.prog) wx 39 5 I (.int .u8 0) Tryz.underlying39 hi0 hi1 .i64 .i64 (n : Int) ((n : Int) + 4 * (m : Int)) (by omega) (by omega) (by rw [hi3]; omega) (by omega)
    rw [this, hi2, Int.toNat_natCast, show ((n : Int) + 4 * (m : Int)).toNat = n + 4 * m by omega, Nat.mul_one]
    show Result.ok _ (wx.alloc (.cells (madeCells #[Value.int .u8 0] _) _)) = _
    rw [made_zeros]
  have hmul : IntKind.i64.wrap (4 * (m : Int)) = 4 * (m : Int) := IntWalk.i64_in _ (by omega)
  have hadd : IntKind.i64.wrap ((n : Int) + 4 * (m : Int)) = (n : Int) + 4 * (m : Int) := IntWalk.i64_in _ (by omega)
  have Hi := Lib.hid (And.intro hi0 (And.intro hi1 (And.intro hi2 hi3)))
  clear hb hr hl hrl hl32 hi0 hi1 hi2 hi3
  go_enter Tryz.func136, Tryz.ntmps136
  go_wp2_with (refine wpList_copy_splice rfl _ _ _ _ rfl 5 Tryz.underlying39 (by kernel_rfl) (some ⟨w.heap.size, 0, none⟩) a n (n + 4 * m) n c ?hd ?hs w.heap.size 0 (List.replicate (n + 4 * m) (Value.int .u8 0)) 5 (heap_alloc_new w _) (nums .u8 b) ?c1 ?c2 ?c3 (nums_one _ _) w.heap.size w ?c4 (Nat.le_refl _) ?_)
  case hd => rfl
  case hs => rfl
  case c1 => rw [nums_length, Hb.out]; exact (Nat.min_self n).symm
  case c2 =>
    intro h0
    rw [nums_length] at h0
    obtain ⟨g0, o0, ea, _⟩ := Hr.out.num (i := 0) h0
    refine ⟨_, ea, fun j v hj => ?_⟩
    obtain ⟨g', o', e', hc⟩ := Hr.out j v hj
    rw [ea] at e'; cases e'
    rw [add_off]
    exact ((Touch.refl No w).alloc _).cell id hc
  case c3 => rw [nums_length, Hb.out, List.length_replicate]; omega
  case c4 => exact (Below.refl _ w).alloc (Nat.le_refl _) _
  intro w2 HG2 hB2
  have t2 : Touch No w w2 := (Touch.of_below hB2).mono (fun k hk f => absurd hk (Nat.not_lt.2 f))
  have o2 : Own w2 w.heap.size 5 (.slice (some ⟨w.heap.size, 0, none⟩) n (n + 4 * m)) (nums .u8 b) := by
    have hg := HG2.out
    have hl : (nums .u8 b).length = n := by rw [nums_length, Hb.out]
    refine ⟨by omega, .inr ⟨w.heap.size, n + 4 * m, _, by rw [hl], Nat.le_refl _, hg, by omega, by unfold maxLen; omega, ?_, ?_⟩⟩
    · rw [List.size_toArray]; simp only [Go.splice, List.take_zero, List.nil_append, Nat.zero_add, List.length_append, List.length_drop, List.length_replicate]; omega
    · rw [hl]; simp only [Go.splice, List.take_zero, List.nil_append, Nat.zero_add]
      rw [Nat.mul_one, ← hl]; exact List.take_left
  have O2 := Lib.hid o2
  have T2 := Lib.hid t2
  clear HG2 hB2 t2 o2 hmk hmul hadd
  go_wp2
  go_loopg [5, 22] m (fun g s5 s22 wr => ∃ (k : Nat) (v : Value), k + g = m ∧ s22 = .int .i64 ((k : Nat) : Int) ∧ s5 = v ∧ Hid (Own wr w.heap.size 5 v (nums .u8 (b ++ (l.take k).flatMap Rt.four))) ∧ Hid (Touch No w wr))
  case atStart => exact ⟨0, _, by omega, rfl, rfl, by rw [List.take_zero, List.flatMap_nil, List.append_nil]; exact O2.out, T2.out⟩
  case round =>
    obtain ⟨k, v, hkg, rfl, rfl, O, T⟩ := hrel
    cases gk with
    | zero =>
      obtain rfl : k = m := by omega
      have hO := O.out
      rw [List.take_of_length_le (by rw [Hl.out]; exact Nat.le_refl _)] at hO
      have HO := Lib.hid hO
      clear hO
      go_wp2
      go_ret
      have h4 : ∀ q : List Nat, (q.flatMap Rt.four).length = q.length * 4 := fun q => by
        induction q with
        | nil => rfl
        | cons y q ih => rw [List.flatMap_cons, List.length_append, ih, Rt.four_length, List.length_cons]; omega
      obtain ⟨a', c', rfl, _⟩ := HO.out.form' (n := N) (by rw [nums_length, List.length_append, h4, Hb.out, Hl.out, ← HN.out]; omega)
      exact ⟨a', c', rfl, HO.out, T.out⟩
    | succ g =>
      have hlt : (k : Int) < (m : Nat) := by omega
      have hkl : k < l.length := by rw [Hl.out]; omega
      obtain ⟨gl, ol, rfl, hcl⟩ := (Hrl.out.no T.out).num hkl
      have hx32 := Hl32.out (l.getD k 0) (by rw [List.getD_eq_getElem?_getD, List.getElem?_eq_getElem hkl]; exact List.getElem_mem hkl)
      have hnext : Hid (b ++ (l.take (k + 1)).flatMap Rt.four = (b ++ (l.take k).flatMap Rt.four) ++ Rt.four (l.getD k 0)) := by
        show _ = _
        rw [List.take_succ_eq_append_getElem hkl, List.flatMap_append, List.flatMap_cons, List.flatMap_nil, List.append_nil, List.append_assoc, List.getD_eq_getElem?_getD, List.getElem?_eq_getElem hkl]; rfl
      obtain ⟨x, hx⟩ : ∃ x, l.getD k 0 = x := ⟨_, rfl⟩
      rw [hx] at hcl hx32 hnext
      have Hkl := Lib.hid hkl
      clear hx hkl
      have hlen : (nums .u8 (b ++ (l.take k).flatMap Rt.four)).length = n + 4 * k := by
        have h4 : ∀ q : List Nat, (q.flatMap Rt.four).length = q.length * 4 := fun q => by
          induction q with
          | nil => rfl
          | cons y q ih => rw [List.flatMap_cons, List.length_append, ih, Rt.four_length, List.length_cons]; omega
        rw [nums_length, List.length_append, h4, Hb.out, List.length_take, Hl.out]; omega
      have Hlen := Lib.hid hlen
      have hwr := T.out.size
      clear hlen
      go_wp2_with (refine wpList_append_rd rfl _ _ _ rfl w.heap.size 5 I (.int .u8 0) 1 Tryz.underlying39 Hi.out.1 Hi.out.2.1 Hi.out.2.2.1 Hi.out.2.2.2 rfl _ (nums .u8 (b ++ (l.take k).flatMap Rt.four)) (O.out.touch ((Touch.refl No wr).alloc _) (fun _ _ _ f => f)) rfl (some ⟨wr.heap.size, 0, none⟩) 4 4 (nums .u8 (Rt.four x)) rfl rfl ?hrd (nums_one _ _) (by rw [Hlen.out]; unfold maxLen; omega) (by rw [Hlen.out]; omega) (by simp; omega) ?_)
      case hrd =>
        rw [← four_cells hx32]
        exact rd_new wr _ _ _
      intro v' w3 own3 t3
      have O3 := Lib.hid own3
      have T3 := Lib.hid t3
      clear own3 t3
      go_wp2
      go_roundg g
      case measure => omega
      case rel =>
        refine ⟨k + 1, _, by omega, by go_num, rfl, ?_, ?_⟩
        · show Own _ _ _ _ _
          rw [hnext.out, nums_append]
          exact O3.out
        · exact (T.out.alloc _).then T3.out (fun i hi e => by
            have := (O.out.block e).1
            omega)

/-- PutFour: a number behind bytes -/
theorem putFour_any (w : World) (a : Option Addr) (n c : Nat) (b : List Nat) (hb : b.length = n) (hr : Rd w a (nums .u8 b)) (x : Nat) (hx : x < 4294967296) (hsz : (n : Int) ≤ 99999999999996) (N : Nat) (hN : n + 4 = N) :
    Calls Tryz.prog 48 #[.slice a n c, .int .u32 (x : Nat)] w (PutPost w (b ++ Rt.four x) N) := by
  have h1 : ∀ y ∈ [x], y < 4294967296 := by
    intro y hy
    have e : y = x := by simpa using hy
    rw [e]; exact hx
  have hc := put_any (w.alloc (.cells #[.int .u32 (x : Nat)] 38)) a n c b hb (hr.no ((Touch.refl No w).alloc _)) (some ⟨w.heap.size, 0, none⟩) 1 1 [x] rfl (rd_new w 38 #[.int .u32 (x : Nat)] _) h1 (by omega) N (by omega)
  rw [show [x].flatMap Rt.four = Rt.four x by simp] at hc
  have Hc := Lib.hid hc
  clear hc hb hr
  go_enter Tryz.func48, Tryz.ntmps48
  go_wp2_with fail
  refine Hc.out.mono ?_
  rintro e w2 ⟨a', c', rfl, ho, t⟩
  have Ho := Lib.hid (ho.mono (base' := w.heap.size) (by simp))
  have Ht := Lib.hid t
  clear ho t
  go_wp2
  go_ret
  exact ⟨a', c', rfl, Ho.out, ((Touch.refl No w).alloc _).trans Ht.out⟩

/-! ### four, GetFour -/
theorem or_shift {a b k : Nat} (h : a < 2 ^ k) : a ||| b * 2 ^ k = a + b * 2 ^ k := by
  rw [Nat.or_comm, Nat.add_comm, Nat.mul_comm]
  exact (Nat.two_pow_add_eq_or_of_lt h b).symm
set_option maxHeartbeats 2000000 in
theorem four_any (w : World) (a : Option Addr) (n c : Nat) (b : List Nat) (hb : b.length = n) (hn : 4 ≤ n) (hr : Rd w a (nums .u8 b)) (hlt : ∀ x ∈ b, x < 256) :
    Calls Tryz.prog 251 #[.slice a n c] w fun e w' => e = .returned (.int .u32 (Rt.unfour b : Nat)) ∧ Touch No w w' := by
  have hb256 : ∀ i, b.getD i 0 < 256 := fun i => by
    rw [List.getD_eq_getElem?_getD]
    cases hq : b[i]? with
    | none => simp
    | some z => exact hlt z (List.mem_of_getElem? hq)
  obtain ⟨g, o, rfl, c0⟩ := hr.num (i := 0) (by omega)
  obtain ⟨g1, o1, e1, c1⟩ := hr.num (i := 1) (by omega)
  obtain ⟨g2, o2, e2, c2⟩ := hr.num (i := 2) (by omega)
  obtain ⟨g3, o3, e3, c3⟩ := hr.num (i := 3) (by omega)
  cases e1; cases e2; cases e3
  have h0 := hb256 0
  have h1 := hb256 1
  have h2 := hb256 2
  have h3 := hb256 3
  have hval : Hid (b.getD 0 0 + 256 * b.getD 1 0 + 65536 * b.getD 2 0 + 16777216 * b.getD 3 0 = Rt.unfour b) := rfl
  clear hb256 hlt
  generalize b.getD 0 0 = x0 at *
  generalize b.getD 1 0 = x1 at *
  generalize b.getD 2 0 = x2 at *
  generalize b.getD 3 0 = x3 at *
  rw [Nat.add_zero] at c0
  have hn4 : (4 : Int) ≤ (n : Nat) := by omega
  have Hr := Lib.hid hr
  clear hr hb
  go_enter Tryz.func251, Tryz.ntmps251
  go_wp2_with fail
  go_quiet (fail)
  go_wp2
  have e1 : (x1 : Int) * 256 = ((x1 * 256 : Nat) : Int) := by omega
  have e2 : (x2 : Int) * 65536 = ((x2 * 65536 : Nat) : Int) := by omega
  have e3 : (x3 : Int) * 16777216 = ((x3 * 16777216 : Nat) : Int) := by omega
  have o1 : x0 ||| x1 * 256 = x0 + x1 * 256 := or_shift (k := 8) (by omega)
  have o2 : (x0 + x1 * 256) ||| x2 * 65536 = x0 + x1 * 256 + x2 * 65536 := or_shift (k := 16) (by omega)
  have o3 : (x0 + x1 * 256 + x2 * 65536) ||| x3 * 16777216 = x0 + x1 * 256 + x2 * 65536 + x3 * 16777216 := or_shift (k := 24) (by omega)
  have s1 : bits BinOp.or .u32 (x0 : Int) ((x1 : Int) * 256) = ((x0 + x1 * 256 : Nat) : Int) := by
    rw [e1, u32_or_nat x0 (x1 * 256) (by omega) (by omega), o1]
  have s2 : bits BinOp.or .u32 ((x0 + x1 * 256 : Nat) : Int) ((x2 : Int) * 65536) = ((x0 + x1 * 256 + x2 * 65536 : Nat) : Int) := by
    rw [e2, u32_or_nat (x0 + x1 * 256) (x2 * 65536) (by omega) (by omega), o2]
  have s3 : bits BinOp.or .u32 ((x0 + x1 * 256 + x2 * 65536 : Nat) : Int) ((x3 : Int) * 16777216) = ((x0 + x1 * 256 + x2 * 65536 + x3 * 16777216 : Nat) : Int) := by
    rw [e3, u32_or_nat (x0 + x1 * 256 + x2 * 65536) (x3 * 16777216) (by omega) (by omega), o3]
  rw [s1, s2, s3]
  go_ret
  exact ⟨by
    show Ending.returned (.int .u32 _) = _
    rw [← hval.out]; congr 2; omega, (Touch.refl No w).drewN _⟩
def GetPost (w : World) (b : List Nat) (e : Ending) (w' : World) : Prop := e = .returned (.tuple #[.int .u32 (if b.length < 4 then 0 else Rt.unfour b : Nat), .int .i64 (if b.length < 4 then 5 else 0 : Nat)]) ∧ Touch No w w'
theorem getFour_any (w : World) (a : Option Addr) (n c : Nat) (b : List Nat) (hb : b.length = n) (hmax : (n : Int) ≤ 9223372036854775807) (hr : Rd w a (nums .u8 b)) (hlt : ∀ x ∈ b, x < 256) :
    Calls Tryz.prog 225 #[.slice a n c] w (GetPost w b) := by
  by_cases hn : n < 4
  · have hn' : (n : Int) < 4 := by omega
    have Fin : Hid (∀ wx, Touch No w wx → GetPost w b (.returned (.tuple #[.int .u32 0, .int .i64 5])) wx) := fun wx t => by
      refine ⟨?_, t⟩
      rw [if_pos (by omega), if_pos (by omega)]; rfl
    clear hn hb hr hlt
    go_enter Tryz.func225, Tryz.ntmps225
    go_wp2
    go_ret2
    exact Fin.out _ (Touch.refl _ _)
  · have hn' : ¬ (n : Int) < 4 := by omega
    have hc := four_any w a n c b hb (by omega) hr hlt
    have Hc := Lib.hid hc
    have Fin : Hid (∀ wx, Touch No w wx → GetPost w b (.returned (.tuple #[.int .u32 (Rt.unfour b : Nat), .int .i64 0])) wx) := fun wx t => by
      refine ⟨?_, t⟩
      rw [if_neg (by omega), if_neg (by omega)]; rfl
    clear hn hb hr hlt hc
    go_enter Tryz.func225, Tryz.ntmps225
    go_wp2_with fail
    refine Hc.out.mono ?_
    rintro e w2 ⟨rfl, t2⟩
    have T2 := Lib.hid t2
    clear t2
    go_wp2
    go_ret2
    exact Fin.out _ T2.out
end Go.Proofs.YtnffigfafalocaaGreatDoor
namespace Go.Proofs.YtnffigfafalocaaGreatDoor
open Go Go.RowKit
set_option linter.unusedSimpArgs false
set_option linter.unusedVariables false

end Go.Proofs.YtnffigfafalocaaGreatDoor
namespace Go.Proofs.YtnffigfafalocaaGreatDoor
open Go Go.RowKit
set_option linter.unusedSimpArgs false
set_option linter.unusedVariables false

end Go.Proofs.YtnffigfafalocaaGreatDoor
namespace Go.Proofs.YtnffigfafalocaaGreatDoor
open Go Go.RowKit
set_option linter.unusedSimpArgs false

end Go.Proofs.YtnffigfafalocaaGreatDoor
namespace Go.Proofs.YtnffigfafalocaaGreatDoor
open Go Go.RowKit
namespace Nm

/-- a number of either sign as one without, and back -/
def u (z : Int) : Nat := (z % 4294967296).toNat
def i (n : Nat) : Int := if n < 2147483648 then (n : Int) else (n : Int) - 4294967296
/-- a list's bytes -/
def put (l : List Int) : List Nat := Rt.four (l.length % 4294967296) ++ (l.map u).flatMap Rt.four
def many (b : List Nat) : Nat := Rt.unfour b
def err (b : List Nat) : Nat := if b.length < 4 then 5 else if 4096 < many b then 3 else if b.length < 4 + 4 * many b then 5 else 0
def nth (b : List Nat) (k : Nat) : Int := i (Rt.unfour (b.drop (4 + 4 * k)))
def get (b : List Nat) : List Int := if err b = 0 then (List.range (many b)).map (nth b) else []
theorem flat_length (q : List Nat) : (q.flatMap Rt.four).length = 4 * q.length := by
  induction q with
  | nil => rfl
  | cons y q ih => rw [List.flatMap_cons, List.length_append, ih, Rt.four_length, List.length_cons]; omega
theorem flat_lt (q : List Nat) : ∀ x ∈ q.flatMap Rt.four, x < 256 := by
  intro x hx
  obtain ⟨y, _, hy⟩ := List.mem_flatMap.1 hx
  exact Rt.four_lt y x hy
theorem put_length (l : List Int) : (put l).length = 4 + 4 * l.length := by
  rw [put, List.length_append, Rt.four_length, flat_length, List.length_map]
theorem put_lt (l : List Int) : ∀ x ∈ put l, x < 256 := by
  intro x hx
  rcases List.mem_append.1 hx with h | h
  · exact Rt.four_lt _ x h
  · exact flat_lt _ x h
theorem unfour_app {n : Nat} (h : n < 4294967296) (x : List Nat) : Rt.unfour (Rt.four n ++ x) = n := by
  simp [Rt.unfour, Rt.four]; omega
end Nm
end Go.Proofs.YtnffigfafalocaaGreatDoor
namespace Go.Proofs.YtnffigfafalocaaGreatDoor
open Go Go.RowKit
set_option linter.unusedSimpArgs false

theorem own_of_row {w : World} {B base : Nat} {T : TypeId} {vs : List Value} (h : Row w B T vs) (hb : base ≤ B) {n : Nat} (hn : vs.length = n) (hl : n ≤ maxLen) : Own w base T (.slice (some ⟨B, 0, none⟩) n n) vs := by
  subst hn
  exact ⟨by omega, .inr ⟨B, vs.length, vs.toArray, rfl, hb, h, Nat.le_refl _, hl, by simp, by simp⟩⟩
theorem Own.head {w : World} {base : Nat} {T : TypeId} {a : Option Addr} {n c : Nat} {vs : List Value} (h : Own w base T (.slice a n c) vs) {k : Nat} (hk : k ≤ n) : Own w base T (.slice a k c) (vs.take k) := by
  obtain ⟨a', c', e, _⟩ := h.form
  have hn : vs.length = n := by cases e; rfl
  have hkl : (vs.take k).length = k := by rw [List.length_take]; omega
  obtain ⟨hl, h⟩ := h
  refine ⟨by omega, ?_⟩
  rcases h with ⟨h1, h0⟩ | ⟨g, cap, cur, hv, hg, hh, h1, h2, h3, h4⟩
  · left
    simp only [Value.slice.injEq] at h1
    obtain ⟨rfl, h2, rfl⟩ := h1
    have : k = 0 := by omega
    subst this
    exact ⟨rfl, by simp⟩
  · right
    simp only [Value.slice.injEq] at hv
    obtain ⟨rfl, h5, rfl⟩ := hv
    refine ⟨g, c, cur, by rw [hkl], hg, hh, by omega, h2, h3, ?_⟩
    rw [hkl, Nat.mul_one]
    rw [Nat.mul_one] at h4
    rw [← h4, List.take_take, Nat.min_eq_left (by omega)]
theorem Own.room {w : World} {base : Nat} {T : TypeId} {a : Option Addr} {n c : Nat} {vs : List Value} (h : Own w base T (.slice a n c) vs) : n ≤ c ∧ (c : Int) ≤ 9223372036854775807 ∧ vs.length = n := by
  obtain ⟨a', c', e, h1, _⟩ := h.form
  have hn : vs.length = n := by cases e; rfl
  have hc : vs.length ≤ c := by cases e; exact h1
  refine ⟨by omega, ?_, hn⟩
  rcases h.2 with ⟨h1, _⟩ | ⟨g, cap, cur, hv, _, _, _, h2, _⟩
  · cases h1; decide
  · cases hv; unfold maxLen at h2; omega
theorem made_fill (v : Value) (n : Nat) : madeCells #[v] n = (List.replicate n v).toArray := by
  apply Array.ext'
  refine List.ext_getElem? (fun j => ?_)
  unfold madeCells
  by_cases hj : j < n
  · simp [hj, List.getElem?_replicate, Nat.mod_one]
  · simp [hj, List.getElem?_replicate]

theorem u32_info : ∃ i, Tryz.prog.info? 38 = some i ∧ i.zero = some (.int .u32 0) ∧ i.size = 1 ∧ i.bytes = 4 := one_info (by kernel_rfl)
theorem ints_get {k : IntKind} {zs : List Int} {i : Nat} (h : i < zs.length) : (ints k zs)[i]? = some (.int k (zs.getD i 0)) := by
  simp [ints, List.getElem?_map, List.getElem?_eq_getElem h, List.getD_eq_getElem?_getD]
theorem Rd.int {w : World} {k : IntKind} {a : Option Addr} {zs : List Int} (h : Rd w a (ints k zs)) {i : Nat} (hi : i < zs.length) :
    ∃ b o, a = some ⟨b, o, none⟩ ∧ w.cell? ⟨b, o + i, none⟩ = some (.int k (zs.getD i 0)) := h i _ (ints_get hi)
/-- a slice of pieces, each of four bytes, at g from o on -/
def pieces (g o m : Nat) : List Value := (List.range m).map fun k => .slice (some ⟨g, o + 4 * k, none⟩) 4 4
end Go.Proofs.YtnffigfafalocaaGreatDoor
namespace Go.Proofs.YtnffigfafalocaaGreatDoor
open Go Go.RowKit
set_option linter.unusedSimpArgs false
set_option linter.unusedVariables false

end Go.Proofs.YtnffigfafalocaaGreatDoor
namespace Go.Proofs.YtnffigfafalocaaGreatDoor
open Go Go.RowKit
set_option linter.unusedSimpArgs false
set_option linter.unusedVariables false

end Go.Proofs.YtnffigfafalocaaGreatDoor
namespace Go.Proofs.YtnffigfafalocaaGreatDoor
open Go Go.RowKit
set_option linter.unusedSimpArgs false

end Go.Proofs.YtnffigfafalocaaGreatDoor
namespace Go.Proofs.YtnffigfafalocaaGreatDoor
open Go Go.RowKit
set_option linter.unusedSimpArgs false
set_option linter.unusedVariables false

end Go.Proofs.YtnffigfafalocaaGreatDoor
namespace Go.Proofs.YtnffigfafalocaaGreatDoor
open Go Go.RowKit
set_option linter.unusedSimpArgs false
set_option linter.unusedVariables false

end Go.Proofs.YtnffigfafalocaaGreatDoor
namespace Go.Proofs.YtnffigfafalocaaGreatDoor
open Go Go.RowKit
set_option linter.unusedSimpArgs false
end Go.Proofs.YtnffigfafalocaaGreatDoor
namespace Go.Proofs.YtnffigfafalocaaGreatDoor
open Go Go.RowKit
set_option linter.unusedSimpArgs false
set_option linter.unusedVariables false

section
variable {α : Type} (r b n d : α) (X Y Z : List α)
end
end Go.Proofs.YtnffigfafalocaaGreatDoor
namespace Go.Proofs.YtnffigfafalocaaGreatDoor
open Go Go.RowKit
set_option linter.unusedVariables false

theorem born_own {w w' : World} {T : TypeId} {a : Option Addr} {n c : Nat} {vs : List Value} (t : Touch No w w') (h : Own w' w.heap.size T (.slice a n c) vs) : Born w (Part.sl T a n c vs) w' := by
  obtain ⟨a', c', e, hc, _⟩ := h.form
  cases e
  exact born_sl t (Nat.le_refl _) h hc (Nat.le_refl _)
end Go.Proofs.YtnffigfafalocaaGreatDoor
namespace Go.Proofs.YtnffigfafalocaaGreatDoor
open Go Go.RowKit
set_option linter.unusedSimpArgs false
set_option linter.unusedVariables false

/-- the program's disk, as a part -/
def Part.disk (d : Nat) (D : Dk.Disk) : Part where
  P w O := DiskAt w d D O ∧ ∀ k, O k → k < w.heap.size
  stable := fun {F w w' O} ⟨h1, h2⟩ t hF => ⟨h1.touch t (fun k _ hk => hF k hk), fun k hk => Nat.lt_of_lt_of_le (h2 k hk) t.size⟩
  lt := fun {w O} h => h.2
theorem born_disk {w w' : World} {d : Nat} {D : Dk.Disk} (h : Made w d D w') : Born w (Part.disk d D) w' := by
  obtain ⟨t, O, hO⟩ := h
  exact ⟨t, O, ⟨hO.on, hO.lt⟩, hO.ge⟩
theorem al_disk {w : World} {d : Nat} {D : Dk.Disk} {A : Nat → Prop} (h : Al w [Part.disk d D] A) : ∃ O, Dsk w d D 0 O ∧ ∀ k, O k → A k := by
  obtain ⟨O, _, ⟨h, hl⟩, _, _, h1, _⟩ := h
  exact ⟨O, ⟨h, hl, fun _ _ => Nat.zero_le _⟩, h1⟩
theorem disk_turn {w w' : World} {d : Nat} {D' : Dk.Disk} {O A : Nat → Prop} (hA : ∀ k, O k → A k) (h : After w d D' 0 O w') : TurnsL w A [Part.disk d D'] w' := by
  obtain ⟨t, O', hO, hin⟩ := h
  exact ⟨t.mono (fun k _ hk => hA k hk), O', ⟨O', fun _ => False, ⟨hO.on, hO.lt⟩, trivial, fun _ _ f => f, fun _ h => h, fun _ f => f.elim⟩, fun k hk => (hin k hk).imp (hA k) id⟩
section
variable {w : World} {d : Nat} {D : Dk.Disk} {A : Nat → Prop}
theorem diskWrite_al (h : Al w [Part.disk d D] A) (n : Int) (a : Option Addr) (l c : Nat) (b : List Nat) (hl : b.length = l) (hlt : ∀ x ∈ b, x < 256) (hr : Rd w a (nums .u8 b)) (hw : D.waits.length ≤ 1000000) :
    Calls Tryz.prog 147 #[.pointer (some ⟨d, 0, none⟩), .int .i64 n, .slice a l c] w fun e w' => e = .returned (.int .i64 (Dk.writeR D n b : Nat)) ∧ TurnsL w A [Part.disk d (Dk.writeA D n b)] w' := by
  obtain ⟨O, hO, hA⟩ := al_disk h
  by_cases hc : (0 ≤ n ∧ n < D.seen.length) ∧ b.length ≤ 64
  · rw [Dk.writeR, Dk.writeA, if_pos hc, if_pos hc]
    obtain ⟨m, rfl⟩ : ∃ m : Nat, n = (m : Nat) := ⟨n.toNat, by omega⟩
    exact (write_k w d D 0 O m a l c b (Nat.zero_le _) hO (by omega) hl (by omega) hlt hr hw).mono fun _ _ ⟨he, t⟩ => ⟨he, disk_turn hA t⟩
  · rw [Dk.writeR, Dk.writeA, if_neg hc, if_neg hc]
    exact (write_bad w d D O n a l c hO.on (by
      by_cases h1 : 0 ≤ n ∧ n < D.seen.length
      · exact Or.inr (by
          rcases Nat.lt_or_ge 64 l with h2 | h2
          · exact h2
          · exact absurd ⟨h1, by omega⟩ hc)
      · exact Or.inl h1)).mono fun _ _ ⟨he, e⟩ => ⟨he, e ▸ TurnsL.same h⟩
theorem diskSync_al (h : Al w [Part.disk d D] A) :
    Calls Tryz.prog 146 #[.pointer (some ⟨d, 0, none⟩)] w fun e w' => e = .returned (.int .i64 0) ∧ TurnsL w A [Part.disk d (Dk.sync D)] w' := by
  obtain ⟨O, hO, hA⟩ := al_disk h
  exact (sync_k w d D 0 O (Nat.zero_le _) hO).mono fun _ _ ⟨he, t⟩ => ⟨he, disk_turn hA t⟩
theorem diskRot_al (h : Al w [Part.disk d D] A) (n p : Int) (x : Nat) (hx : x < 256) (hw : D.waits.length ≤ 1000000) :
    Calls Tryz.prog 10 #[.pointer (some ⟨d, 0, none⟩), .int .i64 n, .int .i64 p, .int .u8 (x : Nat)] w fun e w' => e = .returned (.int .i64 (Dk.rotR D n p : Nat)) ∧ TurnsL w A [Part.disk d (Dk.rotA D n p x)] w' := by
  obtain ⟨O, hO, hA⟩ := al_disk h
  by_cases hc : (0 ≤ n ∧ n < D.seen.length) ∧ (0 ≤ p ∧ p < 64)
  · rw [Dk.rotR, Dk.rotA, if_pos hc, if_pos hc]
    obtain ⟨m, rfl⟩ : ∃ m : Nat, n = (m : Nat) := ⟨n.toNat, by omega⟩
    obtain ⟨q, rfl⟩ : ∃ q : Nat, p = (q : Nat) := ⟨p.toNat, by omega⟩
    exact (rot_k w d D 0 O m q x (Nat.zero_le _) hO (by omega) (by omega) hx hw).mono fun _ _ ⟨he, t⟩ => ⟨he, disk_turn hA t⟩
  · rw [Dk.rotR, Dk.rotA, if_neg hc, if_neg hc]
    by_cases h1 : 0 ≤ n ∧ n < D.seen.length
    · exact (rot_bad w d D O n p (x : Nat) hO.on h1 (by omega)).mono fun _ _ ⟨he, e⟩ => ⟨he, e ▸ TurnsL.same h⟩
    · exact (rot_out w d D O n p (x : Nat) hO.on h1).mono fun _ _ ⟨he, e⟩ => ⟨he, e ▸ TurnsL.same h⟩
end
end Go.Proofs.YtnffigfafalocaaGreatDoor
