/-
  Package disks by its own text: Bad.
  Package disks by its own text: Rot.
  Package disks by its own text: what is no sector of the disk: Read, Bad, Rot.
  Package disks by its own text: the contracts once more, with the blocks that are a disk's own (Dsk).
  Package disks by its own text: Read.
  What each call makes of a disk, whatever is asked for. No program in sight.
  What is read of a sector. No program in sight.
  States that stand beside each other, each in blocks of its own. No program in sight.
  States that stand beside each other, as a list that may be put in another order. No program in sight.
  Slices with room of their own, as parts; a book's lists. No program in sight.
  A book: its cells, its lists, what is held. No program in sight.
  Package drydocklaw01 by its own text: a book is told of bytes.
  A book as one part: what it has been told of lies in blocks of its own.
  Package drydocklaw01 by its own text: Book.Bytes.
  Package drydocklaw01 by its own text: a book is told of bytes.
  Package drydocklaw01 by its own text: a book is told of bytes.
  Package drydocklaw01 by its own text: Book.Numbers, Book.Ids.
  A book's lists, grown: what lies behind; append to a slice with its room. No program in sight.
  What the walks of a book's functions share. No program in sight.
  Package drydocklaw01 by its own text: a book's lists of bytes, filled with marks.
  The plain mathematics of roots: numbers as four bytes, sums of bytes, a root's bytes. No program in sight.
-/
import Derived.Test.YtpmkegbgbldpnaaGreatDoorK05
import Derived.StillTailTactics
import Derived.Laws.BitsAllLaws
import Derived.Test.YtpmkegbgbldpnaaGreatDoorK02
import Derived.Test.YtpmkegbgbldpnaaGreatDoorK03
import Derived.Deep.MidRow
import Derived.ArgAppend
import Derived.Laws.OwnMore
import Derived.Test.YtpmkegbgbldpnaaGreatDoorK04
import Derived.Test.YtpmkegbgbldpnaaGreatDoorK01
import Derived.KernelRfl
namespace Go.Proofs.YtpmkegbgbldpnaaGreatDoor
open Go Go.RowKit
set_option linter.unusedSimpArgs false

end Go.Proofs.YtpmkegbgbldpnaaGreatDoor
namespace Go.Proofs.YtpmkegbgbldpnaaGreatDoor
open Go Go.RowKit
set_option linter.unusedSimpArgs false

end Go.Proofs.YtpmkegbgbldpnaaGreatDoor
namespace Go.Proofs.YtpmkegbgbldpnaaGreatDoor
open Go Go.RowKit

end Go.Proofs.YtpmkegbgbldpnaaGreatDoor
namespace Go.Proofs.YtpmkegbgbldpnaaGreatDoor
open Go Go.RowKit

/-- a disk in blocks of its own: O, all from B on -/
structure Dsk (w : World) (d : Nat) (D : Dk.Disk) (B : Nat) (O : Nat → Prop) : Prop where
  on : DiskAt w d D O
  lt : ∀ k, O k → k < w.heap.size
  ge : ∀ k, O k → B ≤ k

theorem DiskAt.tight {w : World} {d : Nat} {D : Dk.Disk} {O : Nat → Prop} (h : DiskAt w d D O) : DiskAt w d D (fun k => O k ∧ k < w.heap.size) := by
  obtain ⟨gs, gn, cs, cn, rs, rn, vw, h, o1, o2, o3, o4⟩ := h
  exact ⟨gs, gn, cs, cn, rs, rn, vw, h, ⟨o1, h.lt⟩, ⟨o2, h.sure.lt⟩, ⟨o3, h.seen.lt⟩, fun k hk => ⟨o4 k hk, (rowBlock h.waits hk).2⟩⟩
theorem Dsk.ok {w : World} {d : Nat} {D : Dk.Disk} {B : Nat} {O : Nat → Prop} (h : Dsk w d D B O) : Dk.Ok D := h.on.ok
theorem Dsk.touch {F : Nat → Prop} {w w' : World} {d : Nat} {D : Dk.Disk} {B : Nat} {O : Nat → Prop} (h : Dsk w d D B O) (t : Touch F w w') (hF : ∀ k, O k → ¬ F k) : Dsk w' d D B O :=
  ⟨h.on.touch t (fun k _ hk => hF k hk), fun k hk => Nat.lt_of_lt_of_le (h.lt k hk) t.size, h.ge⟩
theorem Dsk.no {w w' : World} {d : Nat} {D : Dk.Disk} {B : Nat} {O : Nat → Prop} (h : Dsk w d D B O) (t : Touch No w w') : Dsk w' d D B O := h.touch t (fun _ _ f => f)
/-- what a call of a disk's leaves: the disk, in its blocks or new ones -/
def After (w : World) (d : Nat) (D : Dk.Disk) (B : Nat) (O : Nat → Prop) (w' : World) : Prop :=
  Touch O w w' ∧ ∃ O', Dsk w' d D B O' ∧ ∀ k, O' k → O k ∨ w.heap.size ≤ k
/-- a new disk -/
def Made (w : World) (d : Nat) (D : Dk.Disk) (w' : World) : Prop := Touch No w w' ∧ ∃ O', Dsk w' d D w.heap.size O'

theorem after_of {w w' : World} {d : Nat} {D D' : Dk.Disk} {B : Nat} {O : Nat → Prop} (h : Dsk w d D B O) (hB : B ≤ w.heap.size) (t : Touch O w w') (h' : DiskAt w' d D' (fun k => O k ∨ w.heap.size ≤ k)) : After w d D' B O w' :=
  ⟨t, _, ⟨h'.tight, fun _ hk => hk.2, fun k hk => by
    rcases hk.1 with e | e
    · exact h.ge k e
    · omega⟩, fun _ hk => hk.1⟩
theorem made_of {w w' : World} {d : Nat} {D' : Dk.Disk} (t : Touch No w w') (h' : DiskAt w' d D' (fun k => w.heap.size ≤ k)) : Made w d D' w' :=
  ⟨t, _, h'.tight, fun _ hk => hk.2, fun _ hk => hk.1⟩

theorem new_k (w : World) (n : Nat) (h1 : 1 ≤ n) (hn : n ≤ 16384) :
    Calls Tryz.prog 10 #[.int .i64 (n : Nat)] w fun e w' => ∃ d, e = .returned (.tuple #[.pointer (some ⟨d, 0, none⟩), .int .i64 0]) ∧ Made w d (Dk.new n) w' :=
  (new_is w n h1 hn).mono fun _ _ ⟨d, he, _, h, t⟩ => ⟨d, he, made_of t h⟩
theorem write_k (w : World) (d : Nat) (D : Dk.Disk) (B : Nat) (O : Nat → Prop) (n : Nat) (a : Option Addr) (l c : Nat) (b : List Nat) (hB : B ≤ w.heap.size) (h : Dsk w d D B O) (hn : n < D.seen.length) (hl : b.length = l) (hl64 : l ≤ 64) (hlt : ∀ x ∈ b, x < 256) (hr : Rd w a (nums .u8 b)) (hw : D.waits.length ≤ 1000000) :
    Calls Tryz.prog 12 #[.pointer (some ⟨d, 0, none⟩), .int .i64 (n : Nat), .slice a l c] w fun e w' => e = .returned (.int .i64 0) ∧ After w d (Dk.write D n b) B O w' := by
  subst hl
  exact (write_in w d D O n a c b h.on hn hl64 hlt hr hw).mono fun _ _ ⟨he, t, h'⟩ => ⟨he, after_of h hB t h'⟩
theorem sync_k (w : World) (d : Nat) (D : Dk.Disk) (B : Nat) (O : Nat → Prop) (hB : B ≤ w.heap.size) (h : Dsk w d D B O) :
    Calls Tryz.prog 172 #[.pointer (some ⟨d, 0, none⟩)] w fun e w' => e = .returned (.int .i64 0) ∧ After w d (Dk.sync D) B O w' :=
  (sync_in w d D O h.on).mono fun _ _ ⟨he, t, h'⟩ => ⟨he, after_of h hB t h'⟩
theorem fail_k (w : World) (d : Nat) (D : Dk.Disk) (B : Nat) (O : Nat → Prop) (keep : Nat) (torn : Int) (hk : keep < 18446744073709551616) (h : Dsk w d D B O) (hw : D.waits.length ≤ 1000000) :
    Calls Tryz.prog 25 #[.pointer (some ⟨d, 0, none⟩), .int .u64 (keep : Nat), .int .i64 torn] w fun e w' => ∃ d', e = .returned (.tuple #[.pointer (some ⟨d', 0, none⟩), .int .i64 0]) ∧ Made w d' (Dk.fail D keep torn) w' :=
  (fail_in w d D O keep torn hk h.on hw).mono fun _ _ ⟨d', he, _, h', t⟩ => ⟨d', he, made_of t h'⟩

end Go.Proofs.YtpmkegbgbldpnaaGreatDoor
namespace Go.Proofs.YtpmkegbgbldpnaaGreatDoor
open Go Go.RowKit

theorem byte_is : ∃ i z, TypeIs 5 i z 1 1 [.int .u8 0] := type_is (by kernel_rfl)

set_option maxHeartbeats 2000000 in
theorem clone_bytes (w : World) (g o n c : Nat) (xs : List Nat) (hr : w.rangeAt g o (nums .u8 xs)) (hl : xs.length = n) (hn : n ≤ 16384) :
    Calls Tryz.prog 246 #[.slice (some ⟨g, o, none⟩) n c] w fun e w' => ∃ g' c', e = .returned (.slice (some ⟨g', 0, none⟩) n c') ∧ w.heap.size ≤ g' ∧ Rd w' (some ⟨g', 0, none⟩) (nums .u8 xs) ∧ n ≤ c' ∧ c' ≤ maxLen ∧ Touch No w w' := by
  have hq := fun (w : World) (a : Option Addr) (n c n' c' : Nat) => Lib.run_eql_slice_nil (P := Tryz.prog) w 22 5 a n c n' c' Tryz.underlying22
  obtain ⟨I, z, hI⟩ := byte_is
  have HI := Lib.hid hI
  have H := Lib.hid hr
  have Hl := Lib.hid hl
  have Hn := Lib.hid hn
  clear hr hn hl hI
  go_enter Tryz.func246, Tryz.ntmps246
  go_wp2_with (at_builtin; refine wpList_append_own _ rfl _ _ 22 rfl w.heap.size 5 I z 1 1 Tryz.underlying22 HI.out.info HI.out.zero HI.out.size HI.out.bytes (by rw [HI.out.cells]; rfl) (by decide) _ _ _ rfl (World.ownsRow_made w #[] 0 (Nat.le_refl _) (Nat.zero_le _) (by simp)) ⟨g, o, none⟩ n c (nums .u8 xs) rfl ?qc1 ?qc2 ?qc3 ?qc4 ?qc5 ?qc6 ?_)
  case qc1 => rw [nums_length, Hl.out, Nat.mul_one]
  case qc2 =>
    intro j u hj
    rw [Addr.add_lit]
    exact Lib.cell?_alloc_some _ (H.out j u hj)
  case qc3 => exact nums_one _ _
  case qc4 => have := Hn.out; unfold maxLen; omega
  case qc5 => have := Hn.out; omega
  case qc6 => simp
  intro v' w1 hown hgrow hnil
  have Ho := Lib.hid hown
  have Hg := Lib.hid hgrow
  have Hx := Lib.hid hnil
  clear hown hgrow hnil
  go_wp2
  go_ret
  obtain ⟨g', c', r', rfl, h1, h2, h3, h4⟩ := ownRow Ho.out Hx.out
  refine ⟨g', c', by simp, h1, fun j u hj => ⟨g', 0, rfl, ?_⟩, by simpa using h3, h4, ?_⟩
  · rw [Nat.zero_add, h2.cell]
    have hh : j < (nums .u8 xs).length := by
      by_cases hh : j < (nums .u8 xs).length
      · exact hh
      · rw [List.getElem?_eq_none (by omega)] at hj; cases hj
    rw [List.getElem?_append_left (by simpa using hh)]
    simpa using hj
  · exact ((Touch.refl No w).alloc _).grown Hg.out (by intro k hk hlt; simp [Value.ownBlock] at hk; omega)

set_option maxHeartbeats 400000 in
theorem clip_bytes (w : World) (a : Option Addr) (n c : Nat) (h : n ≤ c) : Calls Tryz.prog 162 #[.slice a n c] w fun e w' => e = .returned (.slice a n n) ∧ w = w' := by
  have hnc : (n : Int) ≤ (c : Int) := by omega
  have h0 : (0 : Int) ≤ (n : Int) := Int.natCast_nonneg _
  go_enter Tryz.func162, Tryz.ntmps162
  go_wp2
  go_ret
  exact ⟨rfl, rfl⟩

/-- what Read answers -/
theorem sec_at (w : World) (gn : Nat) (l : List Dk.Sec) (r : List Value) (hr : Row w gn 117 (l.flatMap secCells ++ r)) (n : Nat) (hn : n < l.length) (j : Nat) (hj : j < 65) : w.cell? ⟨gn, n * 65 + j, none⟩ = (secCells (Dk.at_ l n))[j]? := by
  rw [hr.cell, List.getElem?_append_left (by
    rw [flat_length secCells_length]
    have := Nat.mul_le_mul_right 65 hn
    omega)]
  exact flat_get secCells_length l n j _ (Dk.at_get hn) hj

set_option maxHeartbeats 2000000 in
theorem read_in (w : World) (d : Nat) (D : Dk.Disk) (O : Nat → Prop) (n : Nat) (h : DiskAt w d D O) (hn : n < D.seen.length) (hb : (Dk.at_ D.seen n).bad = 0) :
    Calls Tryz.prog 232 #[.pointer (some ⟨d, 0, none⟩), .int .i64 (n : Nat)] w fun e w' => ∃ g, e = .returned (.tuple #[.slice (some ⟨g, 0, none⟩) 64 64, .int .i64 0]) ∧ w.heap.size ≤ g ∧ Rd w' (some ⟨g, 0, none⟩) (nums .u8 (Dk.at_ D.seen n).b) ∧ Touch No w w' := by
  have H := Lib.hid h
  have e1 : askSays D.seen.length n = 0 := by unfold askSays; rw [if_pos (by omega)]
  have hok := (h.ok.seen _ (Dk.at_mem hn)).b.len
  obtain ⟨gs, gn, cs, cn, rs, rn, vw, Di, _⟩ := h
  have hc1 := Di.c1
  have hlcn := Di.lcn
  have hn' : (n : Int) < (D.seen.length : Nat) := by omega
  have hcb : w.cell? ⟨gn, n * 65 + 64, none⟩ = some (.int .i64 0) := by
    rw [sec_at w gn D.seen rn Di.seen n hn 64 (by decide), sec_bad, hb]; rfl
  have hra : Hid (w.rangeAt gn (n * 65) (nums .u8 (Dk.at_ D.seen n).b)) := fun j v hj => by
    have hj64 : j < 64 := by
      by_cases hh : j < (nums .u8 (Dk.at_ D.seen n).b).length
      · rw [nums_length, hok] at hh; exact hh
      · rw [List.getElem?_eq_none (by omega)] at hj; cases hj
    rw [sec_at w gn D.seen rn Di.seen n hn j (by omega), secCells, bytes_cells hok, List.getElem?_append_left (by rw [nums_length, hok]; exact hj64)]
    exact hj
  have Hok := Lib.hid hok
  clear Di hok hb
  go_enter Tryz.func232, Tryz.ntmps232
  go_wp2_with (first
    | (go_at_call 54; refine (ask_any _ _ _ _ _ H.out).mono ?_; rintro e w' ⟨rfl, rfl⟩; rw [e1])
    | (go_at_call 246; refine (clone_bytes _ gn (n * 65) 64 64 (Dk.at_ D.seen n).b hra.out Hok.out (by decide)).mono ?_; rintro e w1 ⟨g', c', rfl, k1, k2, k3, k4, k5⟩; have K1 := Lib.hid k1; have K2 := Lib.hid k2; have K3 := Lib.hid k3; have K5 := Lib.hid k5; clear k1 k2 k3 k4 k5)
    | (go_at_call 162; refine (clip_bytes _ _ _ _ K3.out).mono ?_; rintro e w2 ⟨rfl, rfl⟩))
  go_ret2
  exact ⟨g', rfl, K1.out, K2.out, K5.out⟩
set_option maxHeartbeats 2000000 in
theorem read_lost (w : World) (d : Nat) (D : Dk.Disk) (O : Nat → Prop) (n : Nat) (h : DiskAt w d D O) (hn : n < D.seen.length) (hb : (Dk.at_ D.seen n).bad = 1) :
    Calls Tryz.prog 232 #[.pointer (some ⟨d, 0, none⟩), .int .i64 (n : Nat)] w fun e w' => e = .returned (.tuple #[.slice none 0 0, .int .i64 12]) ∧ w = w' := by
  have H := Lib.hid h
  have e1 : askSays D.seen.length n = 0 := by unfold askSays; rw [if_pos (by omega)]
  obtain ⟨gs, gn, cs, cn, rs, rn, vw, Di, _⟩ := h
  have hc1 := Di.c1
  have hlcn := Di.lcn
  have hn' : (n : Int) < (D.seen.length : Nat) := by omega
  have hcb : w.cell? ⟨gn, n * 65 + 64, none⟩ = some (.int .i64 1) := by
    rw [sec_at w gn D.seen rn Di.seen n hn 64 (by decide), sec_bad, hb]; rfl
  clear Di hb
  go_enter Tryz.func232, Tryz.ntmps232
  go_wp2_with (go_at_call 54; refine (ask_any _ _ _ _ _ H.out).mono ?_; rintro e w' ⟨rfl, rfl⟩; rw [e1])
  go_ret2
  exact ⟨rfl, rfl⟩
end Go.Proofs.YtpmkegbgbldpnaaGreatDoor
namespace Go.Proofs.YtpmkegbgbldpnaaGreatDoor
open Go Go.RowKit
namespace Dk
def writeA (D : Disk) (n : Int) (b : List Nat) : Disk := if (0 ≤ n ∧ n < D.seen.length) ∧ b.length ≤ 64 then write D n.toNat b else D
def writeR (D : Disk) (n : Int) (b : List Nat) : Nat := if (0 ≤ n ∧ n < D.seen.length) ∧ b.length ≤ 64 then 0 else 1
end Dk
end Go.Proofs.YtpmkegbgbldpnaaGreatDoor
namespace Go.Proofs.YtpmkegbgbldpnaaGreatDoor
open Go Go.RowKit
namespace Dk
def bytesOf (s : Sec) : List Nat := if s.bad = 1 then [] else s.b
def errOf (s : Sec) : Nat := if s.bad = 1 then 12 else 0
theorem bytes_le {s : Sec} (h : s.Ok) : (bytesOf s).length ≤ 64 := by
  unfold bytesOf; split
  · simp
  · rw [h.b.len]; exact Nat.le_refl _
end Dk
end Go.Proofs.YtpmkegbgbldpnaaGreatDoor
namespace Go.Proofs.YtpmkegbgbldpnaaGreatDoor
open Go Go.RowKit
set_option linter.unusedVariables false

/-- what holds of some blocks, whatever becomes of the others -/
structure Part where
  P : World → (Nat → Prop) → Prop
  stable : ∀ {F : Nat → Prop} {w w' : World} {O : Nat → Prop}, P w O → Touch F w w' → (∀ k, O k → ¬ F k) → P w' O
  lt : ∀ {w : World} {O : Nat → Prop}, P w O → ∀ k, O k → k < w.heap.size

/-- a new one -/
def Born (w : World) (p : Part) (w' : World) : Prop := Touch No w w' ∧ ∃ O', p.P w' O' ∧ ∀ k, O' k → w.heap.size ≤ k
section
variable {w0 w w' : World} {l : List Part}
end

/-- a row of cells -/
def Part.row (g : Nat) (T : TypeId) (vs : List Value) : Part where
  P w O := Row w g T vs ∧ O g ∧ ∀ k, O k → k < w.heap.size
  stable := fun {F w w' O} ⟨h, ho, hl⟩ t hF => ⟨h.touch t (hF g ho), ho, fun k hk => Nat.lt_of_lt_of_le (hl k hk) t.size⟩
  lt := fun {w O} h => h.2.2
theorem Born.row (w : World) (T : TypeId) (vs : Array Value) : Born w (.row w.heap.size T vs.toList) (w.alloc (.cells vs T)) :=
  ⟨(Touch.refl No w).alloc _, (fun k => k = w.heap.size), ⟨Row.new w T vs, rfl, fun k hk => by simp; omega⟩, fun k hk => Nat.le_of_eq hk.symm⟩
end Go.Proofs.YtpmkegbgbldpnaaGreatDoor
namespace Go.Proofs.YtpmkegbgbldpnaaGreatDoor
open Go Go.RowKit
set_option linter.unusedVariables false

/-- these, each in blocks of its own, all of which are O's -/
def Al (w : World) : List Part → (Nat → Prop) → Prop
  | [], _ => True
  | p :: l, O => ∃ A B, p.P w A ∧ Al w l B ∧ (∀ k, A k → ¬ B k) ∧ (∀ k, A k → O k) ∧ ∀ k, B k → O k
section
variable {w w' : World} {l m : List Part} {O O' : Nat → Prop}
theorem Al.mono (h : Al w l O) (hO : ∀ k, O k → O' k) : Al w l O' := by
  cases l with
  | nil => trivial
  | cons p l =>
    obtain ⟨A, B, ha, hb, hd, h1, h2⟩ := h
    exact ⟨A, B, ha, hb, hd, fun k hk => hO k (h1 k hk), fun k hk => hO k (h2 k hk)⟩
theorem Al.stable {F : Nat → Prop} (t : Touch F w w') : ∀ {l : List Part} {O : Nat → Prop}, Al w l O → (∀ k, O k → ¬ F k) → Al w' l O
  | [], _, _, _ => trivial
  | p :: l, O, ⟨A, B, ha, hb, hd, h1, h2⟩, hF => ⟨A, B, p.stable ha t (fun k hk => hF k (h1 k hk)), Al.stable t hb (fun k hk => hF k (h2 k hk)), hd, h1, h2⟩
theorem Al.no (t : Touch No w w') (h : Al w l O) : Al w' l O := Al.stable t h (fun _ _ f => f)
/-- no more blocks than there are -/
theorem Al.cut : ∀ {l : List Part} {O : Nat → Prop}, Al w l O → Al w l (fun k => O k ∧ k < w.heap.size)
  | [], _, _ => trivial
  | p :: l, O, ⟨A, B, ha, hb, hd, h1, h2⟩ => ⟨A, _, ha, Al.cut hb, fun k hk h => hd k hk h.1, fun k hk => ⟨h1 k hk, p.lt ha k hk⟩, fun k hk => ⟨h2 k hk.1, hk.2⟩⟩
theorem Al.append : ∀ {l m : List Part} {O : Nat → Prop}, Al w (l ++ m) O → ∃ A B, Al w l A ∧ Al w m B ∧ (∀ k, A k → ¬ B k) ∧ (∀ k, A k → O k) ∧ ∀ k, B k → O k
  | [], m, O, h => ⟨fun _ => False, O, trivial, h, fun _ f => f.elim, fun _ f => f.elim, fun _ h => h⟩
  | p :: l, m, O, ⟨A, B, ha, hb, hd, h1, h2⟩ => by
    obtain ⟨C, D, hc, hdd, hcd, h3, h4⟩ := Al.append hb
    refine ⟨fun k => A k ∨ C k, D, ⟨A, C, ha, hc, fun k hk h => hd k hk (h3 k h), fun k => Or.inl, fun k => Or.inr⟩, hdd, fun k hk h => ?_, fun k hk => ?_, fun k hk => h2 k (h4 k hk)⟩
    · rcases hk with hk | hk
      · exact hd k hk (h4 k h)
      · exact hcd k hk h
    · rcases hk with hk | hk
      · exact h1 k hk
      · exact h2 k (h3 k hk)
theorem Al.join : ∀ {l m : List Part} {A B O : Nat → Prop}, Al w l A → Al w m B → (∀ k, A k → ¬ B k) → (∀ k, A k → O k) → (∀ k, B k → O k) → Al w (l ++ m) O
  | [], m, A, B, O, _, hb, _, _, h2 => hb.mono h2
  | p :: l, m, A, B, O, ⟨C, D, hc, hd, hcd, h3, h4⟩, hb, hdis, h1, h2 => by
    refine ⟨C, fun k => D k ∨ B k, hc, Al.join hd hb (fun k hk => hdis k (h4 k hk)) (fun k => Or.inl) (fun k => Or.inr), fun k hk h => ?_, fun k hk => h1 k (h3 k hk), fun k hk => ?_⟩
    · rcases h with h | h
      · exact hcd k hk h
      · exact hdis k (h3 k hk) h
    · rcases hk with hk | hk
      · exact h1 k (h4 k hk)
      · exact h2 k hk
theorem Al.perm (h : l.Perm m) : ∀ {O : Nat → Prop}, Al w l O → Al w m O := by
  induction h with
  | nil => intro O h; exact h
  | cons p _ ih => rintro O ⟨A, B, ha, hb, hd, h1, h2⟩; exact ⟨A, B, ha, ih hb, hd, h1, h2⟩
  | swap p q l =>
    rintro O ⟨A, B, ha, ⟨C, D, hc, hdd, hcd, h3, h4⟩, hd, h1, h2⟩
    refine ⟨C, fun k => A k ∨ D k, hc, ⟨A, D, ha, hdd, fun k hk h => hd k hk (h4 k h), fun k => Or.inl, fun k => Or.inr⟩, fun k hk h => ?_, fun k hk => h2 k (h3 k hk), fun k hk => ?_⟩
    · rcases h with h | h
      · exact hd k h (h3 k hk)
      · exact hcd k hk h
    · rcases hk with hk | hk
      · exact h1 k hk
      · exact h2 k (h4 k hk)
  | trans _ _ ih1 ih2 => intro O h; exact ih2 (ih1 h)
theorem Al.head {p : Part} (h : Al w (p :: l) O) : ∃ A, p.P w A ∧ ∀ k, A k → O k := by
  obtain ⟨A, B, ha, _, _, h1, _⟩ := h
  exact ⟨A, ha, h1⟩
theorem Al.tail {p : Part} (h : Al w (p :: l) O) : Al w l O := by
  obtain ⟨A, B, _, hb, _, _, h2⟩ := h
  exact hb.mono h2
theorem Al.mem {p : Part} : ∀ {l : List Part} {O : Nat → Prop}, Al w l O → p ∈ l → ∃ A, p.P w A ∧ ∀ k, A k → O k
  | q :: l, O, h, hp => by
    rcases List.mem_cons.1 hp with rfl | hp
    · exact h.head
    · exact Al.mem h.tail hp
end

/-- in their blocks, and in new ones, these became those -/
def TurnsL (w : World) (O : Nat → Prop) (l' : List Part) (w' : World) : Prop := Touch O w w' ∧ ∃ O', Al w' l' O' ∧ ∀ k, O' k → O k ∨ w.heap.size ≤ k
theorem TurnsL.same {w : World} {O : Nat → Prop} {l : List Part} (h : Al w l O) : TurnsL w O l w := ⟨Touch.refl _ _, O, h, fun _ h => Or.inl h⟩
/-- .. whatever stands beside them -/
theorem Al.frame {w : World} {l m : List Part} {O : Nat → Prop} (h : Al w (l ++ m) O) : ∃ A, Al w l A ∧ (∀ k, A k → O k) ∧ ∀ w' l', TurnsL w A l' w' → TurnsL w O (l' ++ m) w' := by
  obtain ⟨A, B, ha, hb, hd, h1, h2⟩ := h.append
  refine ⟨A, ha, h1, fun w' l' ht => ?_⟩
  obtain ⟨t, A', ha', hin⟩ := ht
  refine ⟨t.mono (fun k _ hk => h1 k hk), fun k => A' k ∨ (B k ∧ k < w.heap.size), Al.join ha' (Al.stable t hb.cut (fun k hk f => hd k f hk.1)) (fun k hk hB => ?_) (fun k => Or.inl) (fun k => Or.inr), fun k hk => ?_⟩
  · rcases hin k hk with h | h
    · exact hd k h hB.1
    · have := hB.2
      omega
  · rcases hk with hk | hk
    · exact (hin k hk).imp (h1 k) id
    · exact Or.inl (h2 k hk.1)
/-- these, made since w0 -/
def Sl (w0 w : World) (l : List Part) : Prop := ∃ O, Al w l O ∧ (∀ k, O k → w0.heap.size ≤ k ∧ k < w.heap.size) ∧ Touch No w0 w
section
variable {w0 w w' : World} {l m : List Part}
theorem Sl.end (h : Sl w0 w l) : Touch No w0 w := by obtain ⟨O, _, _, t⟩ := h; exact t
theorem Sl.nil (t : Touch No w0 w) : Sl w0 w [] := ⟨fun _ => False, trivial, fun _ f => f.elim, t⟩
theorem Sl.no (h : Sl w0 w l) (t : Touch No w w') : Sl w0 w' l := by
  obtain ⟨O, h1, h2, t0⟩ := h
  exact ⟨O, h1.no t, fun k hk => ⟨(h2 k hk).1, Nat.lt_of_lt_of_le (h2 k hk).2 t.size⟩, t0.trans t⟩
theorem Sl.perm (h : Sl w0 w l) (hp : l.Perm m) : Sl w0 w m := by
  obtain ⟨O, h1, h2, t0⟩ := h
  exact ⟨O, h1.perm hp, h2, t0⟩
theorem Sl.mem (h : Sl w0 w l) {p : Part} (hp : p ∈ l) : ∃ A, p.P w A ∧ ∀ k, A k → w0.heap.size ≤ k ∧ k < w.heap.size := by
  obtain ⟨O, h1, h2, _⟩ := h
  obtain ⟨A, ha, hA⟩ := h1.mem hp
  exact ⟨A, ha, fun k hk => h2 k (hA k hk)⟩
theorem Sl.frame (h : Sl w0 w (l ++ m)) : ∃ A, Al w l A ∧ (∀ k, A k → w0.heap.size ≤ k ∧ k < w.heap.size) ∧ ∀ w' l', TurnsL w A l' w' → Sl w0 w' (l' ++ m) := by
  obtain ⟨O, h1, h2, t0⟩ := h
  obtain ⟨A, ha, hA, hf⟩ := h1.frame
  refine ⟨A, ha, fun k hk => h2 k (hA k hk), fun w' l' ht => ?_⟩
  obtain ⟨t, O', hO', hin⟩ := hf w' l' ht
  refine ⟨_, hO'.cut, fun k hk => ⟨?_, hk.2⟩, t0.then t (fun i hi f => absurd hi (Nat.not_lt.2 (h2 i f).1))⟩
  rcases hin k hk.1 with h | h
  · exact (h2 k h).1
  · exact Nat.le_trans t0.size h
theorem Sl.push (h : Sl w0 w l) {p : Part} (b : Born w p w') : Sl w0 w' (p :: l) := by
  obtain ⟨O, h1, h2, t0⟩ := h
  obtain ⟨t, A, ha, hge⟩ := b
  have hs := t.size
  refine ⟨fun k => A k ∨ O k, ⟨A, O, ha, h1.no t, fun k hk ho => ?_, fun k => Or.inl, fun k => Or.inr⟩, fun k hk => ?_, t0.trans t⟩
  · have := hge k hk
    have := (h2 k ho).2
    omega
  · rcases hk with hk | hk
    · exact ⟨Nat.le_trans t0.size (hge k hk), p.lt ha k hk⟩
    · exact ⟨(h2 k hk).1, Nat.lt_of_lt_of_le (h2 k hk).2 hs⟩
theorem Sl.drop {p : Part} (h : Sl w0 w (p :: l)) : Sl w0 w l := by
  obtain ⟨O, h1, h2, t0⟩ := h
  exact ⟨O, h1.tail, h2, t0⟩
end
end Go.Proofs.YtpmkegbgbldpnaaGreatDoor
namespace Go.Proofs.YtpmkegbgbldpnaaGreatDoor
open Go Go.RowKit
set_option linter.unusedVariables false

/-- room for cap cells at a -/
def RoomAt (w : World) (T : TypeId) (a : Option Addr) (cap : Nat) (vs : List Value) (O : Nat → Prop) : Prop :=
  cap = 0 ∨ ∃ g o cs, a = some ⟨g, o, none⟩ ∧ w.heap[g]? = some (.cells cs T (0, 0)) ∧ o + cap ≤ cs.size ∧ O g ∧ ∀ (i : Nat) v, vs[i]? = some v → cs[o + i]? = some v
/-- a slice with its room, that reads so -/
def Part.sl (T : TypeId) (a : Option Addr) (n cap : Nat) (vs : List Value) : Part where
  P w O := vs.length = n ∧ n ≤ cap ∧ cap ≤ maxLen ∧ (∀ k, O k → k < w.heap.size) ∧ RoomAt w T a cap vs O
  stable := fun {F w w' O} ⟨h1, h2, h3, h4, h5⟩ t hF => ⟨h1, h2, h3, fun k hk => Nat.lt_of_lt_of_le (h4 k hk) t.size, by
    rcases h5 with h5 | ⟨g, o, cs, ha, hg, hc, hO, hv⟩
    · exact Or.inl h5
    · exact Or.inr ⟨g, o, cs, ha, by rw [t.block g (h4 g hO) (hF g hO)]; exact hg, hc, hO, hv⟩⟩
  lt := fun {w O} h => h.2.2.2.1
section
variable {w w' : World} {T : TypeId} {a : Option Addr} {n cap : Nat} {vs : List Value} {O : Nat → Prop}
theorem sl_len (h : (Part.sl T a n cap vs).P w O) : vs.length = n ∧ n ≤ cap ∧ cap ≤ maxLen := ⟨h.1, h.2.1, h.2.2.1⟩
theorem sl_rd (h : (Part.sl T a n cap vs).P w O) : Rd w a vs := by
  obtain ⟨h1, h2, h3, h4, h5⟩ := h
  intro i v hi
  have hlt : i < vs.length := by
    rcases Nat.lt_or_ge i vs.length with h | h
    · exact h
    · rw [List.getElem?_eq_none h] at hi; cases hi
  rcases h5 with h5 | ⟨g, o, cs, rfl, hg, hc, hO, hv⟩
  · omega
  · exact ⟨g, o, rfl, by simp only [World.cell?, hg]; simpa using hv i v hi⟩
/-- new memory of a call's own -/
theorem born_sl {base c : Nat} (t : Touch No w w') (hb : w.heap.size ≤ base) (h : Own w' base T (.slice a n c) vs) (hc : n ≤ cap) (hc' : cap ≤ c) : Born w (.sl T a n cap vs) w' := by
  obtain ⟨hl, h⟩ := h
  rcases h with ⟨hv, h0⟩ | ⟨g, cp, cur, hv, hg, hh, hn, hm, hs, ht⟩
  · cases hv
    exact ⟨t, fun _ => False, ⟨h0, hc, by omega, fun _ f => f.elim, Or.inl (by omega)⟩, fun _ f => f.elim⟩
  · cases hv
    have hgs : g < w'.heap.size := (Array.getElem?_eq_some_iff.1 hh).1
    refine ⟨t, fun k => k = g, ⟨by omega, hc, by omega, fun k hk => by rw [hk]; exact hgs, Or.inr ⟨g, 0, cur, rfl, hh, by omega, rfl, fun i v hi => ?_⟩⟩, fun k hk => by rw [hk]; omega⟩
    rw [← ht, List.getElem?_take] at hi
    split at hi
    · rw [Nat.zero_add]; simpa using hi
    · cases hi
end
end Go.Proofs.YtpmkegbgbldpnaaGreatDoor
namespace Go.Proofs.YtpmkegbgbldpnaaGreatDoor
open Go Go.RowKit
set_option linter.unusedVariables false

/-- a list that a book holds, and its number -/
structure HE where
  a : Option Addr
  n : Nat
  c : Nat
  k : Nat
def nilSl : Value := .slice none 0 0
end Go.Proofs.YtpmkegbgbldpnaaGreatDoor
namespace Go.Proofs.YtpmkegbgbldpnaaGreatDoor
open Go Go.RowKit
set_option linter.unusedSimpArgs false

end Go.Proofs.YtpmkegbgbldpnaaGreatDoor
namespace Go.Proofs.YtpmkegbgbldpnaaGreatDoor
open Go Go.RowKit
set_option linter.unusedVariables false

end Go.Proofs.YtpmkegbgbldpnaaGreatDoor
namespace Go.Proofs.YtpmkegbgbldpnaaGreatDoor
open Go Go.RowKit
set_option linter.unusedSimpArgs false

end Go.Proofs.YtpmkegbgbldpnaaGreatDoor
namespace Go.Proofs.YtpmkegbgbldpnaaGreatDoor
open Go Go.RowKit
set_option linter.unusedSimpArgs false

end Go.Proofs.YtpmkegbgbldpnaaGreatDoor
namespace Go.Proofs.YtpmkegbgbldpnaaGreatDoor
open Go Go.RowKit
set_option linter.unusedSimpArgs false

end Go.Proofs.YtpmkegbgbldpnaaGreatDoor
namespace Go.Proofs.YtpmkegbgbldpnaaGreatDoor
open Go Go.RowKit
set_option linter.unusedSimpArgs false

end Go.Proofs.YtpmkegbgbldpnaaGreatDoor
namespace Go.Proofs.YtpmkegbgbldpnaaGreatDoor
open Go Go.RowKit
set_option linter.unusedVariables false

theorem rd_lt {w : World} {g o : Nat} {vs : List Value} (h : Rd w (some ⟨g, o, none⟩) vs) (hv : 0 < vs.length) : g < w.heap.size := by
  obtain ⟨b, o', e, hc⟩ := h 0 vs[0] (List.getElem?_eq_getElem hv)
  cases e
  exact lt_of_cell hc
end Go.Proofs.YtpmkegbgbldpnaaGreatDoor
namespace Go.Proofs.YtpmkegbgbldpnaaGreatDoor
open Go Go.RowKit
set_option linter.unusedVariables false

end Go.Proofs.YtpmkegbgbldpnaaGreatDoor
namespace Go.Proofs.YtpmkegbgbldpnaaGreatDoor
open Go Go.RowKit
set_option linter.unusedSimpArgs false

end Go.Proofs.YtpmkegbgbldpnaaGreatDoor
namespace Go.Proofs.YtpmkegbgbldpnaaGreatDoor
open Go Go.RowKit
namespace Rt

/-! ### four bytes -/
def four (n : Nat) : List Nat := [n % 256, n / 256 % 256, n / 65536 % 256, n / 16777216 % 256]
def unfour (b : List Nat) : Nat := b.getD 0 0 + 256 * b.getD 1 0 + 65536 * b.getD 2 0 + 16777216 * b.getD 3 0
theorem four_length (n : Nat) : (four n).length = 4 := rfl
theorem four_lt (n : Nat) : ∀ x ∈ four n, x < 256 := by
  intro x hx
  simp only [four, List.mem_cons, List.not_mem_nil, or_false] at hx
  omega
theorem unfour_four {n : Nat} (h : n < 4294967296) : unfour (four n) = n := by
  simp [unfour, four]; omega
theorem unfour_lt {b : List Nat} (h : ∀ x ∈ b, x < 256) : unfour b < 4294967296 := by
  have hb : ∀ i, b.getD i 0 < 256 := fun i => by
    rw [List.getD_eq_getElem?_getD]
    cases hq : b[i]? with
    | none => simp
    | some z => exact h z (List.mem_of_getElem? hq)
  have h0 := hb 0
  have h1 := hb 1
  have h2 := hb 2
  have h3 := hb 3
  unfold unfour; omega

/-! ### sums -/
def half1 (r : Nat) : Nat := if r % 2 = 1 then r / 2 ^^^ 3988292384 else r / 2
def halves : Nat → Nat → Nat
  | 0, r => r
  | k + 1, r => halves k (half1 r)
theorem halves_succ : ∀ (k r : Nat), halves (k + 1) r = half1 (halves k r)
  | 0, _ => rfl
  | k + 1, r => by rw [halves, halves_succ k, halves]
def tab (n : Nat) : Nat := halves 8 n
theorem half1_lt {r : Nat} (h : r < 4294967296) : half1 r < 4294967296 := by
  unfold half1
  split
  · exact Nat.xor_lt_two_pow (n := 32) (by omega) (by decide)
  · omega
theorem halves_lt : ∀ (k : Nat) {r : Nat}, r < 4294967296 → halves k r < 4294967296
  | 0, _, h => h
  | k + 1, _, h => halves_lt k (half1_lt h)
theorem tab_lt {n : Nat} (h : n < 256) : tab n < 4294967296 := halves_lt 8 (by omega)
def step (r c : Nat) : Nat := tab (r % 256 ^^^ c) ^^^ r / 256
def neg (r : Nat) : Nat := 4294967295 - r
def run (r : Nat) : List Nat → Nat
  | [] => r
  | c :: b => run (step r c) b
def on (sum : Nat) (b : List Nat) : Nat := neg (run (neg sum) b)
def of (b : List Nat) : Nat := on 0 b
theorem run_append : ∀ (a b : List Nat) (r : Nat), run r (a ++ b) = run (run r a) b
  | [], _, _ => rfl
  | c :: a, b, r => run_append a b (step r c)
theorem idx_lt {r c : Nat} (h : c < 256) : r % 256 ^^^ c < 256 := Nat.xor_lt_two_pow (n := 8) (by omega) h
theorem step_lt {r c : Nat} (hr : r < 4294967296) (hc : c < 256) : step r c < 4294967296 :=
  Nat.xor_lt_two_pow (n := 32) (tab_lt (idx_lt hc)) (by omega)
theorem run_lt : ∀ (b : List Nat) {r : Nat}, r < 4294967296 → (∀ x ∈ b, x < 256) → run r b < 4294967296
  | [], _, h, _ => h
  | c :: b, _, h, hb => run_lt b (step_lt h (hb c (by simp))) (fun x hx => hb x (by simp [hx]))
theorem neg_lt (r : Nat) : neg r < 4294967296 := by unfold neg; omega
theorem on_lt {sum : Nat} {b : List Nat} : on sum b < 4294967296 := neg_lt _
theorem of_lt {b : List Nat} : of b < 4294967296 := neg_lt _

/-- the highest bytes of the table are all unlike -/
def tops : List Nat := (List.range 256).map (fun i => tab i / 16777216)
theorem tops_nodup : tops.Nodup := of_decide_eq_true (by kernel_rfl)
theorem tops_inj {i j : Nat} (hi : i < 256) (hj : j < 256) (h : tab i / 16777216 = tab j / 16777216) : i = j := by
  have li : i < tops.length := by simp [tops]; exact hi
  have lj : j < tops.length := by simp [tops]; exact hj
  refine (List.getElem_inj (h₀ := li) (h₁ := lj) tops_nodup).1 ?_
  simpa [tops] using h
theorem xor_top {a b : Nat} (hb : b < 16777216) : (a ^^^ b) / 16777216 = a / 16777216 := by
  have e : (16777216 : Nat) = 2 ^ 24 := rfl
  rw [e] at hb ⊢
  rw [← Nat.shiftRight_eq_div_pow, ← Nat.shiftRight_eq_div_pow, Nat.shiftRight_xor_distrib, Nat.shiftRight_eq_div_pow b, Nat.div_eq_of_lt hb, Nat.xor_zero]
theorem xor_cancel {a b c : Nat} (h : a ^^^ b = a ^^^ c) : b = c := by
  have := congrArg (fun x => a ^^^ x) h
  simpa [← Nat.xor_assoc] using this
theorem step_idx {r r' c c' : Nat} (hr : r < 4294967296) (hr' : r' < 4294967296) (hc : c < 256) (hc' : c' < 256) (h : step r c = step r' c') : r % 256 ^^^ c = r' % 256 ^^^ c' := by
  refine tops_inj (idx_lt hc) (idx_lt hc') ?_
  have h1 := xor_top (a := tab (r % 256 ^^^ c)) (b := r / 256) (by omega)
  have h2 := xor_top (a := tab (r' % 256 ^^^ c')) (b := r' / 256) (by omega)
  rw [← h1, ← h2]
  exact congrArg (fun x => x / 16777216) h
theorem step_inj {r r' c : Nat} (hr : r < 4294967296) (hr' : r' < 4294967296) (hc : c < 256) (h : step r c = step r' c) : r = r' := by
  have hi := step_idx hr hr' hc hc h
  have h1 : r % 256 = r' % 256 := by
    rw [Nat.xor_comm, Nat.xor_comm (r' % 256)] at hi
    exact xor_cancel hi
  unfold step at h
  rw [hi] at h
  have h2 := xor_cancel h
  omega
theorem run_inj : ∀ (b : List Nat) {r r' : Nat}, r < 4294967296 → r' < 4294967296 → (∀ x ∈ b, x < 256) → run r b = run r' b → r = r'
  | [], _, _, _, _, _, h => h
  | c :: b, _, _, hr, hr', hb, h => by
    have hc := hb c (by simp)
    exact step_inj hr hr' hc (run_inj b (step_lt hr hc) (step_lt hr' hc) (fun x hx => hb x (by simp [hx])) h)
theorem neg_inj {a b : Nat} (ha : a < 4294967296) (hb : b < 4294967296) (h : neg a = neg b) : a = b := by unfold neg at h; omega
theorem on_append (sum : Nat) (a b : List Nat) (_hs : sum < 4294967296) (ha : ∀ x ∈ a, x < 256) : on (on sum a) b = on sum (a ++ b) := by
  have hr := run_lt a (neg_lt sum) ha
  unfold on
  rw [run_append]
  congr 2
  unfold neg at hr ⊢; omega

/-! ### a root's bytes -/
structure Root where
  epoch : Nat
  first : Nat
  bytes : Nat
structure Root.Ok (r : Root) : Prop where
  epoch : r.epoch < 4294967296
  first : r.first < 4294967296
  bytes : r.bytes < 4294967296
def mark : List Nat := [82, 79, 79, 84]
def head (r : Root) : List Nat := mark ++ four r.epoch ++ four r.first ++ four r.bytes
def put (r : Root) : List Nat := head r ++ four (of (head r)) ++ List.replicate 44 0
theorem head_length (r : Root) : (head r).length = 16 := rfl
theorem put_length (r : Root) : (put r).length = 64 := rfl
theorem head_lt (r : Root) : ∀ x ∈ head r, x < 256 := by
  intro x hx
  simp only [head, List.mem_append] at hx
  rcases hx with ((h | h) | h) | h
  · simp only [mark, List.mem_cons, List.not_mem_nil, or_false] at h; omega
  · exact four_lt _ x h
  · exact four_lt _ x h
  · exact four_lt _ x h
theorem put_lt (r : Root) : ∀ x ∈ put r, x < 256 := by
  intro x hx
  simp only [put, List.mem_append] at hx
  rcases hx with (h | h) | h
  · exact head_lt r x h
  · exact four_lt _ x h
  · have := (List.mem_replicate.1 h).2; omega

/-- what Get says of bytes: 0 and the root, or an error: 4 (form), 11 (sum) -/
def nought (b : List Nat) : Bool := b.all (· == 0)
def errOf (b : List Nat) : Nat := if b.length = 64 ∧ b.take 4 = mark ∧ nought (b.drop 20) = true then (if of (b.take 16) = unfour ((b.drop 16).take 4) then 0 else 11) else 4
def rootOf (b : List Nat) : Root := if errOf b = 0 then ⟨unfour ((b.drop 4).take 4), unfour ((b.drop 8).take 4), unfour ((b.drop 12).take 4)⟩ else ⟨0, 0, 0⟩
theorem put_err (r : Root) : errOf (put r) = 0 := by
  have h1 : (put r).take 4 = mark := rfl
  have h2 : nought ((put r).drop 20) = true := rfl
  have h3 : (put r).take 16 = head r := rfl
  have h4 : ((put r).drop 16).take 4 = four (of (head r)) := rfl
  rw [errOf, if_pos ⟨put_length r, h1, h2⟩, h3, h4, unfour_four of_lt, if_pos rfl]
theorem put_root {r : Root} (h : r.Ok) : rootOf (put r) = r := by
  rw [rootOf, if_pos (put_err r)]
  have h1 : ((put r).drop 4).take 4 = four r.epoch := rfl
  have h2 : ((put r).drop 8).take 4 = four r.first := rfl
  have h3 : ((put r).drop 12).take 4 = four r.bytes := rfl
  rw [h1, h2, h3, unfour_four h.epoch, unfour_four h.first, unfour_four h.bytes]

/-! ### one byte turned -/
end Rt
end Go.Proofs.YtpmkegbgbldpnaaGreatDoor
