/-
  Package disks by its own text: Bad.
  Package disks by its own text: Rot.
  Package disks by its own text: what is no sector of the disk: Read, Bad, Rot.
  Package disks by its own text: the contracts once more, with the blocks that are a disk's own (Dsk).
  Package disks by its own text: Read.
  What each call makes of a disk, whatever is asked for. No program in sight.
  What is read of a sector. No program in sight.
  States that stand beside each other, each in blocks of its own. No program in sight.
  States that stand beside each other, as a list that may be put in another order. No program in sight.
  Slices with room of their own, as parts; a book's lists. No program in sight.
  A book: its cells, its lists, what is held. No program in sight.
  Package drydocklaw01 by its own text: a book is told of bytes.
  A book as one part: what it has been told of lies in blocks of its own.
  Package drydocklaw01 by its own text: Book.Bytes.
-/
import Derived.Test.YtpmkegbgbldpnaaGreatDoorK04
import Derived.StillTailTactics
import Derived.Laws.BitsAllLaws
import Derived.Test.YtpmkegbgbldpnaaGreatDoorK02
import Derived.Deep.MidRow
import Derived.ArgAppend
import Derived.Laws.OwnMore
import Derived.Test.YtpmkegbgbldpnaaGreatDoorK03
namespace Go.Proofs.YtpmkegbgbldpnaaGreatDoor
open Go Go.RowKit
set_option linter.unusedSimpArgs false

end Go.Proofs.YtpmkegbgbldpnaaGreatDoor
namespace Go.Proofs.YtpmkegbgbldpnaaGreatDoor
open Go Go.RowKit
set_option linter.unusedSimpArgs false

end Go.Proofs.YtpmkegbgbldpnaaGreatDoor
namespace Go.Proofs.YtpmkegbgbldpnaaGreatDoor
open Go Go.RowKit

end Go.Proofs.YtpmkegbgbldpnaaGreatDoor
namespace Go.Proofs.YtpmkegbgbldpnaaGreatDoor
open Go Go.RowKit

/-- a disk in blocks of its own: O, all from B on -/
structure Dsk (w : World) (d : Nat) (D : Dk.Disk) (B : Nat) (O : Nat → Prop) : Prop where
  on : DiskAt w d D O
  lt : ∀ k, O k → k < w.heap.size
  ge : ∀ k, O k → B ≤ k

theorem DiskAt.tight {w : World} {d : Nat} {D : Dk.Disk} {O : Nat → Prop} (h : DiskAt w d D O) : DiskAt w d D (fun k => O k ∧ k < w.heap.size) := by
  obtain ⟨gs, gn, cs, cn, rs, rn, vw, h, o1, o2, o3, o4⟩ := h
  exact ⟨gs, gn, cs, cn, rs, rn, vw, h, ⟨o1, h.lt⟩, ⟨o2, h.sure.lt⟩, ⟨o3, h.seen.lt⟩, fun k hk => ⟨o4 k hk, (rowBlock h.waits hk).2⟩⟩
theorem DiskAt.mono {w : World} {d : Nat} {D : Dk.Disk} {O O' : Nat → Prop} (h : DiskAt w d D O) (hO : ∀ k, O k → O' k) : DiskAt w d D O' := by
  obtain ⟨gs, gn, cs, cn, rs, rn, vw, h, o1, o2, o3, o4⟩ := h
  exact ⟨gs, gn, cs, cn, rs, rn, vw, h, hO _ o1, hO _ o2, hO _ o3, fun k hk => hO _ (o4 k hk)⟩
theorem Dsk.ok {w : World} {d : Nat} {D : Dk.Disk} {B : Nat} {O : Nat → Prop} (h : Dsk w d D B O) : Dk.Ok D := h.on.ok
theorem Dsk.touch {F : Nat → Prop} {w w' : World} {d : Nat} {D : Dk.Disk} {B : Nat} {O : Nat → Prop} (h : Dsk w d D B O) (t : Touch F w w') (hF : ∀ k, O k → ¬ F k) : Dsk w' d D B O :=
  ⟨h.on.touch t (fun k _ hk => hF k hk), fun k hk => Nat.lt_of_lt_of_le (h.lt k hk) t.size, h.ge⟩
theorem Dsk.no {w w' : World} {d : Nat} {D : Dk.Disk} {B : Nat} {O : Nat → Prop} (h : Dsk w d D B O) (t : Touch No w w') : Dsk w' d D B O := h.touch t (fun _ _ f => f)
theorem Dsk.base {w : World} {d : Nat} {D : Dk.Disk} {B B' : Nat} {O : Nat → Prop} (h : Dsk w d D B O) (hB : B' ≤ B) : Dsk w d D B' O := ⟨h.on, h.lt, fun k hk => Nat.le_trans hB (h.ge k hk)⟩

/-- what a call of a disk's leaves: the disk, in its blocks or new ones -/
def After (w : World) (d : Nat) (D : Dk.Disk) (B : Nat) (O : Nat → Prop) (w' : World) : Prop :=
  Touch O w w' ∧ ∃ O', Dsk w' d D B O' ∧ ∀ k, O' k → O k ∨ w.heap.size ≤ k
/-- a new disk -/
def Made (w : World) (d : Nat) (D : Dk.Disk) (w' : World) : Prop := Touch No w w' ∧ ∃ O', Dsk w' d D w.heap.size O'

theorem after_of {w w' : World} {d : Nat} {D D' : Dk.Disk} {B : Nat} {O : Nat → Prop} (h : Dsk w d D B O) (hB : B ≤ w.heap.size) (t : Touch O w w') (h' : DiskAt w' d D' (fun k => O k ∨ w.heap.size ≤ k)) : After w d D' B O w' :=
  ⟨t, _, ⟨h'.tight, fun _ hk => hk.2, fun k hk => by
    rcases hk.1 with e | e
    · exact h.ge k e
    · omega⟩, fun _ hk => hk.1⟩
theorem made_of {w w' : World} {d : Nat} {D' : Dk.Disk} (t : Touch No w w') (h' : DiskAt w' d D' (fun k => w.heap.size ≤ k)) : Made w d D' w' :=
  ⟨t, _, h'.tight, fun _ hk => hk.2, fun _ hk => hk.1⟩

theorem new_k (w : World) (n : Nat) (h1 : 1 ≤ n) (hn : n ≤ 16384) :
    Calls Tryz.prog 10 #[.int .i64 (n : Nat)] w fun e w' => ∃ d, e = .returned (.tuple #[.pointer (some ⟨d, 0, none⟩), .int .i64 0]) ∧ Made w d (Dk.new n) w' :=
  (new_is w n h1 hn).mono fun _ _ ⟨d, he, _, h, t⟩ => ⟨d, he, made_of t h⟩
theorem write_k (w : World) (d : Nat) (D : Dk.Disk) (B : Nat) (O : Nat → Prop) (n : Nat) (a : Option Addr) (l c : Nat) (b : List Nat) (hB : B ≤ w.heap.size) (h : Dsk w d D B O) (hn : n < D.seen.length) (hl : b.length = l) (hl64 : l ≤ 64) (hlt : ∀ x ∈ b, x < 256) (hr : Rd w a (nums .u8 b)) (hw : D.waits.length ≤ 1000000) :
    Calls Tryz.prog 12 #[.pointer (some ⟨d, 0, none⟩), .int .i64 (n : Nat), .slice a l c] w fun e w' => e = .returned (.int .i64 0) ∧ After w d (Dk.write D n b) B O w' := by
  subst hl
  exact (write_in w d D O n a c b h.on hn hl64 hlt hr hw).mono fun _ _ ⟨he, t, h'⟩ => ⟨he, after_of h hB t h'⟩
theorem sync_k (w : World) (d : Nat) (D : Dk.Disk) (B : Nat) (O : Nat → Prop) (hB : B ≤ w.heap.size) (h : Dsk w d D B O) :
    Calls Tryz.prog 172 #[.pointer (some ⟨d, 0, none⟩)] w fun e w' => e = .returned (.int .i64 0) ∧ After w d (Dk.sync D) B O w' :=
  (sync_in w d D O h.on).mono fun _ _ ⟨he, t, h'⟩ => ⟨he, after_of h hB t h'⟩
theorem fail_k (w : World) (d : Nat) (D : Dk.Disk) (B : Nat) (O : Nat → Prop) (keep : Nat) (torn : Int) (hk : keep < 18446744073709551616) (h : Dsk w d D B O) (hw : D.waits.length ≤ 1000000) :
    Calls Tryz.prog 25 #[.pointer (some ⟨d, 0, none⟩), .int .u64 (keep : Nat), .int .i64 torn] w fun e w' => ∃ d', e = .returned (.tuple #[.pointer (some ⟨d', 0, none⟩), .int .i64 0]) ∧ Made w d' (Dk.fail D keep torn) w' :=
  (fail_in w d D O keep torn hk h.on hw).mono fun _ _ ⟨d', he, _, h', t⟩ => ⟨d', he, made_of t h'⟩

end Go.Proofs.YtpmkegbgbldpnaaGreatDoor
namespace Go.Proofs.YtpmkegbgbldpnaaGreatDoor
open Go Go.RowKit

theorem byte_is : ∃ i z, TypeIs 5 i z 1 1 [.int .u8 0] := type_is (by kernel_rfl)

set_option maxHeartbeats 2000000 in
theorem clone_bytes (w : World) (g o n c : Nat) (xs : List Nat) (hr : w.rangeAt g o (nums .u8 xs)) (hl : xs.length = n) (hn : n ≤ 16384) :
    Calls Tryz.prog 246 #[.slice (some ⟨g, o, none⟩) n c] w fun e w' => ∃ g' c', e = .returned (.slice (some ⟨g', 0, none⟩) n c') ∧ w.heap.size ≤ g' ∧ Rd w' (some ⟨g', 0, none⟩) (nums .u8 xs) ∧ n ≤ c' ∧ c' ≤ maxLen ∧ Touch No w w' := by
  have hq := fun (w : World) (a : Option Addr) (n c n' c' : Nat) => Lib.run_eql_slice_nil (P := Tryz.prog) w 22 5 a n c n' c' Tryz.underlying22
  obtain ⟨I, z, hI⟩ := byte_is
  have HI := Lib.hid hI
  have H := Lib.hid hr
  have Hl := Lib.hid hl
  have Hn := Lib.hid hn
  clear hr hn hl hI
  go_enter Tryz.func246, Tryz.ntmps246
  go_wp2_with (at_builtin; refine wpList_append_own _ rfl _ _ 22 rfl w.heap.size 5 I z 1 1 Tryz.underlying22 HI.out.info HI.out.zero HI.out.size HI.out.bytes (by rw [HI.out.cells]; rfl) (by decide) _ _ _ rfl (World.ownsRow_made w #[] 0 (Nat.le_refl _) (Nat.zero_le _) (by simp)) ⟨g, o, none⟩ n c (nums .u8 xs) rfl ?qc1 ?qc2 ?qc3 ?qc4 ?qc5 ?qc6 ?_)
  case qc1 => rw [nums_length, Hl.out, Nat.mul_one]
  case qc2 =>
    intro j u hj
    rw [Addr.add_lit]
    exact Lib.cell?_alloc_some _ (H.out j u hj)
  case qc3 => exact nums_one _ _
  case qc4 => have := Hn.out; unfold maxLen; omega
  case qc5 => have := Hn.out; omega
  case qc6 => simp
  intro v' w1 hown hgrow hnil
  have Ho := Lib.hid hown
  have Hg := Lib.hid hgrow
  have Hx := Lib.hid hnil
  clear hown hgrow hnil
  go_wp2
  go_ret
  obtain ⟨g', c', r', rfl, h1, h2, h3, h4⟩ := ownRow Ho.out Hx.out
  refine ⟨g', c', by simp, h1, fun j u hj => ⟨g', 0, rfl, ?_⟩, by simpa using h3, h4, ?_⟩
  · rw [Nat.zero_add, h2.cell]
    have hh : j < (nums .u8 xs).length := by
      by_cases hh : j < (nums .u8 xs).length
      · exact hh
      · rw [List.getElem?_eq_none (by omega)] at hj; cases hj
    rw [List.getElem?_append_left (by simpa using hh)]
    simpa using hj
  · exact ((Touch.refl No w).alloc _).grown Hg.out (by intro k hk hlt; simp [Value.ownBlock] at hk; omega)

set_option maxHeartbeats 400000 in
theorem clip_bytes (w : World) (a : Option Addr) (n c : Nat) (h : n ≤ c) : Calls Tryz.prog 162 #[.slice a n c] w fun e w' => e = .returned (.slice a n n) ∧ w = w' := by
  have hnc : (n : Int) ≤ (c : Int) := by omega
  have h0 : (0 : Int) ≤ (n : Int) := Int.natCast_nonneg _
  go_enter Tryz.func162, Tryz.ntmps162
  go_wp2
  go_ret
  exact ⟨rfl, rfl⟩

/-- what Read answers -/
theorem sec_at (w : World) (gn : Nat) (l : List Dk.Sec) (r : List Value) (hr : Row w gn 117 (l.flatMap secCells ++ r)) (n : Nat) (hn : n < l.length) (j : Nat) (hj : j < 65) : w.cell? ⟨gn, n * 65 + j, none⟩ = (secCells (Dk.at_ l n))[j]? := by
  rw [hr.cell, List.getElem?_append_left (by
    rw [flat_length secCells_length]
    have := Nat.mul_le_mul_right 65 hn
    omega)]
  exact flat_get secCells_length l n j _ (Dk.at_get hn) hj

set_option maxHeartbeats 2000000 in
theorem read_in (w : World) (d : Nat) (D : Dk.Disk) (O : Nat → Prop) (n : Nat) (h : DiskAt w d D O) (hn : n < D.seen.length) (hb : (Dk.at_ D.seen n).bad = 0) :
    Calls Tryz.prog 232 #[.pointer (some ⟨d, 0, none⟩), .int .i64 (n : Nat)] w fun e w' => ∃ g, e = .returned (.tuple #[.slice (some ⟨g, 0, none⟩) 64 64, .int .i64 0]) ∧ w.heap.size ≤ g ∧ Rd w' (some ⟨g, 0, none⟩) (nums .u8 (Dk.at_ D.seen n).b) ∧ Touch No w w' := by
  have H := Lib.hid h
  have e1 : askSays D.seen.length n = 0 := by unfold askSays; rw [if_pos (by omega)]
  have hok := (h.ok.seen _ (Dk.at_mem hn)).b.len
  obtain ⟨gs, gn, cs, cn, rs, rn, vw, Di, _⟩ := h
  have hc1 := Di.c1
  have hlcn := Di.lcn
  have hn' : (n : Int) < (D.seen.length : Nat) := by omega
  have hcb : w.cell? ⟨gn, n * 65 + 64, none⟩ = some (.int .i64 0) := by
    rw [sec_at w gn D.seen rn Di.seen n hn 64 (by decide), sec_bad, hb]; rfl
  have hra : Hid (w.rangeAt gn (n * 65) (nums .u8 (Dk.at_ D.seen n).b)) := fun j v hj => by
    have hj64 : j < 64 := by
      by_cases hh : j < (nums .u8 (Dk.at_ D.seen n).b).length
      · rw [nums_length, hok] at hh; exact hh
      · rw [List.getElem?_eq_none (by omega)] at hj; cases hj
    rw [sec_at w gn D.seen rn Di.seen n hn j (by omega), secCells, bytes_cells hok, List.getElem?_append_left (by rw [nums_length, hok]; exact hj64)]
    exact hj
  have Hok := Lib.hid hok
  clear Di hok hb
  go_enter Tryz.func232, Tryz.ntmps232
  go_wp2_with (first
    | (go_at_call 54; refine (ask_any _ _ _ _ _ H.out).mono ?_; rintro e w' ⟨rfl, rfl⟩; rw [e1])
    | (go_at_call 246; refine (clone_bytes _ gn (n * 65) 64 64 (Dk.at_ D.seen n).b hra.out Hok.out (by decide)).mono ?_; rintro e w1 ⟨g', c', rfl, k1, k2, k3, k4, k5⟩; have K1 := Lib.hid k1; have K2 := Lib.hid k2; have K3 := Lib.hid k3; have K5 := Lib.hid k5; clear k1 k2 k3 k4 k5)
    | (go_at_call 162; refine (clip_bytes _ _ _ _ K3.out).mono ?_; rintro e w2 ⟨rfl, rfl⟩))
  go_ret2
  exact ⟨g', rfl, K1.out, K2.out, K5.out⟩
set_option maxHeartbeats 2000000 in
theorem read_lost (w : World) (d : Nat) (D : Dk.Disk) (O : Nat → Prop) (n : Nat) (h : DiskAt w d D O) (hn : n < D.seen.length) (hb : (Dk.at_ D.seen n).bad = 1) :
    Calls Tryz.prog 232 #[.pointer (some ⟨d, 0, none⟩), .int .i64 (n : Nat)] w fun e w' => e = .returned (.tuple #[.slice none 0 0, .int .i64 12]) ∧ w = w' := by
  have H := Lib.hid h
  have e1 : askSays D.seen.length n = 0 := by unfold askSays; rw [if_pos (by omega)]
  obtain ⟨gs, gn, cs, cn, rs, rn, vw, Di, _⟩ := h
  have hc1 := Di.c1
  have hlcn := Di.lcn
  have hn' : (n : Int) < (D.seen.length : Nat) := by omega
  have hcb : w.cell? ⟨gn, n * 65 + 64, none⟩ = some (.int .i64 1) := by
    rw [sec_at w gn D.seen rn Di.seen n hn 64 (by decide), sec_bad, hb]; rfl
  clear Di hb
  go_enter Tryz.func232, Tryz.ntmps232
  go_wp2_with (go_at_call 54; refine (ask_any _ _ _ _ _ H.out).mono ?_; rintro e w' ⟨rfl, rfl⟩; rw [e1])
  go_ret2
  exact ⟨rfl, rfl⟩
end Go.Proofs.YtpmkegbgbldpnaaGreatDoor
namespace Go.Proofs.YtpmkegbgbldpnaaGreatDoor
open Go Go.RowKit
namespace Dk
def writeA (D : Disk) (n : Int) (b : List Nat) : Disk := if (0 ≤ n ∧ n < D.seen.length) ∧ b.length ≤ 64 then write D n.toNat b else D
def writeR (D : Disk) (n : Int) (b : List Nat) : Nat := if (0 ≤ n ∧ n < D.seen.length) ∧ b.length ≤ 64 then 0 else 1
end Dk
end Go.Proofs.YtpmkegbgbldpnaaGreatDoor
namespace Go.Proofs.YtpmkegbgbldpnaaGreatDoor
open Go Go.RowKit
namespace Dk
def bytesOf (s : Sec) : List Nat := if s.bad = 1 then [] else s.b
def errOf (s : Sec) : Nat := if s.bad = 1 then 12 else 0
theorem bytes_le {s : Sec} (h : s.Ok) : (bytesOf s).length ≤ 64 := by
  unfold bytesOf; split
  · simp
  · rw [h.b.len]; exact Nat.le_refl _
end Dk
end Go.Proofs.YtpmkegbgbldpnaaGreatDoor
namespace Go.Proofs.YtpmkegbgbldpnaaGreatDoor
open Go Go.RowKit
set_option linter.unusedVariables false

/-- what holds of some blocks, whatever becomes of the others -/
structure Part where
  P : World → (Nat → Prop) → Prop
  stable : ∀ {F : Nat → Prop} {w w' : World} {O : Nat → Prop}, P w O → Touch F w w' → (∀ k, O k → ¬ F k) → P w' O
  lt : ∀ {w : World} {O : Nat → Prop}, P w O → ∀ k, O k → k < w.heap.size

/-- one becomes another, in its blocks and new ones -/
def Turns (w : World) (O : Nat → Prop) (p' : Part) (w' : World) : Prop := Touch O w w' ∧ ∃ O', p'.P w' O' ∧ ∀ k, O' k → O k ∨ w.heap.size ≤ k
/-- a new one -/
def Born (w : World) (p : Part) (w' : World) : Prop := Touch No w w' ∧ ∃ O', p.P w' O' ∧ ∀ k, O' k → w.heap.size ≤ k
theorem Turns.no {w w1 w2 : World} {O : Nat → Prop} {p : Part} (h : Turns w O p w1) (t : Touch No w1 w2) : Turns w O p w2 := by
  obtain ⟨t1, O', h1, h2⟩ := h
  exact ⟨t1.then t (fun _ _ f => f.elim), O', p.stable h1 t (fun _ _ f => f), h2⟩
theorem Born.no {w w1 w2 : World} {p : Part} (h : Born w p w1) (t : Touch No w1 w2) : Born w p w2 := by
  obtain ⟨t1, O', h1, h2⟩ := h
  exact ⟨t1.trans t, O', p.stable h1 t (fun _ _ f => f), h2⟩
theorem Born.pre {w w1 w2 : World} {p : Part} (t : Touch No w w1) (h : Born w1 p w2) : Born w p w2 := by
  obtain ⟨t1, O', h1, h2⟩ := h
  exact ⟨t.trans t1, O', h1, fun k hk => Nat.le_trans t.size (h2 k hk)⟩
theorem Turns.pre {w w1 w2 : World} {O : Nat → Prop} {p : Part} (t : Touch No w w1) (h : Turns w1 O p w2) : Turns w O p w2 := by
  obtain ⟨t1, O', h1, h2⟩ := h
  exact ⟨(t.no : Touch O w w1).then t1 (fun _ _ h => h), O', h1, fun k hk => (h2 k hk).imp id (fun h => Nat.le_trans t.size h)⟩
theorem Turns.then {w w1 w2 : World} {O : Nat → Prop} {p p2 : Part} (h : Turns w O p w1) (k : ∀ O', p.P w1 O' → Turns w1 O' p2 w2) : Turns w O p2 w2 := by
  obtain ⟨t1, O1, h1, h2⟩ := h
  obtain ⟨t2, O2, h3, h4⟩ := k O1 h1
  refine ⟨t1.then t2 (fun i hi hO => (h2 i hO).elim id (fun h => absurd hi (Nat.not_lt.2 h))), O2, h3, fun i hi => ?_⟩
  rcases h4 i hi with h | h
  · exact h2 i h
  · exact Or.inr (Nat.le_trans t1.size h)

/-- these, made since w0, none of which has a block of another one's -/
def Sp (w0 w : World) (l : List Part) : Prop :=
  ∃ O : Nat → Nat → Prop, (∀ i p, l[i]? = some p → p.P w (O i) ∧ ∀ k, O i k → w0.heap.size ≤ k) ∧ (∀ i j p q, l[i]? = some p → l[j]? = some q → i ≠ j → ∀ k, O i k → O j k → False) ∧ Touch (fun k => w0.heap.size ≤ k) w0 w

theorem Sp.nil {w0 w : World} (t : Touch No w0 w) : Sp w0 w [] := ⟨fun _ _ => True, fun i p h => by simp at h, fun i j p q h => by simp at h, t.mono (fun _ _ f => f.elim)⟩
section
variable {w0 w w' : World} {l : List Part}
theorem Sp.end (h : Sp w0 w l) : Touch No w0 w := by
  obtain ⟨O, h1, h2, t0⟩ := h
  exact t0.mono (fun k hk h => absurd hk (Nat.not_lt.2 h))
theorem Sp.size (h : Sp w0 w l) : w0.heap.size ≤ w.heap.size := h.end.size
theorem Sp.no (h : Sp w0 w l) (t : Touch No w w') : Sp w0 w' l := by
  obtain ⟨O, h1, h2, t0⟩ := h
  exact ⟨O, fun i p hp => ⟨p.stable (h1 i p hp).1 t (fun _ _ f => f), (h1 i p hp).2⟩, h2, t0.then t (fun _ _ f => f.elim)⟩
theorem Sp.alloc (h : Sp w0 w l) (o : Obj) : Sp w0 (w.alloc o) l := h.no ((Touch.refl No w).alloc o)
theorem Sp.get (h : Sp w0 w l) (i : Nat) {p : Part} (hi : l[i]? = some p) : ∃ O, p.P w O ∧ ∀ k, O k → w0.heap.size ≤ k := by
  obtain ⟨O, h1, _⟩ := h
  exact ⟨O i, h1 i p hi⟩
theorem get_push {α : Type} {l : List α} {b : α} {i : Nat} {p : α} (hp : (l ++ [b])[i]? = some p) : (i < l.length ∧ l[i]? = some p) ∨ (i = l.length ∧ p = b) := by
  rcases Nat.lt_or_ge i l.length with h | h
  · rw [List.getElem?_append_left h] at hp; exact Or.inl ⟨h, hp⟩
  · rw [List.getElem?_append_right h] at hp
    have : i - l.length = 0 := by
      by_cases h0 : i - l.length = 0
      · exact h0
      · rw [List.getElem?_eq_none (by simp; omega)] at hp; cases hp
    rw [this] at hp
    exact Or.inr ⟨by omega, by simpa using hp.symm⟩
theorem get_set {α : Type} {l : List α} {b : α} {i j : Nat} {p : α} (hp : (l.set i b)[j]? = some p) : (j ≠ i ∧ l[j]? = some p) ∨ (j = i ∧ p = b) := by
  by_cases e : j = i
  · subst e
    rw [List.getElem?_set] at hp
    simp only [if_true] at hp
    split at hp
    · exact Or.inr ⟨rfl, (Option.some.inj hp).symm⟩
    · cases hp
  · rw [List.getElem?_set_ne (fun h => e h.symm)] at hp
    exact Or.inl ⟨e, hp⟩
/-- a new one beside them -/
theorem Sp.push {b : Part} (h : Sp w0 w l) (m : Born w b w') : Sp w0 w' (l ++ [b]) := by
  obtain ⟨O, h1, h2, t0⟩ := h
  obtain ⟨t, OB, hB, hge⟩ := m
  refine ⟨fun i => if i = l.length then OB else O i, fun i p hp => ?_, fun i j p q hp hq hij k hk1 hk2 => ?_, t0.then t (fun _ _ f => f.elim)⟩
  · dsimp only
    rcases get_push hp with ⟨hi, hp'⟩ | ⟨hi, hpb⟩
    · rw [if_neg (by omega)]; exact ⟨p.stable (h1 i p hp').1 t (fun _ _ f => f), (h1 i p hp').2⟩
    · rw [if_pos hi, hpb]; exact ⟨hB, fun k hk => Nat.le_trans t0.size (hge k hk)⟩
  · dsimp only at hk1 hk2
    rcases get_push hp with ⟨hi, hp'⟩ | ⟨hi, hpb⟩
    · rw [if_neg (by omega)] at hk1
      rcases get_push hq with ⟨hj, hq'⟩ | ⟨hj, hqb⟩
      · rw [if_neg (by omega)] at hk2; exact h2 i j p q hp' hq' hij k hk1 hk2
      · rw [if_pos hj] at hk2
        have := p.lt (h1 i p hp').1 k hk1
        have := hge k hk2
        omega
    · rw [if_pos hi] at hk1
      rcases get_push hq with ⟨hj, hq'⟩ | ⟨hj, hqb⟩
      · rw [if_neg (by omega)] at hk2
        have := q.lt (h1 j q hq').1 k hk2
        have := hge k hk1
        omega
      · exact hij (hi.trans hj.symm)
/-- one of them turns -/
theorem Sp.use (h : Sp w0 w l) (i : Nat) {p : Part} (hi : l[i]? = some p) (p' : Part) :
    ∃ O, p.P w O ∧ (∀ k, O k → w0.heap.size ≤ k) ∧ ∀ w', Turns w O p' w' → Sp w0 w' (l.set i p') := by
  obtain ⟨O, h1, h2, t0⟩ := h
  refine ⟨O i, (h1 i _ hi).1, (h1 i _ hi).2, fun w' m => ?_⟩
  obtain ⟨t, O', hO', hin⟩ := m
  have out : ∀ (j : Nat) (q : Part), j ≠ i → l[j]? = some q → ∀ k, O j k → ¬ O' k := fun j q hj hq k hk hk' => by
    rcases hin k hk' with e | e
    · exact h2 j i q _ hq hi hj k hk e
    · have := q.lt (h1 j q hq).1 k hk; omega
  refine ⟨fun j => if j = i then O' else O j, fun j q hq => ?_, fun j1 j2 p1 q1 hp hq hij k hk1 hk2 => ?_, t0.then t (fun k _ hk => (h1 i _ hi).2 k hk)⟩
  · dsimp only
    rcases get_set hq with ⟨hj, hq'⟩ | ⟨hj, hqb⟩
    · rw [if_neg hj]; exact ⟨q.stable (h1 j q hq').1 t (fun k hk e => h2 j i q _ hq' hi hj k hk e), (h1 j q hq').2⟩
    · rw [if_pos hj, hqb]
      exact ⟨hO', fun k hk => (hin k hk).elim ((h1 i _ hi).2 k) (fun h => Nat.le_trans t0.size h)⟩
  · dsimp only at hk1 hk2
    rcases get_set hp with ⟨hj1, hp'⟩ | ⟨hj1, _⟩
    · rw [if_neg hj1] at hk1
      rcases get_set hq with ⟨hj2, hq'⟩ | ⟨hj2, _⟩
      · rw [if_neg hj2] at hk2; exact h2 j1 j2 _ _ hp' hq' hij k hk1 hk2
      · rw [if_pos hj2] at hk2; exact out j1 _ hj1 hp' k hk1 hk2
    · rw [if_pos hj1] at hk1
      rcases get_set hq with ⟨hj2, hq'⟩ | ⟨hj2, _⟩
      · rw [if_neg hj2] at hk2; exact out j2 _ hj2 hq' k hk2 hk1
      · exact hij (hj1.trans hj2.symm)
/-- two beside each other, as one -/
def Part.and (p q : Part) : Part where
  P w O := ∃ A B, p.P w A ∧ q.P w B ∧ (∀ k, A k → B k → False) ∧ ∀ k, O k ↔ A k ∨ B k
  stable := fun {F w w' O} ⟨A, B, ha, hb, hd, hO⟩ t hF => ⟨A, B, p.stable ha t (fun k hk => hF k ((hO k).2 (Or.inl hk))), q.stable hb t (fun k hk => hF k ((hO k).2 (Or.inr hk))), hd, hO⟩
  lt := fun {w O} ⟨A, B, ha, hb, hd, hO⟩ k hk => ((hO k).1 hk).elim (p.lt ha k) (q.lt hb k)
/-- the first two, as one -/
theorem Sp.join {p q : Part} (h : Sp w0 w (p :: q :: l)) : Sp w0 w (p.and q :: l) := by
  obtain ⟨O, h1, h2, t0⟩ := h
  have hp := h1 0 p rfl
  have hq := h1 1 q rfl
  refine ⟨fun i => if i = 0 then fun k => O 0 k ∨ O 1 k else O (i + 1), fun i r hr => ?_, fun i j r s hr hs hij k hk1 hk2 => ?_, t0⟩
  · match i, hr with
    | 0, hr =>
      obtain rfl : p.and q = r := by simpa using hr
      exact ⟨⟨O 0, O 1, hp.1, hq.1, h2 0 1 p q rfl rfl (by decide), fun k => Iff.rfl⟩, fun k hk => hk.elim (hp.2 k) (hq.2 k)⟩
    | i + 1, hr => exact h1 (i + 2) r hr
  · match i, j, hr, hs with
    | 0, 0, _, _ => exact hij rfl
    | 0, j + 1, _, hs =>
      rcases hk1 with hk1 | hk1
      · exact h2 0 (j + 2) p s rfl hs (by omega) k hk1 hk2
      · exact h2 1 (j + 2) q s rfl hs (by omega) k hk1 hk2
    | i + 1, 0, hr, _ =>
      rcases hk2 with hk2 | hk2
      · exact h2 (i + 2) 0 r p hr rfl (by omega) k hk1 hk2
      · exact h2 (i + 2) 1 r q hr rfl (by omega) k hk1 hk2
    | i + 1, j + 1, hr, hs => exact h2 (i + 2) (j + 2) r s hr hs (by omega) k hk1 hk2
end

/-- a row of cells -/
def Part.row (g : Nat) (T : TypeId) (vs : List Value) : Part where
  P w O := Row w g T vs ∧ O g ∧ ∀ k, O k → k < w.heap.size
  stable := fun {F w w' O} ⟨h, ho, hl⟩ t hF => ⟨h.touch t (hF g ho), ho, fun k hk => Nat.lt_of_lt_of_le (hl k hk) t.size⟩
  lt := fun {w O} h => h.2.2
theorem Born.row (w : World) (T : TypeId) (vs : Array Value) : Born w (.row w.heap.size T vs.toList) (w.alloc (.cells vs T)) :=
  ⟨(Touch.refl No w).alloc _, (fun k => k = w.heap.size), ⟨Row.new w T vs, rfl, fun k hk => by simp; omega⟩, fun k hk => Nat.le_of_eq hk.symm⟩
theorem Sp.row {w0 w : World} {l : List Part} (h : Sp w0 w l) (i : Nat) {g : Nat} {T : TypeId} {vs : List Value} (hi : l[i]? = some (.row g T vs)) : Row w g T vs := by
  obtain ⟨O, h1, _⟩ := h.get i hi
  exact h1.1
end Go.Proofs.YtpmkegbgbldpnaaGreatDoor
namespace Go.Proofs.YtpmkegbgbldpnaaGreatDoor
open Go Go.RowKit
set_option linter.unusedVariables false

/-- these, each in blocks of its own, all of which are O's -/
def Al (w : World) : List Part → (Nat → Prop) → Prop
  | [], _ => True
  | p :: l, O => ∃ A B, p.P w A ∧ Al w l B ∧ (∀ k, A k → ¬ B k) ∧ (∀ k, A k → O k) ∧ ∀ k, B k → O k
section
variable {w w' : World} {l m : List Part} {O O' : Nat → Prop}
theorem Al.mono (h : Al w l O) (hO : ∀ k, O k → O' k) : Al w l O' := by
  cases l with
  | nil => trivial
  | cons p l =>
    obtain ⟨A, B, ha, hb, hd, h1, h2⟩ := h
    exact ⟨A, B, ha, hb, hd, fun k hk => hO k (h1 k hk), fun k hk => hO k (h2 k hk)⟩
theorem Al.stable {F : Nat → Prop} (t : Touch F w w') : ∀ {l : List Part} {O : Nat → Prop}, Al w l O → (∀ k, O k → ¬ F k) → Al w' l O
  | [], _, _, _ => trivial
  | p :: l, O, ⟨A, B, ha, hb, hd, h1, h2⟩, hF => ⟨A, B, p.stable ha t (fun k hk => hF k (h1 k hk)), Al.stable t hb (fun k hk => hF k (h2 k hk)), hd, h1, h2⟩
theorem Al.no (t : Touch No w w') (h : Al w l O) : Al w' l O := Al.stable t h (fun _ _ f => f)
/-- no more blocks than there are -/
theorem Al.cut : ∀ {l : List Part} {O : Nat → Prop}, Al w l O → Al w l (fun k => O k ∧ k < w.heap.size)
  | [], _, _ => trivial
  | p :: l, O, ⟨A, B, ha, hb, hd, h1, h2⟩ => ⟨A, _, ha, Al.cut hb, fun k hk h => hd k hk h.1, fun k hk => ⟨h1 k hk, p.lt ha k hk⟩, fun k hk => ⟨h2 k hk.1, hk.2⟩⟩
theorem Al.append : ∀ {l m : List Part} {O : Nat → Prop}, Al w (l ++ m) O → ∃ A B, Al w l A ∧ Al w m B ∧ (∀ k, A k → ¬ B k) ∧ (∀ k, A k → O k) ∧ ∀ k, B k → O k
  | [], m, O, h => ⟨fun _ => False, O, trivial, h, fun _ f => f.elim, fun _ f => f.elim, fun _ h => h⟩
  | p :: l, m, O, ⟨A, B, ha, hb, hd, h1, h2⟩ => by
    obtain ⟨C, D, hc, hdd, hcd, h3, h4⟩ := Al.append hb
    refine ⟨fun k => A k ∨ C k, D, ⟨A, C, ha, hc, fun k hk h => hd k hk (h3 k h), fun k => Or.inl, fun k => Or.inr⟩, hdd, fun k hk h => ?_, fun k hk => ?_, fun k hk => h2 k (h4 k hk)⟩
    · rcases hk with hk | hk
      · exact hd k hk (h4 k h)
      · exact hcd k hk h
    · rcases hk with hk | hk
      · exact h1 k hk
      · exact h2 k (h3 k hk)
theorem Al.join : ∀ {l m : List Part} {A B O : Nat → Prop}, Al w l A → Al w m B → (∀ k, A k → ¬ B k) → (∀ k, A k → O k) → (∀ k, B k → O k) → Al w (l ++ m) O
  | [], m, A, B, O, _, hb, _, _, h2 => hb.mono h2
  | p :: l, m, A, B, O, ⟨C, D, hc, hd, hcd, h3, h4⟩, hb, hdis, h1, h2 => by
    refine ⟨C, fun k => D k ∨ B k, hc, Al.join hd hb (fun k hk => hdis k (h4 k hk)) (fun k => Or.inl) (fun k => Or.inr), fun k hk h => ?_, fun k hk => h1 k (h3 k hk), fun k hk => ?_⟩
    · rcases h with h | h
      · exact hcd k hk h
      · exact hdis k (h3 k hk) h
    · rcases hk with hk | hk
      · exact h1 k (h4 k hk)
      · exact h2 k hk
theorem Al.perm (h : l.Perm m) : ∀ {O : Nat → Prop}, Al w l O → Al w m O := by
  induction h with
  | nil => intro O h; exact h
  | cons p _ ih => rintro O ⟨A, B, ha, hb, hd, h1, h2⟩; exact ⟨A, B, ha, ih hb, hd, h1, h2⟩
  | swap p q l =>
    rintro O ⟨A, B, ha, ⟨C, D, hc, hdd, hcd, h3, h4⟩, hd, h1, h2⟩
    refine ⟨C, fun k => A k ∨ D k, hc, ⟨A, D, ha, hdd, fun k hk h => hd k hk (h4 k h), fun k => Or.inl, fun k => Or.inr⟩, fun k hk h => ?_, fun k hk => h2 k (h3 k hk), fun k hk => ?_⟩
    · rcases h with h | h
      · exact hd k h (h3 k hk)
      · exact hcd k hk h
    · rcases hk with hk | hk
      · exact h1 k hk
      · exact h2 k (h4 k hk)
  | trans _ _ ih1 ih2 => intro O h; exact ih2 (ih1 h)
theorem Al.head {p : Part} (h : Al w (p :: l) O) : ∃ A, p.P w A ∧ ∀ k, A k → O k := by
  obtain ⟨A, B, ha, _, _, h1, _⟩ := h
  exact ⟨A, ha, h1⟩
theorem Al.tail {p : Part} (h : Al w (p :: l) O) : Al w l O := by
  obtain ⟨A, B, _, hb, _, _, h2⟩ := h
  exact hb.mono h2
theorem Al.mem {p : Part} : ∀ {l : List Part} {O : Nat → Prop}, Al w l O → p ∈ l → ∃ A, p.P w A ∧ ∀ k, A k → O k
  | q :: l, O, h, hp => by
    rcases List.mem_cons.1 hp with rfl | hp
    · exact h.head
    · exact Al.mem h.tail hp
end

/-- in their blocks, and in new ones, these became those -/
def TurnsL (w : World) (O : Nat → Prop) (l' : List Part) (w' : World) : Prop := Touch O w w' ∧ ∃ O', Al w' l' O' ∧ ∀ k, O' k → O k ∨ w.heap.size ≤ k
theorem TurnsL.no {w w1 w2 : World} {O : Nat → Prop} {l : List Part} (h : TurnsL w O l w1) (t : Touch No w1 w2) : TurnsL w O l w2 := by
  obtain ⟨t1, O', h1, h2⟩ := h
  exact ⟨t1.then t (fun _ _ f => f.elim), O', h1.no t, h2⟩
theorem TurnsL.then {w w1 w2 : World} {O : Nat → Prop} {l l2 : List Part} (h : TurnsL w O l w1) (k : ∀ O', Al w1 l O' → (∀ k, O' k → O k ∨ w.heap.size ≤ k) → TurnsL w1 O' l2 w2) : TurnsL w O l2 w2 := by
  obtain ⟨t1, O1, h1, h2⟩ := h
  obtain ⟨t2, O2, h3, h4⟩ := k O1 h1 h2
  refine ⟨t1.then t2 (fun i hi hO => (h2 i hO).elim id (fun h => absurd hi (Nat.not_lt.2 h))), O2, h3, fun i hi => ?_⟩
  rcases h4 i hi with h | h
  · exact h2 i h
  · exact Or.inr (Nat.le_trans t1.size h)
theorem TurnsL.same {w : World} {O : Nat → Prop} {l : List Part} (h : Al w l O) : TurnsL w O l w := ⟨Touch.refl _ _, O, h, fun _ h => Or.inl h⟩
theorem TurnsL.perm {w w' : World} {O : Nat → Prop} {l m : List Part} (h : TurnsL w O l w') (hp : l.Perm m) : TurnsL w O m w' := by
  obtain ⟨t, O', h1, h2⟩ := h
  exact ⟨t, O', h1.perm hp, h2⟩
theorem TurnsL.pre {w w1 w2 : World} {O : Nat → Prop} {l : List Part} (t : Touch No w w1) (h : TurnsL w1 O l w2) : TurnsL w O l w2 := by
  obtain ⟨t1, O', h1, h2⟩ := h
  exact ⟨(t.no : Touch O w w1).then t1 (fun _ _ h => h), O', h1, fun k hk => (h2 k hk).imp id (fun h => Nat.le_trans t.size h)⟩
/-- .. whatever stands beside them -/
theorem Al.frame {w : World} {l m : List Part} {O : Nat → Prop} (h : Al w (l ++ m) O) : ∃ A, Al w l A ∧ (∀ k, A k → O k) ∧ ∀ w' l', TurnsL w A l' w' → TurnsL w O (l' ++ m) w' := by
  obtain ⟨A, B, ha, hb, hd, h1, h2⟩ := h.append
  refine ⟨A, ha, h1, fun w' l' ht => ?_⟩
  obtain ⟨t, A', ha', hin⟩ := ht
  refine ⟨t.mono (fun k _ hk => h1 k hk), fun k => A' k ∨ (B k ∧ k < w.heap.size), Al.join ha' (Al.stable t hb.cut (fun k hk f => hd k f hk.1)) (fun k hk hB => ?_) (fun k => Or.inl) (fun k => Or.inr), fun k hk => ?_⟩
  · rcases hin k hk with h | h
    · exact hd k h hB.1
    · have := hB.2
      omega
  · rcases hk with hk | hk
    · exact (hin k hk).imp (h1 k) id
    · exact Or.inl (h2 k hk.1)
/-- these, made since w0 -/
def Sl (w0 w : World) (l : List Part) : Prop := ∃ O, Al w l O ∧ (∀ k, O k → w0.heap.size ≤ k ∧ k < w.heap.size) ∧ Touch No w0 w
section
variable {w0 w w' : World} {l m : List Part}
theorem Sl.end (h : Sl w0 w l) : Touch No w0 w := by obtain ⟨O, _, _, t⟩ := h; exact t
theorem Sl.nil (t : Touch No w0 w) : Sl w0 w [] := ⟨fun _ => False, trivial, fun _ f => f.elim, t⟩
theorem Sl.no (h : Sl w0 w l) (t : Touch No w w') : Sl w0 w' l := by
  obtain ⟨O, h1, h2, t0⟩ := h
  exact ⟨O, h1.no t, fun k hk => ⟨(h2 k hk).1, Nat.lt_of_lt_of_le (h2 k hk).2 t.size⟩, t0.trans t⟩
theorem Sl.perm (h : Sl w0 w l) (hp : l.Perm m) : Sl w0 w m := by
  obtain ⟨O, h1, h2, t0⟩ := h
  exact ⟨O, h1.perm hp, h2, t0⟩
theorem Sl.mem (h : Sl w0 w l) {p : Part} (hp : p ∈ l) : ∃ A, p.P w A ∧ ∀ k, A k → w0.heap.size ≤ k ∧ k < w.heap.size := by
  obtain ⟨O, h1, h2, _⟩ := h
  obtain ⟨A, ha, hA⟩ := h1.mem hp
  exact ⟨A, ha, fun k hk => h2 k (hA k hk)⟩
theorem Sl.frame (h : Sl w0 w (l ++ m)) : ∃ A, Al w l A ∧ (∀ k, A k → w0.heap.size ≤ k ∧ k < w.heap.size) ∧ ∀ w' l', TurnsL w A l' w' → Sl w0 w' (l' ++ m) := by
  obtain ⟨O, h1, h2, t0⟩ := h
  obtain ⟨A, ha, hA, hf⟩ := h1.frame
  refine ⟨A, ha, fun k hk => h2 k (hA k hk), fun w' l' ht => ?_⟩
  obtain ⟨t, O', hO', hin⟩ := hf w' l' ht
  refine ⟨_, hO'.cut, fun k hk => ⟨?_, hk.2⟩, t0.then t (fun i hi f => absurd hi (Nat.not_lt.2 (h2 i f).1))⟩
  rcases hin k hk.1 with h | h
  · exact (h2 k h).1
  · exact Nat.le_trans t0.size h
theorem Sl.push (h : Sl w0 w l) {p : Part} (b : Born w p w') : Sl w0 w' (p :: l) := by
  obtain ⟨O, h1, h2, t0⟩ := h
  obtain ⟨t, A, ha, hge⟩ := b
  have hs := t.size
  refine ⟨fun k => A k ∨ O k, ⟨A, O, ha, h1.no t, fun k hk ho => ?_, fun k => Or.inl, fun k => Or.inr⟩, fun k hk => ?_, t0.trans t⟩
  · have := hge k hk
    have := (h2 k ho).2
    omega
  · rcases hk with hk | hk
    · exact ⟨Nat.le_trans t0.size (hge k hk), p.lt ha k hk⟩
    · exact ⟨(h2 k hk).1, Nat.lt_of_lt_of_le (h2 k hk).2 hs⟩
theorem Sl.drop {p : Part} (h : Sl w0 w (p :: l)) : Sl w0 w l := by
  obtain ⟨O, h1, h2, t0⟩ := h
  exact ⟨O, h1.tail, h2, t0⟩
end
end Go.Proofs.YtpmkegbgbldpnaaGreatDoor
namespace Go.Proofs.YtpmkegbgbldpnaaGreatDoor
open Go Go.RowKit
set_option linter.unusedVariables false

/-- room for cap cells at a -/
def RoomAt (w : World) (T : TypeId) (a : Option Addr) (cap : Nat) (vs : List Value) (O : Nat → Prop) : Prop :=
  cap = 0 ∨ ∃ g o cs, a = some ⟨g, o, none⟩ ∧ w.heap[g]? = some (.cells cs T (0, 0)) ∧ o + cap ≤ cs.size ∧ O g ∧ ∀ (i : Nat) v, vs[i]? = some v → cs[o + i]? = some v
/-- a slice with its room, that reads so -/
def Part.sl (T : TypeId) (a : Option Addr) (n cap : Nat) (vs : List Value) : Part where
  P w O := vs.length = n ∧ n ≤ cap ∧ cap ≤ maxLen ∧ (∀ k, O k → k < w.heap.size) ∧ RoomAt w T a cap vs O
  stable := fun {F w w' O} ⟨h1, h2, h3, h4, h5⟩ t hF => ⟨h1, h2, h3, fun k hk => Nat.lt_of_lt_of_le (h4 k hk) t.size, by
    rcases h5 with h5 | ⟨g, o, cs, ha, hg, hc, hO, hv⟩
    · exact Or.inl h5
    · exact Or.inr ⟨g, o, cs, ha, by rw [t.block g (h4 g hO) (hF g hO)]; exact hg, hc, hO, hv⟩⟩
  lt := fun {w O} h => h.2.2.2.1
section
variable {w w' : World} {T : TypeId} {a : Option Addr} {n cap : Nat} {vs : List Value} {O : Nat → Prop}
theorem sl_len (h : (Part.sl T a n cap vs).P w O) : vs.length = n ∧ n ≤ cap ∧ cap ≤ maxLen := ⟨h.1, h.2.1, h.2.2.1⟩
theorem sl_rd (h : (Part.sl T a n cap vs).P w O) : Rd w a vs := by
  obtain ⟨h1, h2, h3, h4, h5⟩ := h
  intro i v hi
  have hlt : i < vs.length := by
    rcases Nat.lt_or_ge i vs.length with h | h
    · exact h
    · rw [List.getElem?_eq_none h] at hi; cases hi
  rcases h5 with h5 | ⟨g, o, cs, rfl, hg, hc, hO, hv⟩
  · omega
  · exact ⟨g, o, rfl, by simp only [World.cell?, hg]; simpa using hv i v hi⟩
/-- new memory of a call's own -/
theorem born_sl {base c : Nat} (t : Touch No w w') (hb : w.heap.size ≤ base) (h : Own w' base T (.slice a n c) vs) (hc : n ≤ cap) (hc' : cap ≤ c) : Born w (.sl T a n cap vs) w' := by
  obtain ⟨hl, h⟩ := h
  rcases h with ⟨hv, h0⟩ | ⟨g, cp, cur, hv, hg, hh, hn, hm, hs, ht⟩
  · cases hv
    exact ⟨t, fun _ => False, ⟨h0, hc, by omega, fun _ f => f.elim, Or.inl (by omega)⟩, fun _ f => f.elim⟩
  · cases hv
    have hgs : g < w'.heap.size := (Array.getElem?_eq_some_iff.1 hh).1
    refine ⟨t, fun k => k = g, ⟨by omega, hc, by omega, fun k hk => by rw [hk]; exact hgs, Or.inr ⟨g, 0, cur, rfl, hh, by omega, rfl, fun i v hi => ?_⟩⟩, fun k hk => by rw [hk]; omega⟩
    rw [← ht, List.getElem?_take] at hi
    split at hi
    · rw [Nat.zero_add]; simpa using hi
    · cases hi
theorem row_at {g : Nat} {cs : Array Value} (h : w.heap[g]? = some (.cells cs T (0, 0))) : Row w g T cs.toList := by
  rw [Row, Array.toArray_toList]; exact h
/-- one cell of it, written anew -/
theorem sl_set {i : Nat} (h : (Part.sl T a n cap vs).P w O) (hi : i < n) (v : Value) : ∃ g o, a = some ⟨g, o, none⟩ ∧ O g ∧ w.frozen? ⟨g, o + i, none⟩ = false ∧ (∃ u, w.cell? ⟨g, o + i, none⟩ = some u) ∧
    (Part.sl T a n cap (vs.set i v)).P (w.setCell ⟨g, o + i, none⟩ v) O ∧ Touch O w (w.setCell ⟨g, o + i, none⟩ v) := by
  obtain ⟨h1, h2, h3, h4, h5⟩ := h
  rcases h5 with h5 | ⟨g, o, cs, rfl, hg, hc, hO, hv⟩
  · omega
  · have hR := row_at hg
    have hR' := hR.setCell (o + i) v
    refine ⟨g, o, rfl, hO, hR.soft _, ?_, ?_, (Touch.refl O w).setCell (p := ⟨g, o + i, none⟩) (fun _ => hO) v⟩
    · refine ⟨cs[o + i]'(by omega), ?_⟩
      rw [hR.cell]; simp [Array.getElem?_eq_getElem (show o + i < cs.size by omega)]
    · refine ⟨by rw [List.length_set]; exact h1, h2, h3, fun k hk => by have := h4 k hk; simpa [World.setCell] using this, Or.inr ⟨g, o, (cs.toList.set (o + i) v).toArray, rfl, ?_, by simp; exact hc, hO, fun j u hj => ?_⟩⟩
      · exact hR'
      · rw [List.getElem?_set] at hj
        simp only [List.getElem?_toArray, List.getElem?_set]
        by_cases e : i = j
        · subst e
          rw [if_pos rfl] at hj ⊢
          split at hj
          · cases hj
            rw [if_pos (by simp; omega)]
          · cases hj
        · rw [if_neg e] at hj
          rw [if_neg (by omega)]
          simpa using hv j u hj
end
end Go.Proofs.YtpmkegbgbldpnaaGreatDoor
namespace Go.Proofs.YtpmkegbgbldpnaaGreatDoor
open Go Go.RowKit
set_option linter.unusedVariables false

/-- a list that a book holds, and its number -/
structure HE where
  a : Option Addr
  n : Nat
  c : Nat
  k : Nat
/-- its three cells; the middle one: what became of it -/
def HE.cells (e : HE) (long : Value) : List Value := [.slice e.a e.n e.c, long, .int .i64 (e.k : Nat)]
theorem HE.cells_length (e : HE) (v : Value) : (e.cells v).length = 3 := rfl
def nilSl : Value := .slice none 0 0
/-- nothing has become of these yet -/
def heNew (B : List HE) : List Value := B.flatMap fun e => e.cells nilSl
theorem flat3_length {α : Type} (f : α → List Value) (hf : ∀ x, (f x).length = 3) (l : List α) : (l.flatMap f).length = l.length * 3 := by
  induction l with
  | nil => rfl
  | cons x r ih => rw [List.flatMap_cons, List.length_append, ih, hf, List.length_cons]; omega
theorem heNew_length (B : List HE) : (heNew B).length = B.length * 3 := flat3_length _ (fun e => e.cells_length _) B
theorem heNew_snoc (B : List HE) (e : HE) : heNew (B ++ [e]) = heNew B ++ e.cells nilSl := by simp [heNew]
/-- the book's own cells -/
def bookCells (n : Nat) (vB vI vN vD : Value) : List Value := .int .i64 (n : Nat) :: vB :: vI :: vN :: vD :: List.replicate 11 nilSl
/-- a row of three cells an element -/
def Part.arr (T : TypeId) (v : Value) (m : Nat) (cs : List Value) : Part where
  P w O := w.ownsRow 0 T 3 v m cs ∧ (∀ k, InBlock v k → O k) ∧ ∀ k, O k → k < w.heap.size
  stable := fun {F w w' O} ⟨h1, h2, h3⟩ t hF => by
    refine ⟨?_, h2, fun k hk => Nat.lt_of_lt_of_le (h3 k hk) t.size⟩
    obtain ⟨hl, hh⟩ := h1
    refine ⟨hl, hh.imp id ?_⟩
    rintro ⟨g, cap, cur, rfl, hg, hgt, q⟩
    exact ⟨g, cap, cur, rfl, hg, by rw [t.block g (Array.getElem?_eq_some_iff.1 hgt).1 (hF g (h2 g rfl))]; exact hgt, q⟩
  lt := fun {w O} h => h.2.2
/-- a slice whose cells nobody asks -/
def Part.room (T : TypeId) (e : HE) : Part where
  P w O := ∃ vs, (Part.sl T e.a e.n e.c vs).P w O
  stable := fun {F w w' O} ⟨vs, h⟩ t hF => ⟨vs, (Part.sl T e.a e.n e.c vs).stable h t hF⟩
  lt := fun {w O} ⟨vs, h⟩ => (Part.sl T e.a e.n e.c vs).lt h
/-- slices that read so -/
def Part.full (T : TypeId) (mk : Nat → Value) (e : HE) : Part := Part.sl T e.a e.n e.c (List.replicate e.n (mk e.k))
end Go.Proofs.YtpmkegbgbldpnaaGreatDoor
namespace Go.Proofs.YtpmkegbgbldpnaaGreatDoor
open Go Go.RowKit
set_option linter.unusedSimpArgs false

end Go.Proofs.YtpmkegbgbldpnaaGreatDoor
namespace Go.Proofs.YtpmkegbgbldpnaaGreatDoor
open Go Go.RowKit
set_option linter.unusedVariables false

def bookParts (g n : Nat) (vB vI vN vD : Value) (B I N D : List HE) : List Part :=
  Part.row g 88 (bookCells n vB vI vN vD) :: Part.arr 253 vB B.length (heNew B) :: Part.arr 256 vI I.length (heNew I) ::
    Part.arr 258 vN N.length (heNew N) :: Part.arr 251 vD D.length (heNew D) ::
    (B.map (Part.room 5) ++ (I.map (Part.room 3) ++ (N.map (Part.room 21) ++ D.map (Part.room 24))))
def Part.book (g n : Nat) (B I N D : List HE) : Part where
  P w O := (∃ vB vI vN vD, (I = [] → vI = nilSl) ∧ Al w (bookParts g n vB vI vN vD B I N D) O) ∧ ∀ k, O k → k < w.heap.size
  stable := fun {F w w' O} ⟨⟨vB, vI, vN, vD, h0, h⟩, hl⟩ t hF => ⟨⟨vB, vI, vN, vD, h0, Al.stable t h hF⟩, fun k hk => Nat.lt_of_lt_of_le (hl k hk) t.size⟩
  lt := fun {w O} h => h.2
theorem TurnsL.wrap {w w' : World} {A : Nat → Prop} {l : List Part} {p : Part} (h : TurnsL w A l w') (hp : ∀ O, Al w' l O → (∀ k, O k → k < w'.heap.size) → p.P w' O) : TurnsL w A [p] w' := by
  obtain ⟨t, O', h1, h2⟩ := h
  refine ⟨t, fun k => O' k ∧ k < w'.heap.size, ⟨fun k => O' k ∧ k < w'.heap.size, fun _ => False, hp _ h1.cut (fun k hk => hk.2), trivial, fun _ _ f => f, fun _ h => h, fun _ f => f.elim⟩, fun k hk => h2 k hk.1⟩
/-- a list joins those of its kind -/
theorem perm_in {α : Type} (l1 B R : List α) (x : α) : (l1 ++ (B ++ R) ++ [x]).Perm (l1 ++ ((B ++ [x]) ++ R)) := by
  rw [List.append_assoc l1]
  refine List.Perm.append_left l1 ?_
  rw [List.append_assoc, List.append_assoc]
  exact List.Perm.append_left B List.perm_append_comm
end Go.Proofs.YtpmkegbgbldpnaaGreatDoor
namespace Go.Proofs.YtpmkegbgbldpnaaGreatDoor
open Go Go.RowKit
set_option linter.unusedSimpArgs false

end Go.Proofs.YtpmkegbgbldpnaaGreatDoor
