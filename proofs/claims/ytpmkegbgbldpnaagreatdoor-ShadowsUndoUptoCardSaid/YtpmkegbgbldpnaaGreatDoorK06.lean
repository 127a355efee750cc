/-
  Package disks by its own text: Bad.
  Package disks by its own text: Rot.
  Package disks by its own text: what is no sector of the disk: Read, Bad, Rot.
  Package disks by its own text: the contracts once more, with the blocks that are a disk's own (Dsk).
  Package disks by its own text: Read.
  What each call makes of a disk, whatever is asked for. No program in sight.
  What is read of a sector. No program in sight.
  States that stand beside each other, each in blocks of its own. No program in sight.
-/
import Derived.Test.YtpmkegbgbldpnaaGreatDoorK05
import Derived.StillTailTactics
import Derived.Laws.BitsAllLaws
import Derived.Test.YtpmkegbgbldpnaaGreatDoorK03
import Derived.Deep.MidRow
import Derived.Test.YtpmkegbgbldpnaaGreatDoorK02
namespace Go.Proofs.YtpmkegbgbldpnaaGreatDoor
open Go Go.RowKit
set_option linter.unusedSimpArgs false

end Go.Proofs.YtpmkegbgbldpnaaGreatDoor
namespace Go.Proofs.YtpmkegbgbldpnaaGreatDoor
open Go Go.RowKit
set_option linter.unusedSimpArgs false

end Go.Proofs.YtpmkegbgbldpnaaGreatDoor
namespace Go.Proofs.YtpmkegbgbldpnaaGreatDoor
open Go Go.RowKit

end Go.Proofs.YtpmkegbgbldpnaaGreatDoor
namespace Go.Proofs.YtpmkegbgbldpnaaGreatDoor
open Go Go.RowKit

/-- a disk in blocks of its own: O, all from B on -/
structure Dsk (w : World) (d : Nat) (D : Dk.Disk) (B : Nat) (O : Nat → Prop) : Prop where
  on : DiskAt w d D O
  lt : ∀ k, O k → k < w.heap.size
  ge : ∀ k, O k → B ≤ k

theorem DiskAt.tight {w : World} {d : Nat} {D : Dk.Disk} {O : Nat → Prop} (h : DiskAt w d D O) : DiskAt w d D (fun k => O k ∧ k < w.heap.size) := by
  obtain ⟨gs, gn, cs, cn, rs, rn, vw, h, o1, o2, o3, o4⟩ := h
  exact ⟨gs, gn, cs, cn, rs, rn, vw, h, ⟨o1, h.lt⟩, ⟨o2, h.sure.lt⟩, ⟨o3, h.seen.lt⟩, fun k hk => ⟨o4 k hk, (rowBlock h.waits hk).2⟩⟩
theorem DiskAt.mono {w : World} {d : Nat} {D : Dk.Disk} {O O' : Nat → Prop} (h : DiskAt w d D O) (hO : ∀ k, O k → O' k) : DiskAt w d D O' := by
  obtain ⟨gs, gn, cs, cn, rs, rn, vw, h, o1, o2, o3, o4⟩ := h
  exact ⟨gs, gn, cs, cn, rs, rn, vw, h, hO _ o1, hO _ o2, hO _ o3, fun k hk => hO _ (o4 k hk)⟩
theorem Dsk.ok {w : World} {d : Nat} {D : Dk.Disk} {B : Nat} {O : Nat → Prop} (h : Dsk w d D B O) : Dk.Ok D := h.on.ok
theorem Dsk.touch {F : Nat → Prop} {w w' : World} {d : Nat} {D : Dk.Disk} {B : Nat} {O : Nat → Prop} (h : Dsk w d D B O) (t : Touch F w w') (hF : ∀ k, O k → ¬ F k) : Dsk w' d D B O :=
  ⟨h.on.touch t (fun k _ hk => hF k hk), fun k hk => Nat.lt_of_lt_of_le (h.lt k hk) t.size, h.ge⟩
theorem Dsk.no {w w' : World} {d : Nat} {D : Dk.Disk} {B : Nat} {O : Nat → Prop} (h : Dsk w d D B O) (t : Touch No w w') : Dsk w' d D B O := h.touch t (fun _ _ f => f)
theorem Dsk.base {w : World} {d : Nat} {D : Dk.Disk} {B B' : Nat} {O : Nat → Prop} (h : Dsk w d D B O) (hB : B' ≤ B) : Dsk w d D B' O := ⟨h.on, h.lt, fun k hk => Nat.le_trans hB (h.ge k hk)⟩

/-- what a call of a disk's leaves: the disk, in its blocks or new ones -/
def After (w : World) (d : Nat) (D : Dk.Disk) (B : Nat) (O : Nat → Prop) (w' : World) : Prop :=
  Touch O w w' ∧ ∃ O', Dsk w' d D B O' ∧ ∀ k, O' k → O k ∨ w.heap.size ≤ k
/-- a new disk -/
def Made (w : World) (d : Nat) (D : Dk.Disk) (w' : World) : Prop := Touch No w w' ∧ ∃ O', Dsk w' d D w.heap.size O'

theorem after_of {w w' : World} {d : Nat} {D D' : Dk.Disk} {B : Nat} {O : Nat → Prop} (h : Dsk w d D B O) (hB : B ≤ w.heap.size) (t : Touch O w w') (h' : DiskAt w' d D' (fun k => O k ∨ w.heap.size ≤ k)) : After w d D' B O w' :=
  ⟨t, _, ⟨h'.tight, fun _ hk => hk.2, fun k hk => by
    rcases hk.1 with e | e
    · exact h.ge k e
    · omega⟩, fun _ hk => hk.1⟩
theorem made_of {w w' : World} {d : Nat} {D' : Dk.Disk} (t : Touch No w w') (h' : DiskAt w' d D' (fun k => w.heap.size ≤ k)) : Made w d D' w' :=
  ⟨t, _, h'.tight, fun _ hk => hk.2, fun _ hk => hk.1⟩

theorem new_k (w : World) (n : Nat) (h1 : 1 ≤ n) (hn : n ≤ 16384) :
    Calls Tryz.prog 10 #[.int .i64 (n : Nat)] w fun e w' => ∃ d, e = .returned (.tuple #[.pointer (some ⟨d, 0, none⟩), .int .i64 0]) ∧ Made w d (Dk.new n) w' :=
  (new_is w n h1 hn).mono fun _ _ ⟨d, he, _, h, t⟩ => ⟨d, he, made_of t h⟩
theorem write_k (w : World) (d : Nat) (D : Dk.Disk) (B : Nat) (O : Nat → Prop) (n : Nat) (a : Option Addr) (l c : Nat) (b : List Nat) (hB : B ≤ w.heap.size) (h : Dsk w d D B O) (hn : n < D.seen.length) (hl : b.length = l) (hl64 : l ≤ 64) (hlt : ∀ x ∈ b, x < 256) (hr : Rd w a (nums .u8 b)) (hw : D.waits.length ≤ 1000000) :
    Calls Tryz.prog 12 #[.pointer (some ⟨d, 0, none⟩), .int .i64 (n : Nat), .slice a l c] w fun e w' => e = .returned (.int .i64 0) ∧ After w d (Dk.write D n b) B O w' := by
  subst hl
  exact (write_in w d D O n a c b h.on hn hl64 hlt hr hw).mono fun _ _ ⟨he, t, h'⟩ => ⟨he, after_of h hB t h'⟩
theorem sync_k (w : World) (d : Nat) (D : Dk.Disk) (B : Nat) (O : Nat → Prop) (hB : B ≤ w.heap.size) (h : Dsk w d D B O) :
    Calls Tryz.prog 172 #[.pointer (some ⟨d, 0, none⟩)] w fun e w' => e = .returned (.int .i64 0) ∧ After w d (Dk.sync D) B O w' :=
  (sync_in w d D O h.on).mono fun _ _ ⟨he, t, h'⟩ => ⟨he, after_of h hB t h'⟩
theorem fail_k (w : World) (d : Nat) (D : Dk.Disk) (B : Nat) (O : Nat → Prop) (keep : Nat) (torn : Int) (hk : keep < 18446744073709551616) (h : Dsk w d D B O) (hw : D.waits.length ≤ 1000000) :
    Calls Tryz.prog 25 #[.pointer (some ⟨d, 0, none⟩), .int .u64 (keep : Nat), .int .i64 torn] w fun e w' => ∃ d', e = .returned (.tuple #[.pointer (some ⟨d', 0, none⟩), .int .i64 0]) ∧ Made w d' (Dk.fail D keep torn) w' :=
  (fail_in w d D O keep torn hk h.on hw).mono fun _ _ ⟨d', he, _, h', t⟩ => ⟨d', he, made_of t h'⟩

end Go.Proofs.YtpmkegbgbldpnaaGreatDoor
namespace Go.Proofs.YtpmkegbgbldpnaaGreatDoor
open Go Go.RowKit

theorem byte_is : ∃ i z, TypeIs 5 i z 1 1 [.int .u8 0] := type_is (by kernel_rfl)

set_option maxHeartbeats 2000000 in
theorem clone_bytes (w : World) (g o n c : Nat) (xs : List Nat) (hr : w.rangeAt g o (nums .u8 xs)) (hl : xs.length = n) (hn : n ≤ 16384) :
    Calls Tryz.prog 246 #[.slice (some ⟨g, o, none⟩) n c] w fun e w' => ∃ g' c', e = .returned (.slice (some ⟨g', 0, none⟩) n c') ∧ w.heap.size ≤ g' ∧ Rd w' (some ⟨g', 0, none⟩) (nums .u8 xs) ∧ n ≤ c' ∧ c' ≤ maxLen ∧ Touch No w w' := by
  have hq := fun (w : World) (a : Option Addr) (n c n' c' : Nat) => Lib.run_eql_slice_nil (P := Tryz.prog) w 22 5 a n c n' c' Tryz.underlying22
  obtain ⟨I, z, hI⟩ := byte_is
  have HI := Lib.hid hI
  have H := Lib.hid hr
  have Hl := Lib.hid hl
  have Hn := Lib.hid hn
  clear hr hn hl hI
  go_enter Tryz.func246, Tryz.ntmps246
  go_wp2_with (at_builtin; refine wpList_append_own _ rfl _ _ 22 rfl w.heap.size 5 I z 1 1 Tryz.underlying22 HI.out.info HI.out.zero HI.out.size HI.out.bytes (by rw [HI.out.cells]; rfl) (by decide) _ _ _ rfl (World.ownsRow_made w #[] 0 (Nat.le_refl _) (Nat.zero_le _) (by simp)) ⟨g, o, none⟩ n c (nums .u8 xs) rfl ?qc1 ?qc2 ?qc3 ?qc4 ?qc5 ?qc6 ?_)
  case qc1 => rw [nums_length, Hl.out, Nat.mul_one]
  case qc2 =>
    intro j u hj
    rw [Addr.add_lit]
    exact Lib.cell?_alloc_some _ (H.out j u hj)
  case qc3 => exact nums_one _ _
  case qc4 => have := Hn.out; unfold maxLen; omega
  case qc5 => have := Hn.out; omega
  case qc6 => simp
  intro v' w1 hown hgrow hnil
  have Ho := Lib.hid hown
  have Hg := Lib.hid hgrow
  have Hx := Lib.hid hnil
  clear hown hgrow hnil
  go_wp2
  go_ret
  obtain ⟨g', c', r', rfl, h1, h2, h3, h4⟩ := ownRow Ho.out Hx.out
  refine ⟨g', c', by simp, h1, fun j u hj => ⟨g', 0, rfl, ?_⟩, by simpa using h3, h4, ?_⟩
  · rw [Nat.zero_add, h2.cell]
    have hh : j < (nums .u8 xs).length := by
      by_cases hh : j < (nums .u8 xs).length
      · exact hh
      · rw [List.getElem?_eq_none (by omega)] at hj; cases hj
    rw [List.getElem?_append_left (by simpa using hh)]
    simpa using hj
  · exact ((Touch.refl No w).alloc _).grown Hg.out (by intro k hk hlt; simp [Value.ownBlock] at hk; omega)

set_option maxHeartbeats 400000 in
theorem clip_bytes (w : World) (a : Option Addr) (n c : Nat) (h : n ≤ c) : Calls Tryz.prog 162 #[.slice a n c] w fun e w' => e = .returned (.slice a n n) ∧ w = w' := by
  have hnc : (n : Int) ≤ (c : Int) := by omega
  have h0 : (0 : Int) ≤ (n : Int) := Int.natCast_nonneg _
  go_enter Tryz.func162, Tryz.ntmps162
  go_wp2
  go_ret
  exact ⟨rfl, rfl⟩

/-- what Read answers -/
theorem sec_at (w : World) (gn : Nat) (l : List Dk.Sec) (r : List Value) (hr : Row w gn 117 (l.flatMap secCells ++ r)) (n : Nat) (hn : n < l.length) (j : Nat) (hj : j < 65) : w.cell? ⟨gn, n * 65 + j, none⟩ = (secCells (Dk.at_ l n))[j]? := by
  rw [hr.cell, List.getElem?_append_left (by
    rw [flat_length secCells_length]
    have := Nat.mul_le_mul_right 65 hn
    omega)]
  exact flat_get secCells_length l n j _ (Dk.at_get hn) hj

set_option maxHeartbeats 2000000 in
theorem read_in (w : World) (d : Nat) (D : Dk.Disk) (O : Nat → Prop) (n : Nat) (h : DiskAt w d D O) (hn : n < D.seen.length) (hb : (Dk.at_ D.seen n).bad = 0) :
    Calls Tryz.prog 232 #[.pointer (some ⟨d, 0, none⟩), .int .i64 (n : Nat)] w fun e w' => ∃ g, e = .returned (.tuple #[.slice (some ⟨g, 0, none⟩) 64 64, .int .i64 0]) ∧ w.heap.size ≤ g ∧ Rd w' (some ⟨g, 0, none⟩) (nums .u8 (Dk.at_ D.seen n).b) ∧ Touch No w w' := by
  have H := Lib.hid h
  have e1 : askSays D.seen.length n = 0 := by unfold askSays; rw [if_pos (by omega)]
  have hok := (h.ok.seen _ (Dk.at_mem hn)).b.len
  obtain ⟨gs, gn, cs, cn, rs, rn, vw, Di, _⟩ := h
  have hc1 := Di.c1
  have hlcn := Di.lcn
  have hn' : (n : Int) < (D.seen.length : Nat) := by omega
  have hcb : w.cell? ⟨gn, n * 65 + 64, none⟩ = some (.int .i64 0) := by
    rw [sec_at w gn D.seen rn Di.seen n hn 64 (by decide), sec_bad, hb]; rfl
  have hra : Hid (w.rangeAt gn (n * 65) (nums .u8 (Dk.at_ D.seen n).b)) := fun j v hj => by
    have hj64 : j < 64 := by
      by_cases hh : j < (nums .u8 (Dk.at_ D.seen n).b).length
      · rw [nums_length, hok] at hh; exact hh
      · rw [List.getElem?_eq_none (by omega)] at hj; cases hj
    rw [sec_at w gn D.seen rn Di.seen n hn j (by omega), secCells, bytes_cells hok, List.getElem?_append_left (by rw [nums_length, hok]; exact hj64)]
    exact hj
  have Hok := Lib.hid hok
  clear Di hok hb
  go_enter Tryz.func232, Tryz.ntmps232
  go_wp2_with (first
    | (go_at_call 54; refine (ask_any _ _ _ _ _ H.out).mono ?_; rintro e w' ⟨rfl, rfl⟩; rw [e1])
    | (go_at_call 246; refine (clone_bytes _ gn (n * 65) 64 64 (Dk.at_ D.seen n).b hra.out Hok.out (by decide)).mono ?_; rintro e w1 ⟨g', c', rfl, k1, k2, k3, k4, k5⟩; have K1 := Lib.hid k1; have K2 := Lib.hid k2; have K3 := Lib.hid k3; have K5 := Lib.hid k5; clear k1 k2 k3 k4 k5)
    | (go_at_call 162; refine (clip_bytes _ _ _ _ K3.out).mono ?_; rintro e w2 ⟨rfl, rfl⟩))
  go_ret2
  exact ⟨g', rfl, K1.out, K2.out, K5.out⟩
set_option maxHeartbeats 2000000 in
theorem read_lost (w : World) (d : Nat) (D : Dk.Disk) (O : Nat → Prop) (n : Nat) (h : DiskAt w d D O) (hn : n < D.seen.length) (hb : (Dk.at_ D.seen n).bad = 1) :
    Calls Tryz.prog 232 #[.pointer (some ⟨d, 0, none⟩), .int .i64 (n : Nat)] w fun e w' => e = .returned (.tuple #[.slice none 0 0, .int .i64 12]) ∧ w = w' := by
  have H := Lib.hid h
  have e1 : askSays D.seen.length n = 0 := by unfold askSays; rw [if_pos (by omega)]
  obtain ⟨gs, gn, cs, cn, rs, rn, vw, Di, _⟩ := h
  have hc1 := Di.c1
  have hlcn := Di.lcn
  have hn' : (n : Int) < (D.seen.length : Nat) := by omega
  have hcb : w.cell? ⟨gn, n * 65 + 64, none⟩ = some (.int .i64 1) := by
    rw [sec_at w gn D.seen rn Di.seen n hn 64 (by decide), sec_bad, hb]; rfl
  clear Di hb
  go_enter Tryz.func232, Tryz.ntmps232
  go_wp2_with (go_at_call 54; refine (ask_any _ _ _ _ _ H.out).mono ?_; rintro e w' ⟨rfl, rfl⟩; rw [e1])
  go_ret2
  exact ⟨rfl, rfl⟩
end Go.Proofs.YtpmkegbgbldpnaaGreatDoor
namespace Go.Proofs.YtpmkegbgbldpnaaGreatDoor
open Go Go.RowKit
namespace Dk
def writeA (D : Disk) (n : Int) (b : List Nat) : Disk := if (0 ≤ n ∧ n < D.seen.length) ∧ b.length ≤ 64 then write D n.toNat b else D
def writeR (D : Disk) (n : Int) (b : List Nat) : Nat := if (0 ≤ n ∧ n < D.seen.length) ∧ b.length ≤ 64 then 0 else 1
end Dk
end Go.Proofs.YtpmkegbgbldpnaaGreatDoor
namespace Go.Proofs.YtpmkegbgbldpnaaGreatDoor
open Go Go.RowKit
namespace Dk
def bytesOf (s : Sec) : List Nat := if s.bad = 1 then [] else s.b
def errOf (s : Sec) : Nat := if s.bad = 1 then 12 else 0
theorem bytes_le {s : Sec} (h : s.Ok) : (bytesOf s).length ≤ 64 := by
  unfold bytesOf; split
  · simp
  · rw [h.b.len]; exact Nat.le_refl _
end Dk
end Go.Proofs.YtpmkegbgbldpnaaGreatDoor
namespace Go.Proofs.YtpmkegbgbldpnaaGreatDoor
open Go Go.RowKit
set_option linter.unusedVariables false

/-- what holds of some blocks, whatever becomes of the others -/
structure Part where
  P : World → (Nat → Prop) → Prop
  stable : ∀ {F : Nat → Prop} {w w' : World} {O : Nat → Prop}, P w O → Touch F w w' → (∀ k, O k → ¬ F k) → P w' O
  lt : ∀ {w : World} {O : Nat → Prop}, P w O → ∀ k, O k → k < w.heap.size

/-- one becomes another, in its blocks and new ones -/
def Turns (w : World) (O : Nat → Prop) (p' : Part) (w' : World) : Prop := Touch O w w' ∧ ∃ O', p'.P w' O' ∧ ∀ k, O' k → O k ∨ w.heap.size ≤ k
/-- a new one -/
def Born (w : World) (p : Part) (w' : World) : Prop := Touch No w w' ∧ ∃ O', p.P w' O' ∧ ∀ k, O' k → w.heap.size ≤ k
theorem Turns.no {w w1 w2 : World} {O : Nat → Prop} {p : Part} (h : Turns w O p w1) (t : Touch No w1 w2) : Turns w O p w2 := by
  obtain ⟨t1, O', h1, h2⟩ := h
  exact ⟨t1.then t (fun _ _ f => f.elim), O', p.stable h1 t (fun _ _ f => f), h2⟩
theorem Born.no {w w1 w2 : World} {p : Part} (h : Born w p w1) (t : Touch No w1 w2) : Born w p w2 := by
  obtain ⟨t1, O', h1, h2⟩ := h
  exact ⟨t1.trans t, O', p.stable h1 t (fun _ _ f => f), h2⟩
theorem Born.pre {w w1 w2 : World} {p : Part} (t : Touch No w w1) (h : Born w1 p w2) : Born w p w2 := by
  obtain ⟨t1, O', h1, h2⟩ := h
  exact ⟨t.trans t1, O', h1, fun k hk => Nat.le_trans t.size (h2 k hk)⟩
theorem Turns.pre {w w1 w2 : World} {O : Nat → Prop} {p : Part} (t : Touch No w w1) (h : Turns w1 O p w2) : Turns w O p w2 := by
  obtain ⟨t1, O', h1, h2⟩ := h
  exact ⟨(t.no : Touch O w w1).then t1 (fun _ _ h => h), O', h1, fun k hk => (h2 k hk).imp id (fun h => Nat.le_trans t.size h)⟩
theorem Turns.then {w w1 w2 : World} {O : Nat → Prop} {p p2 : Part} (h : Turns w O p w1) (k : ∀ O', p.P w1 O' → Turns w1 O' p2 w2) : Turns w O p2 w2 := by
  obtain ⟨t1, O1, h1, h2⟩ := h
  obtain ⟨t2, O2, h3, h4⟩ := k O1 h1
  refine ⟨t1.then t2 (fun i hi hO => (h2 i hO).elim id (fun h => absurd hi (Nat.not_lt.2 h))), O2, h3, fun i hi => ?_⟩
  rcases h4 i hi with h | h
  · exact h2 i h
  · exact Or.inr (Nat.le_trans t1.size h)

/-- these, made since w0, none of which has a block of another one's -/
def Sp (w0 w : World) (l : List Part) : Prop :=
  ∃ O : Nat → Nat → Prop, (∀ i p, l[i]? = some p → p.P w (O i) ∧ ∀ k, O i k → w0.heap.size ≤ k) ∧ (∀ i j p q, l[i]? = some p → l[j]? = some q → i ≠ j → ∀ k, O i k → O j k → False) ∧ Touch (fun k => w0.heap.size ≤ k) w0 w

theorem Sp.nil {w0 w : World} (t : Touch No w0 w) : Sp w0 w [] := ⟨fun _ _ => True, fun i p h => by simp at h, fun i j p q h => by simp at h, t.mono (fun _ _ f => f.elim)⟩
section
variable {w0 w w' : World} {l : List Part}
theorem Sp.end (h : Sp w0 w l) : Touch No w0 w := by
  obtain ⟨O, h1, h2, t0⟩ := h
  exact t0.mono (fun k hk h => absurd hk (Nat.not_lt.2 h))
theorem Sp.size (h : Sp w0 w l) : w0.heap.size ≤ w.heap.size := h.end.size
theorem Sp.no (h : Sp w0 w l) (t : Touch No w w') : Sp w0 w' l := by
  obtain ⟨O, h1, h2, t0⟩ := h
  exact ⟨O, fun i p hp => ⟨p.stable (h1 i p hp).1 t (fun _ _ f => f), (h1 i p hp).2⟩, h2, t0.then t (fun _ _ f => f.elim)⟩
theorem Sp.alloc (h : Sp w0 w l) (o : Obj) : Sp w0 (w.alloc o) l := h.no ((Touch.refl No w).alloc o)
theorem Sp.get (h : Sp w0 w l) (i : Nat) {p : Part} (hi : l[i]? = some p) : ∃ O, p.P w O ∧ ∀ k, O k → w0.heap.size ≤ k := by
  obtain ⟨O, h1, _⟩ := h
  exact ⟨O i, h1 i p hi⟩
theorem get_push {α : Type} {l : List α} {b : α} {i : Nat} {p : α} (hp : (l ++ [b])[i]? = some p) : (i < l.length ∧ l[i]? = some p) ∨ (i = l.length ∧ p = b) := by
  rcases Nat.lt_or_ge i l.length with h | h
  · rw [List.getElem?_append_left h] at hp; exact Or.inl ⟨h, hp⟩
  · rw [List.getElem?_append_right h] at hp
    have : i - l.length = 0 := by
      by_cases h0 : i - l.length = 0
      · exact h0
      · rw [List.getElem?_eq_none (by simp; omega)] at hp; cases hp
    rw [this] at hp
    exact Or.inr ⟨by omega, by simpa using hp.symm⟩
theorem get_set {α : Type} {l : List α} {b : α} {i j : Nat} {p : α} (hp : (l.set i b)[j]? = some p) : (j ≠ i ∧ l[j]? = some p) ∨ (j = i ∧ p = b) := by
  by_cases e : j = i
  · subst e
    rw [List.getElem?_set] at hp
    simp only [if_true] at hp
    split at hp
    · exact Or.inr ⟨rfl, (Option.some.inj hp).symm⟩
    · cases hp
  · rw [List.getElem?_set_ne (fun h => e h.symm)] at hp
    exact Or.inl ⟨e, hp⟩
/-- a new one beside them -/
theorem Sp.push {b : Part} (h : Sp w0 w l) (m : Born w b w') : Sp w0 w' (l ++ [b]) := by
  obtain ⟨O, h1, h2, t0⟩ := h
  obtain ⟨t, OB, hB, hge⟩ := m
  refine ⟨fun i => if i = l.length then OB else O i, fun i p hp => ?_, fun i j p q hp hq hij k hk1 hk2 => ?_, t0.then t (fun _ _ f => f.elim)⟩
  · dsimp only
    rcases get_push hp with ⟨hi, hp'⟩ | ⟨hi, hpb⟩
    · rw [if_neg (by omega)]; exact ⟨p.stable (h1 i p hp').1 t (fun _ _ f => f), (h1 i p hp').2⟩
    · rw [if_pos hi, hpb]; exact ⟨hB, fun k hk => Nat.le_trans t0.size (hge k hk)⟩
  · dsimp only at hk1 hk2
    rcases get_push hp with ⟨hi, hp'⟩ | ⟨hi, hpb⟩
    · rw [if_neg (by omega)] at hk1
      rcases get_push hq with ⟨hj, hq'⟩ | ⟨hj, hqb⟩
      · rw [if_neg (by omega)] at hk2; exact h2 i j p q hp' hq' hij k hk1 hk2
      · rw [if_pos hj] at hk2
        have := p.lt (h1 i p hp').1 k hk1
        have := hge k hk2
        omega
    · rw [if_pos hi] at hk1
      rcases get_push hq with ⟨hj, hq'⟩ | ⟨hj, hqb⟩
      · rw [if_neg (by omega)] at hk2
        have := q.lt (h1 j q hq').1 k hk2
        have := hge k hk1
        omega
      · exact hij (hi.trans hj.symm)
/-- one of them turns -/
theorem Sp.use (h : Sp w0 w l) (i : Nat) {p : Part} (hi : l[i]? = some p) (p' : Part) :
    ∃ O, p.P w O ∧ (∀ k, O k → w0.heap.size ≤ k) ∧ ∀ w', Turns w O p' w' → Sp w0 w' (l.set i p') := by
  obtain ⟨O, h1, h2, t0⟩ := h
  refine ⟨O i, (h1 i _ hi).1, (h1 i _ hi).2, fun w' m => ?_⟩
  obtain ⟨t, O', hO', hin⟩ := m
  have out : ∀ (j : Nat) (q : Part), j ≠ i → l[j]? = some q → ∀ k, O j k → ¬ O' k := fun j q hj hq k hk hk' => by
    rcases hin k hk' with e | e
    · exact h2 j i q _ hq hi hj k hk e
    · have := q.lt (h1 j q hq).1 k hk; omega
  refine ⟨fun j => if j = i then O' else O j, fun j q hq => ?_, fun j1 j2 p1 q1 hp hq hij k hk1 hk2 => ?_, t0.then t (fun k _ hk => (h1 i _ hi).2 k hk)⟩
  · dsimp only
    rcases get_set hq with ⟨hj, hq'⟩ | ⟨hj, hqb⟩
    · rw [if_neg hj]; exact ⟨q.stable (h1 j q hq').1 t (fun k hk e => h2 j i q _ hq' hi hj k hk e), (h1 j q hq').2⟩
    · rw [if_pos hj, hqb]
      exact ⟨hO', fun k hk => (hin k hk).elim ((h1 i _ hi).2 k) (fun h => Nat.le_trans t0.size h)⟩
  · dsimp only at hk1 hk2
    rcases get_set hp with ⟨hj1, hp'⟩ | ⟨hj1, _⟩
    · rw [if_neg hj1] at hk1
      rcases get_set hq with ⟨hj2, hq'⟩ | ⟨hj2, _⟩
      · rw [if_neg hj2] at hk2; exact h2 j1 j2 _ _ hp' hq' hij k hk1 hk2
      · rw [if_pos hj2] at hk2; exact out j1 _ hj1 hp' k hk1 hk2
    · rw [if_pos hj1] at hk1
      rcases get_set hq with ⟨hj2, hq'⟩ | ⟨hj2, _⟩
      · rw [if_neg hj2] at hk2; exact out j2 _ hj2 hq' k hk2 hk1
      · exact hij (hj1.trans hj2.symm)
/-- two beside each other, as one -/
def Part.and (p q : Part) : Part where
  P w O := ∃ A B, p.P w A ∧ q.P w B ∧ (∀ k, A k → B k → False) ∧ ∀ k, O k ↔ A k ∨ B k
  stable := fun {F w w' O} ⟨A, B, ha, hb, hd, hO⟩ t hF => ⟨A, B, p.stable ha t (fun k hk => hF k ((hO k).2 (Or.inl hk))), q.stable hb t (fun k hk => hF k ((hO k).2 (Or.inr hk))), hd, hO⟩
  lt := fun {w O} ⟨A, B, ha, hb, hd, hO⟩ k hk => ((hO k).1 hk).elim (p.lt ha k) (q.lt hb k)
/-- the first two, as one -/
theorem Sp.join {p q : Part} (h : Sp w0 w (p :: q :: l)) : Sp w0 w (p.and q :: l) := by
  obtain ⟨O, h1, h2, t0⟩ := h
  have hp := h1 0 p rfl
  have hq := h1 1 q rfl
  refine ⟨fun i => if i = 0 then fun k => O 0 k ∨ O 1 k else O (i + 1), fun i r hr => ?_, fun i j r s hr hs hij k hk1 hk2 => ?_, t0⟩
  · match i, hr with
    | 0, hr =>
      obtain rfl : p.and q = r := by simpa using hr
      exact ⟨⟨O 0, O 1, hp.1, hq.1, h2 0 1 p q rfl rfl (by decide), fun k => Iff.rfl⟩, fun k hk => hk.elim (hp.2 k) (hq.2 k)⟩
    | i + 1, hr => exact h1 (i + 2) r hr
  · match i, j, hr, hs with
    | 0, 0, _, _ => exact hij rfl
    | 0, j + 1, _, hs =>
      rcases hk1 with hk1 | hk1
      · exact h2 0 (j + 2) p s rfl hs (by omega) k hk1 hk2
      · exact h2 1 (j + 2) q s rfl hs (by omega) k hk1 hk2
    | i + 1, 0, hr, _ =>
      rcases hk2 with hk2 | hk2
      · exact h2 (i + 2) 0 r p hr rfl (by omega) k hk1 hk2
      · exact h2 (i + 2) 1 r q hr rfl (by omega) k hk1 hk2
    | i + 1, j + 1, hr, hs => exact h2 (i + 2) (j + 2) r s hr hs (by omega) k hk1 hk2
end

/-- a row of cells -/
def Part.row (g : Nat) (T : TypeId) (vs : List Value) : Part where
  P w O := Row w g T vs ∧ O g ∧ ∀ k, O k → k < w.heap.size
  stable := fun {F w w' O} ⟨h, ho, hl⟩ t hF => ⟨h.touch t (hF g ho), ho, fun k hk => Nat.lt_of_lt_of_le (hl k hk) t.size⟩
  lt := fun {w O} h => h.2.2
theorem Born.row (w : World) (T : TypeId) (vs : Array Value) : Born w (.row w.heap.size T vs.toList) (w.alloc (.cells vs T)) :=
  ⟨(Touch.refl No w).alloc _, (fun k => k = w.heap.size), ⟨Row.new w T vs, rfl, fun k hk => by simp; omega⟩, fun k hk => Nat.le_of_eq hk.symm⟩
theorem Sp.row {w0 w : World} {l : List Part} (h : Sp w0 w l) (i : Nat) {g : Nat} {T : TypeId} {vs : List Value} (hi : l[i]? = some (.row g T vs)) : Row w g T vs := by
  obtain ⟨O, h1, _⟩ := h.get i hi
  exact h1.1
end Go.Proofs.YtpmkegbgbldpnaaGreatDoor
