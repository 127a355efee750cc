/-
  Package disks by its own text: what is no sector of the disk: Read, Bad, Rot.
  Package disks by its own text: the contracts once more, with the blocks that are a disk's own (Dsk).
-/
import Derived.Test.YtkiehoboeiengaaK06
import Derived.Test.YtkiehoboeiengaaK14
namespace Go.Proofs.Ytkiehoboeiengaa
open Go Go.RowKit

set_option maxHeartbeats 400000 in
theorem read_out (w : World) (d : Nat) (D : Dk.Disk) (O : Nat → Prop) (n : Int) (h : DiskAt w d D O) (hb : ¬ (0 ≤ n ∧ n < D.seen.length)) :
    Calls Try.prog 60 #[.pointer (some ⟨d, 0, none⟩), .int .i64 n] w fun e w' => e = .returned (.tuple #[.slice none 0 0, .int .i64 1]) ∧ w = w' := by
  have H := Lib.hid h
  have e1 : askSays D.seen.length n = 1 := by unfold askSays; rw [if_neg hb]
  clear h hb
  go_enter Try.func60, Try.ntmps60
  go_wp2_with (go_at_call 37; refine (ask_any _ _ _ _ _ H.out).mono ?_; rintro e w' ⟨rfl, rfl⟩; rw [e1])
  go_ret2
  exact ⟨rfl, rfl⟩
set_option maxHeartbeats 400000 in
theorem bad_out (w : World) (d : Nat) (D : Dk.Disk) (O : Nat → Prop) (n : Int) (h : DiskAt w d D O) (hb : ¬ (0 ≤ n ∧ n < D.seen.length)) :
    Calls Try.prog 12 #[.pointer (some ⟨d, 0, none⟩), .int .i64 n] w fun e w' => e = .returned (.int .i64 1) ∧ w = w' := by
  have H := Lib.hid h
  have e1 : askSays D.seen.length n = 1 := by unfold askSays; rw [if_neg hb]
  clear h hb
  go_enter Try.func12, Try.ntmps12
  go_wp2_with (go_at_call 37; refine (ask_any _ _ _ _ _ H.out).mono ?_; rintro e w' ⟨rfl, rfl⟩; rw [e1])
  go_ret
  exact ⟨rfl, rfl⟩
set_option maxRecDepth 100000 in
set_option maxHeartbeats 400000 in
theorem rot_out (w : World) (d : Nat) (D : Dk.Disk) (O : Nat → Prop) (n p x : Int) (h : DiskAt w d D O) (hb : ¬ (0 ≤ n ∧ n < D.seen.length)) :
    Calls Try.prog 10 #[.pointer (some ⟨d, 0, none⟩), .int .i64 n, .int .i64 p, .int .u8 x] w fun e w' => e = .returned (.int .i64 1) ∧ w = w' := by
  have H := Lib.hid h
  have e1 : askSays D.seen.length n = 1 := by unfold askSays; rw [if_neg hb]
  clear h hb
  go_enter Try.func10, Try.ntmps10
  go_wp2_with (go_at_call 37; refine (ask_any _ _ _ _ _ H.out).mono ?_; rintro e w' ⟨rfl, rfl⟩; rw [e1])
  go_ret
  exact ⟨rfl, rfl⟩
set_option maxRecDepth 100000 in
set_option maxHeartbeats 400000 in
theorem rot_bad (w : World) (d : Nat) (D : Dk.Disk) (O : Nat → Prop) (n p x : Int) (h : DiskAt w d D O) (hn : 0 ≤ n ∧ n < D.seen.length) (hp : p < 0 ∨ 64 ≤ p) :
    Calls Try.prog 10 #[.pointer (some ⟨d, 0, none⟩), .int .i64 n, .int .i64 p, .int .u8 x] w fun e w' => e = .returned (.int .i64 1) ∧ w = w' := by
  have H := Lib.hid h
  have e1 : askSays D.seen.length n = 0 := by unfold askSays; rw [if_pos hn]
  clear h hn
  by_cases h0 : p < 0
  · clear hp
    go_enter Try.func10, Try.ntmps10
    go_wp2_with (go_at_call 37; refine (ask_any _ _ _ _ _ H.out).mono ?_; rintro e w' ⟨rfl, rfl⟩; rw [e1])
    go_ret
    exact ⟨rfl, rfl⟩
  · have h1 : (64 : Int) ≤ p := by omega
    clear hp
    go_enter Try.func10, Try.ntmps10
    go_wp2_with (go_at_call 37; refine (ask_any _ _ _ _ _ H.out).mono ?_; rintro e w' ⟨rfl, rfl⟩; rw [e1])
    go_ret
    exact ⟨rfl, rfl⟩
end Go.Proofs.Ytkiehoboeiengaa
namespace Go.Proofs.Ytkiehoboeiengaa
open Go Go.RowKit

/-- a disk in blocks of its own: O, all from B on -/
structure Dsk (w : World) (d : Nat) (D : Dk.Disk) (B : Nat) (O : Nat → Prop) : Prop where
  on : DiskAt w d D O
  lt : ∀ k, O k → k < w.heap.size
  ge : ∀ k, O k → B ≤ k

theorem DiskAt.tight {w : World} {d : Nat} {D : Dk.Disk} {O : Nat → Prop} (h : DiskAt w d D O) : DiskAt w d D (fun k => O k ∧ k < w.heap.size) := by
  obtain ⟨gs, gn, cs, cn, rs, rn, vw, h, o1, o2, o3, o4⟩ := h
  exact ⟨gs, gn, cs, cn, rs, rn, vw, h, ⟨o1, h.lt⟩, ⟨o2, h.sure.lt⟩, ⟨o3, h.seen.lt⟩, fun k hk => ⟨o4 k hk, (rowBlock h.waits hk).2⟩⟩
theorem DiskAt.mono {w : World} {d : Nat} {D : Dk.Disk} {O O' : Nat → Prop} (h : DiskAt w d D O) (hO : ∀ k, O k → O' k) : DiskAt w d D O' := by
  obtain ⟨gs, gn, cs, cn, rs, rn, vw, h, o1, o2, o3, o4⟩ := h
  exact ⟨gs, gn, cs, cn, rs, rn, vw, h, hO _ o1, hO _ o2, hO _ o3, fun k hk => hO _ (o4 k hk)⟩
theorem Dsk.ok {w : World} {d : Nat} {D : Dk.Disk} {B : Nat} {O : Nat → Prop} (h : Dsk w d D B O) : Dk.Ok D := h.on.ok
theorem Dsk.touch {F : Nat → Prop} {w w' : World} {d : Nat} {D : Dk.Disk} {B : Nat} {O : Nat → Prop} (h : Dsk w d D B O) (t : Touch F w w') (hF : ∀ k, O k → ¬ F k) : Dsk w' d D B O :=
  ⟨h.on.touch t (fun k _ hk => hF k hk), fun k hk => Nat.lt_of_lt_of_le (h.lt k hk) t.size, h.ge⟩
theorem Dsk.no {w w' : World} {d : Nat} {D : Dk.Disk} {B : Nat} {O : Nat → Prop} (h : Dsk w d D B O) (t : Touch No w w') : Dsk w' d D B O := h.touch t (fun _ _ f => f)
theorem Dsk.base {w : World} {d : Nat} {D : Dk.Disk} {B B' : Nat} {O : Nat → Prop} (h : Dsk w d D B O) (hB : B' ≤ B) : Dsk w d D B' O := ⟨h.on, h.lt, fun k hk => Nat.le_trans hB (h.ge k hk)⟩

/-- what a call of a disk's leaves: the disk, in its blocks or new ones -/
def After (w : World) (d : Nat) (D : Dk.Disk) (B : Nat) (O : Nat → Prop) (w' : World) : Prop :=
  Touch O w w' ∧ ∃ O', Dsk w' d D B O' ∧ ∀ k, O' k → O k ∨ w.heap.size ≤ k
/-- a new disk -/
def Made (w : World) (d : Nat) (D : Dk.Disk) (w' : World) : Prop := Touch No w w' ∧ ∃ O', Dsk w' d D w.heap.size O'

theorem after_of {w w' : World} {d : Nat} {D D' : Dk.Disk} {B : Nat} {O : Nat → Prop} (h : Dsk w d D B O) (hB : B ≤ w.heap.size) (t : Touch O w w') (h' : DiskAt w' d D' (fun k => O k ∨ w.heap.size ≤ k)) : After w d D' B O w' :=
  ⟨t, _, ⟨h'.tight, fun _ hk => hk.2, fun k hk => by
    rcases hk.1 with e | e
    · exact h.ge k e
    · omega⟩, fun _ hk => hk.1⟩
theorem made_of {w w' : World} {d : Nat} {D' : Dk.Disk} (t : Touch No w w') (h' : DiskAt w' d D' (fun k => w.heap.size ≤ k)) : Made w d D' w' :=
  ⟨t, _, h'.tight, fun _ hk => hk.2, fun _ hk => hk.1⟩

theorem new_k (w : World) (n : Nat) (h1 : 1 ≤ n) (hn : n ≤ 16384) :
    Calls Try.prog 8 #[.int .i64 (n : Nat)] w fun e w' => ∃ d, e = .returned (.tuple #[.pointer (some ⟨d, 0, none⟩), .int .i64 0]) ∧ Made w d (Dk.new n) w' :=
  (new_is w n h1 hn).mono fun _ _ ⟨d, he, _, h, t⟩ => ⟨d, he, made_of t h⟩
theorem write_k (w : World) (d : Nat) (D : Dk.Disk) (B : Nat) (O : Nat → Prop) (n : Nat) (a : Option Addr) (l c : Nat) (b : List Nat) (hB : B ≤ w.heap.size) (h : Dsk w d D B O) (hn : n < D.seen.length) (hl : b.length = l) (hl64 : l ≤ 64) (hlt : ∀ x ∈ b, x < 256) (hr : Rd w a (nums .u8 b)) (hw : D.waits.length ≤ 1000000) :
    Calls Try.prog 14 #[.pointer (some ⟨d, 0, none⟩), .int .i64 (n : Nat), .slice a l c] w fun e w' => e = .returned (.int .i64 0) ∧ After w d (Dk.write D n b) B O w' := by
  subst hl
  exact (write_in w d D O n a c b h.on hn hl64 hlt hr hw).mono fun _ _ ⟨he, t, h'⟩ => ⟨he, after_of h hB t h'⟩
theorem sync_k (w : World) (d : Nat) (D : Dk.Disk) (B : Nat) (O : Nat → Prop) (hB : B ≤ w.heap.size) (h : Dsk w d D B O) :
    Calls Try.prog 42 #[.pointer (some ⟨d, 0, none⟩)] w fun e w' => e = .returned (.int .i64 0) ∧ After w d (Dk.sync D) B O w' :=
  (sync_in w d D O h.on).mono fun _ _ ⟨he, t, h'⟩ => ⟨he, after_of h hB t h'⟩
theorem bad_k (w : World) (d : Nat) (D : Dk.Disk) (B : Nat) (O : Nat → Prop) (n : Nat) (hB : B ≤ w.heap.size) (h : Dsk w d D B O) (hn : n < D.seen.length) (hw : D.waits.length ≤ 1000000) :
    Calls Try.prog 12 #[.pointer (some ⟨d, 0, none⟩), .int .i64 (n : Nat)] w fun e w' => e = .returned (.int .i64 0) ∧ After w d (Dk.bad D n) B O w' :=
  (bad_in w d D O n h.on hn hw).mono fun _ _ ⟨he, t, h'⟩ => ⟨he, after_of h hB t (h'.mono fun _ hk => Or.inl hk)⟩
theorem rot_k (w : World) (d : Nat) (D : Dk.Disk) (B : Nat) (O : Nat → Prop) (n p x : Nat) (hB : B ≤ w.heap.size) (h : Dsk w d D B O) (hn : n < D.seen.length) (hp : p < 64) (hx : x < 256) (hw : D.waits.length ≤ 1000000) :
    Calls Try.prog 10 #[.pointer (some ⟨d, 0, none⟩), .int .i64 (n : Nat), .int .i64 (p : Nat), .int .u8 (x : Nat)] w fun e w' => e = .returned (.int .i64 0) ∧ After w d (Dk.rot D n p x) B O w' :=
  (rot_in w d D O n p x h.on hn hp hx hw).mono fun _ _ ⟨he, t, h'⟩ => ⟨he, after_of h hB t (h'.mono fun _ hk => Or.inl hk)⟩
theorem fail_k (w : World) (d : Nat) (D : Dk.Disk) (B : Nat) (O : Nat → Prop) (keep : Nat) (torn : Int) (hk : keep < 18446744073709551616) (h : Dsk w d D B O) (hw : D.waits.length ≤ 1000000) :
    Calls Try.prog 16 #[.pointer (some ⟨d, 0, none⟩), .int .u64 (keep : Nat), .int .i64 torn] w fun e w' => ∃ d', e = .returned (.tuple #[.pointer (some ⟨d', 0, none⟩), .int .i64 0]) ∧ Made w d' (Dk.fail D keep torn) w' :=
  (fail_in w d D O keep torn hk h.on hw).mono fun _ _ ⟨d', he, _, h', t⟩ => ⟨d', he, made_of t h'⟩

theorem rd_one (w : World) (T : TypeId) (x : Nat) (fr : Nat × Nat) : Rd (w.alloc (.cells #[.int .u8 (x : Nat)] T fr)) (some ⟨w.heap.size, 0, none⟩) (nums .u8 [x]) := by
  intro i v hi
  match i, hi with
  | 0, hi =>
    have : Value.int .u8 (x : Nat) = v := by simpa [nums] using hi
    subst this
    exact ⟨_, _, rfl, by
      have hh := heap_alloc_new w (.cells #[.int .u8 (x : Nat)] T fr)
      simp only [World.cell?]; rw [hh]; rfl⟩
end Go.Proofs.Ytkiehoboeiengaa
