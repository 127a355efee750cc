/-
  Package disks by its own text: Read, what is read as a part; a disk as a part beside others; what a book's laws make of both disks.
-/
import Derived.Test.YtkiehoboeiengaaK15
import Derived.Test.YtkiehoboeiengaaK16
import Derived.Test.YtkiehoboeiengaaK25
namespace Go.Proofs.Ytkiehoboeiengaa
open Go Go.RowKit
set_option linter.unusedSimpArgs false
set_option linter.unusedVariables false

set_option maxHeartbeats 2000000 in
theorem clone_own (w : World) (g o n c : Nat) (xs : List Nat) (hr : w.rangeAt g o (nums .u8 xs)) (hl : xs.length = n) (hn : n ≤ 16384) :
    Calls Try.prog 85 #[.slice (some ⟨g, o, none⟩) n c] w fun e w' => ∃ g' c', e = .returned (.slice (some ⟨g', 0, none⟩) n c') ∧ Own w' w.heap.size 5 (.slice (some ⟨g', 0, none⟩) n c') (nums .u8 xs) ∧ n ≤ c' ∧ Touch No w w' := by
  have hq := fun (w : World) (a : Option Addr) (n c n' c' : Nat) => Lib.run_eql_slice_nil (P := Try.prog) w 34 5 a n c n' c' Try.underlying34
  obtain ⟨I, z, hI⟩ := byte_is
  have HI := Lib.hid hI
  have H := Lib.hid hr
  have Hl := Lib.hid hl
  have Hn := Lib.hid hn
  clear hr hn hl hI
  go_enter Try.func85, Try.ntmps85
  go_wp2_with (at_builtin; refine wpList_append_own _ rfl _ _ 34 rfl w.heap.size 5 I z 1 1 Try.underlying34 HI.out.info HI.out.zero HI.out.size HI.out.bytes (by rw [HI.out.cells]; rfl) (by decide) _ _ _ rfl (World.ownsRow_made w #[] 0 (Nat.le_refl _) (Nat.zero_le _) (by simp)) ⟨g, o, none⟩ n c (nums .u8 xs) rfl ?qc1 ?qc2 ?qc3 ?qc4 ?qc5 ?qc6 ?_)
  case qc1 => rw [nums_length, Hl.out, Nat.mul_one]
  case qc2 =>
    intro j u hj
    rw [Addr.add_lit]
    exact Lib.cell?_alloc_some _ (H.out j u hj)
  case qc3 => exact nums_one _ _
  case qc4 => have := Hn.out; unfold maxLen; omega
  case qc5 => have := Hn.out; omega
  case qc6 => simp
  intro v' w1 hown hgrow hnil
  have Ho := Lib.hid hown
  have Hg := Lib.hid hgrow
  have Hx := Lib.hid hnil
  clear hown hgrow hnil
  go_wp2
  go_ret
  obtain ⟨g', c', r', rfl, h1, h2, h3, h4⟩ := ownRow Ho.out Hx.out
  refine ⟨g', c', by simp, ?_, by simpa using h3, ((Touch.refl No w).alloc _).grown Hg.out (by intro k hk hlt; simp [Value.ownBlock] at hk; omega)⟩
  have h5 := Ho.out
  show World.ownsRow _ _ _ 1 _ (nums .u8 xs).length _
  rw [nums_length, Hl.out]
  first | exact h5 | simpa using h5
set_option maxHeartbeats 2000000 in
theorem read_own (w : World) (d : Nat) (D : Dk.Disk) (O : Nat → Prop) (n : Nat) (h : DiskAt w d D O) (hn : n < D.seen.length) (hb : (Dk.at_ D.seen n).bad = 0) :
    Calls Try.prog 60 #[.pointer (some ⟨d, 0, none⟩), .int .i64 (n : Nat)] w fun e w' => ∃ g, e = .returned (.tuple #[.slice (some ⟨g, 0, none⟩) 64 64, .int .i64 0]) ∧ Born w (Part.sl 5 (some ⟨g, 0, none⟩) 64 64 (nums .u8 (Dk.at_ D.seen n).b)) w' := by
  have H := Lib.hid h
  have e1 : askSays D.seen.length n = 0 := by unfold askSays; rw [if_pos (by omega)]
  have hok := (h.ok.seen _ (Dk.at_mem hn)).b.len
  obtain ⟨gs, gn, cs, cn, rs, rn, vw, Di, _⟩ := h
  have hc1 := Di.c1
  have hlcn := Di.lcn
  have hn' : (n : Int) < (D.seen.length : Nat) := by omega
  have hcb : w.cell? ⟨gn, n * 65 + 64, none⟩ = some (.int .i64 0) := by
    rw [sec_at w gn D.seen rn Di.seen n hn 64 (by decide), sec_bad, hb]; rfl
  have hra : Hid (w.rangeAt gn (n * 65) (nums .u8 (Dk.at_ D.seen n).b)) := fun j v hj => by
    have hj64 : j < 64 := by
      by_cases hh : j < (nums .u8 (Dk.at_ D.seen n).b).length
      · rw [nums_length, hok] at hh; exact hh
      · rw [List.getElem?_eq_none (by omega)] at hj; cases hj
    rw [sec_at w gn D.seen rn Di.seen n hn j (by omega), secCells, bytes_cells hok, List.getElem?_append_left (by rw [nums_length, hok]; exact hj64)]
    exact hj
  have Hok := Lib.hid hok
  clear Di hok hb
  go_enter Try.func60, Try.ntmps60
  go_wp2_with (first
    | (go_at_call 37; refine (ask_any _ _ _ _ _ H.out).mono ?_; rintro e w' ⟨rfl, rfl⟩; rw [e1])
    | (go_at_call 85; refine (clone_own _ gn (n * 65) 64 64 (Dk.at_ D.seen n).b hra.out Hok.out (by decide)).mono ?_; rintro e w1 ⟨g', c', rfl, k2, k3, k5⟩; have K2 := Lib.hid k2; have K3 := Lib.hid k3; have K5 := Lib.hid k5; clear k2 k3 k5)
    | (go_at_call 84; refine (clip_bytes _ _ _ _ K3.out).mono ?_; rintro e w2 ⟨rfl, rfl⟩))
  go_ret2
  exact ⟨g', rfl, born_sl K5.out (Nat.le_refl _) K2.out (Nat.le_refl _) K3.out⟩
/-- the program's disk, as a part -/
def Part.disk (d : Nat) (D : Dk.Disk) : Part where
  P w O := DiskAt w d D O ∧ ∀ k, O k → k < w.heap.size
  stable := fun {F w w' O} ⟨h1, h2⟩ t hF => ⟨h1.touch t (fun k _ hk => hF k hk), fun k hk => Nat.lt_of_lt_of_le (h2 k hk) t.size⟩
  lt := fun {w O} h => h.2
theorem born_disk {w w' : World} {d : Nat} {D : Dk.Disk} (h : Made w d D w') : Born w (Part.disk d D) w' := by
  obtain ⟨t, O, hO⟩ := h
  exact ⟨t, O, ⟨hO.on, hO.lt⟩, hO.ge⟩
theorem al_disk {w : World} {d : Nat} {D : Dk.Disk} {A : Nat → Prop} (h : Al w [Part.disk d D] A) : ∃ O, Dsk w d D 0 O ∧ ∀ k, O k → A k := by
  obtain ⟨O, _, ⟨h, hl⟩, _, _, h1, _⟩ := h
  exact ⟨O, ⟨h, hl, fun _ _ => Nat.zero_le _⟩, h1⟩
theorem disk_turn {w w' : World} {d : Nat} {D' : Dk.Disk} {O A : Nat → Prop} (hA : ∀ k, O k → A k) (h : After w d D' 0 O w') : TurnsL w A [Part.disk d D'] w' := by
  obtain ⟨t, O', hO, hin⟩ := h
  exact ⟨t.mono (fun k _ hk => hA k hk), O', ⟨O', fun _ => False, ⟨hO.on, hO.lt⟩, trivial, fun _ _ f => f, fun _ h => h, fun _ f => f.elim⟩, fun k hk => (hin k hk).imp (hA k) id⟩
section
variable {w : World} {d : Nat} {D : Dk.Disk} {A : Nat → Prop}
theorem diskWrite_al (h : Al w [Part.disk d D] A) (n : Int) (a : Option Addr) (l c : Nat) (b : List Nat) (hl : b.length = l) (hlt : ∀ x ∈ b, x < 256) (hr : Rd w a (nums .u8 b)) (hw : D.waits.length ≤ 1000000) :
    Calls Try.prog 14 #[.pointer (some ⟨d, 0, none⟩), .int .i64 n, .slice a l c] w fun e w' => e = .returned (.int .i64 (Dk.writeR D n b : Nat)) ∧ TurnsL w A [Part.disk d (Dk.writeA D n b)] w' := by
  obtain ⟨O, hO, hA⟩ := al_disk h
  by_cases hc : (0 ≤ n ∧ n < D.seen.length) ∧ b.length ≤ 64
  · rw [Dk.writeR, Dk.writeA, if_pos hc, if_pos hc]
    obtain ⟨m, rfl⟩ : ∃ m : Nat, n = (m : Nat) := ⟨n.toNat, by omega⟩
    exact (write_k w d D 0 O m a l c b (Nat.zero_le _) hO (by omega) hl (by omega) hlt hr hw).mono fun _ _ ⟨he, t⟩ => ⟨he, disk_turn hA t⟩
  · rw [Dk.writeR, Dk.writeA, if_neg hc, if_neg hc]
    exact (write_bad w d D O n a l c hO.on (by
      by_cases h1 : 0 ≤ n ∧ n < D.seen.length
      · exact Or.inr (by
          rcases Nat.lt_or_ge 64 l with h2 | h2
          · exact h2
          · exact absurd ⟨h1, by omega⟩ hc)
      · exact Or.inl h1)).mono fun _ _ ⟨he, e⟩ => ⟨he, e ▸ TurnsL.same h⟩
theorem diskSync_al (h : Al w [Part.disk d D] A) :
    Calls Try.prog 42 #[.pointer (some ⟨d, 0, none⟩)] w fun e w' => e = .returned (.int .i64 0) ∧ TurnsL w A [Part.disk d (Dk.sync D)] w' := by
  obtain ⟨O, hO, hA⟩ := al_disk h
  exact (sync_k w d D 0 O (Nat.zero_le _) hO).mono fun _ _ ⟨he, t⟩ => ⟨he, disk_turn hA t⟩
theorem diskBad_al (h : Al w [Part.disk d D] A) (n : Int) (hw : D.waits.length ≤ 1000000) :
    Calls Try.prog 12 #[.pointer (some ⟨d, 0, none⟩), .int .i64 n] w fun e w' => e = .returned (.int .i64 (Dk.badR D n : Nat)) ∧ TurnsL w A [Part.disk d (Dk.badA D n)] w' := by
  obtain ⟨O, hO, hA⟩ := al_disk h
  by_cases hc : 0 ≤ n ∧ n < D.seen.length
  · rw [Dk.badR, Dk.badA, if_pos hc, if_pos hc]
    obtain ⟨m, rfl⟩ : ∃ m : Nat, n = (m : Nat) := ⟨n.toNat, by omega⟩
    exact (bad_k w d D 0 O m (Nat.zero_le _) hO (by omega) hw).mono fun _ _ ⟨he, t⟩ => ⟨he, disk_turn hA t⟩
  · rw [Dk.badR, Dk.badA, if_neg hc, if_neg hc]
    exact (bad_out w d D O n hO.on hc).mono fun _ _ ⟨he, e⟩ => ⟨he, e ▸ TurnsL.same h⟩
theorem diskRot_al (h : Al w [Part.disk d D] A) (n p : Int) (x : Nat) (hx : x < 256) (hw : D.waits.length ≤ 1000000) :
    Calls Try.prog 10 #[.pointer (some ⟨d, 0, none⟩), .int .i64 n, .int .i64 p, .int .u8 (x : Nat)] w fun e w' => e = .returned (.int .i64 (Dk.rotR D n p : Nat)) ∧ TurnsL w A [Part.disk d (Dk.rotA D n p x)] w' := by
  obtain ⟨O, hO, hA⟩ := al_disk h
  by_cases hc : (0 ≤ n ∧ n < D.seen.length) ∧ (0 ≤ p ∧ p < 64)
  · rw [Dk.rotR, Dk.rotA, if_pos hc, if_pos hc]
    obtain ⟨m, rfl⟩ : ∃ m : Nat, n = (m : Nat) := ⟨n.toNat, by omega⟩
    obtain ⟨q, rfl⟩ : ∃ q : Nat, p = (q : Nat) := ⟨p.toNat, by omega⟩
    exact (rot_k w d D 0 O m q x (Nat.zero_le _) hO (by omega) (by omega) hx hw).mono fun _ _ ⟨he, t⟩ => ⟨he, disk_turn hA t⟩
  · rw [Dk.rotR, Dk.rotA, if_neg hc, if_neg hc]
    by_cases h1 : 0 ≤ n ∧ n < D.seen.length
    · exact (rot_bad w d D O n p (x : Nat) hO.on h1 (by omega)).mono fun _ _ ⟨he, e⟩ => ⟨he, e ▸ TurnsL.same h⟩
    · exact (rot_out w d D O n p (x : Nat) hO.on h1).mono fun _ _ ⟨he, e⟩ => ⟨he, e ▸ TurnsL.same h⟩
end
/-- what Read says, whatever is asked for -/
def Dk.readE (D : Dk.Disk) (n : Int) : Nat := if 0 ≤ n ∧ n < D.seen.length then Dk.errOf (Dk.at_ D.seen n.toNat) else 1
def Dk.readB (D : Dk.Disk) (n : Int) : List Nat := if 0 ≤ n ∧ n < D.seen.length then Dk.bytesOf (Dk.at_ D.seen n.toNat) else []
theorem Dk.readB_le {D : Dk.Disk} (ok : Dk.Ok D) (n : Int) : (Dk.readB D n).length ≤ 64 := by
  unfold Dk.readB
  split
  · exact Dk.bytes_le (ok.seen _ (Dk.at_mem (by omega)))
  · simp
theorem diskRead_born {w : World} {d : Nat} {D : Dk.Disk} {O : Nat → Prop} (h : DiskAt w d D O) (n : Int) :
    Calls Try.prog 60 #[.pointer (some ⟨d, 0, none⟩), .int .i64 n] w fun e w' => ∃ a l, e = .returned (.tuple #[.slice a l l, .int .i64 (Dk.readE D n : Nat)]) ∧ (Dk.readB D n).length = l ∧ Born w (Part.sl 5 a l l (nums .u8 (Dk.readB D n))) w' := by
  have nil : Born w (Part.sl 5 none 0 0 (nums .u8 [])) w := born_own (Touch.refl No w) (Own.nil w w.heap.size 5)
  by_cases hc : 0 ≤ n ∧ n < D.seen.length
  · rw [Dk.readE, Dk.readB, if_pos hc, if_pos hc]
    obtain ⟨m, rfl⟩ : ∃ m : Nat, n = (m : Nat) := ⟨n.toNat, by omega⟩
    rw [Int.toNat_natCast]
    have hm : m < D.seen.length := by omega
    by_cases hb : (Dk.at_ D.seen m).bad = 1
    · rw [Dk.bytesOf, Dk.errOf, if_pos hb, if_pos hb]
      exact (read_lost w d D O m h hm hb).mono fun _ _ ⟨he, e⟩ => ⟨none, 0, he, rfl, e ▸ nil⟩
    · have hok := h.ok.seen _ (Dk.at_mem hm)
      rw [Dk.bytesOf, Dk.errOf, if_neg hb, if_neg hb]
      exact (read_own w d D O m h hm (by have := hok.bad; omega)).mono fun _ _ ⟨g, he, hb⟩ => ⟨_, 64, he, hok.b.len, hb⟩
  · rw [Dk.readE, Dk.readB, if_neg hc, if_neg hc]
    exact (read_out w d D O n h hc).mono fun _ _ ⟨he, e⟩ => ⟨none, 0, he, rfl, e ▸ nil⟩
end Go.Proofs.Ytkiehoboeiengaa
