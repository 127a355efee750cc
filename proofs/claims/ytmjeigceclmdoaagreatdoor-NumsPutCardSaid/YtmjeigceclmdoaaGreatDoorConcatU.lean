/-
  slices.Grow of nil and slices.Concat of two, by their own text.
-/
import Derived.Test.YtmjeigceclmdoaaGreatDoorNumA
namespace Go.Proofs.YtmjeigceclmdoaaGreatDoor
open Go Go.RowKit
set_option linter.unusedSimpArgs false

def GrowUPost (w : World) (e : Ending) (w' : World) : Prop :=
  ∃ a c, e = .returned (.slice a 0 c) ∧ Own w' w.heap.size 23 (.slice a 0 c) [] ∧ Touch No w w'

set_option maxRecDepth 100000 in
set_option maxHeartbeats 2000000 in
theorem growU_any (w : World) (n : Nat) (hn : (n : Int) ≤ 10000000000000) :
    Calls Tryz.prog 174 #[.slice none 0 0, .int .i64 (n : Nat)] w (GrowUPost w) := by
  obtain ⟨I, hi0, hi1, hi2, hi3⟩ := u32_info
  have hh0 : ∀ wx : World, (Instr.slice 67 (.slice none 0 0) none (some (.int .i64 0)) none).run Tryz.prog wx = .ok (.slice none 0 0) wx := fun wx => run_head Tryz.underlying67 hi0 hi2 none 0 0 0 .i64 (Nat.le_refl _) wx
  have hh : ∀ (wx : World) (a : Option Addr) (n c : Nat), (Instr.slice 67 (.slice a n c) none (some (.int .i64 0)) none).run Tryz.prog wx = .ok (.slice a 0 c) wx := fun wx a n c => run_head Tryz.underlying67 hi0 hi2 a n c 0 .i64 (Nat.zero_le _) wx
  have Hi := Lib.hid (And.intro hi0 (And.intro hi1 (And.intro hi2 hi3)))
  clear hi0 hi1 hi2 hi3
  by_cases h0 : n = 0
  · subst h0
    go_enter Tryz.func174, Tryz.ntmps174
    go_wp2
    go_ret
    exact ⟨_, _, rfl, Own.nil _ _ _, Touch.refl _ _⟩
  · have hpos : 0 < n := by omega
    have hp : (0 : Int) < (n : Nat) := by omega
    have H0 := Lib.hid h0
    clear h0
    go_enter Tryz.func174, Tryz.ntmps174
    go_wp2_with (refine wpList_append_zeros rfl _ _ _ _ rfl w.heap.size 23 I (.int .u32 0) (.int .u32 0) 4 Tryz.underlying67 Tryz.underlying3 Hi.out.1 Hi.out.2.1 Hi.out.2.2.1 Hi.out.2.2.2 rfl rfl (.slice none 0 0) [] (Own.nil _ _ _) rfl n rfl (by simp; unfold maxLen; omega) (by simp; omega) (Nat.le_refl _) ?_)
    intro v' w3 own3 t3
    obtain ⟨a, c, rfl, _⟩ := own3.form' (n := n) (by simp)
    have O3 := Lib.hid own3
    have T3 := Lib.hid (t3.mono (G := No) (fun k _ h => by cases h))
    clear own3 t3
    go_wp2
    go_ret
    exact ⟨_, _, rfl, O3.out.head (Nat.zero_le _), T3.out⟩

def ConcatUPost (w : World) (xs : List Value) (N : Nat) (e : Ending) (w' : World) : Prop :=
  ∃ a c, e = .returned (.slice a N c) ∧ Own w' w.heap.size 23 (.slice a N c) xs ∧ Touch No w w'

set_option maxRecDepth 100000 in
set_option maxHeartbeats 4000000 in
theorem concatU_any (w : World) (g o c : Nat) (a1 : Option Addr) (n1 c1 : Nat) (us1 : List Value) (a2 : Option Addr) (n2 c2 : Nat) (us2 : List Value) (hc1 : w.cell? ⟨g, o, none⟩ = some (.slice a1 n1 c1)) (hc2 : w.cell? ⟨g, o + 1, none⟩ = some (.slice a2 n2 c2))
    (hl1 : us1.length = n1) (hl2 : us2.length = n2) (hr1 : Rd w a1 us1) (hr2 : Rd w a2 us2) (ho1 : ∀ u ∈ us1, u.oneCell' = true) (ho2 : ∀ u ∈ us2, u.oneCell' = true) (N : Nat) (hN : n1 + n2 = N) (hmax : (N : Int) ≤ 10000000000000) :
    Calls Tryz.prog 87 #[.slice (some ⟨g, o, none⟩) 2 c] w (ConcatUPost w (us1 ++ us2) N) := by
  obtain ⟨I, hi0, hi1, hi2, hi3⟩ := u32_info
  have Hi := Lib.hid (And.intro hi0 (And.intro hi1 (And.intro hi2 hi3)))
  have HC := Lib.hid (And.intro hc1 hc2)
  have HL := Lib.hid (And.intro hl1 hl2)
  have HR := Lib.hid (And.intro hr1 hr2)
  have HO := Lib.hid (And.intro ho1 ho2)
  have HN := Lib.hid hN
  have hb1 : (n1 : Int) ≤ 10000000000000 := by omega
  have hb2 : (n2 : Int) ≤ 10000000000000 := by omega
  have hsum : (n1 : Int) + (n2 : Int) = (N : Nat) := by omega
  clear hi0 hi1 hi2 hi3 hl1 hl2 hr1 hr2 ho1 ho2 hN
  go_enter Tryz.func87, Tryz.ntmps87
  go_wp2
  go_loopg [3, 11] 2 (fun g s3 s11 wr => ((g = 2 ∧ s11 = .int .i64 0 ∧ s3 = .int .i64 0) ∨ (g = 1 ∧ s11 = .int .i64 1 ∧ s3 = .int .i64 (n1 : Nat)) ∨ (g = 0 ∧ s11 = .int .i64 2 ∧ s3 = .int .i64 (N : Nat))) ∧ Hid (w = wr))
  case atStart => exact ⟨.inl ⟨rfl, rfl, rfl⟩, rfl⟩
  case round =>
    obtain ⟨hrel, hw⟩ := hrel
    have hww := hw.out
    clear hw
    subst hww
    rcases hrel with ⟨rfl, rfl, rfl⟩ | ⟨rfl, rfl, rfl⟩ | ⟨rfl, rfl, rfl⟩
    · go_wp2
      go_roundg 1
      case measure => omega
      case rel => exact ⟨.inr (.inl ⟨rfl, rfl, rfl⟩), rfl⟩
    · go_wp2
      go_roundg 0
      case measure => omega
      case rel => exact ⟨.inr (.inr ⟨rfl, rfl, by first | rfl | (rw [hsum])⟩), rfl⟩
    · clear hc1 hc2 hsum
      go_wp2_with fail
      refine (growU_any w N hmax).mono ?_
      rintro e w1 ⟨a', c', rfl, O1, T1⟩
      have HO1 := Lib.hid O1
      have HT1 := Lib.hid T1
      clear O1 T1
      go_wp2
      go_loopg [6, 27] 2 (fun g s6 s27 wr => ∃ v : Value, s6 = v ∧ ((g = 2 ∧ s27 = .int .i64 0 ∧ Hid (Own wr w.heap.size 23 v [])) ∨ (g = 1 ∧ s27 = .int .i64 1 ∧ Hid (Own wr w.heap.size 23 v us1)) ∨ (g = 0 ∧ s27 = .int .i64 2 ∧ Hid (Own wr w.heap.size 23 v (us1 ++ us2)))) ∧ Hid (Touch No w wr))
      case atStart => exact ⟨_, rfl, .inl ⟨rfl, rfl, HO1.out⟩, HT1.out⟩
      case round =>
        obtain ⟨v, rfl, hrel, T⟩ := hrel
        clear HO1 HT1
        have hsz := T.out.size
        rcases hrel with ⟨rfl, rfl, O⟩ | ⟨rfl, rfl, O⟩ | ⟨rfl, rfl, O⟩
        · have k1 := T.out.cell id HC.out.1
          go_wp2_with (refine wpList_append_rd rfl _ _ _ rfl w.heap.size 23 I (.int .u32 0) 4 Tryz.underlying67 Hi.out.1 Hi.out.2.1 Hi.out.2.2.1 Hi.out.2.2.2 rfl _ [] O.out rfl a1 n1 c1 us1 rfl HL.out.1 (HR.out.1.no T.out) HO.out.1 (by simp; unfold maxLen; omega) (by simp; omega) hsz ?_)
          intro v' w3 own3 t3
          have O3 := Lib.hid own3
          have T3 := Lib.hid (T.out.then t3 (fun k hk e => absurd (O.out.block e).1 (Nat.not_le.2 hk)))
          clear own3 t3
          go_wp2
          go_roundg 1
          case measure => omega
          case rel => exact ⟨_, rfl, .inr (.inl ⟨rfl, rfl, O3.out⟩), T3.out⟩
        · have k2 := T.out.cell id HC.out.2
          go_wp2_with (refine wpList_append_rd rfl _ _ _ rfl w.heap.size 23 I (.int .u32 0) 4 Tryz.underlying67 Hi.out.1 Hi.out.2.1 Hi.out.2.2.1 Hi.out.2.2.2 rfl _ us1 O.out rfl a2 n2 c2 us2 rfl HL.out.2 (HR.out.2.no T.out) HO.out.2 (by rw [HL.out.1]; unfold maxLen; omega) (by rw [HL.out.1]; omega) hsz ?_)
          intro v' w3 own3 t3
          have O3 := Lib.hid own3
          have T3 := Lib.hid (T.out.then t3 (fun k hk e => absurd (O.out.block e).1 (Nat.not_le.2 hk)))
          clear own3 t3
          go_wp2
          go_roundg 0
          case measure => omega
          case rel => exact ⟨_, rfl, .inr (.inr ⟨rfl, rfl, O3.out⟩), T3.out⟩
        · go_wp2
          go_ret
          obtain ⟨a', c', rfl, _⟩ := O.out.form' (n := N) (by rw [List.length_append, HL.out.1, HL.out.2, HN.out])
          exact ⟨a', c', rfl, O.out, T.out⟩
end Go.Proofs.YtmjeigceclmdoaaGreatDoor
