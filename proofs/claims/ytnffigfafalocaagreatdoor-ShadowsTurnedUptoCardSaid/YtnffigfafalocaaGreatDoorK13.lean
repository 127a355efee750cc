/-
  slices.Grow of nil and slices.Concat of two, by their own text.
  Package pages by its own text: Put.
  bytes.Trim of noughts, by its own text.
-/
import Derived.Test.YtnffigfafalocaaGreatDoorK08
import Derived.Test.YtnffigfafalocaaGreatDoorK12
import Derived.Test.YtnffigfafalocaaGreatDoorK09
import Derived.Deep.RegionHeld3
namespace Go.Proofs.YtnffigfafalocaaGreatDoor
open Go Go.RowKit
set_option linter.unusedSimpArgs false

def GrowBPost (w : World) (e : Ending) (w' : World) : Prop :=
  ∃ a c, e = .returned (.slice a 0 c) ∧ Own w' w.heap.size 5 (.slice a 0 c) [] ∧ Touch No w w'

set_option maxRecDepth 100000 in
set_option maxHeartbeats 2000000 in
theorem growB_any (w : World) (n : Nat) (hn : (n : Int) ≤ 10000000000000) :
    Calls Tryz.prog 248 #[.slice none 0 0, .int .i64 (n : Nat)] w (GrowBPost w) := by
  obtain ⟨I, hi0, hi1, hi2, hi3⟩ := u8_info
  have hh0 : ∀ wx : World, (Instr.slice 39 (.slice none 0 0) none (some (.int .i64 0)) none).run Tryz.prog wx = .ok (.slice none 0 0) wx := fun wx => run_head Tryz.underlying39 hi0 hi2 none 0 0 0 .i64 (Nat.le_refl _) wx
  have hh : ∀ (wx : World) (a : Option Addr) (n c : Nat), (Instr.slice 39 (.slice a n c) none (some (.int .i64 0)) none).run Tryz.prog wx = .ok (.slice a 0 c) wx := fun wx a n c => run_head Tryz.underlying39 hi0 hi2 a n c 0 .i64 (Nat.zero_le _) wx
  have Hi := Lib.hid (And.intro hi0 (And.intro hi1 (And.intro hi2 hi3)))
  clear hi0 hi1 hi2 hi3
  by_cases h0 : n = 0
  · subst h0
    go_enter Tryz.func248, Tryz.ntmps248
    go_wp2
    go_ret
    exact ⟨_, _, rfl, Own.nil _ _ _, Touch.refl _ _⟩
  · have hpos : 0 < n := by omega
    have hp : (0 : Int) < (n : Nat) := by omega
    have H0 := Lib.hid h0
    clear h0
    go_enter Tryz.func248, Tryz.ntmps248
    go_wp2_with (refine wpList_append_zeros rfl _ _ _ _ rfl w.heap.size 5 I (.int .u8 0) (.int .u8 0) 1 Tryz.underlying39 Tryz.underlying3 Hi.out.1 Hi.out.2.1 Hi.out.2.2.1 Hi.out.2.2.2 rfl rfl (.slice none 0 0) [] (Own.nil _ _ _) rfl n rfl (by simp; unfold maxLen; omega) (by simp; omega) (Nat.le_refl _) ?_)
    intro v' w3 own3 t3
    obtain ⟨a, c, rfl, _⟩ := own3.form' (n := n) (by simp)
    have O3 := Lib.hid own3
    have T3 := Lib.hid (t3.mono (G := No) (fun k _ h => by cases h))
    clear own3 t3
    go_wp2
    go_ret
    exact ⟨_, _, rfl, O3.out.head (Nat.zero_le _), T3.out⟩

def ConcatBPost (w : World) (xs : List Value) (N : Nat) (e : Ending) (w' : World) : Prop :=
  ∃ a c, e = .returned (.slice a N c) ∧ Own w' w.heap.size 5 (.slice a N c) xs ∧ Touch No w w'

set_option maxRecDepth 100000 in
set_option maxHeartbeats 4000000 in
theorem concatB_any (w : World) (g o c : Nat) (a1 : Option Addr) (n1 c1 : Nat) (us1 : List Value) (a2 : Option Addr) (n2 c2 : Nat) (us2 : List Value) (hc1 : w.cell? ⟨g, o, none⟩ = some (.slice a1 n1 c1)) (hc2 : w.cell? ⟨g, o + 1, none⟩ = some (.slice a2 n2 c2))
    (hl1 : us1.length = n1) (hl2 : us2.length = n2) (hr1 : Rd w a1 us1) (hr2 : Rd w a2 us2) (ho1 : ∀ u ∈ us1, u.oneCell' = true) (ho2 : ∀ u ∈ us2, u.oneCell' = true) (N : Nat) (hN : n1 + n2 = N) (hmax : (N : Int) ≤ 10000000000000) :
    Calls Tryz.prog 215 #[.slice (some ⟨g, o, none⟩) 2 c] w (ConcatBPost w (us1 ++ us2) N) := by
  obtain ⟨I, hi0, hi1, hi2, hi3⟩ := u8_info
  have Hi := Lib.hid (And.intro hi0 (And.intro hi1 (And.intro hi2 hi3)))
  have HC := Lib.hid (And.intro hc1 hc2)
  have HL := Lib.hid (And.intro hl1 hl2)
  have HR := Lib.hid (And.intro hr1 hr2)
  have HO := Lib.hid (And.intro ho1 ho2)
  have HN := Lib.hid hN
  have hb1 : (n1 : Int) ≤ 10000000000000 := by omega
  have hb2 : (n2 : Int) ≤ 10000000000000 := by omega
  have hsum : (n1 : Int) + (n2 : Int) = (N : Nat) := by omega
  clear hi0 hi1 hi2 hi3 hl1 hl2 hr1 hr2 ho1 ho2 hN
  go_enter Tryz.func215, Tryz.ntmps215
  go_wp2
  go_loopg [3, 11] 2 (fun g s3 s11 wr => ((g = 2 ∧ s11 = .int .i64 0 ∧ s3 = .int .i64 0) ∨ (g = 1 ∧ s11 = .int .i64 1 ∧ s3 = .int .i64 (n1 : Nat)) ∨ (g = 0 ∧ s11 = .int .i64 2 ∧ s3 = .int .i64 (N : Nat))) ∧ Hid (w = wr))
  case atStart => exact ⟨.inl ⟨rfl, rfl, rfl⟩, rfl⟩
  case round =>
    obtain ⟨hrel, hw⟩ := hrel
    have hww := hw.out
    clear hw
    subst hww
    rcases hrel with ⟨rfl, rfl, rfl⟩ | ⟨rfl, rfl, rfl⟩ | ⟨rfl, rfl, rfl⟩
    · go_wp2
      go_roundg 1
      case measure => omega
      case rel => exact ⟨.inr (.inl ⟨rfl, rfl, rfl⟩), rfl⟩
    · go_wp2
      go_roundg 0
      case measure => omega
      case rel => exact ⟨.inr (.inr ⟨rfl, rfl, by first | rfl | (rw [hsum])⟩), rfl⟩
    · clear hc1 hc2 hsum
      go_wp2_with fail
      refine (growB_any w N hmax).mono ?_
      rintro e w1 ⟨a', c', rfl, O1, T1⟩
      have HO1 := Lib.hid O1
      have HT1 := Lib.hid T1
      clear O1 T1
      go_wp2
      go_loopg [6, 27] 2 (fun g s6 s27 wr => ∃ v : Value, s6 = v ∧ ((g = 2 ∧ s27 = .int .i64 0 ∧ Hid (Own wr w.heap.size 5 v [])) ∨ (g = 1 ∧ s27 = .int .i64 1 ∧ Hid (Own wr w.heap.size 5 v us1)) ∨ (g = 0 ∧ s27 = .int .i64 2 ∧ Hid (Own wr w.heap.size 5 v (us1 ++ us2)))) ∧ Hid (Touch No w wr))
      case atStart => exact ⟨_, rfl, .inl ⟨rfl, rfl, HO1.out⟩, HT1.out⟩
      case round =>
        obtain ⟨v, rfl, hrel, T⟩ := hrel
        clear HO1 HT1
        have hsz := T.out.size
        rcases hrel with ⟨rfl, rfl, O⟩ | ⟨rfl, rfl, O⟩ | ⟨rfl, rfl, O⟩
        · have k1 := T.out.cell id HC.out.1
          go_wp2_with (refine wpList_append_rd rfl _ _ _ rfl w.heap.size 5 I (.int .u8 0) 1 Tryz.underlying39 Hi.out.1 Hi.out.2.1 Hi.out.2.2.1 Hi.out.2.2.2 rfl _ [] O.out rfl a1 n1 c1 us1 rfl HL.out.1 (HR.out.1.no T.out) HO.out.1 (by simp; unfold maxLen; omega) (by simp; omega) hsz ?_)
          intro v' w3 own3 t3
          have O3 := Lib.hid own3
          have T3 := Lib.hid (T.out.then t3 (fun k hk e => absurd (O.out.block e).1 (Nat.not_le.2 hk)))
          clear own3 t3
          go_wp2
          go_roundg 1
          case measure => omega
          case rel => exact ⟨_, rfl, .inr (.inl ⟨rfl, rfl, O3.out⟩), T3.out⟩
        · have k2 := T.out.cell id HC.out.2
          go_wp2_with (refine wpList_append_rd rfl _ _ _ rfl w.heap.size 5 I (.int .u8 0) 1 Tryz.underlying39 Hi.out.1 Hi.out.2.1 Hi.out.2.2.1 Hi.out.2.2.2 rfl _ us1 O.out rfl a2 n2 c2 us2 rfl HL.out.2 (HR.out.2.no T.out) HO.out.2 (by rw [HL.out.1]; unfold maxLen; omega) (by rw [HL.out.1]; omega) hsz ?_)
          intro v' w3 own3 t3
          have O3 := Lib.hid own3
          have T3 := Lib.hid (T.out.then t3 (fun k hk e => absurd (O.out.block e).1 (Nat.not_le.2 hk)))
          clear own3 t3
          go_wp2
          go_roundg 0
          case measure => omega
          case rel => exact ⟨_, rfl, .inr (.inr ⟨rfl, rfl, O3.out⟩), T3.out⟩
        · go_wp2
          go_ret
          obtain ⟨a', c', rfl, _⟩ := O.out.form' (n := N) (by rw [List.length_append, HL.out.1, HL.out.2, HN.out])
          exact ⟨a', c', rfl, O.out, T.out⟩
end Go.Proofs.YtnffigfafalocaaGreatDoor
namespace Go.Proofs.YtnffigfafalocaaGreatDoor
open Go Go.RowKit
set_option linter.unusedSimpArgs false

def PagePut (w : World) (bs : List Nat) (e : Ending) (w' : World) : Prop :=
  ∃ a c, e = .returned (.tuple #[.slice a 256 c, .int .i64 0]) ∧ Own w' w.heap.size 5 (.slice a 256 c) (nums .u8 bs) ∧ Touch No w w'

set_option maxRecDepth 100000 in
theorem pagePut_no (w : World) (num epoch : Nat) (a : Option Addr) (n c : Nat) (hn : 240 < n) :
    Calls Tryz.prog 141 #[.int .u32 (num : Nat), .int .u32 (epoch : Nat), .slice a n c] w fun e w' => e = .returned (.tuple #[.slice none 0 0, .int .i64 1]) ∧ w = w' := by
  have hn' : (240 : Int) < (n : Nat) := by omega
  clear hn
  go_enter Tryz.func141, Tryz.ntmps141
  go_wp2
  go_ret2
  exact ⟨rfl, rfl⟩

set_option maxRecDepth 100000 in
set_option maxHeartbeats 8000000 in
theorem pagePut_any (w : World) (num epoch : Nat) (hnum : num < 4294967296) (hep : epoch < 4294967296) (a : Option Addr) (n c : Nat) (q : List Nat) (hq : q.length = n) (hn : n ≤ 240) (hr : Rd w a (nums .u8 q)) (hlt : ∀ x ∈ q, x < 256) :
    Calls Tryz.prog 141 #[.int .u32 (num : Nat), .int .u32 (epoch : Nat), .slice a n c] w (PagePut w (Pg.put num epoch q)) := by
  obtain ⟨I, hi0, hi1, hi2, hi3⟩ := u8_info
  have HI := Lib.hid (And.intro hi0 (And.intro hi1 (And.intro hi2 hi3)))
  obtain ⟨Z, hZ⟩ : ∃ Z, 240 - n = Z := ⟨_, rfl⟩
  have hmk : ∀ wx : World, (Instr.makeSlice 39 (.int .i64 (Z : Nat)) (.int .i64 (Z : Nat))).run Tryz.prog wx = .ok (.slice (some ⟨wx.heap.size, 0, none⟩) Z Z) (wx.alloc (.cells (List.replicate Z (Value.int .u8 0)).toArray 5)) := fun wx => by
    have := run_make (P := Tryz.prog) wx 39 5 I (.int .u8 0) Tryz.underlying39 hi0 hi1 .i64 .i64 (Z : Int) (Z : Int) (by omega) (by omega) (by rw [hi3]; omega) (by omega)
    rw [this, hi2, Int.toNat_natCast, Nat.mul_one]
    show Result.ok _ (wx.alloc (.cells (madeCells #[Value.int .u8 0] _) _)) = _
    rw [made_fill]
  have HMK := Lib.hid hmk
  have Hq := Lib.hid hq
  have Hr := Lib.hid hr
  have Hlt := Lib.hid hlt
  have hn' : ¬ (240 : Int) < (n : Nat) := by omega
  have hn9 : (n : Int) ≤ 240 := by omega
  have Hn := Lib.hid hn
  have HZ := Lib.hid hZ
  clear hmk hq hr hlt hi0 hi1 hi2 hi3 hn hZ
  go_enter Tryz.func141, Tryz.ntmps141
  go_wp2_with fail
  obtain ⟨W0, hW0⟩ : ∃ W0, W0 = w.alloc (.cells #[.int .u32 (num : Nat), .int .u32 (epoch : Nat), .int .u32 (n : Nat)] 38) := ⟨_, rfl⟩
  obtain ⟨G, hG⟩ : ∃ G, G = w.heap.size := ⟨_, rfl⟩
  have hrow : Row W0 G 38 [.int .u32 (num : Nat), .int .u32 (epoch : Nat), .int .u32 (n : Nat)] := by rw [hW0, hG]; exact Row.new w _ _
  have hT0 : Touch No w W0 := by rw [hW0]; exact (Touch.refl No w).alloc _
  have hW0s : G + 1 = W0.heap.size := by rw [hW0, hG]; simp
  have HRow := Lib.hid hrow
  have HT0 := Lib.hid hT0
  have HG := Lib.hid hG
  have HW0s := Lib.hid hW0s
  rw [← hW0, ← hG]
  clear hW0 hG hrow hT0 hW0s
  go_loopg [8, 21] 3 (fun g s8 s21 wr => ∃ (ab : Option Addr) (cb : Nat), Hid (Touch No W0 wr) ∧
    ((g = 3 ∧ s21 = .int .i64 0 ∧ s8 = .slice none 0 0) ∨ (g = 2 ∧ s21 = .int .i64 1 ∧ s8 = .slice ab 4 cb ∧ Hid (Own wr W0.heap.size 5 (.slice ab 4 cb) (nums .u8 (Rt.four num)))) ∨
     (g = 1 ∧ s21 = .int .i64 2 ∧ s8 = .slice ab 8 cb ∧ Hid (Own wr W0.heap.size 5 (.slice ab 8 cb) (nums .u8 (Rt.four num ++ Rt.four epoch)))) ∨ (g = 0 ∧ s21 = .int .i64 3 ∧ s8 = .slice ab 12 cb ∧ Hid (Own wr W0.heap.size 5 (.slice ab 12 cb) (nums .u8 (Pg.head num epoch q))))))
  case atStart => exact ⟨none, 0, Touch.refl _ _, .inl ⟨rfl, rfl, rfl⟩⟩
  case round =>
    obtain ⟨ab, cb, T, hrel⟩ := hrel
    have R := HRow.out.touch T.out id
    have k0 : wr.cell? ⟨G, 0, none⟩ = some (.int .u32 (num : Nat)) := R.cell 0
    have k1 : wr.cell? ⟨G, 1, none⟩ = some (.int .u32 (epoch : Nat)) := R.cell 1
    have k2 : wr.cell? ⟨G, 2, none⟩ = some (.int .u32 (n : Nat)) := R.cell 2
    clear R
    rcases hrel with ⟨rfl, rfl, rfl⟩ | ⟨rfl, rfl, rfl, O⟩ | ⟨rfl, rfl, rfl, O⟩ | ⟨rfl, rfl, rfl, O⟩
    · go_wp2_with fail
      refine (putFour_any _ none 0 0 [] rfl (Rd.nil _ _) num hnum (by decide) 4 rfl).mono ?_
      clear k0 k1 k2
      rintro e w1 ⟨a1, c1, rfl, o1, t1⟩
      have HO := Lib.hid (show Own w1 W0.heap.size 5 (.slice a1 4 c1) (nums .u8 (Rt.four num)) from o1.mono T.out.size)
      have HT := Lib.hid (T.out.trans t1)
      clear o1 t1
      go_wp2
      go_roundg 2
      case measure => omega
      case rel => exact ⟨a1, c1, HT.out, .inr (.inl ⟨rfl, rfl, rfl, HO.out⟩)⟩
    · go_wp2_with fail
      refine (putFour_any _ ab 4 cb (Rt.four num) rfl O.out.rd epoch hep (by decide) 8 rfl).mono ?_
      clear k0 k1 k2
      rintro e w1 ⟨a1, c1, rfl, o1, t1⟩
      have HO := Lib.hid (o1.mono (base' := W0.heap.size) T.out.size)
      have HT := Lib.hid (T.out.trans t1)
      clear o1 t1
      go_wp2
      go_roundg 1
      case measure => omega
      case rel => exact ⟨a1, c1, HT.out, .inr (.inr (.inl ⟨rfl, rfl, rfl, HO.out⟩))⟩
    · go_wp2_with fail
      refine (putFour_any _ ab 8 cb (Rt.four num ++ Rt.four epoch) rfl O.out.rd n (by omega) (by decide) 12 rfl).mono ?_
      clear k0 k1 k2
      rintro e w1 ⟨a1, c1, rfl, o1, t1⟩
      have e1 : Rt.four num ++ Rt.four epoch ++ Rt.four n = Pg.head num epoch q := by rw [Pg.head, Hq.out]
      rw [e1] at o1
      have HO := Lib.hid (o1.mono (base' := W0.heap.size) T.out.size)
      have HT := Lib.hid (T.out.trans t1)
      clear o1 t1 e1
      go_wp2
      go_roundg 0
      case measure => omega
      case rel => exact ⟨a1, c1, HT.out, .inr (.inr (.inr ⟨rfl, rfl, rfl, HO.out⟩))⟩
    · clear k0 k1 k2
      go_wp2_with fail
      refine (of_any _ ab 12 cb (Pg.head num epoch q) (Pg.head_length _ _ _) (by decide) O.out.rd (Pg.head_lt _ _ _)).mono ?_
      rintro e w1 ⟨rfl, t1⟩
      have HT1 := Lib.hid (T.out.trans t1)
      have HO1 := Lib.hid (O.out.touch t1 (fun _ _ _ f => f))
      clear t1 T O
      go_wp2_with fail
      refine (on_any _ (Rt.of (Pg.head num epoch q)) Rt.of_lt a n c q Hq.out (by omega) (Hr.out.no (HT0.out.trans HT1.out)) Hlt.out).mono ?_
      rintro e w2 ⟨rfl, t2⟩
      have HT2 := Lib.hid (HT1.out.trans t2)
      have HO2 := Lib.hid (HO1.out.touch t2 (fun _ _ _ f => f))
      clear t2 HT1 HO1
      go_wp2_with fail
      refine (putFour_any _ ab 12 cb (Pg.head num epoch q) (Pg.head_length _ _ _) HO2.out.rd (Rt.on (Rt.of (Pg.head num epoch q)) q) Rt.on_lt (by decide) 16 rfl).mono ?_
      rintro e w3 ⟨a3, c3, rfl, o3, t3⟩
      have HT3 := Lib.hid (HT2.out.trans t3)
      have HO3 := Lib.hid (o3.mono (base' := W0.heap.size) HT2.out.size)
      have hl16 : Hid ((nums .u8 (Pg.head num epoch q ++ Rt.four (Rt.on (Rt.of (Pg.head num epoch q)) q))).length = 16) := by show _ = _; rw [nums_length]; rfl
      clear t3 o3 HT2 HO2
      go_wp2_with (refine wpList_append_rd rfl _ _ _ rfl W0.heap.size 5 I (.int .u8 0) 1 Tryz.underlying39 HI.out.1 HI.out.2.1 HI.out.2.2.1 HI.out.2.2.2 rfl _ _ HO3.out rfl a n c (nums .u8 q) rfl (by rw [nums_length]; exact Hq.out) (Hr.out.no (HT0.out.trans HT3.out)) (nums_one _ _) (by rw [hl16.out]; unfold maxLen; omega) (by rw [hl16.out]; omega) HT3.out.size ?_)
      intro v4 w4 o4 t4
      obtain ⟨L, hL⟩ : ∃ L, 16 + n = L := ⟨_, rfl⟩
      have hlen4 : (nums .u8 (Pg.head num epoch q ++ Rt.four (Rt.on (Rt.of (Pg.head num epoch q)) q)) ++ nums .u8 q).length = L := by rw [List.length_append, hl16.out, nums_length, Hq.out]; exact hL
      obtain ⟨a4, c4, rfl, _⟩ := o4.form' (n := L) hlen4
      have HO4 := Lib.hid o4
      have HT4 := Lib.hid (HT3.out.then t4 (fun i hi e => absurd (HO3.out.block e).1 (Nat.not_le.2 hi)))
      have hZL : (256 : Int) - (L : Int) = (Z : Nat) := by have := HZ.out; have := Hn.out; omega
      have hZw : IntKind.i64.wrap ((256 : Int) - (L : Int)) = (Z : Nat) := by rw [hZL]; exact IntWalk.i64_in _ (by have := HZ.out; omega)
      have HL := Lib.hid hL
      have HLEN4 := Lib.hid hlen4
      have hmk := HMK.out
      have hL9 : (L : Int) ≤ 256 := by omega
      clear o4 t4 HO3 HT3 hl16 hL hlen4
      go_wp2_with fail
      clear hmk hZL hZw
      obtain ⟨W5, hW5⟩ : ∃ W5, W5 = w4.alloc (.cells (Array.replicate Z (Value.int .u8 0)) 5) := ⟨_, rfl⟩
      have hzero : Rd W5 (some ⟨w4.heap.size, 0, none⟩) (nums .u8 (List.replicate Z 0)) := by
        rw [hW5]
        have := rd_new w4 5 (Array.replicate Z (Value.int .u8 0)) (0, 0)
        rw [Array.toList_replicate] at this
        rw [nums, List.map_replicate]; exact this
      have hT5 : Touch No W0 W5 := by rw [hW5]; exact HT4.out.alloc _
      have hO5 : Rd W5 a4 (nums .u8 (Pg.head num epoch q ++ Rt.four (Rt.on (Rt.of (Pg.head num epoch q)) q) ++ q)) := by
        rw [hW5, nums_append]; exact HO4.out.rd.no ((Touch.refl No _).alloc _)
      have hs5 : w4.heap.size + 1 = W5.heap.size := by rw [hW5]; simp
      have HZ5 := Lib.hid hzero
      have HT5 := Lib.hid hT5
      have HO5 := Lib.hid hO5
      rw [← hW5]
      have hp1 : (W5.alloc (.cells #[.slice a4 L c4, .slice (some ⟨w4.heap.size, 0, none⟩) Z Z] 39)).cell? ⟨w4.heap.size + 1, 0, none⟩ = some (.slice a4 L c4) := by rw [hs5, cell_new]; rfl
      have hp2 : (W5.alloc (.cells #[.slice a4 L c4, .slice (some ⟨w4.heap.size, 0, none⟩) Z Z] 39)).cell? ⟨w4.heap.size + 1, 0 + 1, none⟩ = some (.slice (some ⟨w4.heap.size, 0, none⟩) Z Z) := by rw [hs5, cell_new]; rfl
      have HP := Lib.hid (And.intro hp1 hp2)
      clear hW5 hzero hT5 hO5 hs5 hp1 hp2
      refine (concatB_any _ (w4.heap.size + 1) 0 2 a4 L c4 _ (some ⟨w4.heap.size, 0, none⟩) Z Z _ HP.out.1 HP.out.2 (by rw [nums_append]; exact HLEN4.out) (by rw [nums_length, List.length_replicate]) (HO5.out.no ((Touch.refl No _).alloc _)) (HZ5.out.no ((Touch.refl No _).alloc _)) (nums_one _ _) (nums_one _ _) 256 (by have := HZ.out; have := HL.out; have := Hn.out; omega) (by decide)).mono ?_
      rintro e w6 ⟨a6, c6, rfl, o6, t6⟩
      have hT6 := HT0.out.trans ((HT5.out.alloc _).trans t6)
      have hv : nums .u8 (Pg.head num epoch q ++ Rt.four (Rt.on (Rt.of (Pg.head num epoch q)) q) ++ q) ++ nums .u8 (List.replicate Z 0) = nums .u8 (Pg.put num epoch q) := by
        rw [← nums_append, Pg.put, Pg.sum, Hq.out, HZ.out]
      rw [hv] at o6
      have HO6 := Lib.hid (o6.mono (base' := w.heap.size) (HT0.out.trans (HT5.out.alloc _)).size)
      have HT6 := Lib.hid hT6
      clear hT6 hv o6 t6 HO5 HZ5 HT5 HP HO4 HT4
      go_wp2
      go_ret2
      exact ⟨a6, c6, rfl, HO6.out, HT6.out⟩
end Go.Proofs.YtnffigfafalocaaGreatDoor
namespace Go.Proofs.YtnffigfafalocaaGreatDoor
open Go Go.RowKit
set_option linter.unusedSimpArgs false

theorem nought_drop {b : List Nat} {k : Nat} (hk : k < b.length) : Rt.nought (b.drop k) = (b.getD k 0 == 0 && Rt.nought (b.drop (k + 1))) := by
  rw [List.drop_eq_getElem_cons hk, Rt.nought, List.all_cons, List.getD_eq_getElem?_getD, List.getElem?_eq_getElem hk]; rfl

def TrimRPost (w : World) (a : Option Addr) (n c : Nat) (b : List Nat) (e : Ending) (w' : World) : Prop :=
  ∃ k, k ≤ n ∧ e = .returned (.slice a k c) ∧ Rt.nought (b.drop k) = true ∧ w = w'

set_option maxRecDepth 100000 in
set_option maxHeartbeats 2000000 in
theorem trimRight_any (w : World) (a : Option Addr) (n c : Nat) (b : List Nat) (hb : b.length = n) (hnc : n ≤ c) (hmax : (c : Int) ≤ 9223372036854775807) (hr : Rd w a (nums .u8 b)) :
    Calls Tryz.prog 267 #[.slice a n c, .int .u8 0] w (TrimRPost w a n c b) := by
  obtain ⟨I, hi0, hi1, hi2, hi3⟩ := u8_info
  have hh : ∀ (wx : World) (k : Nat), k ≤ c → (Instr.slice 39 (.slice a (k + 1) c) none (some (.int .i64 (k : Nat))) none).run Tryz.prog wx = .ok (.slice a k c) wx := fun wx k hk => run_head Tryz.underlying39 hi0 hi2 a (k + 1) c k .i64 hk wx
  have HH := Lib.hid hh
  have Hb := Lib.hid hb
  have Hr := Lib.hid hr
  have h0 : Hid (Rt.nought (b.drop n) = true) := by show _ = _; rw [← hb, List.drop_length]; rfl
  clear hh hb hr hi0 hi1 hi2 hi3
  go_enter Tryz.func267, Tryz.ntmps267
  go_wp2
  go_loopg [0] n (fun g s0 wr => g ≤ n ∧ s0 = .slice a g c ∧ Hid (Rt.nought (b.drop g) = true) ∧ Hid (w = wr))
  case atStart => exact ⟨Nat.le_refl _, rfl, h0.out, rfl⟩
  case round =>
    obtain ⟨hg, rfl, N, hw⟩ := hrel
    have hww := hw.out
    clear hw
    subst hww
    cases gk with
    | zero =>
      go_wp2
      go_ret
      exact ⟨0, Nat.zero_le _, rfl, N.out, rfl⟩
    | succ g =>
      have hgl : g < b.length := by have := Hb.out; omega
      obtain ⟨gb, ob, rfl, hcb⟩ := Hr.out.num hgl
      have hcut := HH.out w g (by omega)
      have hnx := Lib.hid (nought_drop hgl)
      have hp : (0 : Int) < (g : Int) + 1 := by omega
      generalize b.getD g 0 = x at *
      clear hgl
      by_cases hx : x = 0
      · subst hx
        have HN : Hid (Rt.nought (b.drop g) = true) := by show _ = _; rw [hnx.out, N.out]; rfl
        go_wp2
        go_roundg g
        case measure => omega
        case rel => exact ⟨by omega, rfl, HN.out, rfl⟩
      · have hxe : ((x : Int) == 0) = false := by simp; omega
        clear hx
        go_wp2
        go_ret
        exact ⟨g + 1, hg, rfl, N.out, rfl⟩

def TrimLPost (w : World) (b : List Nat) (e : Ending) (w' : World) : Prop :=
  ∃ a k c, k ≤ b.length ∧ e = .returned (.slice a k c) ∧ (k = 0 ↔ Rt.nought b = true) ∧ w = w'

set_option maxRecDepth 100000 in
set_option maxHeartbeats 2000000 in
theorem trimLeft_any (w : World) (a : Option Addr) (n c : Nat) (b : List Nat) (hb : b.length = n) (hnc : n ≤ c) (hr : Rd w a (nums .u8 b)) :
    Calls Tryz.prog 266 #[.slice a n c, .int .u8 0] w (TrimLPost w b) := by
  obtain ⟨I, hi0, hi1, hi2, hi3⟩ := u8_info
  have hh : ∀ (wx : World) (a : Option Addr) (n c : Nat), 1 ≤ n → (Instr.slice 39 (.slice a n c) (some (.int .i64 1)) none none).run Tryz.prog wx = .ok (.slice (cutAddr a c 1) (n - 1) (c - 1)) wx := fun wx a n c h1 => run_cut Tryz.underlying39 hi0 hi2 a n c 1 .i64 h1 wx
  have HH := Lib.hid hh
  have Hb := Lib.hid hb
  have Fin : Hid (∀ m, m ≤ n → Rt.nought (b.take (n - m)) = true → (m = 0 ∨ ∃ x, (b.drop (n - m)).getD 0 0 = x ∧ x ≠ 0 ∧ 0 < m) → (m = 0 ↔ Rt.nought b = true)) := fun m hm h1 h2 => by
    have e : Rt.nought b = (Rt.nought (b.take (n - m)) && Rt.nought (b.drop (n - m))) := by
      conv => lhs; rw [← List.take_append_drop (n - m) b]
      simp only [Rt.nought, List.all_append]
    rw [e, h1, Bool.true_and]
    rcases h2 with rfl | ⟨x, hx, hx0, hm0⟩
    · rw [Nat.sub_zero, ← hb, List.drop_length]; simp [Rt.nought]
    · have hk : n - m < b.length := by omega
      rw [nought_drop hk]
      have : b.getD (n - m) 0 = x := by
        rw [List.getD_eq_getElem?_getD, List.getElem?_drop, Nat.add_zero] at hx
        rw [List.getD_eq_getElem?_getD]; exact hx
      rw [this]
      simp [hx0]; omega
  have Nx : Hid (∀ g, g + 1 ≤ n → Rt.nought (b.take (n - (g + 1))) = true → (b.drop (n - (g + 1))).getD 0 0 = 0 → Rt.nought (b.take (n - g)) = true) := fun g hg h1 h2 => by
    have hk : n - (g + 1) < b.length := by omega
    rw [show n - g = n - (g + 1) + 1 by omega, List.take_succ_eq_append_getElem hk]
    have : b[n - (g + 1)] = 0 := by
      rw [List.getD_eq_getElem?_getD, List.getElem?_drop, Nat.add_zero, List.getElem?_eq_getElem hk] at h2
      exact h2
    rw [this]
    simp only [Rt.nought, List.all_append] at h1 ⊢
    rw [h1]; rfl
  have H0 : Hid (Rd w a (nums .u8 (b.drop (n - n)))) := by show Rd _ _ _; rw [Nat.sub_self, List.drop_zero]; exact hr
  have Z0 : Hid (Rt.nought (b.take (n - n)) = true) := by show _ = _; rw [Nat.sub_self]; rfl
  clear hh hb hr hi0 hi1 hi2 hi3
  go_enter Tryz.func266, Tryz.ntmps266
  go_wp2
  go_loopg [0] n (fun g s0 wr => ∃ (a' : Option Addr) (c' : Nat), g ≤ n ∧ g ≤ c' ∧ c' ≤ c ∧ s0 = .slice a' g c' ∧ Hid (Rd w a' (nums .u8 (b.drop (n - g)))) ∧ Hid (Rt.nought (b.take (n - g)) = true) ∧ Hid (w = wr))
  case atStart => exact ⟨a, c, Nat.le_refl _, hnc, Nat.le_refl _, rfl, H0.out, Z0.out, rfl⟩
  case round =>
    obtain ⟨a', c', hg, hgc, hcc, rfl, R, N, hw⟩ := hrel
    have hww := hw.out
    clear hw
    subst hww
    cases gk with
    | zero =>
      go_wp2
      go_ret
      exact ⟨_, 0, 0, Nat.zero_le _, rfl, Fin.out 0 (Nat.zero_le _) N.out (Or.inl rfl), rfl⟩
    | succ g =>
      have hdl : (b.drop (n - (g + 1))).length = g + 1 := by rw [List.length_drop]; have := Hb.out; omega
      obtain ⟨gb, ob, rfl, hcb⟩ := R.out.num (i := 0) (by omega)
      rw [Nat.add_zero] at hcb
      have hcut := HH.out w (some ⟨gb, ob, none⟩) (g + 1) c' (by omega)
      rw [Nat.add_sub_cancel] at hcut
      have hp : (0 : Int) < (g : Int) + 1 := by omega
      have hrc := R.out.cut (cap := c') (l := 1) (by rw [nums_length]; omega)
      rw [nums, ← List.map_drop, List.drop_drop, show n - (g + 1) + 1 = n - g by omega] at hrc
      have HRC := Lib.hid hrc
      obtain ⟨x, hx⟩ : ∃ x, (b.drop (n - (g + 1))).getD 0 0 = x := ⟨_, rfl⟩
      rw [hx] at hcb
      have HX := Lib.hid hx
      clear hrc hx hdl
      by_cases hx0 : x = 0
      · subst hx0
        have HN := Lib.hid (Nx.out g hg N.out HX.out)
        go_wp2
        go_roundg g
        case measure => omega
        case rel => exact ⟨_, c' - 1, by omega, by omega, by omega, rfl, HRC.out, HN.out, rfl⟩
      · have hxe : ((x : Int) == 0) = false := by simp; omega
        have HF := Lib.hid (Fin.out (g + 1) hg N.out (Or.inr ⟨x, HX.out, hx0, by omega⟩))
        have hne : ((g : Int) + 1 == 0) = false := by simp; omega
        clear hx0 hcut
        go_wp2
        go_ret
        exact ⟨_, g + 1, c', by have := Hb.out; omega, rfl, HF.out, rfl⟩

def TrimPost (w : World) (b : List Nat) (e : Ending) (w' : World) : Prop :=
  ∃ a k c, k ≤ b.length ∧ e = .returned (.slice a k c) ∧ (k = 0 ↔ Rt.nought b = true) ∧ Touch No w w'

set_option maxRecDepth 100000 in
set_option maxHeartbeats 2000000 in
theorem trim_any (w : World) (a : Option Addr) (n c : Nat) (b : List Nat) (hb : b.length = n) (hnc : n ≤ c) (hmax : (c : Int) ≤ 9223372036854775807) (hr : Rd w a (nums .u8 b)) :
    Calls Tryz.prog 250 #[.slice a n c, .string ⟨#[0]⟩] w (TrimPost w b) := by
  by_cases h0 : n = 0
  · subst h0
    obtain rfl : b = [] := List.length_eq_zero_iff.1 hb
    clear hr
    go_enter Tryz.func250, Tryz.ntmps250
    go_wp2
    go_ret
    exact ⟨_, 0, 0, Nat.le_refl _, rfl, by simp [Rt.nought], Touch.refl _ _⟩
  · have hne : ((n : Int) == 0) = false := by simp; omega
    have Hr := Lib.hid (hr.no ((Touch.refl No w).drew))
    have Hb := Lib.hid hb
    have Fin : Hid (∀ k k1, k ≤ n → Rt.nought (b.drop k) = true → (k1 = 0 ↔ Rt.nought (b.take k) = true) → (k1 = 0 ↔ Rt.nought b = true)) := fun k k1 _ h1 h2 => by
      rw [h2]
      conv => rhs; rw [← List.take_append_drop k b]
      simp only [Rt.nought, List.all_append, Bool.and_eq_true] at h1 ⊢
      exact ⟨fun h => ⟨h, h1⟩, fun h => h.1⟩
    have HRk : Hid (∀ k, k ≤ n → (b.take k).length = k ∧ Rd w.drew a (nums .u8 (b.take k))) := fun k hk => by
      have h2 := Hb.out
      refine ⟨by rw [List.length_take]; omega, ?_⟩
      have := Hr.out.take k
      rw [nums, ← List.map_take] at this; exact this
    clear hr h0 hb
    go_enter Tryz.func250, Tryz.ntmps250
    go_wp2_with fail
    go_region_held3 (fun _ => True) (trivial) (first
      | (go_at_call 267; refine (trimRight_any _ a n c b Hb.out hnc hmax Hr.out).mono ?_; rintro e w5 ⟨k, hk, rfl, hz, rfl⟩)
      | (go_at_call 266; refine (trimLeft_any _ a k c (b.take k) (HRk.out k hk).1 (by omega) (HRk.out k hk).2).mono ?_; rintro e w6 ⟨a6, k6, c6, hk6, rfl, hf6, rfl⟩))
    all_goals
      have HF := Lib.hid (Fin.out k k6 hk hz hf6)
      have HK : Hid (k6 ≤ b.length) := by show _ ≤ _; rw [List.length_take] at hk6; omega
      clear hz hf6 hk6
      go_wp2
      go_ret
      exact ⟨a6, k6, c6, HK.out, rfl, HF.out, (Touch.refl No w).drew⟩
end Go.Proofs.YtnffigfafalocaaGreatDoor
