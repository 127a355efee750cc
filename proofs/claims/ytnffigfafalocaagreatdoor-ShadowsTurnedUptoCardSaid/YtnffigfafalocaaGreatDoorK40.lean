/-
  Package shadows by its own text: Undo, IDs.
  slices.Grow of nil and slices.Concat of two, by their own text.
  What a commit turns: the root, the epoch, the table; free pages given.
-/
import Derived.Test.YtnffigfafalocaaGreatDoorK39
import Derived.Test.YtnffigfafalocaaGreatDoorK08
namespace Go.Proofs.YtnffigfafalocaaGreatDoor
open Go Go.RowKit Go.Maps Go.Sort
set_option linter.unusedSimpArgs false
set_option linter.unusedVariables false

section
variable {w0 w w' : World} {s d f : Nat} {T : Sh.Sto} {E : List Part}
set_option maxRecDepth 100000 in
set_option maxHeartbeats 4000000 in
theorem Ss.undo (h : Sg true w0 w s d f T E) (hT : Sh.Ok T) :
    Calls Tryz.prog 43 #[.pointer (some ⟨s, 0, none⟩)] w fun e w' => e = .returned (.int .i64 0) ∧ ∃ f', Sg true w0 w' s d f' (Sh.undoT T) E := by
  have c0 := h.c0
  obtain ⟨bk, c3, C⟩ := h.cloneKept hT.upk (fun p hp => (hT.thk p hp).id) (n := 64) hT.lenk
  have CC := Lib.hid C
  have HT := Lib.hid hT
  clear h hT C
  go_enter Tryz.func43, Tryz.ntmps43
  go_wp2_with fail
  refine (shThere_at w s d c0).mono ?_
  rintro e w' ⟨rfl, rfl⟩
  go_wp2_with fail
  refine CC.out.mono ?_
  rintro e w1 ⟨rfl, ⟨v, k2⟩, g2, s1⟩
  have S1 := Lib.hid s1
  have C2 : Hid (Calls Tryz.prog 55 #[.pointer (some ⟨s, 0, none⟩)] (w1.setCell ⟨s, 2, none⟩ (.map (some w.heap.size))) fun e w' => e = .returned (.tuple #[]) ∧ ∃ f', Sg true w0 w' s d f' (Sh.undoT T) E) := Ss.settle s1 HT.out.undo_fit
  clear s1 CC c0 c3
  go_wp2_with fail
  refine C2.out.mono ?_
  rintro e w3 ⟨rfl, f3, s3⟩
  have S3 := Lib.hid s3
  clear s3 C2 S1
  go_wp2
  go_ret
  exact ⟨rfl, f3, S3.out⟩

/-! ### the ids -/
theorem sorts_wide (m : Nat) : Sk.SortsIn Fence.wide m :=
  ⟨fun blk off cap ss W hH hblk hsz => callsIn_wide.2 (sortU blk off cap ss W hH hblk hsz), fun p cap W => callsIn_wide.2 (Su.Sort_u_nil p cap W)⟩
theorem keys_any (mb : Option Nat) (w : World) : Calls Tryz.prog 46 #[.map mb] w fun e w' => e = .returned (.func (.func 134) #[] #[.pointer (some ⟨w.heap.size, 0, none⟩)]) ∧ w' = w.alloc (.cells #[.map mb] 99) :=
  callsIn_wide.1 (Sk.keys_in Fence.wide 1 trivial rfl mb w)
theorem sorted_any (w : World) (Bm b n : Nat) (D : DataW Value) (hBm : Bm < w.heap.size) (hm : w.cell? ⟨Bm, 0, none⟩ = some (.map (some b))) (hown : w.ownsMap Tryz.prog 38 asHeld b n D) (hmax : Maps.size D ≤ 1000000000) :
    Calls Tryz.prog 45 #[.func (.func 134) #[] #[.pointer (some ⟨Bm, 0, none⟩)]] w fun e w' => ∃ (v : Value) (ss : List Int), e = .returned v ∧ ss.Perm (intKeys D) ∧
      w'.ownsRow w.heap.size 38 1 v ss.length ((ss.mergeSort (fun x y => decide (x ≤ y))).map encU) ∧ (v = .slice none 0 0 ↔ ss = []) ∧ Below w.heap.size w w' :=
  callsIn_wide.1 (Sk.sorted_in Fence.wide 5 trivial trivial trivial trivial rfl (by decide) (sorts_wide _) _ _ trivial (enters_of Tryz.func134 (by kernel_rfl) rfl) _ _ (by unfold maxLen; omega) (by omega) w (Sk.keys_gives Fence.wide _ trivial rfl (by decide) Bm b n D w hBm hm hown))
/-- the keys of the map, sorted, in new memory -/
theorem shSorted_any {b p : Nat} {L : Nat → Prop} {its : List (Nat × Sh.Th)} (h : MapAtT w L b p its) (hu : Mp.Up its) (hlt : ∀ p ∈ its, p.1 < 4294967296) (hn : its.length ≤ 1000000000) :
    Calls Tryz.prog 45 #[.func (.func 134) #[] #[.pointer (some ⟨w.heap.size, 0, none⟩)]] (w.alloc (.cells #[.map (some b)] 99)) fun e w' =>
      ∃ a c, e = .returned (.slice a its.length c) ∧ its.length ≤ c ∧ c ≤ maxLen ∧ Own w' w.heap.size 38 (.slice a its.length c) (ints .u32 (Sh.ids its)) ∧ Touch No w w' := by
  obtain ⟨cnt, D, h1, hD, hM⟩ := h
  have hp := sh_perm hD hM hu hlt
  have hD' : (w.alloc (.cells #[.map (some b)] 99)).ownsMap Tryz.prog 38 asHeld b cnt D := ownsMap_touch hD ((Touch.refl No w).alloc _) (fun f => f)
  have hsz : Maps.size D ≤ 1000000000 := by rw [sh_size hD hM hu hlt]; exact hn
  refine (sorted_any _ w.heap.size b cnt D (by simp) (by rw [cell_new]; rfl) hD' hsz).mono ?_
  rintro e w' ⟨v, ss, rfl, hs, hrow, hnil, hb⟩
  have hss : ss.mergeSort (fun x y => decide (x ≤ y)) = Sh.ids its := Sh.sort_ids hu (hs.trans hp.symm)
  have hlen : ss.length = its.length := by rw [(hs.trans hp.symm).length_eq]; simp [Sh.ids]
  have hl2 : (ints .u32 (Sh.ids its)).length = its.length := by simp [ints, Sh.ids]
  have hO : Own w' (w.alloc (.cells #[.map (some b)] 99)).heap.size 38 v (ints .u32 (Sh.ids its)) := by
    unfold Own
    rw [hss, hlen] at hrow
    rw [hl2]
    exact hrow
  obtain ⟨a, c, rfl, hc, hr, hbl, hmx⟩ := hO.form' hl2
  have hcm : c ≤ maxLen := by
    obtain ⟨_, hh⟩ := hO
    rcases hh with ⟨hh, _⟩ | ⟨g, cp, cur, hv, _, _, _, hcp, _⟩
    · simp only [Value.slice.injEq] at hh; omega
    · simp only [Value.slice.injEq] at hv; omega
  refine ⟨a, c, rfl, hc, hcm, hO.mono (by simp), ?_⟩
  exact ((Touch.refl No w).alloc _).trans ((Touch.of_below hb).mono (fun k hk hB => absurd hk (Nat.not_lt.2 hB)))
end
end Go.Proofs.YtnffigfafalocaaGreatDoor
namespace Go.Proofs.YtnffigfafalocaaGreatDoor
open Go Go.RowKit
set_option linter.unusedSimpArgs false

def GrowUPost (w : World) (e : Ending) (w' : World) : Prop :=
  ∃ a c, e = .returned (.slice a 0 c) ∧ Own w' w.heap.size 38 (.slice a 0 c) [] ∧ Touch No w w'

set_option maxRecDepth 100000 in
set_option maxHeartbeats 2000000 in
theorem growU_any (w : World) (n : Nat) (hn : (n : Int) ≤ 10000000000000) :
    Calls Tryz.prog 135 #[.slice none 0 0, .int .i64 (n : Nat)] w (GrowUPost w) := by
  obtain ⟨I, hi0, hi1, hi2, hi3⟩ := u32_info
  have hh0 : ∀ wx : World, (Instr.slice 86 (.slice none 0 0) none (some (.int .i64 0)) none).run Tryz.prog wx = .ok (.slice none 0 0) wx := fun wx => run_head Tryz.underlying86 hi0 hi2 none 0 0 0 .i64 (Nat.le_refl _) wx
  have hh : ∀ (wx : World) (a : Option Addr) (n c : Nat), (Instr.slice 86 (.slice a n c) none (some (.int .i64 0)) none).run Tryz.prog wx = .ok (.slice a 0 c) wx := fun wx a n c => run_head Tryz.underlying86 hi0 hi2 a n c 0 .i64 (Nat.zero_le _) wx
  have Hi := Lib.hid (And.intro hi0 (And.intro hi1 (And.intro hi2 hi3)))
  clear hi0 hi1 hi2 hi3
  by_cases h0 : n = 0
  · subst h0
    go_enter Tryz.func135, Tryz.ntmps135
    go_wp2
    go_ret
    exact ⟨_, _, rfl, Own.nil _ _ _, Touch.refl _ _⟩
  · have hpos : 0 < n := by omega
    have hp : (0 : Int) < (n : Nat) := by omega
    have H0 := Lib.hid h0
    clear h0
    go_enter Tryz.func135, Tryz.ntmps135
    go_wp2_with (refine wpList_append_zeros rfl _ _ _ _ rfl w.heap.size 38 I (.int .u32 0) (.int .u32 0) 4 Tryz.underlying86 Tryz.underlying3 Hi.out.1 Hi.out.2.1 Hi.out.2.2.1 Hi.out.2.2.2 rfl rfl (.slice none 0 0) [] (Own.nil _ _ _) rfl n rfl (by simp; unfold maxLen; omega) (by simp; omega) (Nat.le_refl _) ?_)
    intro v' w3 own3 t3
    obtain ⟨a, c, rfl, _⟩ := own3.form' (n := n) (by simp)
    have O3 := Lib.hid own3
    have T3 := Lib.hid (t3.mono (G := No) (fun k _ h => by cases h))
    clear own3 t3
    go_wp2
    go_ret
    exact ⟨_, _, rfl, O3.out.head (Nat.zero_le _), T3.out⟩

def ConcatUPost (w : World) (xs : List Value) (N : Nat) (e : Ending) (w' : World) : Prop :=
  ∃ a c, e = .returned (.slice a N c) ∧ Own w' w.heap.size 38 (.slice a N c) xs ∧ Touch No w w'

set_option maxRecDepth 100000 in
set_option maxHeartbeats 4000000 in
theorem concatU_any (w : World) (g o c : Nat) (a1 : Option Addr) (n1 c1 : Nat) (us1 : List Value) (a2 : Option Addr) (n2 c2 : Nat) (us2 : List Value) (hc1 : w.cell? ⟨g, o, none⟩ = some (.slice a1 n1 c1)) (hc2 : w.cell? ⟨g, o + 1, none⟩ = some (.slice a2 n2 c2))
    (hl1 : us1.length = n1) (hl2 : us2.length = n2) (hr1 : Rd w a1 us1) (hr2 : Rd w a2 us2) (ho1 : ∀ u ∈ us1, u.oneCell' = true) (ho2 : ∀ u ∈ us2, u.oneCell' = true) (N : Nat) (hN : n1 + n2 = N) (hmax : (N : Int) ≤ 10000000000000) :
    Calls Tryz.prog 47 #[.slice (some ⟨g, o, none⟩) 2 c] w (ConcatUPost w (us1 ++ us2) N) := by
  obtain ⟨I, hi0, hi1, hi2, hi3⟩ := u32_info
  have Hi := Lib.hid (And.intro hi0 (And.intro hi1 (And.intro hi2 hi3)))
  have HC := Lib.hid (And.intro hc1 hc2)
  have HL := Lib.hid (And.intro hl1 hl2)
  have HR := Lib.hid (And.intro hr1 hr2)
  have HO := Lib.hid (And.intro ho1 ho2)
  have HN := Lib.hid hN
  have hb1 : (n1 : Int) ≤ 10000000000000 := by omega
  have hb2 : (n2 : Int) ≤ 10000000000000 := by omega
  have hsum : (n1 : Int) + (n2 : Int) = (N : Nat) := by omega
  clear hi0 hi1 hi2 hi3 hl1 hl2 hr1 hr2 ho1 ho2 hN
  go_enter Tryz.func47, Tryz.ntmps47
  go_wp2
  go_loopg [3, 11] 2 (fun g s3 s11 wr => ((g = 2 ∧ s11 = .int .i64 0 ∧ s3 = .int .i64 0) ∨ (g = 1 ∧ s11 = .int .i64 1 ∧ s3 = .int .i64 (n1 : Nat)) ∨ (g = 0 ∧ s11 = .int .i64 2 ∧ s3 = .int .i64 (N : Nat))) ∧ Hid (w = wr))
  case atStart => exact ⟨.inl ⟨rfl, rfl, rfl⟩, rfl⟩
  case round =>
    obtain ⟨hrel, hw⟩ := hrel
    have hww := hw.out
    clear hw
    subst hww
    rcases hrel with ⟨rfl, rfl, rfl⟩ | ⟨rfl, rfl, rfl⟩ | ⟨rfl, rfl, rfl⟩
    · go_wp2
      go_roundg 1
      case measure => omega
      case rel => exact ⟨.inr (.inl ⟨rfl, rfl, rfl⟩), rfl⟩
    · go_wp2
      go_roundg 0
      case measure => omega
      case rel => exact ⟨.inr (.inr ⟨rfl, rfl, by first | rfl | (rw [hsum])⟩), rfl⟩
    · clear hc1 hc2 hsum
      go_wp2_with fail
      refine (growU_any w N hmax).mono ?_
      rintro e w1 ⟨a', c', rfl, O1, T1⟩
      have HO1 := Lib.hid O1
      have HT1 := Lib.hid T1
      clear O1 T1
      go_wp2
      go_loopg [6, 27] 2 (fun g s6 s27 wr => ∃ v : Value, s6 = v ∧ ((g = 2 ∧ s27 = .int .i64 0 ∧ Hid (Own wr w.heap.size 38 v [])) ∨ (g = 1 ∧ s27 = .int .i64 1 ∧ Hid (Own wr w.heap.size 38 v us1)) ∨ (g = 0 ∧ s27 = .int .i64 2 ∧ Hid (Own wr w.heap.size 38 v (us1 ++ us2)))) ∧ Hid (Touch No w wr))
      case atStart => exact ⟨_, rfl, .inl ⟨rfl, rfl, HO1.out⟩, HT1.out⟩
      case round =>
        obtain ⟨v, rfl, hrel, T⟩ := hrel
        clear HO1 HT1
        have hsz := T.out.size
        rcases hrel with ⟨rfl, rfl, O⟩ | ⟨rfl, rfl, O⟩ | ⟨rfl, rfl, O⟩
        · have k1 := T.out.cell id HC.out.1
          go_wp2_with (refine wpList_append_rd rfl _ _ _ rfl w.heap.size 38 I (.int .u32 0) 4 Tryz.underlying86 Hi.out.1 Hi.out.2.1 Hi.out.2.2.1 Hi.out.2.2.2 rfl _ [] O.out rfl a1 n1 c1 us1 rfl HL.out.1 (HR.out.1.no T.out) HO.out.1 (by simp; unfold maxLen; omega) (by simp; omega) hsz ?_)
          intro v' w3 own3 t3
          have O3 := Lib.hid own3
          have T3 := Lib.hid (T.out.then t3 (fun k hk e => absurd (O.out.block e).1 (Nat.not_le.2 hk)))
          clear own3 t3
          go_wp2
          go_roundg 1
          case measure => omega
          case rel => exact ⟨_, rfl, .inr (.inl ⟨rfl, rfl, O3.out⟩), T3.out⟩
        · have k2 := T.out.cell id HC.out.2
          go_wp2_with (refine wpList_append_rd rfl _ _ _ rfl w.heap.size 38 I (.int .u32 0) 4 Tryz.underlying86 Hi.out.1 Hi.out.2.1 Hi.out.2.2.1 Hi.out.2.2.2 rfl _ us1 O.out rfl a2 n2 c2 us2 rfl HL.out.2 (HR.out.2.no T.out) HO.out.2 (by rw [HL.out.1]; unfold maxLen; omega) (by rw [HL.out.1]; omega) hsz ?_)
          intro v' w3 own3 t3
          have O3 := Lib.hid own3
          have T3 := Lib.hid (T.out.then t3 (fun k hk e => absurd (O.out.block e).1 (Nat.not_le.2 hk)))
          clear own3 t3
          go_wp2
          go_roundg 0
          case measure => omega
          case rel => exact ⟨_, rfl, .inr (.inr ⟨rfl, rfl, O3.out⟩), T3.out⟩
        · go_wp2
          go_ret
          obtain ⟨a', c', rfl, _⟩ := O.out.form' (n := N) (by rw [List.length_append, HL.out.1, HL.out.2, HN.out])
          exact ⟨a', c', rfl, O.out, T.out⟩
end Go.Proofs.YtnffigfafalocaaGreatDoor
namespace Go.Proofs.YtnffigfafalocaaGreatDoor
open Go Go.RowKit Go.Maps
set_option linter.unusedSimpArgs false
set_option linter.unusedVariables false

section
variable {u : Bool} {w0 w w' : World} {s d f : Nat} {T : Sh.Sto} {E : List Part}
theorem Sg.pgWrite (h : Sg u w0 w s d f T E) (num epoch : Nat) (hnum : num < 4294967296) (hep : epoch < 4294967296) (a : Option Addr) (n c : Nat) (q : List Nat) (hq : q.length = n) (hr : Rd w a (nums .u8 q)) (hlt : ∀ x ∈ q, x < 256) (hw : T.D.waits.length ≤ 100000) :
    Calls Tryz.prog 51 #[dskV (some ⟨d, 0, none⟩), .int .u32 (num : Nat), .int .u32 (epoch : Nat), .slice a n c] w fun e w' => e = .returned (.int .i64 (Pg.wE T.D num q : Nat)) ∧ Sg u w0 w' s d f { T with D := Pg.wD T.D num epoch q } E :=
  (Dd.pgWrite h num epoch hnum hep a n c q hq hr hlt hw).mono fun e w' ⟨he, hd⟩ => ⟨he, Sg.withD hd (Pg.wD_len _ _ _ _)⟩
theorem Sg.rootWrite (h : Sg u w0 w s d f T E) (r : Rt.Root) (hr : r.Ok) :
    Calls Tryz.prog 53 #[.pointer (some ⟨d, 0, none⟩), .agg #[.int .u32 (r.epoch : Nat), .int .u32 (r.first : Nat), .int .u32 (r.bytes : Nat)]] w fun e w' => e = .returned (.int .i64 (Rt.wE T.D r : Nat)) ∧ Sg u w0 w' s d f { T with D := Rt.wD T.D r } E :=
  (Dd.rootWrite h r hr).mono fun e w' ⟨he, hd⟩ => ⟨he, Sg.withD hd (Sh.wD_root_len _ _)⟩
theorem Sg.setEpoch (h : Sg u w0 w s d f T E) (e : Nat) : Sg u w0 (w.setCell ⟨s, 1, none⟩ (.int .u32 (e : Nat))) s d f { T with epoch := e } E := by
  obtain ⟨nb, bk, ta, tc, L, h2, h3, hx, h4, h5, h6⟩ := Dd.stoX h
  obtain ⟨h7, t⟩ := h2.setEpoch e
  exact h6 _ _ _ u _ [] nb bk ta tc L h7 h3 (fun x hx => by cases hx) (t.mono (fun k _ e => Or.inl e)) (fun k hk => Or.inl hk)
theorem Sg.setTable {a : Option Addr} {n c : Nat} {l : List Nat} (h : Sg u w0 w s d f T (Part.sl 38 a n c (nums .u32 l) :: E)) (hn : l.length = n) : Sg u w0 (w.setCell ⟨s, 4, none⟩ (.slice a n c)) s d f { T with table := l } E := by
  have h1 := Dd.stoList (Dd.perm h ((List.Perm.swap _ _ _).cons _))
  obtain ⟨nb, bk, ta, tc, L, h2, h3, hx, h4, h5, h6⟩ := Dd.stoX h1
  obtain ⟨h7, t⟩ := h2.setTable a n c l hn (hx _ List.mem_cons_self)
  exact h6 _ _ _ u _ [] nb bk a c L h7 h3 (fun x hx => by cases hx) (t.mono (fun k _ e => Or.inl e)) (fun k hk => Or.inl hk)
/-- pages given back -/
theorem Sg.give (h : Sg u w0 w s d f T E) {a : Option Addr} {n c : Nat} {l : List Nat} (hm : Part.sl 38 a n c (nums .u32 l) ∈ E) (hn : l.length = n) (hx : ∀ y ∈ l, y < 4294967296) :
    Calls Tryz.prog 54 #[.pointer (some ⟨f, 0, none⟩), .slice a n c] w fun e w' => e = .returned (.int .i64 (giveSays 1 (1 + Sh.many T.D) T.S l : Nat)) ∧ Sg u w0 w' s d f { T with S := giveSet 1 (1 + Sh.many T.D) T.S l } E := by
  obtain ⟨hmap, hq, _, hk⟩ := h.map
  obtain ⟨C, hC, hf⟩ := hq _ (List.mem_cons_of_mem _ (List.mem_cons_of_mem _ hm))
  have hl := sl_len hC
  have hl3 : (c : Int) ≤ 9223372036854775807 := by have := hl.2.2; unfold maxLen at this; omega
  refine (give_any w f 1 (1 + Sh.many T.D) T.S a n c l hmap hn hl.2.1 hl3 (sl_rd hC) (fun g o e h0 e2 => ?_) hx).mono fun e w' ⟨he, ht, hm'⟩ => ⟨he, hk w' _ ht hm'⟩
  obtain ⟨g', o', ha, hO⟩ := sl_off hC (fun e => by have h3 := congrArg List.length e; rw [nums_length, List.length_nil] at h3; rw [hn] at h3; omega)
  rw [ha] at e; cases e
  exact hf (by rw [← e2]; exact hO)
end
/-- three numbers and a list, one behind the other -/
theorem concat_row (w : World) (x y z : Nat) (a : Option Addr) (n c : Nat) (xs : List Nat) (hn : xs.length = n) (hmax : (n : Int) ≤ 1000000) (hr : Rd w a (nums .u32 xs)) (N : Nat) (hN : 3 + n = N) :
    Calls Tryz.prog 47 #[.slice (some ⟨w.heap.size + 1, 0, none⟩) 2 2] ((w.alloc (.cells #[.int .u32 (x : Nat), .int .u32 (y : Nat), .int .u32 (z : Nat)] 38)).alloc (.cells #[.slice (some ⟨w.heap.size, 0, none⟩) 3 3, .slice a n c] 86)) fun e w' => ∃ a c, e = .returned (.slice a N c) ∧ Rd w' a (nums .u32 ([x, y, z] ++ xs)) ∧ Touch No w w' := by
  obtain ⟨w1, hw1⟩ : ∃ w1, w1 = w.alloc (.cells #[.int .u32 (x : Nat), .int .u32 (y : Nat), .int .u32 (z : Nat)] 38) := ⟨_, rfl⟩
  have hs1 : w1.heap.size = w.heap.size + 1 := by rw [hw1]; simp
  have hr1 : Row w1 w.heap.size 38 (nums .u32 [x, y, z]) := by rw [hw1]; exact Row.new w _ _
  have t1 : Touch No w w1 := by rw [hw1]; exact (Touch.refl No w).alloc _
  rw [← hw1]
  obtain ⟨w2, hw2⟩ : ∃ w2, w2 = w1.alloc (.cells #[.slice (some ⟨w.heap.size, 0, none⟩) 3 3, .slice a n c] 86) := ⟨_, rfl⟩
  have hr2 : Row w2 (w.heap.size + 1) 86 [.slice (some ⟨w.heap.size, 0, none⟩) 3 3, .slice a n c] := by rw [hw2, ← hs1]; exact Row.new w1 _ _
  have t2 : Touch No w1 w2 := by rw [hw2]; exact (Touch.refl No w1).alloc _
  rw [← hw2]
  have hr3 := hr1.touch t2 (fun f => f)
  refine (concatU_any w2 (w.heap.size + 1) 0 2 (some ⟨w.heap.size, 0, none⟩) 3 3 (nums .u32 [x, y, z]) a n c (nums .u32 xs) (hr2.cell 0) (hr2.cell 1) rfl (by rw [nums_length, hn]) (fun i v hi => ⟨_, _, rfl, by rw [Nat.zero_add, hr3.cell]; exact hi⟩) (hr.no (t1.trans t2)) (nums_one _ _) (nums_one _ _) N hN (by omega)).mono fun e w' ⟨a, c, he, ho, t⟩ => ⟨a, c, he, by rw [nums_append]; exact ho.rd, (t1.trans t2).trans t⟩
end Go.Proofs.YtnffigfafalocaaGreatDoor
