/-
  slices.Chunk of bytes, by four, and slices.Collect of that, by their own text.
-/
import Derived.Test.YtmjeigceclmdoaaGreatDoorNumA
import Derived.RangeFuncNested
import Derived.RangeFuncBound
import Derived.RangeFuncCalls
import Derived.RangeFuncLeaves
import Derived.RangeFuncBox
import Derived.Shelf.Abstract
import Derived.Shelf.RegionOpen
import Derived.OwnWalkIn
import Derived.TacticsInMore
import Derived.LoopNIn
import Derived.LoopIn
import Derived.Maps.AppendAt
import Derived.Sort.QuietIn
namespace Go.Proofs.YtmjeigceclmdoaaGreatDoor
open Go Go.RowKit Go.Shelf
set_option linter.unusedSimpArgs false
attribute [local go_sem] Oper.semAt_some

theorem run_cut3 {P : Program} {t e : TypeId} {i : TypeInfo} (ht : P.underlying t = some (.slice e)) (hi : P.info? e = some i) (hs : i.size = 1) (g o len cap l h : Nat) (k k' k'' : IntKind) (h1 : l < h) (h2 : h ≤ cap) (w : World) :
    (Instr.slice t (.slice (some ⟨g, o, none⟩) len cap) (some (.int k (l : Nat))) (some (.int k' (h : Nat))) (some (.int k'' (h : Nat)))).run P w = .ok (.slice (some ⟨g, o + l, none⟩) (h - l) (h - l)) w := by
  have h3 : ¬ (h = l) := by omega
  have h4 : ¬ (h - l = 0) := by omega
  have h5 : l ≤ h := by omega
  simp [Instr.slice, Instr.sliceBounds, Instr.sliceBound, asIntOf, run_underlying ht, sizeOf, typeInfo, hi, hs, h2, h3, h4, h5, add_off]

abbrev piece (g o k : Nat) : Value := .slice (some ⟨g, o + 4 * k, none⟩) 4 4

set_option maxRecDepth 100000 in
set_option maxHeartbeats 4000000 in
theorem chunk1_in (n : Nat) (hn : 1 ≤ n) (l Bs Bn n₀ m M : Nat) (hM : 4 * m = M) (a : Option Addr) (cap g o : Nat) (ha : 0 < m → a = some ⟨g, o, none⟩) (hcap : M ≤ cap) (hmax : (cap : Int) ≤ 9223372036854775807) (hBs : Bs < n₀) (hBn : Bn < n₀) (J Jx : List Nat → World → Prop) (hJn : ∀ s W W', J s W → W.grownBy W' none → J s W')
    (hY : ∀ pre x W, J pre W → pre.length < m → YieldAt Fence.wide (n - 1) Tryz.prog l #[piece g o x] W fun e W' =>
      (e = .returned (.bool true) ∧ J (pre ++ [x]) W' ∧ Below n₀ W W') ∨ (e = .returned (.bool false) ∧ Jx (pre ++ [x]) W'))
    (W : World) (hs : W.cell? ⟨Bs, 0, none⟩ = some (.slice a M cap)) (hk : W.cell? ⟨Bn, 0, none⟩ = some (.int .i64 4)) (h0 : J [] W) :
    CallsIn Fence.wide n Tryz.prog 206 #[.func (.yield l) #[] #[], .pointer (some ⟨Bs, 0, none⟩), .pointer (some ⟨Bn, 0, none⟩)] W fun e W' => (∃ v, e = .returned v) ∧
      ((∃ ys, ys = List.range m ∧ J ys W') ∨ (∃ pre, True ∧ Jx pre W')) := by
  obtain ⟨I, hi0, hi1, hi2, hi3⟩ := u8_info
  have HM := Lib.hid hM
  have Ha := Lib.hid ha
  have HI := Lib.hid (And.intro hi0 hi2)
  have HS := Lib.hid (And.intro hs hk)
  have hY' := Lib.hid hY
  clear hM ha hi0 hi1 hi2 hi3 hs hk hY
  refine callsIn_of_wp Tryz.func206 rfl trivial ?_ rfl
  simp only [Tryz.ntmps206, List.size_toArray, List.length_cons, List.length_nil, Nat.reduceAdd, Nat.reduceSub, Array.replicate_succ, Array.replicate_zero, List.push_toArray, List.append_toArray, List.nil_append, List.cons_append]
  gi_wp2
  gi_loopw [4] (fun i wr => ∃ k q : Nat, k ≤ m ∧ Hid (4 * k = q) ∧ i = .int .i64 ((q : Nat) : Int) ∧ J (List.range k) wr ∧ Hid (Below n₀ W wr))
    (fun i _ => M - (intOf i).toNat)
  case atStart => exact ⟨0, 0, Nat.zero_le _, rfl, rfl, h0, Below.refl _ _⟩
  case round =>
    obtain ⟨k, q, hkm, hq, rfl, hJ, hB⟩ := hrel
    have k1 := (hB.out.cell (p := ⟨Bs, 0, none⟩) hBs).trans HS.out.1
    have k2 := (hB.out.cell (p := ⟨Bn, 0, none⟩) hBn).trans HS.out.2
    by_cases hlt : k < m
    · obtain rfl := Ha.out (by omega)
      have hqM : q + 4 ≤ M := by have := HM.out; have := hq.out; omega
      have hqM' : (q : Int) < (M : Nat) := by omega
      obtain ⟨r, hr⟩ : ∃ r, M - q = r := ⟨_, rfl⟩
      have hr4 : (4 : Int) ≤ (r : Nat) := by omega
      have hrM : (r : Int) ≤ 9223372036854775807 := by omega
      have hc1 : ∀ wx : World, (Instr.slice 22 (.slice (some ⟨g, o, none⟩) M cap) (some (.int .i64 (q : Nat))) none none).run Tryz.prog wx = .ok (.slice (cutAddr (some ⟨g, o, none⟩) cap q) r (cap - q)) wx := fun wx => by
        have := run_cut Tryz.underlying22 HI.out.1 HI.out.2 (some ⟨g, o, none⟩) M cap q .i64 (by omega) wx
        rw [hr] at this; exact this
      have hc3 : ∀ wx : World, (Instr.slice 22 (.slice (some ⟨g, o, none⟩) M cap) (some (.int .i64 (q : Nat))) (some (.int .i64 ((q : Nat) + 4))) (some (.int .i64 ((q : Nat) + 4)))).run Tryz.prog wx = .ok (.slice (some ⟨g, o + q, none⟩) 4 4) wx := fun wx => by
        have := run_cut3 Tryz.underlying22 HI.out.1 HI.out.2 g o M cap q (q + 4) .i64 .i64 .i64 (by omega) (by omega) wx
        rw [show q + 4 - q = 4 by omega] at this; exact this
      have hnext : Hid (4 * (k + 1) = q + 4) := by have := hq.out; show _ = _; omega
      have hq9 : (q : Int) + 4 ≤ 9223372036854775807 := by omega
      clear hr
      gi_wp2
      gi_quiet (fail)
      obtain ⟨wq, hwq⟩ : ∃ wq, wq = wr.drewN nq := ⟨_, rfl⟩
      have hJq : J (List.range k) wq := by rw [hwq]; exact hJn _ _ _ hJ ⟨rfl, rfl, rfl, Nat.le_refl _, fun _ _ _ => rfl⟩
      have q1 : wq.cell? ⟨Bs, 0, none⟩ = some (.slice (some ⟨g, o, none⟩) M cap) := by rw [hwq]; exact k1
      have q2 : wq.cell? ⟨Bn, 0, none⟩ = some (.int .i64 4) := by rw [hwq]; exact k2
      have hBq : Hid (Below n₀ W wq) := by show Below _ _ _; rw [hwq]; exact hB.out.trans ⟨rfl, rfl, rfl, Nat.le_refl _, fun _ _ => rfl⟩
      rw [← hwq]
      obtain ⟨fn, tmps, assign, body, hy, hR⟩ := hY'.out (List.range k) k wq hJq (by rw [List.length_range]; exact hlt)
      rw [piece, hq.out] at hy
      clear hwq k1 k2 hB hJ hc1
      gi_wp2
      refine hR.mono ?_
      rintro e W3 (⟨rfl, hJ3, hk3⟩ | ⟨rfl, hJx3⟩)
      · have r2 : W3.cell? ⟨Bn, 0, none⟩ = some (.int .i64 4) := (hk3.cell (p := ⟨Bn, 0, none⟩) hBn).trans q2
        have hB3 : Hid (Below n₀ W W3) := hBq.out.trans hk3
        have HJ3 := Lib.hid hJ3
        clear hk3 hJ3 q1 q2 hy hR
        gi_wp2
        go_roundw
        case rel => exact ⟨k + 1, q + 4, by omega, hnext, by go_num, by rw [List.range_succ]; exact HJ3.out, hB3⟩
        case measure => simp [intOf]; omega
      · gi_wp2
        refine bodyPost_ret (results_none rfl _ _ _) rfl ?_
        exact ⟨⟨_, rfl⟩, .inr ⟨_, trivial, hJx3⟩⟩
    · obtain rfl : k = m := by omega
      obtain rfl : q = M := by rw [← HM.out, ← hq.out]
      gi_wp2
      go_end0
      exact ⟨⟨_, rfl⟩, .inl ⟨_, rfl, hJ⟩⟩

/-- what Chunk hands back: a value that gives the pieces in their order -/
theorem chunk_stops (n : Nat) (hn : 1 ≤ n) (Bs Bn m M : Nat) (hM : 4 * m = M) (a : Option Addr) (cap g o : Nat) (ha : 0 < m → a = some ⟨g, o, none⟩) (hcap : M ≤ cap) (hmax : (cap : Int) ≤ 9223372036854775807) (w : World) (hBs : Bs < w.heap.size) (hBn : Bn < w.heap.size)
    (hs : w.cell? ⟨Bs, 0, none⟩ = some (.slice a M cap)) (hk : w.cell? ⟨Bn, 0, none⟩ = some (.int .i64 4)) :
    SeqStopsK Fence.wide n Tryz.prog 206 #[.pointer (some ⟨Bs, 0, none⟩), .pointer (some ⟨Bn, 0, none⟩)] (fun x : Nat => #[piece g o x]) (Below w.heap.size) (fun ys => ys = List.range m) (fun _ => True) m w := fun l J Jx W hW hJ _ hY h0 =>
  chunk1_in n hn l Bs Bn w.heap.size m M hM a cap g o ha hcap hmax hBs hBn J Jx (fun s A B hs hg => hJ s A B none hs hg (fun _ e => by cases e)) hY W ((hW.cell (p := ⟨Bs, 0, none⟩) hBs).trans hs) ((hW.cell (p := ⟨Bn, 0, none⟩) hBn).trans hk) h0

theorem pieceInfo : (Tryz.prog.info? 22).map (fun i => (i.zero, i.size, i.bytes)) = some (some (.slice none 0 0), 1, 24) := by kernel_rfl

set_option maxRecDepth 100000 in
set_option maxHeartbeats 4000000 in
theorem appendSeq_in (n : Nat) (hn : 3 ≤ n) (Bs Bn m M : Nat) (hM : 4 * m = M) (a : Option Addr) (cap g o : Nat) (ha : 0 < m → a = some ⟨g, o, none⟩) (hcap : M ≤ cap) (hmax : (cap : Int) ≤ 9223372036854775807) (hm : m ≤ 1000000000) (w : World) (hBs : Bs < w.heap.size) (hBn : Bn < w.heap.size)
    (hs : w.cell? ⟨Bs, 0, none⟩ = some (.slice a M cap)) (hk : w.cell? ⟨Bn, 0, none⟩ = some (.int .i64 4)) :
    CallsIn Fence.wide n Tryz.prog 205 #[.slice none 0 0, .func (.func 206) #[] #[.pointer (some ⟨Bs, 0, none⟩), .pointer (some ⟨Bn, 0, none⟩)]] w fun e W' =>
      ∃ v, e = .returned v ∧ W'.ownsRow w.heap.size 22 1 v m (pieces g o m) ∧ Below w.heap.size w W' := by
  have h1 : 1 ≤ n := by omega
  obtain ⟨i0, hi, hz0, hz1, hz2⟩ := info_parts pieceInfo
  have hseq := chunk_stops (n - 1) (by omega) Bs Bn m M hM a cap g o ha hcap hmax w hBs hBn hs hk
  clear ha hs hk
  have bO := Boxed.new w 136 (.slice none 0 0)
  have hB0 : Below w.heap.size w (w.alloc (.cells #[.slice none 0 0] 136)) := (Below.refl _ w).alloc (Nat.le_refl _) _
  refine callsIn_of_wp_marks Tryz.func205 rfl trivial ?_ rfl
  simp only [Tryz.ntmps205, List.size_toArray, List.length_cons, List.length_nil, Nat.reduceAdd, Nat.reduceSub, Array.replicate_succ, Array.replicate_zero, List.push_toArray, List.append_toArray, List.nil_append, List.cons_append]
  gi_wp2
  refine wpIn_rangeFunc_ownG rfl h1 (gf := 206) (lb := #[.pointer (some ⟨Bs, 0, none⟩), .pointer (some ⟨Bn, 0, none⟩)]) rfl trivial (enters_of Tryz.func206 (by kernel_rfl) rfl)
    hseq belowK_t (belowK_b (by simp)) hB0 (fun _ => rfl)
    (fun pre W => (∃ v, Boxed W w.heap.size 136 v ∧ W.ownsRow w.heap.size 22 1 v pre.length (pre.map fun k => piece g o k) ∧ True) ∧ Below w.heap.size w W)
    (fun _ _ _ => False)
    (OwnFrom.and (Own.from (holdsRow_own w.heap.size w.heap.size 136 22 1 (fun pre : List Nat => pre.length) (fun pre => pre.map fun k => piece g o k) (fun _ _ => True)) _) (ownFrom_below (Nat.le_refl _) (by simp)))
    (fun _ _ _ _ _ hs _ _ => hs)
    ⟨⟨_, bO, World.ownsRow_nil _ _ _ _, trivial⟩, hB0⟩
    (fun x => { tmps := #[.slice none 0 0, .func (.func 206) #[] #[.pointer (some ⟨Bs, 0, none⟩), .pointer (some ⟨Bn, 0, none⟩)], .pointer (some ⟨w.heap.size, 0, none⟩), undef, .slice none 0 0, piece g o x, .func (.func 206) #[] #[.pointer (some ⟨Bs, 0, none⟩), .pointer (some ⟨Bn, 0, none⟩)], piece g o x, undef, undef, undef, undef, undef], defers := [] }) ?assign ?body ?done ?stop
  case assign =>
    intro l x W K hK
    gi_wp2
    exact hK
  case body =>
    rintro l pre x W ⟨⟨v, hv, hrow, _⟩, hB⟩ hlt
    have hc := hv.cell
    gi_wp2_with (gi_at_builtin; refine wpListIn_append_own _ rfl _ _ 136 rfl w.heap.size 22 i0 (.slice none 0 0) 1 24 Tryz.underlying136 hi hz0 hz1 hz2 rfl (by decide) _ _ _ rfl (hrow.alloc _) ⟨W.heap.size, 0, none⟩ 1 1 [piece g o x] rfl rfl (cell_one_new _ _ _) (by simp [Value.oneCell']) (by unfold maxLen; omega) (by omega) (by have := hB.size; simp; omega) ?_; intro v' w1 hown' hgrow _; obtain ⟨g', cap', rfl⟩ := ownsRow_succ hown'; obtain ⟨hv1, hv2, hr2, hk2, hb2⟩ := hv.appended (by decide) hrow hB.size (Nat.le_refl _) hown' hgrow; have hc1 := hv1.cell; have hf1 := hv1.frozen)
    exact ⟨hk2.from _, hb2, ⟨_, hv2, by simpa using hr2, trivial⟩, hB.trans hb2⟩
  case done =>
    rintro D ys W hD rfl ⟨⟨v, hv, hrow, _⟩, hB⟩ hK
    have hc := hv.cell
    gi_wp2
    refine ⟨by simp, .inl ⟨_, _, rfl, run_takeDeferred hK, ?_⟩⟩
    exact ⟨_, results_tmp rfl _ _ _, v, rfl, by have := ownsRow_putObj hrow (.deferred none) hK rfl; rw [List.length_range] at this; exact this, hB.trans (belowK_b (w := w) (Nat.le_refl _) W D _ _ (by simp at hD; omega) hK rfl rfl)⟩
  case stop =>
    rintro D c pre W _ _ h _
    exact h.elim
end Go.Proofs.YtmjeigceclmdoaaGreatDoor
