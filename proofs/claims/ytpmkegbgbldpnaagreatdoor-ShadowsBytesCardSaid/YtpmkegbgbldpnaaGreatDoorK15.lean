/-
  Package disks by its own text: what is no disk answers nothing; the walk of DisksNone.
  Package pages by its own text: ask, each.
  Package pages by its own text: each (an iterator over a page's sectors).
  A region that reads, then ends in a tail in the text's order: inside a round of a loop over a function. No program in sight.
-/
import Derived.Test.YtpmkegbgbldpnaaGreatDoorK03
import Derived.Test.YtpmkegbgbldpnaaGreatDoorK14
import Derived.Test.YtpmkegbgbldpnaaGreatDoorK10
import Derived.Test.YtpmkegbgbldpnaaGreatDoorK12
import Derived.Test.YtpmkegbgbldpnaaGreatDoorK07
import Derived.RangeFuncNested
import Derived.RangeFuncBound
import Derived.RangeFuncCalls
import Derived.RangeFuncLeaves
import Derived.RangeFuncBox
import Derived.Shelf.Abstract
import Derived.Shelf.RegionOpen
import Derived.OwnWalkIn
import Derived.TacticsInMore
import Derived.LoopNIn
import Derived.LoopIn
import Derived.Maps.AppendAt
import Derived.Sort.QuietIn
import Derived.Test.YtpmkegbgbldpnaaGreatDoorK01
import Derived.StillTailTactics
import Derived.OrdersIn
import Derived.TacticsIn
namespace Go.Proofs.YtpmkegbgbldpnaaGreatDoor
open Go Go.RowKit

set_option maxHeartbeats 400000 in
theorem read_not (w : World) (p : Value) (n : Int) (h : NotDisk w p) : Calls Tryz.prog 232 #[p, .int .i64 n] w fun e w' => e = .returned (.tuple #[.slice none 0 0, .int .i64 2]) ∧ w = w' := by
  go_enter Tryz.func232, Tryz.ntmps232
  go_wp2_with (go_at_call 54; refine (ask_not _ _ _ h).mono ?_; rintro e w' ⟨rfl, rfl⟩)
  go_ret2
  exact ⟨rfl, rfl⟩
end Go.Proofs.YtpmkegbgbldpnaaGreatDoor
namespace Go.Proofs.YtpmkegbgbldpnaaGreatDoor
open Go Go.RowKit
set_option linter.unusedSimpArgs false

abbrev dskV (d : Option Addr) : Value := .iface 25 (.pointer d)
theorem methRead (n : Nat) (p : Option Addr) (w : World) (hn : 0 < n) : (method n 25 (.pointer p) "Read").run Tryz.prog w = .ok (232, .pointer p) w := by
  obtain ⟨m, rfl⟩ : ∃ m, n = m + 1 := ⟨n - 1, by omega⟩
  kernel_rfl
theorem methWrite (n : Nat) (p : Option Addr) (w : World) (hn : 0 < n) : (method n 25 (.pointer p) "Write").run Tryz.prog w = .ok (12, .pointer p) w := by
  obtain ⟨m, rfl⟩ : ∃ m, n = m + 1 := ⟨n - 1, by omega⟩
  kernel_rfl
theorem methLen (n : Nat) (p : Option Addr) (w : World) (hn : 0 < n) : (method n 25 (.pointer p) "Len").run Tryz.prog w = .ok (55, .pointer p) w := by
  obtain ⟨m, rfl⟩ : ∃ m, n = m + 1 := ⟨n - 1, by omega⟩
  kernel_rfl
theorem nilWrite (n : Nat) (p : Option Addr) (w : World) (hn : 0 < n) : (nilAhead n 25 (.pointer p) "Write").run Tryz.prog w = .ok (some false) w := by
  obtain ⟨m, rfl⟩ : ∃ m, n = m + 1 := ⟨n - 1, by omega⟩
  kernel_rfl

set_option maxRecDepth 100000 in
theorem pgAsk_none (w : World) (num : Nat) : Calls Tryz.prog 168 #[dskV none, .int .u32 (num : Nat)] w fun e w' => e = .returned (.int .i64 2) ∧ w = w' := by
  have hm := methRead
  go_enter Tryz.func168, Tryz.ntmps168
  go_wp2_with fail
  refine (read_not _ _ _ (.inl rfl)).mono ?_
  rintro e w' ⟨rfl, rfl⟩
  go_wp2
  go_ret
  exact ⟨rfl, rfl⟩
set_option maxRecDepth 100000 in
theorem pgAsk_any {wi : World} {d : Nat} {D : Dk.Disk} {O : Nat → Prop} (h : DiskAt wi d D O) (num : Nat) (hn : num < 4294967296) : Calls Tryz.prog 168 #[dskV (some ⟨d, 0, none⟩), .int .u32 (num : Nat)] wi fun e w' => e = .returned (.int .i64 (onD D num : Nat)) ∧ Touch No wi w' := by
  have hm := methRead
  have hl := methLen
  have hpos := Lib.hid h.ok.pos
  have htop := h.ok.top
  have HH := Lib.hid h
  have hn' : (num : Int) < 4294967296 := by omega
  obtain ⟨N, hN⟩ : ∃ N, D.seen.length = N := ⟨_, rfl⟩
  have HN := Lib.hid hN
  have hN9 : (N : Int) ≤ 16384 := by omega
  obtain ⟨q, hq⟩ : ∃ q, onD D num = q := ⟨_, rfl⟩
  have Hq := Lib.hid hq
  rw [hq]
  clear h hN htop hq hn
  by_cases hc : 4 * num + 4 ≤ N
  all_goals
    first
      | (have hlt : ¬ (N : Int) < (num : Int) * 4 + 4 := by omega)
      | (have hlt : (N : Int) < (num : Int) * 4 + 4 := by omega)
    have HC : Hid (q = onD D num) := Hq.out.symm
    rw [onD, HN.out] at HC
    first
      | (have HC1 : Hid (q = 0) := by show _ = _; rw [HC.out, if_pos hc])
      | (have HC1 : Hid (q = 1) := by show _ = _; rw [HC.out, if_neg hc])
    clear hc HC Hq
    go_enter Tryz.func168, Tryz.ntmps168
    go_wp2_with fail
    refine (HH.out.read_any 0 hpos.out).mono ?_
    rintro e w1 ⟨a, l, r, rfl, hr, hl1, hre, t1⟩
    have hr2 : ((r : Int) == 2) = false := by
      have : r = 0 ∨ r = 12 := by rw [hre, Dk.errOf]; split <;> simp
      rcases this with rfl | rfl <;> rfl
    have T1 := Lib.hid t1
    clear t1 hr hl1 hre
    go_wp2_with fail
    refine (len_in _ d D O (HH.out.no T1.out)).mono ?_
    rw [HN.out]
    rintro e w2 ⟨rfl, rfl⟩
    clear hm hl hn' hN9 hr2
    go_wp2
    go_ret
    exact ⟨by rw [HC1.out]; rfl, T1.out⟩
end Go.Proofs.YtpmkegbgbldpnaaGreatDoor
namespace Go.Proofs.YtpmkegbgbldpnaaGreatDoor
open Go Go.RowKit Go.Shelf
set_option linter.unusedSimpArgs false
attribute [local go_sem] Oper.semAt_some

/-- the first places of four -/
def four4 (k : Nat) : List (Fin 4) := (List.finRange 4).take k
theorem four4_next {k : Nat} (h : k < 4) : four4 (k + 1) = four4 k ++ [⟨k, h⟩] := by
  match k, h with
  | 0, _ => rfl
  | 1, _ => rfl
  | 2, _ => rfl
  | 3, _ => rfl
theorem four4_length {k : Nat} (h : k ≤ 4) : (four4 k).length = k := by simp [four4]; omega

/-- a block that is kept -/
def KeepB (Bn : Nat) (W W' : World) : Prop := W'.heap[Bn]? = W.heap[Bn]?
theorem keepB_t {Bn : Nat} {A B C : World} (h : KeepB Bn A B) (k : KeepB Bn B C) : KeepB Bn A C := k.trans h
theorem keepB_b {Bn B : Nat} (hB : Bn < B) (W : World) (l : Nat) (o o' : Obj) (hl : B ≤ l) (_ : W.heap[l]? = some o) (_ : o.isCells = false) (_ : o.isWalk = false) : KeepB Bn W (W.putObj l o') :=
  World.putObj_heap_other (by omega)
theorem KeepB.cell {Bn : Nat} {W W' : World} (h : KeepB Bn W W') : W'.cell? ⟨Bn, 0, none⟩ = W.cell? ⟨Bn, 0, none⟩ := World.cell?_of_block (a := ⟨Bn, 0, none⟩) h

set_option maxRecDepth 100000 in
set_option maxHeartbeats 4000000 in
theorem each1_in (n : Nat) (hn : 1 ≤ n) (l Bn num : Nat) (hnum : num < 4294967296) (J Jx : List (Fin 4) → World → Prop)
    (hY : ∀ pre (x : Fin 4) W, J pre W → pre.length < 4 → YieldAt Fence.wide (n - 1) Tryz.prog l #[.int .i64 ((num : Int) * 4 + ((x.val : Nat) : Int)), .int .i64 (((x.val : Nat) : Int) * 64)] W fun e W' =>
      (e = .returned (.bool true) ∧ J (pre ++ [x]) W' ∧ KeepB Bn W W') ∨ (e = .returned (.bool false) ∧ Jx (pre ++ [x]) W'))
    (W : World) (hk : W.cell? ⟨Bn, 0, none⟩ = some (.int .u32 (num : Nat))) (h0 : J [] W) :
    CallsIn Fence.wide n Tryz.prog 231 #[.func (.yield l) #[] #[], .pointer (some ⟨Bn, 0, none⟩)] W fun e W' => (∃ v, e = .returned v) ∧
      ((∃ ys, ys = four4 4 ∧ J ys W') ∨ (∃ pre, True ∧ Jx pre W')) := by
  have HS := Lib.hid hk
  have hY' := Lib.hid hY
  have hnum9 : (num : Int) < 4294967296 := by omega
  clear hk hY
  refine callsIn_of_wp Tryz.func231 rfl trivial ?_ rfl
  simp only [Tryz.ntmps231, List.size_toArray, List.length_cons, List.length_nil, Nat.reduceAdd, Nat.reduceSub, Array.replicate_succ, Array.replicate_zero, List.push_toArray, List.append_toArray, List.nil_append, List.cons_append]
  gi_wp2
  gi_loopw [4] (fun i wr => ∃ k : Nat, k ≤ 4 ∧ i = .int .i64 ((k : Nat) : Int) ∧ J (four4 k) wr ∧ Hid (KeepB Bn W wr))
    (fun i _ => 4 - (intOf i).toNat)
  case atStart => exact ⟨0, Nat.zero_le _, rfl, h0, rfl⟩
  case round =>
    obtain ⟨k, hk4, rfl, hJ, hB⟩ := hrel
    have k2 := hB.out.cell.trans HS.out
    by_cases hlt : k < 4
    · have hlt' : (k : Int) < 4 := by omega
      have hk0 : (0 : Int) ≤ (k : Nat) := by omega
      obtain ⟨fn, tmps, assign, body, hy, hR⟩ := hY'.out (four4 k) ⟨k, hlt⟩ wr hJ (by rw [four4_length hk4]; exact hlt)
      dsimp only at hy
      clear hJ
      gi_wp2
      refine hR.mono ?_
      rintro e W3 (⟨rfl, hJ3, hk3⟩ | ⟨rfl, hJx3⟩)
      · have hB3 : Hid (KeepB Bn W W3) := keepB_t hB.out hk3
        have HJ3 := Lib.hid hJ3
        clear hk3 hJ3 k2 hy hR
        gi_wp2
        go_roundw
        case rel => exact ⟨k + 1, by omega, by go_num, by rw [four4_next hlt]; exact HJ3.out, hB3⟩
        case measure => simp [intOf]; omega
      · gi_wp2
        refine bodyPost_ret (results_none rfl _ _ _) rfl ?_
        exact ⟨⟨_, rfl⟩, .inr ⟨_, trivial, hJx3⟩⟩
    · obtain rfl : k = 4 := by omega
      gi_wp2
      go_end0
      exact ⟨⟨_, rfl⟩, .inl ⟨_, rfl, hJ⟩⟩

theorem each_stops (n : Nat) (hn : 1 ≤ n) (Bn num : Nat) (hnum : num < 4294967296) (w : World) (hBn : Bn < w.heap.size) (hk : w.cell? ⟨Bn, 0, none⟩ = some (.int .u32 (num : Nat))) :
    SeqStopsK Fence.wide n Tryz.prog 231 #[.pointer (some ⟨Bn, 0, none⟩)] (fun x : Fin 4 => #[.int .i64 ((num : Int) * 4 + ((x.val : Nat) : Int)), .int .i64 (((x.val : Nat) : Int) * 64)]) (KeepB Bn) (fun ys => ys = four4 4) (fun _ => True) 4 w := fun l J Jx W hW _ _ hY h0 =>
  each1_in n hn l Bn num hnum J Jx hY W ((hW.cell (p := ⟨Bn, 0, none⟩) hBn).trans hk) h0

theorem each_any (w : World) (num : Nat) : Calls Tryz.prog 170 #[.int .u32 (num : Nat)] w fun e w' =>
    e = .returned (.func (.func 231) #[] #[.pointer (some ⟨w.heap.size, 0, none⟩)]) ∧ w.alloc (.cells #[.int .u32 (num : Nat)] 24) = w' := by
  have hmf : ∀ (fn : Fn) (first cap : Array Value) (w : World), (Instr.makeFunc fn first cap).run Tryz.prog w = .ok (.func fn first cap) w := fun _ _ _ _ => rfl
  go_enter Tryz.func170, Tryz.ntmps170
  go_wp2
  go_ret
  exact ⟨rfl, rfl⟩
end Go.Proofs.YtpmkegbgbldpnaaGreatDoor
namespace Go.Proofs.YtpmkegbgbldpnaaGreatDoor
open Go Go.RowKit

section
variable {P : Program} {ops : Array Oper} {md : Region.Mode} {w : World} {l m : Nat} {Q' : Exit → Act → World → Prop}
def noDefer (ops : Array Oper) : Bool := ops.all fun o => match o.op with | .defer _ => false | _ => true
theorem noDefer_spec (h : noDefer ops = true) {i : Nat} {o : Oper} (hi : ops[i]? = some o) : ∀ c, o.op ≠ .defer c := by
  intro c e
  have := Array.all_eq_true.1 h i (Array.getElem?_eq_some_iff.1 hi).1
  rw [(Array.getElem?_eq_some_iff.1 hi).2, e] at this
  cases this
theorem wpIn_of_still {o : Oper} {a : Act} {K : Act → Prop} {K' : Act → World → Prop} (hd : ∀ c, o.op ≠ .defer c) (h : ∀ a, K a → K' a w) (hh : o.still P a w K) : o.wpIn (Fence.wide.inRound l) m P a w K' Q' := by
  unfold Oper.still at hh
  unfold Oper.wpIn
  refine ⟨fun _ _ => trivial, ?_⟩
  rw [Fence.inRound_round, Oper.semAt_some _ _ _ hd]
  generalize (execOp a.eval o).run P w = r at *
  cases r with
  | ok n w' =>
    cases n <;> simp only [Oper.stillUpon] at hh <;> simp only [Oper.uponIn]
    case enter f args =>
      obtain ⟨rfl, v, hc, hn⟩ := hh
      refine ⟨fun h => by simp [Fence.wide] at h, ?_⟩
      exact CallsIn.mono (CallsIn.inRound l (callsIn_wide.2 hc)) fun e w'' ⟨he, hw⟩ => by subst he; subst hw; exact h _ hn
    all_goals (obtain ⟨rfl, h2⟩ := hh; exact h _ h2)
  | halt x w' => simp only [Oper.stillUpon] at hh
theorem wpOpIn_of_stOp {i : Nat} {a : Act} {K : Act → Prop} {K' : Act → World → Prop} (hd : noDefer ops = true) (h : ∀ a, K a → K' a w) (hh : stOp P ops w i K a) : wpOpIn (Fence.wide.inRound l) m P ops Q' i K' a w := by
  unfold stOp at hh
  unfold wpOpIn
  split
  · rename_i ho; simp only [ho] at hh; exact h _ hh
  · rename_i o ho
    simp only [ho] at hh
    split
    · rename_i hw; simp only [hw, if_true] at hh; exact wpIn_of_still (noDefer_spec hd ho) h hh
    · rename_i hw; simp only [hw] at hh; exact ⟨fun _ _ => trivial, h _ hh⟩
theorem wpAnyIn_of_head {n g : Nat} {L : Array Bool → Act → Prop} (hd : noDefer ops = true) (hL : ∀ listed a, L listed a → wpAnyIn (Fence.wide.inRound l) m P md ops Q' g listed a w) :
    ∀ (f : Nat) (listed : Array Bool) (a : Act), wpAnyL P md ops w n L f listed a → wpAnyIn (Fence.wide.inRound l) m P md ops Q' (f + g) listed a w
  | 0, listed, a, h => by rw [Nat.zero_add]; exact hL _ _ h
  | f + 1, listed, a, h => by
    rw [show f + 1 + g = (f + g) + 1 by omega]
    exact ⟨fun h0 => absurd h0 h.1, fun i hi => wpOpIn_of_stOp hd (fun a' h' => wpAnyIn_of_head hd hL f _ a' h') (h.2 i hi).2⟩
theorem wpAnyIn_of_seq : ∀ (q : List Oper) (k : Nat) (listed : Array Bool) (a : Act) (w : World), (∀ j, q[j]? = ops[k + j]?) →
    Region.seqB md ops q.length k listed = true → wpListIn (Fence.wide.inRound l) m P ops Q' q a w → wpAnyIn (Fence.wide.inRound l) m P md ops Q' q.length listed a w
  | [], _, _, _, _, _, hB, h => ⟨by simpa [Region.seqB] using hB, h⟩
  | o :: q, k, listed, a, w, hl, hB, h => by
    have h0 : ops[k]? = some o := by simpa using (hl 0).symm
    simp only [List.length_cons, Region.seqB, Bool.and_eq_true, decide_eq_true_eq] at hB
    refine ⟨fun h1 => (by rw [hB.1] at h1; cases h1), fun i hi => ?_⟩
    rw [hB.1] at hi
    have hik : i = k := by simpa using hi
    subst hik
    have hw : wpOpIn (Fence.wide.inRound l) m P ops Q' i (wpListIn (Fence.wide.inRound l) m P ops Q' q) a w := by unfold wpOpIn; simp only [h0]; exact h
    exact wpOpIn_mono (fun a' w' h' => wpAnyIn_of_seq q (i + 1) _ a' w' (fun j => by have := hl (j + 1); simpa [Nat.add_assoc, Nat.add_comm 1 j] using this) hB.2 h') hw
theorem wpIn_region_still_tail {id : Nat} {a : Act} {q : List Oper} (n : Nat) (hm : P.follows .mixedOrders = true) (hB : (noDefer q.toArray && Region.lexTailB .any q.toArray n) = true)
    (h : wpStill P q.toArray { w with drawn := w.drawn + 1 } (fun a' => wpListIn (Fence.wide.inRound l) m P q.toArray Q' (q.drop n) a' { w with drawn := w.drawn + 1 }) (q.take n) a) : (Code.region id q.toArray true).wpIn (Fence.wide.inRound l) m P Q' a w := by
  simp only [Region.lexTailB, Bool.and_eq_true, decide_eq_true_eq] at hB
  obtain ⟨hdf, ⟨⟨⟨hsel, hn⟩, hs⟩, hc⟩, hlex⟩ := hB
  have htl : (q.take n).length = n := by simp; simp at hn; omega
  have hdl : (q.drop n).length = q.toArray.size - n := by simp
  have inv0 : HeadInv .any q.toArray n (Array.replicate q.toArray.size false) :=
    ⟨by simp, fun j oj _ hl => (by rw [getD_replicate_false] at hl; cases hl), fun t _ ht => getD_in (by simpa using ht) (getD_replicate_false _ _)⟩
  have H := wpAnyL_lex (md := .any) (g := q.toArray.size - n) hsel hs hc hn (q.take n) 0 _ a (fun j hj => by
    have hj' : j < n := by rw [htl] at hj; exact hj
    simp [hj']) (by simpa using htl) inv0 (by rw [htl]; exact hlex) h
  refine wpIn_region_any hm ?_
  have := wpAnyIn_of_head (Q' := Q') (g := q.toArray.size - n) (l := l) (m := m) hdf (fun listed a' hL => by
    have := wpAnyIn_of_seq (md := .any) (Q' := Q') (l := l) (m := m) (q.drop n) n listed a' { w with drawn := w.drawn + 1 } (fun j => by simp [List.getElem?_drop]) (by rw [hdl]; exact hL.1) hL.2
    rwa [hdl] at this) _ _ _ H
  rw [htl] at this
  have hn' : n + (q.toArray.size - n) = q.toArray.size := by simp at hn ⊢; omega
  rw [hn'] at this
  exact this
end
end Go.Proofs.YtpmkegbgbldpnaaGreatDoor
