/-
  Package pages by its own text: each (an iterator over a page's sectors).
-/
import Derived.Test.YtakjbdeemifnmaaDoorNums
import Derived.RangeFuncNested
import Derived.RangeFuncBound
import Derived.RangeFuncCalls
import Derived.RangeFuncLeaves
import Derived.RangeFuncBox
import Derived.Shelf.Abstract
import Derived.Shelf.RegionOpen
import Derived.OwnWalkIn
import Derived.TacticsInMore
import Derived.LoopNIn
import Derived.LoopIn
import Derived.Maps.AppendAt
import Derived.Sort.QuietIn
namespace Go.Proofs.YtakjbdeemifnmaaDoor
open Go Go.RowKit Go.Shelf
set_option linter.unusedSimpArgs false
attribute [local go_sem] Oper.semAt_some

/-- the first places of four -/
def four4 (k : Nat) : List (Fin 4) := (List.finRange 4).take k
theorem four4_next {k : Nat} (h : k < 4) : four4 (k + 1) = four4 k ++ [⟨k, h⟩] := by
  match k, h with
  | 0, _ => rfl
  | 1, _ => rfl
  | 2, _ => rfl
  | 3, _ => rfl
theorem four4_length {k : Nat} (h : k ≤ 4) : (four4 k).length = k := by simp [four4]; omega

/-- a block that is kept -/
def KeepB (Bn : Nat) (W W' : World) : Prop := W'.heap[Bn]? = W.heap[Bn]?
theorem keepB_t {Bn : Nat} {A B C : World} (h : KeepB Bn A B) (k : KeepB Bn B C) : KeepB Bn A C := k.trans h
theorem keepB_b {Bn B : Nat} (hB : Bn < B) (W : World) (l : Nat) (o o' : Obj) (hl : B ≤ l) (_ : W.heap[l]? = some o) (_ : o.isCells = false) (_ : o.isWalk = false) : KeepB Bn W (W.putObj l o') :=
  World.putObj_heap_other (by omega)
theorem KeepB.cell {Bn : Nat} {W W' : World} (h : KeepB Bn W W') : W'.cell? ⟨Bn, 0, none⟩ = W.cell? ⟨Bn, 0, none⟩ := World.cell?_of_block (a := ⟨Bn, 0, none⟩) h

set_option maxRecDepth 100000 in
set_option maxHeartbeats 4000000 in
theorem each1_in (n : Nat) (hn : 1 ≤ n) (l Bn num : Nat) (hnum : num < 4294967296) (J Jx : List (Fin 4) → World → Prop)
    (hY : ∀ pre (x : Fin 4) W, J pre W → pre.length < 4 → YieldAt Fence.wide (n - 1) Tryd.prog l #[.int .i64 ((num : Int) * 4 + ((x.val : Nat) : Int)), .int .i64 (((x.val : Nat) : Int) * 64)] W fun e W' =>
      (e = .returned (.bool true) ∧ J (pre ++ [x]) W' ∧ KeepB Bn W W') ∨ (e = .returned (.bool false) ∧ Jx (pre ++ [x]) W'))
    (W : World) (hk : W.cell? ⟨Bn, 0, none⟩ = some (.int .u32 (num : Nat))) (h0 : J [] W) :
    CallsIn Fence.wide n Tryd.prog 33 #[.func (.yield l) #[] #[], .pointer (some ⟨Bn, 0, none⟩)] W fun e W' => (∃ v, e = .returned v) ∧
      ((∃ ys, ys = four4 4 ∧ J ys W') ∨ (∃ pre, True ∧ Jx pre W')) := by
  have HS := Lib.hid hk
  have hY' := Lib.hid hY
  have hnum9 : (num : Int) < 4294967296 := by omega
  clear hk hY
  refine callsIn_of_wp Tryd.func33 rfl trivial ?_ rfl
  simp only [Tryd.ntmps33, List.size_toArray, List.length_cons, List.length_nil, Nat.reduceAdd, Nat.reduceSub, Array.replicate_succ, Array.replicate_zero, List.push_toArray, List.append_toArray, List.nil_append, List.cons_append]
  gi_wp2
  gi_loopw [4] (fun i wr => ∃ k : Nat, k ≤ 4 ∧ i = .int .i64 ((k : Nat) : Int) ∧ J (four4 k) wr ∧ Hid (KeepB Bn W wr))
    (fun i _ => 4 - (intOf i).toNat)
  case atStart => exact ⟨0, Nat.zero_le _, rfl, h0, rfl⟩
  case round =>
    obtain ⟨k, hk4, rfl, hJ, hB⟩ := hrel
    have k2 := hB.out.cell.trans HS.out
    by_cases hlt : k < 4
    · have hlt' : (k : Int) < 4 := by omega
      have hk0 : (0 : Int) ≤ (k : Nat) := by omega
      obtain ⟨fn, tmps, assign, body, hy, hR⟩ := hY'.out (four4 k) ⟨k, hlt⟩ wr hJ (by rw [four4_length hk4]; exact hlt)
      dsimp only at hy
      clear hJ
      gi_wp2
      refine hR.mono ?_
      rintro e W3 (⟨rfl, hJ3, hk3⟩ | ⟨rfl, hJx3⟩)
      · have hB3 : Hid (KeepB Bn W W3) := keepB_t hB.out hk3
        have HJ3 := Lib.hid hJ3
        clear hk3 hJ3 k2 hy hR
        gi_wp2
        go_roundw
        case rel => exact ⟨k + 1, by omega, by go_num, by rw [four4_next hlt]; exact HJ3.out, hB3⟩
        case measure => simp [intOf]; omega
      · gi_wp2
        refine bodyPost_ret (results_none rfl _ _ _) rfl ?_
        exact ⟨⟨_, rfl⟩, .inr ⟨_, trivial, hJx3⟩⟩
    · obtain rfl : k = 4 := by omega
      gi_wp2
      go_end0
      exact ⟨⟨_, rfl⟩, .inl ⟨_, rfl, hJ⟩⟩

theorem each_stops (n : Nat) (hn : 1 ≤ n) (Bn num : Nat) (hnum : num < 4294967296) (w : World) (hBn : Bn < w.heap.size) (hk : w.cell? ⟨Bn, 0, none⟩ = some (.int .u32 (num : Nat))) :
    SeqStopsK Fence.wide n Tryd.prog 33 #[.pointer (some ⟨Bn, 0, none⟩)] (fun x : Fin 4 => #[.int .i64 ((num : Int) * 4 + ((x.val : Nat) : Int)), .int .i64 (((x.val : Nat) : Int) * 64)]) (KeepB Bn) (fun ys => ys = four4 4) (fun _ => True) 4 w := fun l J Jx W hW _ _ hY h0 =>
  each1_in n hn l Bn num hnum J Jx hY W ((hW.cell (p := ⟨Bn, 0, none⟩) hBn).trans hk) h0

theorem each_any (w : World) (num : Nat) : Calls Tryd.prog 27 #[.int .u32 (num : Nat)] w fun e w' =>
    e = .returned (.func (.func 33) #[] #[.pointer (some ⟨w.heap.size, 0, none⟩)]) ∧ w.alloc (.cells #[.int .u32 (num : Nat)] 23) = w' := by
  have hmf : ∀ (fn : Fn) (first cap : Array Value) (w : World), (Instr.makeFunc fn first cap).run Tryd.prog w = .ok (.func fn first cap) w := fun _ _ _ _ => rfl
  go_enter Tryd.func27, Tryd.ntmps27
  go_wp2
  go_ret
  exact ⟨rfl, rfl⟩
end Go.Proofs.YtakjbdeemifnmaaDoor
