/-
  Package pages by its own text: ask, each.
-/
import Derived.Test.YtakjbdeemifnmaaDoorPgGet
import Derived.Test.YtakjbdeemifnmaaDoorDRead
import Derived.Test.YtakjbdeemifnmaaDoorPgD
import Derived.Test.YtakjbdeemifnmaaDoorDiskNo
namespace Go.Proofs.YtakjbdeemifnmaaDoor
open Go Go.RowKit
set_option linter.unusedSimpArgs false

abbrev dskV (d : Option Addr) : Value := .iface 28 (.pointer d)
theorem methRead (n : Nat) (p : Option Addr) (w : World) (hn : 0 < n) : (method n 28 (.pointer p) "Read").run Tryd.prog w = .ok (70, .pointer p) w := by
  obtain ⟨m, rfl⟩ : ∃ m, n = m + 1 := ⟨n - 1, by omega⟩
  kernel_rfl
theorem methWrite (n : Nat) (p : Option Addr) (w : World) (hn : 0 < n) : (method n 28 (.pointer p) "Write").run Tryd.prog w = .ok (71, .pointer p) w := by
  obtain ⟨m, rfl⟩ : ∃ m, n = m + 1 := ⟨n - 1, by omega⟩
  kernel_rfl
theorem methLen (n : Nat) (p : Option Addr) (w : World) (hn : 0 < n) : (method n 28 (.pointer p) "Len").run Tryd.prog w = .ok (15, .pointer p) w := by
  obtain ⟨m, rfl⟩ : ∃ m, n = m + 1 := ⟨n - 1, by omega⟩
  kernel_rfl
theorem nilWrite (n : Nat) (p : Option Addr) (w : World) (hn : 0 < n) : (nilAhead n 28 (.pointer p) "Write").run Tryd.prog w = .ok (some false) w := by
  obtain ⟨m, rfl⟩ : ∃ m, n = m + 1 := ⟨n - 1, by omega⟩
  kernel_rfl

set_option maxRecDepth 100000 in
theorem pgAsk_nil (w : World) (num : Nat) : Calls Tryd.prog 25 #[.nilIface, .int .u32 (num : Nat)] w fun e w' => e = .returned (.int .i64 2) ∧ w = w' := by
  have hq : ∀ wx : World, (binOp .eql 78 .nilIface .nilIface).run Tryd.prog wx = .ok (.bool true) wx := fun wx => by rfl
  go_enter Tryd.func25, Tryd.ntmps25
  go_wp2
  go_ret
  exact ⟨rfl, rfl⟩
set_option maxRecDepth 100000 in
theorem pgAsk_none (w : World) (num : Nat) : Calls Tryd.prog 25 #[dskV none, .int .u32 (num : Nat)] w fun e w' => e = .returned (.int .i64 2) ∧ w = w' := by
  have hm := methRead
  go_enter Tryd.func25, Tryd.ntmps25
  go_wp2_with fail
  refine (read_not _ _ _ (.inl rfl)).mono ?_
  rintro e w' ⟨rfl, rfl⟩
  go_wp2
  go_ret
  exact ⟨rfl, rfl⟩
set_option maxRecDepth 100000 in
theorem pgAsk_any {wi : World} {d : Nat} {D : Dk.Disk} {O : Nat → Prop} (h : DiskAt wi d D O) (num : Nat) (hn : num < 4294967296) : Calls Tryd.prog 25 #[dskV (some ⟨d, 0, none⟩), .int .u32 (num : Nat)] wi fun e w' => e = .returned (.int .i64 (onD D num : Nat)) ∧ Touch No wi w' := by
  have hm := methRead
  have hl := methLen
  have hpos := Lib.hid h.ok.pos
  have htop := h.ok.top
  have HH := Lib.hid h
  have hn' : (num : Int) < 4294967296 := by omega
  obtain ⟨N, hN⟩ : ∃ N, D.seen.length = N := ⟨_, rfl⟩
  have HN := Lib.hid hN
  have hN9 : (N : Int) ≤ 16384 := by omega
  obtain ⟨q, hq⟩ : ∃ q, onD D num = q := ⟨_, rfl⟩
  have Hq := Lib.hid hq
  rw [hq]
  clear h hN htop hq hn
  by_cases hc : 4 * num + 4 ≤ N
  all_goals
    first
      | (have hlt : ¬ (N : Int) < (num : Int) * 4 + 4 := by omega)
      | (have hlt : (N : Int) < (num : Int) * 4 + 4 := by omega)
    have HC : Hid (q = onD D num) := Hq.out.symm
    rw [onD, HN.out] at HC
    first
      | (have HC1 : Hid (q = 0) := by show _ = _; rw [HC.out, if_pos hc])
      | (have HC1 : Hid (q = 1) := by show _ = _; rw [HC.out, if_neg hc])
    clear hc HC Hq
    go_enter Tryd.func25, Tryd.ntmps25
    go_wp2_with fail
    refine (HH.out.read_any 0 hpos.out).mono ?_
    rintro e w1 ⟨a, l, r, rfl, hr, hl1, hre, t1⟩
    have hr2 : ((r : Int) == 2) = false := by
      have : r = 0 ∨ r = 12 := by rw [hre, Dk.errOf]; split <;> simp
      rcases this with rfl | rfl <;> rfl
    have T1 := Lib.hid t1
    clear t1 hr hl1 hre
    go_wp2_with fail
    refine (len_in _ d D O (HH.out.no T1.out)).mono ?_
    rw [HN.out]
    rintro e w2 ⟨rfl, rfl⟩
    clear hm hl hn' hN9 hr2
    go_wp2
    go_ret
    exact ⟨by rw [HC1.out]; rfl, T1.out⟩
end Go.Proofs.YtakjbdeemifnmaaDoor
