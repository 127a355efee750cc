/-
  Package drydocklaw03 by its own text: the walk of DisksSure.
-/
import Derived.Test.YtechmboimpbjpaaDAlike
namespace Go.Proofs.Ytechmboimpbjpaa
open Go Go.RowKit

set_option maxRecDepth 100000 in
set_option maxHeartbeats 4000000 in
theorem disksSure_walk (w : World) (ad : Option Addr) (n cap : Nat) (k0 k1 k2 : Nat) (torn : Int) (acts : List Deed) (hn : acts.length = n) (hmax : (n : Int) ≤ 9223372036854775807) (h : IsDeeds w ad acts)
    (h0 : k0 < 18446744073709551616) (h1 : k1 < 18446744073709551616) (h2 : k2 < 18446744073709551616) :
    Calls Try.prog 8 #[.slice ad n cap, .agg #[.int .u64 (k0 : Nat), .int .u64 (k1 : Nat), .int .u64 (k2 : Nat)], .int .i64 torn] w (LawPost w) := by
  have H := Lib.hid h; clear h
  have HN := Lib.hid hn; clear hn
  have Hks : Hid (∀ k, k < 3 → ([k0, k1, k2].getD k 0) < 18446744073709551616) := fun k hk => by
    match k, hk with
    | 0, _ => exact h0
    | 1, _ => exact h1
    | 2, _ => exact h2
  clear h0 h1 h2
  go_enter Try.func8, Try.ntmps8
  go_wp2_with fail
  obtain ⟨W, hW⟩ : ∃ W, W = w.alloc (.cells #[.int .u64 (k0 : Nat), .int .u64 (k1 : Nat), .int .u64 (k2 : Nat)] 51) := ⟨_, rfl⟩
  have tW : Touch No w W := by rw [hW]; exact (Touch.refl No w).alloc _
  have hcell : ∀ k, k < 3 → W.cell? ⟨w.heap.size, k, none⟩ = some (.int .u64 (([k0, k1, k2].getD k 0 : Nat) : Int)) := fun k hk => by
    rw [hW, cell_new]
    match k, hk with
    | 0, _ => rfl
    | 1, _ => rfl
    | 2, _ => rfl
  rw [← hW]
  obtain ⟨B, hB⟩ : ∃ B, B = w.heap.size := ⟨_, rfl⟩
  rw [← hB] at hcell ⊢
  have HB := Lib.hid hB
  have Hcell := Lib.hid hcell
  clear hW hcell hB
  refine (alive_is W).mono ?_
  rintro e w1 ⟨rfl, t1⟩
  have T1 := tW.trans t1
  clear tW
  go_wp2_with fail
  refine (great_any w1 ad n cap acts HN.out hmax (H.out.touch T1)).mono ?_
  rintro e w' ⟨rfl, rfl⟩
  cases hg : great acts with
  | true =>
    clear hg
    go_wp2_with fail
    refine (alive_is w1).mono ?_
    rintro e w2 ⟨rfl, t2⟩
    go_wp2
    go_ret
    exact ⟨rfl, T1.trans t2⟩
  | false =>
    have h150 : n ≤ 150 := by rw [← HN.out]; exact great_not hg
    clear hg
    go_wp2_with fail
    refine (does_any w1 ad n cap acts HN.out h150 (H.out.touch T1)).mono ?_
    rintro e w2 ⟨d, rfl, s2⟩
    obtain ⟨D, hD⟩ : ∃ D, D = Dk.does acts := ⟨_, rfl⟩
    rw [← hD] at s2
    clear hD
    go_wp2_with fail
    refine (s2.sync).mono ?_
    rintro e w3 ⟨rfl, s3⟩
    clear s2
    go_wp2_with fail
    refine (s3.waits 0 rfl).mono ?_
    rintro e w' ⟨rfl, rfl⟩
    go_wp2
    go_loopg [8, 9] 3 (fun g s8 s9 wr => ∃ (k x : Nat), k + g = 3 ∧ s9 = .int .i64 ((k : Nat) : Int) ∧ s8 = .pointer (some ⟨x, 0, none⟩) ∧ St w1 wr d (Dk.sync D) ∧ St w1 wr x (Dk.sync D))
    case atStart => exact ⟨0, d, by omega, rfl, rfl, s3, s3⟩
    case round =>
      clear s3
      obtain ⟨k, x, hkg, rfl, rfl, S, X⟩ := hrel
      cases gk with
      | zero =>
        obtain rfl : k = 3 := by omega
        go_wp2
        go_ret
        exact ⟨rfl, T1.trans S.end⟩
      | succ g =>
        have hlt : (k : Int) < 3 := by omega
        have hc := (t1.trans S.end).cell (id : No B → False) (Hcell.out k (by omega))
        have hk64 := Hks.out k (by omega)
        generalize [k0, k1, k2].getD k 0 = kp at *
        have Hk64 := Lib.hid hk64
        clear hk64
        go_wp2_with fail
        refine (X.left2 kp torn Hk64.out (Nat.zero_le _)).mono ?_
        rintro e w4 ⟨y, rfl, Y4, t4⟩
        have S4 := S.no t4
        have Y4 : St w1 w4 y (Dk.sync D) := Y4
        clear t4 S X
        go_wp2_with fail
        refine (Y4.alike S4 rfl (fun _ _ => rfl)).mono ?_
        rintro e w5 ⟨rfl, t5⟩
        have S5 := S4.no t5
        have Y5 := Y4.no t5
        clear t5 S4 Y4
        go_wp2_with fail
        refine (Y5.waits 0 rfl).mono ?_
        rintro e w' ⟨rfl, rfl⟩
        go_wp2
        go_roundg g
        case measure => omega
        case rel => exact ⟨k + 1, y, by omega, by go_num, rfl, S5, Y5⟩
end Go.Proofs.Ytechmboimpbjpaa
