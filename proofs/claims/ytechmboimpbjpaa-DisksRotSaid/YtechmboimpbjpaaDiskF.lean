/-
  Package drydocklaw03 by its own text: first.
-/
import Derived.Test.YtechmboimpbjpaaDiskR
namespace Go.Proofs.Ytechmboimpbjpaa
open Go Go.RowKit

set_option maxHeartbeats 2000000 in
theorem first_in (w : World) (d : Nat) (D : Dk.Disk) (O : Nat → Prop) (n : Nat) (h : DiskAt w d D O) (hn : n < D.seen.length) (hb : (Dk.at_ D.seen n).bad = 0) :
    Calls Try.prog 16 #[.pointer (some ⟨d, 0, none⟩), .int .i64 (n : Nat)] w fun e w' => e = .returned (.int .i64 ((Dk.at_ D.seen n).b.getD 0 0 : Nat)) ∧ Touch No w w' := by
  have H := Lib.hid h
  have hbs := (h.ok.seen _ (Dk.at_mem hn)).b
  have Hbs := Lib.hid hbs
  have hlt : (Dk.at_ D.seen n).b.getD 0 0 < 256 := by
    rw [List.getD_eq_getElem?_getD, List.getElem?_eq_getElem (show 0 < _ by rw [hbs.len]; decide)]
    exact hbs.lt _ (List.getElem_mem _)
  obtain ⟨v0, hv0⟩ : ∃ v0, v0 = (Dk.at_ D.seen n).b.getD 0 0 := ⟨_, rfl⟩
  rw [← hv0] at hlt ⊢
  have hw0 : IntKind.i64.wrap (v0 : Int) = (v0 : Int) := IntWalk.i64_in _ (by omega)
  have HV := Lib.hid hv0
  clear h hbs hv0
  go_enter Try.func16, Try.ntmps16
  go_wp2_with fail
  refine (read_in w d D O n H.out hn hb).mono ?_
  rintro e w1 ⟨g, rfl, k1, k2, k3⟩
  have c0 : w1.cell? ⟨g, 0, none⟩ = some (.int .u8 (v0 : Int)) := by
    obtain ⟨g', o', e', hc⟩ := k2.num (i := 0) (by rw [Hbs.out.len]; decide)
    cases e'
    rw [HV.out]; exact hc
  have K3 := Lib.hid k3
  clear k1 k2 k3
  go_wp2
  go_ret
  exact ⟨rfl, K3.out⟩
set_option maxHeartbeats 2000000 in
theorem first_lost (w : World) (d : Nat) (D : Dk.Disk) (O : Nat → Prop) (n : Nat) (h : DiskAt w d D O) (hn : n < D.seen.length) (hb : (Dk.at_ D.seen n).bad = 1) :
    Calls Try.prog 16 #[.pointer (some ⟨d, 0, none⟩), .int .i64 (n : Nat)] w fun e w' => e = .returned (.int .i64 256) ∧ w = w' := by
  have H := Lib.hid h
  clear h
  go_enter Try.func16, Try.ntmps16
  go_wp2_with fail
  refine (read_lost w d D O n H.out hn hb).mono ?_
  rintro e w1 ⟨rfl, rfl⟩
  go_wp2
  go_ret
  exact ⟨rfl, rfl⟩
end Go.Proofs.Ytechmboimpbjpaa
