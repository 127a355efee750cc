/-
  Package roots by its own text: Write, a disk among others.
-/
import Derived.Test.YtponmdacphapnaaRootW
import Derived.Test.YtponmdacphapnaaFam
namespace Go.Proofs.Ytponmdacphapnaa
open Go Go.RowKit
set_option linter.unusedSimpArgs false

theorem set_get {α : Type} {l : List α} {j : Nat} {x y : α} (h : l[j]? = some x) : (l.set j y)[j]? = some y := by
  have hlt : j < l.length := by
    rcases Nat.lt_or_ge j l.length with h' | h'
    · exact h'
    · rw [List.getElem?_eq_none h'] at h; cases h
  exact List.getElem?_set_self hlt
set_option maxRecDepth 100000 in
set_option maxHeartbeats 4000000 in
theorem Fm.rootWrite {w0 wi : World} {l : List (Nat × Dk.Disk)} {rs : List (Nat × TypeId × List Value)} (h : Fm w0 wi l rs) (j : Nat) {d : Nat} {D : Dk.Disk} (hj : l[j]? = some (d, D)) (r : Rt.Root) (hr : r.Ok) :
    Calls Try.prog 14 #[.pointer (some ⟨d, 0, none⟩), .agg #[.int .u32 (r.epoch : Nat), .int .u32 (r.first : Nat), .int .u32 (r.bytes : Nat)]] wi fun e w' => e = .returned (.int .i64 (Rt.wE D r : Nat)) ∧ Fm w0 w' (l.set j (d, Rt.wD D r)) rs := by
  obtain ⟨xe, xf, xb⟩ := r
  have Hr := Lib.hid hr
  obtain ⟨er, her⟩ : ∃ er, Rt.findE D = er := ⟨_, rfl⟩
  obtain ⟨fr, hfr⟩ : ∃ fr, Rt.findR D = fr := ⟨_, rfl⟩
  obtain ⟨nx, hnx⟩ : ∃ nx, Rt.findN D = nx := ⟨_, rfl⟩
  have hfind : Hid (∀ wx, Touch No wi wx → Calls Try.prog 33 #[.pointer (some ⟨d, 0, none⟩)] wx (FindPost wx fr nx er)) := fun wx t => by
    obtain ⟨O, hO, _⟩ := h.st j hj
    rw [← her, ← hfr, ← hnx]
    exact find_any wx d D O (hO.on.no t)
  have Her := Lib.hid her
  have Hfr := Lib.hid hfr
  have Hnx := Lib.hid hnx
  have hnx1 : nx ≤ 1 := by rw [← hnx]; exact Rt.findN_le D
  obtain ⟨fe, ff, fb⟩ := fr
  clear hr her hfr hnx
  by_cases c1 : er ≠ 0 ∧ er ≠ 7
  · have hw : Rt.wE D ⟨xe, xf, xb⟩ = er := by rw [Rt.wE, Her.out, if_pos c1]
    have hd : Rt.wD D ⟨xe, xf, xb⟩ = D := by rw [Rt.wD, hw, if_neg c1.1]
    rw [hw, hd]
    have h0 : ((er : Int) != 0) = true := by simp; omega
    have h7 : ((er : Int) != 7) = true := by simp; omega
    clear hw hd c1
    go_enter Try.func14, Try.ntmps14
    go_wp2_with fail
    refine (hfind.out _ ((Touch.refl No wi).alloc _)).mono ?_
    rintro e w1 ⟨rfl, t1⟩
    have T1 := Lib.hid t1
    clear t1
    go_wp2
    go_ret
    exact ⟨rfl, (h.same j hj).no ((((Touch.refl No wi).alloc _).trans T1.out).alloc _)⟩
  by_cases c2 : er = 0 ∧ xe ≤ fe
  · obtain ⟨rfl, c2⟩ := c2
    have hw : Rt.wE D ⟨xe, xf, xb⟩ = 1 := by rw [Rt.wE, Her.out, if_neg (by omega), Hfr.out, if_pos ⟨rfl, c2⟩]
    have hd : Rt.wD D ⟨xe, xf, xb⟩ = D := by rw [Rt.wD, hw, if_neg (by decide)]
    rw [hw, hd]
    have hle : (xe : Int) ≤ (fe : Nat) := by omega
    clear hw hd c1 c2
    go_enter Try.func14, Try.ntmps14
    go_wp2_with fail
    refine (hfind.out _ ((Touch.refl No wi).alloc _)).mono ?_
    rintro e w1 ⟨rfl, t1⟩
    have hold := (Row.new wi 24 #[.int .u32 (xe : Nat), .int .u32 (xf : Nat), .int .u32 (xb : Nat)]).touch t1 id
    have k0 : w1.cell? ⟨wi.heap.size, 0, none⟩ = some (.int .u32 (xe : Nat)) := hold.cell 0
    have hlt : wi.heap.size < w1.heap.size := lt_of_cell k0
    have T1 := Lib.hid t1
    clear t1 hold
    go_wp2
    go_ret
    exact ⟨rfl, (h.same j hj).no ((((Touch.refl No wi).alloc _).trans T1.out).alloc _)⟩
  · have hw : Rt.wE D ⟨xe, xf, xb⟩ = 0 := by rw [Rt.wE, Her.out, if_neg (by omega), Hfr.out, if_neg c2]
    have hd : Rt.wD D ⟨xe, xf, xb⟩ = Dk.sync (Dk.write (Dk.sync D) nx (Rt.put ⟨xe, xf, xb⟩)) := by rw [Rt.wD, hw, if_pos rfl, Hnx.out]
    have h8 : Hid (8 ≤ D.seen.length) := Rt.findE_len (by rw [Her.out]; omega)
    rw [hw, hd]
    have hE : er = 0 ∧ fe < xe ∨ er = 7 := by omega
    clear hw hd c1 c2
    have hwr : Hid (nx < (Dk.sync D).seen.length) := by show nx < D.seen.length; have := h8.out; omega
    rcases hE with ⟨rfl, hE⟩ | rfl
    all_goals
      first | (have hle : ¬ (xe : Int) ≤ (fe : Nat) := by omega) | skip
      go_enter Try.func14, Try.ntmps14
      have HF1 := Lib.hid (h.lay 24 #[.int .u32 (xe : Nat), .int .u32 (xf : Nat), .int .u32 (xb : Nat)])
      go_wp2_with fail
      refine (hfind.out _ ((Touch.refl No wi).alloc _)).mono ?_
      rintro e w1 ⟨rfl, t1⟩
      have F1 := HF1.out.no t1
      obtain ⟨k0, _, _, hlt, _⟩ := F1.three 0 rfl
      have HF2 := Lib.hid (F1.lay 24 #[.int .u32 (fe : Nat), .int .u32 (ff : Nat), .int .u32 (fb : Nat)])
      clear F1 HF1 t1
      go_wp2_with fail
      refine (HF2.out.sync j hj).mono ?_
      clear HF2 k0 hlt
      rintro e w2 ⟨rfl, F3⟩
      obtain ⟨q0, q1, q2, _, _⟩ := F3.three 1 rfl
      go_wp2_with fail
      refine (rootPut_any w2 ⟨xe, xf, xb⟩ Hr.out).mono ?_
      rintro e w3 ⟨a3, c3, rfl, o3, t3⟩
      have O3 := Lib.hid o3.rd
      have F4 := F3.no t3
      clear o3 t3 F3 q0 q1 q2
      go_wp2_with fail
      refine (F4.put j (set_get hj) nx a3 64 c3 (Rt.put ⟨xe, xf, xb⟩) hwr.out (Rt.put_length _) (Nat.le_refl _) (Rt.put_lt _) O3.out (Nat.zero_le _)).mono ?_
      clear F4 O3
      rintro e w4 ⟨rfl, F5⟩
      go_wp2_with fail
      refine (F5.sync j (set_get (set_get hj))).mono ?_
      clear F5
      rintro e w5 ⟨rfl, F6⟩
      have F7 := Lib.hid F6.drop.drop
      clear F6
      go_wp2
      go_ret
      exact ⟨rfl, by have := F7.out; rw [List.set_set, List.set_set] at this; exact this⟩
end Go.Proofs.Ytponmdacphapnaa
