/-
  Package roots by its own text: Read, Write.
-/
import Derived.Test.YtkiehoboeiengaaK44
namespace Go.Proofs.Ytkiehoboeiengaa
open Go Go.RowKit
set_option linter.unusedSimpArgs false

set_option maxRecDepth 100000 in
set_option maxHeartbeats 4000000 in
theorem rootRead_of (w : World) (p : Value) (r : Rt.Root) (nx er : Nat) (hf : ∀ wx, Touch No w wx → Calls Try.prog 41 #[p] wx (FindPost wx r nx er)) :
    Calls Try.prog 20 #[p] w (RootPost w r er) := by
  have Hf := Lib.hid hf
  clear hf
  obtain ⟨xe, xf, xb⟩ := r
  go_enter Try.func20, Try.ntmps20
  go_wp2_with fail
  refine (Hf.out _ ((Touch.refl No w).alloc _)).mono ?_
  rintro e w1 ⟨rfl, t1⟩
  have hold := (Row.new w 33 #[.int .u32 0, .int .u32 0, .int .u32 0]).touch t1 id
  have c0 : w1.cell? ⟨w.heap.size, 0, none⟩ = some (.int .u32 0) := hold.cell 0
  have c1 : w1.cell? ⟨w.heap.size, 1, none⟩ = some (.int .u32 0) := hold.cell 1
  have c2 : w1.cell? ⟨w.heap.size, 2, none⟩ = some (.int .u32 0) := hold.cell 2
  have f0 := hold.soft 0
  have f1 := hold.soft 1
  have f2 := hold.soft 2
  have hlt : w.heap.size < w1.heap.size := lt_of_cell c0
  have hne : ¬ w.heap.size = w1.heap.size := by omega
  have T1 := Lib.hid (((Touch.refl No w).alloc (.cells #[.int .u32 0, .int .u32 0, .int .u32 0] 33)).trans t1)
  clear hold t1
  go_wp2
  refine bodyPost_ret (v := .tuple #[.agg #[.int .u32 (xe : Nat), .int .u32 (xf : Nat), .int .u32 (xb : Nat)], .int .i64 (er : Nat)]) (by simp [results, Try.results20, go_sem, c0, c1, c2, hlt]) rfl ⟨rfl, ?_⟩
  have hn : ∀ o' : Nat, (⟨w.heap.size, o', none⟩ : Addr).block < w.heap.size → No (⟨w.heap.size, o', none⟩ : Addr).block := fun o' h => absurd (show w.heap.size < w.heap.size from h) (Nat.lt_irrefl _)
  exact (((T1.out.setCell (p := ⟨w.heap.size, 0, none⟩) (hn 0) _).setCell (p := ⟨w.heap.size, 1, none⟩) (hn 1) _).setCell (p := ⟨w.heap.size, 2, none⟩) (hn 2) _).alloc _
theorem rootRead_any (w : World) (d : Nat) (D : Dk.Disk) (O : Nat → Prop) (h : DiskAt w d D O) :
    Calls Try.prog 20 #[.pointer (some ⟨d, 0, none⟩)] w (RootPost w (Rt.findR D) (Rt.findE D)) :=
  rootRead_of w _ _ (Rt.findN D) _ (fun wx t => find_any wx d D O (h.no t))
theorem rootRead_nil (w : World) : Calls Try.prog 20 #[.pointer none] w (RootPost w Rt.zero 2) :=
  rootRead_of w _ _ 0 _ (fun wx _ => find_nil wx)

namespace Rt
def wE (D : Dk.Disk) (r : Root) : Nat := if findE D ≠ 0 ∧ findE D ≠ 7 then findE D else if findE D = 0 ∧ r.epoch ≤ (findR D).epoch then 1 else 0
def wD (D : Dk.Disk) (r : Root) : Dk.Disk := if wE D r = 0 then Dk.sync (Dk.write (Dk.sync D) (findN D) (put r)) else D
theorem findN_le (D : Dk.Disk) : findN D ≤ 1 := by unfold findN; split <;> omega
theorem findE_len {D : Dk.Disk} (h : findE D = 0 ∨ findE D = 7) : 8 ≤ D.seen.length := by
  rcases Nat.lt_or_ge D.seen.length 8 with h8 | h8
  · rw [findE, if_pos h8] at h; omega
  · exact h8
end Rt

set_option maxRecDepth 100000 in
set_option maxHeartbeats 4000000 in
theorem St.rootWrite {w0 wi : World} {d : Nat} {D : Dk.Disk} (h : St w0 wi d D) (r : Rt.Root) (hr : r.Ok) :
    Calls Try.prog 18 #[.pointer (some ⟨d, 0, none⟩), .agg #[.int .u32 (r.epoch : Nat), .int .u32 (r.first : Nat), .int .u32 (r.bytes : Nat)]] wi fun e w' => e = .returned (.int .i64 (Rt.wE D r : Nat)) ∧ St w0 w' d (Rt.wD D r) := by
  obtain ⟨xe, xf, xb⟩ := r
  have Hr := Lib.hid hr
  obtain ⟨er, her⟩ : ∃ er, Rt.findE D = er := ⟨_, rfl⟩
  obtain ⟨fr, hfr⟩ : ∃ fr, Rt.findR D = fr := ⟨_, rfl⟩
  obtain ⟨nx, hnx⟩ : ∃ nx, Rt.findN D = nx := ⟨_, rfl⟩
  have hfind : Hid (∀ wx, Touch No wi wx → Calls Try.prog 41 #[.pointer (some ⟨d, 0, none⟩)] wx (FindPost wx fr nx er)) := fun wx t => by
    obtain ⟨O, hO, _⟩ := h
    rw [← her, ← hfr, ← hnx]
    exact find_any wx d D O (hO.on.no t)
  have Her := Lib.hid her
  have Hfr := Lib.hid hfr
  have Hnx := Lib.hid hnx
  have hnx1 : nx ≤ 1 := by rw [← hnx]; exact Rt.findN_le D
  obtain ⟨fe, ff, fb⟩ := fr
  clear hr her hfr hnx
  by_cases c1 : er ≠ 0 ∧ er ≠ 7
  · have hw : Rt.wE D ⟨xe, xf, xb⟩ = er := by rw [Rt.wE, Her.out, if_pos c1]
    have hd : Rt.wD D ⟨xe, xf, xb⟩ = D := by rw [Rt.wD, hw, if_neg c1.1]
    rw [hw, hd]
    have h0 : ((er : Int) != 0) = true := by simp; omega
    have h7 : ((er : Int) != 7) = true := by simp; omega
    clear hw hd c1
    go_enter Try.func18, Try.ntmps18
    go_wp2_with fail
    refine (hfind.out _ ((Touch.refl No wi).alloc _)).mono ?_
    rintro e w1 ⟨rfl, t1⟩
    have T1 := Lib.hid t1
    clear t1
    go_wp2
    go_ret
    exact ⟨rfl, ((h.alloc _).no T1.out).alloc _⟩
  by_cases c2 : er = 0 ∧ xe ≤ fe
  · obtain ⟨rfl, c2⟩ := c2
    have hw : Rt.wE D ⟨xe, xf, xb⟩ = 1 := by rw [Rt.wE, Her.out, if_neg (by omega), Hfr.out, if_pos ⟨rfl, c2⟩]
    have hd : Rt.wD D ⟨xe, xf, xb⟩ = D := by rw [Rt.wD, hw, if_neg (by decide)]
    rw [hw, hd]
    have hle : (xe : Int) ≤ (fe : Nat) := by omega
    clear hw hd c1 c2
    go_enter Try.func18, Try.ntmps18
    go_wp2_with fail
    refine (hfind.out _ ((Touch.refl No wi).alloc _)).mono ?_
    rintro e w1 ⟨rfl, t1⟩
    have hold := (Row.new wi 33 #[.int .u32 (xe : Nat), .int .u32 (xf : Nat), .int .u32 (xb : Nat)]).touch t1 id
    have k0 : w1.cell? ⟨wi.heap.size, 0, none⟩ = some (.int .u32 (xe : Nat)) := hold.cell 0
    have hlt : wi.heap.size < w1.heap.size := lt_of_cell k0
    have T1 := Lib.hid t1
    clear t1 hold
    go_wp2
    go_ret
    exact ⟨rfl, ((h.alloc _).no T1.out).alloc _⟩
  · have hw : Rt.wE D ⟨xe, xf, xb⟩ = 0 := by rw [Rt.wE, Her.out, if_neg (by omega), Hfr.out, if_neg c2]
    have hd : Rt.wD D ⟨xe, xf, xb⟩ = Dk.sync (Dk.write (Dk.sync D) nx (Rt.put ⟨xe, xf, xb⟩)) := by rw [Rt.wD, hw, if_pos rfl, Hnx.out]
    have h8 : Hid (8 ≤ D.seen.length) := Rt.findE_len (by rw [Her.out]; omega)
    rw [hw, hd]
    have hE : er = 0 ∧ fe < xe ∨ er = 7 := by omega
    clear hw hd c1 c2
    have hwr : Hid (nx < (Dk.sync D).seen.length) := by show nx < D.seen.length; have := h8.out; omega
    rcases hE with ⟨rfl, hE⟩ | rfl
    all_goals
      first | (have hle : ¬ (xe : Int) ≤ (fe : Nat) := by omega) | skip
      go_enter Try.func18, Try.ntmps18
      go_wp2_with fail
      refine (hfind.out _ ((Touch.refl No wi).alloc _)).mono ?_
      rintro e w1 ⟨rfl, t1⟩
      have hold := (Row.new wi 33 #[.int .u32 (xe : Nat), .int .u32 (xf : Nat), .int .u32 (xb : Nat)]).touch t1 id
      have k0 : w1.cell? ⟨wi.heap.size, 0, none⟩ = some (.int .u32 (xe : Nat)) := hold.cell 0
      have hlt : wi.heap.size < w1.heap.size := lt_of_cell k0
      obtain ⟨O, hO, tO⟩ := h
      have hBO : ¬ O wi.heap.size := fun hh => absurd (hO.lt _ hh) (Nat.lt_irrefl _)
      obtain ⟨W, hW⟩ : ∃ W, W = w1.alloc (.cells #[.int .u32 (fe : Nat), .int .u32 (ff : Nat), .int .u32 (fb : Nat)] 33) := ⟨_, rfl⟩
      have tW : Touch No wi W := by rw [hW]; exact (((Touch.refl No wi).alloc _).trans t1).alloc _
      have holdW : Row W wi.heap.size 33 [.int .u32 (xe : Nat), .int .u32 (xf : Nat), .int .u32 (xb : Nat)] := by
        rw [hW]; exact hold.touch (F := No) ((Touch.refl No w1).alloc _) id
      have D1 := hO.no tW
      have t01 := tO.then tW (fun _ _ f => f.elim)
      have HoldW := Lib.hid holdW
      have HW := Lib.hid hW
      have HD1 := Lib.hid D1
      have HT01 := Lib.hid t01
      have HBO := Lib.hid hBO
      clear hW tW holdW D1 t01 t1 hold hO tO hBO
      go_wp2_with fail
      rw [← HW.out]
      refine (sync_k W d D w0.heap.size O HT01.out.size HD1.out).mono ?_
      rintro e w2 ⟨rfl, h2⟩
      have q0 : w2.cell? ⟨wi.heap.size, 0, none⟩ = some (.int .u32 (xe : Nat)) := h2.1.cell HBO.out (HoldW.out.cell 0)
      have q1 : w2.cell? ⟨wi.heap.size, 1, none⟩ = some (.int .u32 (xf : Nat)) := h2.1.cell HBO.out (HoldW.out.cell 1)
      have q2 : w2.cell? ⟨wi.heap.size, 2, none⟩ = some (.int .u32 (xb : Nat)) := h2.1.cell HBO.out (HoldW.out.cell 2)
      have S2 : St w0 w2 d (Dk.sync D) := St.after HD1.out HT01.out h2
      clear h2 k0 hlt
      go_wp2_with fail
      refine (rootPut_any w2 ⟨xe, xf, xb⟩ Hr.out).mono ?_
      rintro e w3 ⟨a3, c3, rfl, o3, t3⟩
      have O3 := Lib.hid o3
      have S3 := S2.no t3
      clear o3 t3 S2 q0 q1 q2
      go_wp2_with fail
      refine (S3.write nx a3 64 c3 (Rt.put ⟨xe, xf, xb⟩) hwr.out (Rt.put_length _) (Nat.le_refl _) (Rt.put_lt _) O3.out.rd (Nat.zero_le _)).mono ?_
      rintro e w4 ⟨rfl, S4⟩
      clear S3 O3
      go_wp2_with fail
      refine (S4.sync).mono ?_
      rintro e w5 ⟨rfl, S5⟩
      clear S4
      go_wp2
      go_ret
      exact ⟨rfl, S5⟩
end Go.Proofs.Ytkiehoboeiengaa
