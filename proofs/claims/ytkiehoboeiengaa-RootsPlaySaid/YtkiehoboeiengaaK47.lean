/-
  Both packages of roots, the program's and the reference's, on both disks beside each other: Read, Write.
-/
import Derived.Test.YtkiehoboeiengaaK46
import Derived.Test.YtkiehoboeiengaaK45
namespace Go.Proofs.Ytkiehoboeiengaa
open Go Go.RowKit
set_option linter.unusedSimpArgs false
set_option linter.unusedVariables false

set_option maxRecDepth 100000 in
set_option maxHeartbeats 4000000 in
theorem refRootRead_of (w : World) (p : Value) (r : Rt.Root) (nx er : Nat) (hf : ∀ wx, Touch No w wx → Calls Try.prog 44 #[p] wx (FindPost wx r nx er)) :
    Calls Try.prog 21 #[p] w (RootPost w r er) := by
  have Hf := Lib.hid hf
  clear hf
  obtain ⟨xe, xf, xb⟩ := r
  go_enter Try.func21, Try.ntmps21
  go_wp2_with fail
  refine (Hf.out _ ((Touch.refl No w).alloc _)).mono ?_
  rintro e w1 ⟨rfl, t1⟩
  have hold := (Row.new w 33 #[.int .u32 0, .int .u32 0, .int .u32 0]).touch t1 id
  have c0 : w1.cell? ⟨w.heap.size, 0, none⟩ = some (.int .u32 0) := hold.cell 0
  have c1 : w1.cell? ⟨w.heap.size, 1, none⟩ = some (.int .u32 0) := hold.cell 1
  have c2 : w1.cell? ⟨w.heap.size, 2, none⟩ = some (.int .u32 0) := hold.cell 2
  have f0 := hold.soft 0
  have f1 := hold.soft 1
  have f2 := hold.soft 2
  have hlt : w.heap.size < w1.heap.size := lt_of_cell c0
  have hne : ¬ w.heap.size = w1.heap.size := by omega
  have T1 := Lib.hid (((Touch.refl No w).alloc (.cells #[.int .u32 0, .int .u32 0, .int .u32 0] 33)).trans t1)
  clear hold t1
  go_wp2
  refine bodyPost_ret (v := .tuple #[.agg #[.int .u32 (xe : Nat), .int .u32 (xf : Nat), .int .u32 (xb : Nat)], .int .i64 (er : Nat)]) (by simp [results, Try.results21, go_sem, c0, c1, c2, hlt]) rfl ⟨rfl, ?_⟩
  have hn : ∀ o' : Nat, (⟨w.heap.size, o', none⟩ : Addr).block < w.heap.size → No (⟨w.heap.size, o', none⟩ : Addr).block := fun o' h => absurd (show w.heap.size < w.heap.size from h) (Nat.lt_irrefl _)
  exact (((T1.out.setCell (p := ⟨w.heap.size, 0, none⟩) (hn 0) _).setCell (p := ⟨w.heap.size, 1, none⟩) (hn 1) _).setCell (p := ⟨w.heap.size, 2, none⟩) (hn 2) _).alloc _

section
variable {w0 wi : World} {d g : Nat} {D R : Dk.Disk} {E : List Part}
theorem Two.rootReadD (h : Two w0 wi d g D R E) : Calls Try.prog 20 #[.pointer (some ⟨d, 0, none⟩)] wi (RootPost wi (Rt.findR D) (Rt.findE D)) := by
  obtain ⟨O, h⟩ := h.disk
  exact rootRead_any wi d D O h
theorem Two.rootReadR (h : Two w0 wi d g D R E) : Calls Try.prog 21 #[.pointer (some ⟨g, 0, none⟩)] wi (RootPost wi (Rt.findR R) (Rt.findE R)) := by
  obtain ⟨vs, vn, vw, h⟩ := h.rdisk
  exact refRootRead_of wi _ _ (Rt.findN R) _ (fun wx t => refFind_any (h.no t))
theorem Rt.write_is (D : Dk.Disk) (n : Nat) (r : Rt.Root) (hn : n < D.seen.length) : Dk.writeA D (n : Nat) (Rt.put r) = Dk.write D n (Rt.put r) ∧ Dk.writeR D (n : Nat) (Rt.put r) = 0 := by
  have hc : (0 ≤ (n : Int) ∧ (n : Int) < D.seen.length) ∧ (Rt.put r).length ≤ 64 := ⟨by omega, by rw [Rt.put_length]; exact Nat.le_refl _⟩
  rw [Dk.writeA, Dk.writeR, if_pos hc, if_pos hc, Int.toNat_natCast]
  exact ⟨rfl, rfl⟩
set_option maxRecDepth 100000 in
set_option maxHeartbeats 4000000 in
theorem Two.rootWriteD (h : Two w0 wi d g D R E) (r : Rt.Root) (hr : r.Ok) :
    Calls Try.prog 18 #[.pointer (some ⟨d, 0, none⟩), .agg #[.int .u32 (r.epoch : Nat), .int .u32 (r.first : Nat), .int .u32 (r.bytes : Nat)]] wi fun e w' => e = .returned (.int .i64 (Rt.wE D r : Nat)) ∧ Two w0 w' d g (Rt.wD D r) R E := by
  obtain ⟨xe, xf, xb⟩ := r
  have Hr := Lib.hid hr
  have H := Lib.hid h
  obtain ⟨er, her⟩ : ∃ er, Rt.findE D = er := ⟨_, rfl⟩
  obtain ⟨fr, hfr⟩ : ∃ fr, Rt.findR D = fr := ⟨_, rfl⟩
  obtain ⟨nx, hnx⟩ : ∃ nx, Rt.findN D = nx := ⟨_, rfl⟩
  have hfind : Hid (∀ wx, Touch No wi wx → Calls Try.prog 41 #[.pointer (some ⟨d, 0, none⟩)] wx (FindPost wx fr nx er)) := fun wx t => by
    rw [← her, ← hfr, ← hnx]
    obtain ⟨O, hO⟩ := (h.no t).disk
    exact find_any wx d D O hO
  have Her := Lib.hid her
  have Hfr := Lib.hid hfr
  have Hnx := Lib.hid hnx
  have hnx1 : nx ≤ 1 := by rw [← hnx]; exact Rt.findN_le D
  obtain ⟨fe, ff, fb⟩ := fr
  clear hr her hfr hnx h
  by_cases c1 : er ≠ 0 ∧ er ≠ 7
  · have hw : Rt.wE D ⟨xe, xf, xb⟩ = er := by rw [Rt.wE, Her.out, if_pos c1]
    have hd : Rt.wD D ⟨xe, xf, xb⟩ = D := by rw [Rt.wD, hw, if_neg c1.1]
    rw [hw, hd]
    have h0 : ((er : Int) != 0) = true := by simp; omega
    have h7 : ((er : Int) != 7) = true := by simp; omega
    clear hw hd c1
    go_enter Try.func18, Try.ntmps18
    go_wp2_with fail
    refine (hfind.out _ ((Touch.refl No wi).alloc _)).mono ?_
    rintro e w1 ⟨rfl, t1⟩
    have T1 := Lib.hid t1
    clear t1
    go_wp2
    go_ret
    exact ⟨rfl, H.out.no ((((Touch.refl No wi).alloc _).trans T1.out).alloc _)⟩
  by_cases c2 : er = 0 ∧ xe ≤ fe
  · obtain ⟨rfl, c2⟩ := c2
    have hw : Rt.wE D ⟨xe, xf, xb⟩ = 1 := by rw [Rt.wE, Her.out, if_neg (by omega), Hfr.out, if_pos ⟨rfl, c2⟩]
    have hd : Rt.wD D ⟨xe, xf, xb⟩ = D := by rw [Rt.wD, hw, if_neg (by decide)]
    rw [hw, hd]
    have hle : (xe : Int) ≤ (fe : Nat) := by omega
    clear hw hd c1 c2
    go_enter Try.func18, Try.ntmps18
    go_wp2_with fail
    refine (hfind.out _ ((Touch.refl No wi).alloc _)).mono ?_
    rintro e w1 ⟨rfl, t1⟩
    have hold := (Row.new wi 33 #[.int .u32 (xe : Nat), .int .u32 (xf : Nat), .int .u32 (xb : Nat)]).touch t1 id
    have k0 : w1.cell? ⟨wi.heap.size, 0, none⟩ = some (.int .u32 (xe : Nat)) := hold.cell 0
    have hlt : wi.heap.size < w1.heap.size := lt_of_cell k0
    have T1 := Lib.hid t1
    clear t1 hold
    go_wp2
    go_ret
    exact ⟨rfl, H.out.no ((((Touch.refl No wi).alloc _).trans T1.out).alloc _)⟩
  · have hw : Rt.wE D ⟨xe, xf, xb⟩ = 0 := by rw [Rt.wE, Her.out, if_neg (by omega), Hfr.out, if_neg c2]
    have hd : Rt.wD D ⟨xe, xf, xb⟩ = Dk.sync (Dk.write (Dk.sync D) nx (Rt.put ⟨xe, xf, xb⟩)) := by rw [Rt.wD, hw, if_pos rfl, Hnx.out]
    have h8 : Hid (8 ≤ D.seen.length) := Rt.findE_len (by rw [Her.out]; omega)
    rw [hw, hd]
    have hE : er = 0 ∧ fe < xe ∨ er = 7 := by omega
    clear hw hd c1 c2
    have hwr : Hid (nx < (Dk.sync D).seen.length) := by show nx < D.seen.length; have := h8.out; omega
    rcases hE with ⟨rfl, hE⟩ | rfl
    all_goals
      first | (have hle : ¬ (xe : Int) ≤ (fe : Nat) := by omega) | skip
      go_enter Try.func18, Try.ntmps18
      go_wp2_with fail
      have S0 := Lib.hid (H.out.push (Born.row wi 33 #[.int .u32 (xe : Nat), .int .u32 (xf : Nat), .int .u32 (xb : Nat)]))
      obtain ⟨X, hX⟩ : ∃ X, X = wi.heap.size := ⟨_, rfl⟩
      rw [← hX] at S0 ⊢
      refine (hfind.out _ ((Touch.refl No wi).alloc _)).mono ?_
      rintro e w1 ⟨rfl, t1⟩
      have k0 : w1.cell? ⟨X, 0, none⟩ = some (.int .u32 (xe : Nat)) := ((S0.out.no t1).row List.mem_cons_self).cell 0
      have hlt : X < w1.heap.size := lt_of_cell k0
      have S1 := Lib.hid ((S0.out.no t1).no ((Touch.refl No w1).alloc (.cells #[.int .u32 (fe : Nat), .int .u32 (ff : Nat), .int .u32 (fb : Nat)] 33)))
      clear t1 S0 hX
      go_wp2_with fail
      refine (S1.out.syncD).mono ?_
      rintro e w2 ⟨rfl, s2⟩
      have S2 := Lib.hid s2
      have q0 : w2.cell? ⟨X, 0, none⟩ = some (.int .u32 (xe : Nat)) := (s2.row List.mem_cons_self).cell 0
      have q1 : w2.cell? ⟨X, 1, none⟩ = some (.int .u32 (xf : Nat)) := (s2.row List.mem_cons_self).cell 1
      have q2 : w2.cell? ⟨X, 2, none⟩ = some (.int .u32 (xb : Nat)) := (s2.row List.mem_cons_self).cell 2
      clear s2 k0 hlt S1
      go_wp2_with fail
      refine (rootPut_any w2 ⟨xe, xf, xb⟩ Hr.out).mono ?_
      rintro e w3 ⟨a3, c3, rfl, o3, t3⟩
      have O3 := Lib.hid (o3.rd : Rd w3 a3 (nums .u8 (Rt.put ⟨xe, xf, xb⟩)))
      have S3 := Lib.hid (S2.out.no t3).drop
      clear o3 t3 S2 q0 q1 q2
      have C4 := Lib.hid (S3.out.writeD (nx : Nat) a3 64 c3 (Rt.put ⟨xe, xf, xb⟩) (Rt.put_length _) (Rt.put_lt _) O3.out (Nat.zero_le _))
      rw [(Rt.write_is _ nx ⟨xe, xf, xb⟩ hwr.out).1, (Rt.write_is _ nx ⟨xe, xf, xb⟩ hwr.out).2] at C4
      go_wp2_with fail
      refine C4.out.mono ?_
      rintro e w4 ⟨rfl, s4⟩
      have S4 := Lib.hid s4
      clear S3 O3 s4 C4
      go_wp2_with fail
      refine (S4.out.syncD).mono ?_
      rintro e w5 ⟨rfl, s5⟩
      have S5 := Lib.hid s5
      clear S4 s5
      go_wp2
      go_ret
      exact ⟨rfl, S5.out⟩
set_option maxRecDepth 100000 in
set_option maxHeartbeats 4000000 in
theorem Two.rootWriteR (h : Two w0 wi d g D R E) (r : Rt.Root) (hr : r.Ok) :
    Calls Try.prog 19 #[.pointer (some ⟨g, 0, none⟩), .agg #[.int .u32 (r.epoch : Nat), .int .u32 (r.first : Nat), .int .u32 (r.bytes : Nat)]] wi fun e w' => e = .returned (.int .i64 (Rt.wE R r : Nat)) ∧ Two w0 w' d g D (Rt.wD R r) E := by
  obtain ⟨xe, xf, xb⟩ := r
  have Hr := Lib.hid hr
  have H := Lib.hid h
  obtain ⟨er, her⟩ : ∃ er, Rt.findE R = er := ⟨_, rfl⟩
  obtain ⟨fr, hfr⟩ : ∃ fr, Rt.findR R = fr := ⟨_, rfl⟩
  obtain ⟨nx, hnx⟩ : ∃ nx, Rt.findN R = nx := ⟨_, rfl⟩
  have hfind : Hid (∀ wx, Touch No wi wx → Calls Try.prog 44 #[.pointer (some ⟨g, 0, none⟩)] wx (FindPost wx fr nx er)) := fun wx t => by
    rw [← her, ← hfr, ← hnx]
    obtain ⟨vs, vn, vw, hO⟩ := (h.no t).rdisk
    exact refFind_any hO
  have Her := Lib.hid her
  have Hfr := Lib.hid hfr
  have Hnx := Lib.hid hnx
  have hnx1 : nx ≤ 1 := by rw [← hnx]; exact Rt.findN_le R
  obtain ⟨fe, ff, fb⟩ := fr
  clear hr her hfr hnx h
  by_cases c1 : er ≠ 0 ∧ er ≠ 7
  · have hw : Rt.wE R ⟨xe, xf, xb⟩ = er := by rw [Rt.wE, Her.out, if_pos c1]
    have hd : Rt.wD R ⟨xe, xf, xb⟩ = R := by rw [Rt.wD, hw, if_neg c1.1]
    rw [hw, hd]
    have h0 : ((er : Int) != 0) = true := by simp; omega
    have h7 : ((er : Int) != 7) = true := by simp; omega
    clear hw hd c1
    go_enter Try.func19, Try.ntmps19
    go_wp2_with fail
    refine (hfind.out _ ((Touch.refl No wi).alloc _)).mono ?_
    rintro e w1 ⟨rfl, t1⟩
    have T1 := Lib.hid t1
    clear t1
    go_wp2
    go_ret
    exact ⟨rfl, H.out.no ((((Touch.refl No wi).alloc _).trans T1.out).alloc _)⟩
  by_cases c2 : er = 0 ∧ xe ≤ fe
  · obtain ⟨rfl, c2⟩ := c2
    have hw : Rt.wE R ⟨xe, xf, xb⟩ = 1 := by rw [Rt.wE, Her.out, if_neg (by omega), Hfr.out, if_pos ⟨rfl, c2⟩]
    have hd : Rt.wD R ⟨xe, xf, xb⟩ = R := by rw [Rt.wD, hw, if_neg (by decide)]
    rw [hw, hd]
    have hle : (xe : Int) ≤ (fe : Nat) := by omega
    clear hw hd c1 c2
    go_enter Try.func19, Try.ntmps19
    go_wp2_with fail
    refine (hfind.out _ ((Touch.refl No wi).alloc _)).mono ?_
    rintro e w1 ⟨rfl, t1⟩
    have hold := (Row.new wi 33 #[.int .u32 (xe : Nat), .int .u32 (xf : Nat), .int .u32 (xb : Nat)]).touch t1 id
    have k0 : w1.cell? ⟨wi.heap.size, 0, none⟩ = some (.int .u32 (xe : Nat)) := hold.cell 0
    have hlt : wi.heap.size < w1.heap.size := lt_of_cell k0
    have T1 := Lib.hid t1
    clear t1 hold
    go_wp2
    go_ret
    exact ⟨rfl, H.out.no ((((Touch.refl No wi).alloc _).trans T1.out).alloc _)⟩
  · have hw : Rt.wE R ⟨xe, xf, xb⟩ = 0 := by rw [Rt.wE, Her.out, if_neg (by omega), Hfr.out, if_neg c2]
    have hd : Rt.wD R ⟨xe, xf, xb⟩ = Dk.sync (Dk.write (Dk.sync R) nx (Rt.put ⟨xe, xf, xb⟩)) := by rw [Rt.wD, hw, if_pos rfl, Hnx.out]
    have h8 : Hid (8 ≤ R.seen.length) := Rt.findE_len (by rw [Her.out]; omega)
    rw [hw, hd]
    have hE : er = 0 ∧ fe < xe ∨ er = 7 := by omega
    clear hw hd c1 c2
    have hwr : Hid (nx < (Dk.sync R).seen.length) := by show nx < R.seen.length; have := h8.out; omega
    rcases hE with ⟨rfl, hE⟩ | rfl
    all_goals
      first | (have hle : ¬ (xe : Int) ≤ (fe : Nat) := by omega) | skip
      go_enter Try.func19, Try.ntmps19
      go_wp2_with fail
      have S0 := Lib.hid (H.out.push (Born.row wi 33 #[.int .u32 (xe : Nat), .int .u32 (xf : Nat), .int .u32 (xb : Nat)]))
      obtain ⟨X, hX⟩ : ∃ X, X = wi.heap.size := ⟨_, rfl⟩
      rw [← hX] at S0 ⊢
      refine (hfind.out _ ((Touch.refl No wi).alloc _)).mono ?_
      rintro e w1 ⟨rfl, t1⟩
      have k0 : w1.cell? ⟨X, 0, none⟩ = some (.int .u32 (xe : Nat)) := ((S0.out.no t1).row List.mem_cons_self).cell 0
      have hlt : X < w1.heap.size := lt_of_cell k0
      have S1 := Lib.hid ((S0.out.no t1).no ((Touch.refl No w1).alloc (.cells #[.int .u32 (fe : Nat), .int .u32 (ff : Nat), .int .u32 (fb : Nat)] 33)))
      clear t1 S0 hX
      go_wp2_with fail
      refine (S1.out.syncR).mono ?_
      rintro e w2 ⟨rfl, s2⟩
      have S2 := Lib.hid s2
      have q0 : w2.cell? ⟨X, 0, none⟩ = some (.int .u32 (xe : Nat)) := (s2.row List.mem_cons_self).cell 0
      have q1 : w2.cell? ⟨X, 1, none⟩ = some (.int .u32 (xf : Nat)) := (s2.row List.mem_cons_self).cell 1
      have q2 : w2.cell? ⟨X, 2, none⟩ = some (.int .u32 (xb : Nat)) := (s2.row List.mem_cons_self).cell 2
      clear s2 k0 hlt S1
      go_wp2_with fail
      refine (refRootPut_any w2 ⟨xe, xf, xb⟩ Hr.out).mono ?_
      rintro e w3 ⟨a3, c3, rfl, o3, t3⟩
      have O3 := Lib.hid (o3.rd : Rd w3 a3 (nums .u8 (Rt.put ⟨xe, xf, xb⟩)))
      have S3 := Lib.hid (S2.out.no t3).drop
      clear o3 t3 S2 q0 q1 q2
      have C4 := Lib.hid (S3.out.writeR (nx : Nat) a3 64 c3 (Rt.put ⟨xe, xf, xb⟩) (Rt.put_length _) (Rt.put_lt _) O3.out (Nat.zero_le _))
      rw [(Rt.write_is _ nx ⟨xe, xf, xb⟩ hwr.out).1, (Rt.write_is _ nx ⟨xe, xf, xb⟩ hwr.out).2] at C4
      go_wp2_with fail
      refine C4.out.mono ?_
      rintro e w4 ⟨rfl, s4⟩
      have S4 := Lib.hid s4
      clear S3 O3 s4 C4
      go_wp2_with fail
      refine (S4.out.syncR).mono ?_
      rintro e w5 ⟨rfl, s5⟩
      have S5 := Lib.hid s5
      clear S4 s5
      go_wp2
      go_ret
      exact ⟨rfl, S5.out⟩
end
end Go.Proofs.Ytkiehoboeiengaa
