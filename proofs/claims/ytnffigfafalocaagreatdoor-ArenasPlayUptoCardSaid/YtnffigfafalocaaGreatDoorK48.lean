/-
  Packages drydocklaw01, drydocklaw24 by their own text: tensors twinned, compared, told to a book; both arenas, the program's and the reference's, beside a book.
-/
import Derived.Test.YtnffigfafalocaaGreatDoorK27
import Derived.Test.YtnffigfafalocaaGreatDoorK40
import Derived.Test.YtnffigfafalocaaGreatDoorK41
import Derived.Test.YtnffigfafalocaaGreatDoorK42
import Derived.Test.YtnffigfafalocaaGreatDoorK45
import Derived.Test.YtnffigfafalocaaGreatDoorK46
import Derived.Test.YtnffigfafalocaaGreatDoorK47
import Derived.Test.YtnffigfafalocaaGreatDoorK01
namespace Go.Proofs.YtnffigfafalocaaGreatDoor
open Go Go.RowKit Go.Maps
set_option linter.unusedSimpArgs false
set_option linter.unusedVariables false

def TwinT (w : World) (s l : List Int) (e : Ending) (w' : World) : Prop :=
  ∃ sa c la d, e = .returned (.agg #[.slice sa s.length c, .slice la l.length d]) ∧ Touch No w w' ∧ s.length < c ∧ l.length < d ∧ c ≤ maxLen ∧ d ≤ maxLen ∧
    (Part.sl 3 sa (s.length + 1) c (ints .i64 s ++ [.int .i64 77])).P w' (fun k => ∃ o, sa = some ⟨k, o, none⟩) ∧ (Part.sl 21 la (l.length + 1) d (ints .i32 l ++ [.int .i32 77])).P w' (fun k => ∃ o, la = some ⟨k, o, none⟩) ∧
    (∀ g o, sa = some ⟨g, o, none⟩ → w.heap.size ≤ g) ∧ (∀ g o, la = some ⟨g, o, none⟩ → w.heap.size ≤ g) ∧ ∀ g o o', sa = some ⟨g, o, none⟩ → la = some ⟨g, o', none⟩ → False
theorem slP_own {w : World} {base n c : Nat} {T : TypeId} {a : Option Addr} {vs : List Value} (h : Own w base T (.slice a n c) vs) (hn : vs.length = n) (hpos : 0 < n) : (Part.sl T a n c vs).P w (fun k => ∃ o, a = some ⟨k, o, none⟩) := by
  obtain ⟨hl, h⟩ := h
  rcases h with ⟨hv, h0⟩ | ⟨g, cp, cur, hv, hg, hh, hn', hm, hs, ht⟩
  · omega
  · cases hv
    have hgs : g < w.heap.size := (Array.getElem?_eq_some_iff.1 hh).1
    refine ⟨hn, by omega, by omega, (fun k ⟨o, e⟩ => by cases e; exact hgs), Or.inr ⟨g, 0, cur, rfl, hh, by omega, ⟨0, rfl⟩, fun i v hi => ?_⟩⟩
    rw [← ht, List.getElem?_take] at hi
    split at hi
    · rw [Nat.zero_add]; simpa using hi
    · cases hi
set_option maxRecDepth 100000 in
set_option maxHeartbeats 4000000 in
theorem twinT_any (w : World) (sa la : Option Addr) (n c m d : Nat) (s l : List Int) (hs : s.length = n) (hn : (n : Int) ≤ 10000000) (hr : Rd w sa (ints .i64 s)) (hl : l.length = m) (hm : (m : Int) ≤ 10000000) (hr2 : Rd w la (ints .i32 l)) :
    Calls Tryz.prog 19 #[.agg #[.slice sa n c, .slice la m d]] w (TwinT w s l) := by
  obtain ⟨w1, hw1⟩ : ∃ w1, w1 = (w.alloc (.cells #[.slice sa n c, .slice la m d] 75)).alloc (.cells #[.slice none 0 0, .slice none 0 0] 75) := ⟨_, rfl⟩
  have t1 : Touch No w w1 := by rw [hw1]; exact ((Touch.refl No w).alloc _).alloc _
  have B := (Row.new w 75 #[.slice sa n c, .slice la m d]).touch ((Touch.refl No _).alloc (.cells #[.slice none 0 0, .slice none 0 0] 75)) (fun f => f)
  have B' := Row.new (w.alloc (.cells #[.slice sa n c, .slice la m d] 75)) 75 #[.slice none 0 0, .slice none 0 0]
  obtain ⟨X, hX⟩ : ∃ X, X = w.heap.size := ⟨_, rfl⟩
  have hX2 : (w.alloc (.cells #[.slice sa n c, .slice la m d] 75)).heap.size = X + 1 := by rw [hX]; simp
  rw [hX2] at B'
  rw [← hX] at B
  rw [← hw1] at B B'
  have HBx := Lib.hid B
  have HBy := Lib.hid B'
  have HXX := Lib.hid hX
  have C1 := Lib.hid (fun (wx : World) (t : Touch No w wx) => twinInts_any wx sa n c s hs hn (hr.no t))
  have C2 := Lib.hid (fun (wx : World) (t : Touch No w wx) => twinNumbers_any wx la m d l hl hm (hr2.no t))
  have T1 := Lib.hid t1
  have Hs := Lib.hid hs
  have Hl := Lib.hid hl
  clear hr hr2 hs hl t1 B B' hX2
  go_enter Tryz.func19, Tryz.ntmps19
  go_wp2_with fail
  rw [← hw1, ← hX]
  clear hw1 hX
  have T1d := T1.out.drew
  have Q : Hid (∀ wx, Touch (fun k => k = X + 1) w1 wx → wx.cell? ⟨X, 0, none⟩ = some (.slice sa n c) ∧ wx.cell? ⟨X, 1, none⟩ = some (.slice la m d)) := fun wx t => ⟨(HBx.out.touch t (by omega)).cell 0, (HBx.out.touch t (by omega)).cell 1⟩
  have Q0 := Q.out w1 (Touch.refl _ w1)
  go_region_held3 (fun w' => w'.cell? ⟨X, 0, none⟩ = some (.slice sa n c) ∧ w'.cell? ⟨X, 1, none⟩ = some (.slice la m d)) (first | exact Q0 | exact Q.out _ ((((q5.no : Touch (fun k => k = X + 1) w1 w5).setCell (p := ⟨X + 1, 0, none⟩) (fun _ => rfl) _).setCell (p := ⟨X + 1, 1, none⟩) (fun _ => rfl) _).drew) | exact Q.out _ (((q5.no : Touch (fun k => k = X + 1) w1 w5).setCell (p := ⟨X + 1, 0, none⟩) (fun _ => rfl) _).setCell (p := ⟨X + 1, 1, none⟩) (fun _ => rfl) _) | exact Q.out _ q5.no | exact Q.out _ q3.no | exact Q.out _ ((Touch.refl _ w1).drew)) (first
    | (go_at_call 63; refine (C1.out _ T1d).mono ?_; rintro e w3 ⟨a3, c3, rfl, hc3, o3, t3⟩; have q3 := ((Touch.refl No w1).drew).trans t3)
    | (go_at_call 64; refine (C2.out _ (T1d.trans t3)).mono ?_; rintro e w5 ⟨a5, c5, rfl, hc5, o5, t5⟩; have q5 := q3.trans t5; have y0 : w5.cell? ⟨X + 1, 0, none⟩ = some (.slice none 0 0) := (HBy.out.touch q5 (fun f => f)).cell 0; have y1 : w5.cell? ⟨X + 1, 1, none⟩ = some (.slice none 0 0) := (HBy.out.touch q5 (fun f => f)).cell 1; have z0 := (HBy.out.touch q5 (fun f => f)).soft 0; have z1 := (HBy.out.touch q5 (fun f => f)).soft 1))
  have hy := HBy.out.lt
  have HY := Lib.hid hy
  have HE : Hid (∀ wx, Touch (fun k => k = X + 1) w5 wx → TwinT w s l (.returned (.agg #[.slice a3 n c3, .slice a5 m c5])) wx) := fun wx t => by
    have b3 : ∀ gg oo, a3 = some ⟨gg, oo, none⟩ → w1.heap.size ≤ gg ∧ gg < w3.heap.size := fun gg oo e => o3.block (by rw [e]; rfl)
    have b5 : ∀ gg oo, a5 = some ⟨gg, oo, none⟩ → w3.heap.size ≤ gg ∧ gg < w5.heap.size := fun gg oo e => o5.block (by rw [e]; rfl)
    have h01 := T1.out.size
    have h13 : w1.heap.size ≤ w3.heap.size := q3.size
    have h35 := t5.size
    have hyy := HY.out
    have hd : w1.drew.heap.size = w1.heap.size := rfl
    have r3 := slP_own ((o3.touch t5 (fun _ _ _ f => f)).touch t (fun i hi _ e => by omega)) (by rw [List.length_append, ints_length, Hs.out]; rfl) (Nat.succ_pos n)
    have r5 := slP_own (o5.touch t (fun i hi _ e => by omega)) (by rw [List.length_append, ints_length, Hl.out]; rfl) (Nat.succ_pos m)
    refine ⟨a3, c3, a5, c5, by rw [Hs.out, Hl.out], ?_, by rw [Hs.out]; exact hc3, by rw [Hl.out]; exact hc5, (sl_len r3).2.2, (sl_len r5).2.2, by rw [Hs.out]; exact r3, by rw [Hl.out]; exact r5, fun gg oo e => ?_, fun gg oo e => ?_, fun gg oo oo' e e' => ?_⟩
    · exact ((T1.out.trans q3).trans t5).then t (fun i hi e => by
        have h := HXX.out
        omega)
    · have := b3 gg oo e; omega
    · have := b5 gg oo e; omega
    · have := b3 gg oo e; have := b5 gg oo' e'; omega
  clear o3 o5 hc3 hc5 t3 t5 q3 q5 Q Q0 T1d hy
  go_wp2
  refine bodyPost_ret (v := .agg #[.slice a3 n c3, .slice a5 m c5]) (by simp [results, Tryz.results19, go_sem, y0, y1]) rfl ?_
  exact HE.out _ (((Touch.refl (fun k => k = X + 1) w5).setCell (p := ⟨X + 1, 0, none⟩) (fun _ => rfl) _).setCell (p := ⟨X + 1, 1, none⟩) (fun _ => rfl) _)
set_option maxRecDepth 100000 in
set_option maxHeartbeats 2000000 in
theorem leftT_any (w : World) (sa la sb lb : Option Addr) (n c m d c' d' : Nat) (s l : List Int) (hs : s.length = n) (hn : (n : Int) ≤ 10000000) (hc : n < c) (hr : Rd w sa (ints .i64 s ++ [.int .i64 77])) (hl : l.length = m) (hm : (m : Int) ≤ 10000000) (hd : m < d) (hr2 : Rd w la (ints .i32 l ++ [.int .i32 77]))
    (hr' : Rd w sb (ints .i64 s)) (hr2' : Rd w lb (ints .i32 l)) :
    Calls Tryz.prog 24 #[.agg #[.slice sa n c, .slice la m d], .agg #[.slice sb n c', .slice lb m d']] w fun e w' => e = .returned (.bool true) ∧ Touch No w w' := by
  have hb : ∀ o : Obj, ∀ o' : Obj, Touch No w ((w.alloc o).alloc o') := fun o o' => ((Touch.refl No w).alloc o).alloc o'
  have C1 := Lib.hid (fun (wx : World) (t : Touch No w wx) => leftInts_any wx sa n c sb c' s hs hn hc (hr.no t) (hr'.no t))
  have C2 := Lib.hid (fun (wx : World) (t : Touch No w wx) => leftNumbers_any wx la m d lb d' l hl hm hd (hr2.no t) (hr2'.no t))
  have HB := Lib.hid hb
  clear hr hr' hr2 hr2' hs hl hb hc hd
  go_enter Tryz.func24, Tryz.ntmps24
  go_wp2_with fail
  refine (C1.out _ (HB.out _ _)).mono ?_
  rintro e w1 ⟨rfl, t1⟩
  have r1 := (Row.new w 75 #[.slice sa n c, .slice la m d]).touch (((Touch.refl No _).alloc (.cells #[.slice sb n c', .slice lb m d'] 75)).trans t1) (fun f => f)
  have r2 := (Row.new (w.alloc (.cells #[.slice sa n c, .slice la m d] 75)) 75 #[.slice sb n c', .slice lb m d']).touch t1 (fun f => f)
  have k1 : w1.cell? ⟨w.heap.size, 1, none⟩ = some (.slice la m d) := r1.cell 1
  have k2 : w1.cell? ⟨w.heap.size + 1, 1, none⟩ = some (.slice lb m d') := by have := r2.cell 1; simpa using this
  have T1 := Lib.hid ((HB.out _ _).trans t1)
  clear t1 r1 r2
  go_wp2_with fail
  refine (C2.out _ T1.out).mono ?_
  rintro e w2 ⟨rfl, t2⟩
  have T2 := Lib.hid (T1.out.trans t2)
  clear t2
  go_wp2
  go_ret
  exact ⟨rfl, T2.out⟩
set_option maxRecDepth 100000 in
set_option maxHeartbeats 2000000 in
theorem sameT_any (w : World) (sa la sb lb : Option Addr) (n c m d c' d' : Nat) (s l : List Int) (hs : s.length = n) (hn : (n : Int) ≤ 10000000) (hr : Rd w sa (ints .i64 s)) (hl : l.length = m) (hm : (m : Int) ≤ 10000000) (hr2 : Rd w la (ints .i32 l))
    (hr' : Rd w sb (ints .i64 s)) (hr2' : Rd w lb (ints .i32 l)) :
    Calls Tryz.prog 28 #[.agg #[.slice sa n c, .slice la m d], .agg #[.slice sb n c', .slice lb m d']] w fun e w' => e = .returned (.bool true) ∧ Touch No w w' := by
  have hb : ∀ o : Obj, ∀ o' : Obj, Touch No w ((w.alloc o).alloc o') := fun o o' => ((Touch.refl No w).alloc o).alloc o'
  have C1 := Lib.hid (fun (wx : World) (t : Touch No w wx) => same3I_any wx sa sb n c c' s hs (by omega) (hr.no t) (hr'.no t))
  have C2 := Lib.hid (fun (wx : World) (t : Touch No w wx) => same3N_any wx la lb m d d' l hl (by omega) (hr2.no t) (hr2'.no t))
  have HB := Lib.hid hb
  clear hr hr' hr2 hr2' hs hl hb
  go_enter Tryz.func28, Tryz.ntmps28
  go_wp2_with fail
  refine (C1.out _ (HB.out _ _)).mono ?_
  rintro e w1 ⟨rfl, t1⟩
  have r1 := (Row.new w 75 #[.slice sa n c, .slice la m d]).touch (((Touch.refl No _).alloc (.cells #[.slice sb n c', .slice lb m d'] 75)).trans t1) (fun f => f)
  have r2 := (Row.new (w.alloc (.cells #[.slice sa n c, .slice la m d] 75)) 75 #[.slice sb n c', .slice lb m d']).touch t1 (fun f => f)
  have k1 : w1.cell? ⟨w.heap.size, 1, none⟩ = some (.slice la m d) := r1.cell 1
  have k2 : w1.cell? ⟨w.heap.size + 1, 1, none⟩ = some (.slice lb m d') := by have := r2.cell 1; simpa using this
  have T1 := Lib.hid ((HB.out _ _).trans t1)
  clear t1 r1 r2
  go_wp2_with fail
  refine (C2.out _ T1.out).mono ?_
  rintro e w2 ⟨rfl, t2⟩
  have T2 := Lib.hid (T1.out.trans t2)
  clear t2
  go_wp2
  go_ret
  exact ⟨rfl, T2.out⟩
set_option maxRecDepth 100000 in
set_option maxHeartbeats 2000000 in
/-- a tensor told to the book -/
theorem Sl.tensor {w0 w : World} {g n : Nat} {B I N D : List HE} {a b : Option Addr} {sn c ln d : Nat} {vs us : List Value} {m : List Part} (h : Sl w0 w (Part.book g n B I N D :: Part.sl 3 a sn c vs :: Part.sl 21 b ln d us :: m)) (hi : I.length ≤ 100000) (hm : N.length ≤ 100000) (hn : n ≤ 900000) :
    Calls Tryz.prog 25 #[.pointer (some ⟨g, 0, none⟩), .agg #[.slice a sn c, .slice b ln d]] w fun e w' => e = .returned (.tuple #[]) ∧ Sl w0 w' (Part.book g (n + 2) B (I ++ [⟨a, sn, c, n + 1⟩]) (N ++ [⟨b, ln, d, n + 2⟩]) D :: m) := by
  obtain ⟨w1, hw1⟩ : ∃ w1, w1 = w.alloc (.cells #[.slice a sn c, .slice b ln d] 75) := ⟨_, rfl⟩
  have R1 : Row w1 w.heap.size 75 [.slice a sn c, .slice b ln d] := by rw [hw1]; exact Row.new w 75 #[.slice a sn c, .slice b ln d]
  have h1 : Sl w0 w1 (Part.row w.heap.size 75 [.slice a sn c, .slice b ln d] :: Part.book g n B I N D :: Part.sl 3 a sn c vs :: Part.sl 21 b ln d us :: m) := by
    rw [hw1]; exact h.push (Born.row w 75 #[.slice a sn c, .slice b ln d])
  have hp1 : (Part.row w.heap.size 75 [.slice a sn c, .slice b ln d] :: Part.book g n B I N D :: Part.sl 3 a sn c vs :: Part.sl 21 b ln d us :: m).Perm (Part.book g n B I N D :: Part.sl 3 a sn c vs :: Part.row w.heap.size 75 [.slice a sn c, .slice b ln d] :: Part.sl 21 b ln d us :: m) :=
    (List.Perm.swap _ _ _).trans ((List.Perm.swap _ _ _).cons _)
  have C1 := Lib.hid (Sl.ints (h1.perm hp1) hi (by omega))
  have k0 : w1.cell? ⟨w.heap.size, 0, none⟩ = some (.slice a sn c) := R1.cell 0
  have C2 : Hid (∀ w2, Sl w0 w2 (Part.book g (n + 1) B (I ++ [⟨a, sn, c, n + 1⟩]) N D :: Part.row w.heap.size 75 [.slice a sn c, .slice b ln d] :: Part.sl 21 b ln d us :: m) → w2.cell? ⟨w.heap.size, 1, none⟩ = some (.slice b ln d) ∧ Calls Tryz.prog 75 #[.pointer (some ⟨g, 0, none⟩), .slice b ln d] w2 fun e w' => e = .returned (.tuple #[]) ∧ Sl w0 w' (Part.book g (n + 2) B (I ++ [⟨a, sn, c, n + 1⟩]) (N ++ [⟨b, ln, d, n + 2⟩]) D :: m)) := fun w2 h2 => by
    refine ⟨?_, (Sl.numbers (h2.perm ((List.Perm.swap _ _ _).cons _)) hm (by omega)).mono fun e w' ⟨he, hq⟩ => ⟨he, (hq.perm (List.Perm.swap _ _ _)).drop⟩⟩
    obtain ⟨A, ⟨hr, _⟩, _⟩ := h2.mem (List.mem_cons_of_mem _ List.mem_cons_self)
    exact hr.cell 1
  clear h h1 hp1 R1
  go_enter Tryz.func25, Tryz.ntmps25
  go_wp2_with fail
  rw [← hw1]
  clear hw1
  go_wp2_with fail
  refine C1.out.mono ?_
  rintro e w2 ⟨rfl, h2⟩
  obtain ⟨k1, c2⟩ := C2.out w2 h2
  have C3 := Lib.hid c2
  clear c2 h2 k0
  go_wp2_with fail
  refine C3.out.mono ?_
  rintro e w3 ⟨rfl, h3⟩
  have H3 := Lib.hid h3
  clear h3
  go_wp2
  go_end0
  exact ⟨rfl, H3.out⟩
theorem Sl.push2 {w0 w w' : World} {l : List Part} {p q : Part} {O1 O2 : Nat → Prop} (h : Sl w0 w l) (t : Touch No w w') (hp : p.P w' O1) (hq : q.P w' O2) (h1 : ∀ k, O1 k → w.heap.size ≤ k) (h2 : ∀ k, O2 k → w.heap.size ≤ k) (hd : ∀ k, O1 k → ¬ O2 k) : Sl w0 w' (p :: q :: l) := by
  obtain ⟨O, a1, a2, t0⟩ := h
  have hs := t.size
  refine ⟨fun k => O1 k ∨ (O2 k ∨ O k), ⟨O1, fun k => O2 k ∨ O k, hp, ⟨O2, O, hq, a1.no t, fun k hk ho => by have := h2 k hk; have := (a2 k ho).2; omega, fun k => Or.inl, fun k => Or.inr⟩, fun k hk ho => ?_, fun k => Or.inl, fun k => Or.inr⟩, fun k hk => ?_, t0.trans t⟩
  · rcases ho with ho | ho
    · exact hd k hk ho
    · have := h1 k hk; have := (a2 k ho).2; omega
  · rcases hk with hk | hk | hk
    · exact ⟨Nat.le_trans t0.size (h1 k hk), p.lt hp k hk⟩
    · exact ⟨Nat.le_trans t0.size (h2 k hk), q.lt hq k hk⟩
    · exact ⟨(a2 k hk).1, Nat.lt_of_lt_of_le (a2 k hk).2 hs⟩
/-! ### both arenas -/
section
variable {w0 w w' : World} {g : Nat} {A : Ar.Arena} {E : List Part} {p : Part}
theorem Ars.step (h : Ars w0 w g A (p :: E)) : ∃ O, p.P w O ∧ ∀ w' p', TurnsL w O [p'] w' → Ars w0 w' g A (p' :: E) := by
  obtain ⟨O, hp, _, _, hf⟩ := Sl.step2 (Sl.perm h (List.Perm.swap _ _ _))
  exact ⟨O, hp, fun w' p' t => Sl.perm (hf w' [p'] t) (List.Perm.swap _ _ _)⟩
theorem Ars.perm {E' : List Part} (h : Ars w0 w g A E) (hp : E.Perm E') : Ars w0 w g A E' := Sl.perm h (hp.cons _)
theorem Ars.mem (h : Ars w0 w g A E) {q : Part} (hq : q ∈ E) : ∃ O, q.P w O ∧ ∀ k, O k → w0.heap.size ≤ k ∧ k < w.heap.size := Sl.mem h (List.mem_cons_of_mem _ hq)
/-- a list with its room that an arena does not touch -/
theorem apt_sl {T : TypeId} {a : Option Addr} {n c : Nat} {vs : List Value} (h : Ars w0 w g A E) (hp : Part.sl T a n c vs ∈ E) (hc : 0 < c) : Apt w0 w E a vs := by
  obtain ⟨O, hO, _⟩ := h.mem hp
  refine ⟨sl_rd hO, fun F hF hq g o e hk => ?_⟩
  obtain ⟨C, hC, hd⟩ := hq _ hp
  obtain ⟨_, _, _, _, h5⟩ := hC
  rcases h5 with h5 | ⟨g', o', cs, ha, _, _, hg, _⟩
  · omega
  · rw [e] at ha; cases ha
    exact hd _ hk hg
theorem Ars.twin (h : Ars w0 w g A E) (sa la : Option Addr) (n c m d : Nat) (s l : List Int) (hs : s.length = n) (hn : (n : Int) ≤ 10000000) (hr : Rd w sa (ints .i64 s)) (hl : l.length = m) (hm : (m : Int) ≤ 10000000) (hr2 : Rd w la (ints .i32 l)) :
    Calls Tryz.prog 19 #[.agg #[.slice sa n c, .slice la m d]] w fun e w' => ∃ a c' b d', e = .returned (.agg #[.slice a n c', .slice b m d']) ∧ n < c' ∧ m < d' ∧ Ars w0 w' g A (Part.sl 3 a (n + 1) c' (ints .i64 s ++ [.int .i64 77]) :: Part.sl 21 b (m + 1) d' (ints .i32 l ++ [.int .i32 77]) :: E) := by
  refine (twinT_any w sa la n c m d s l hs hn hr hl hm hr2).mono fun e w' ⟨a, c', b, d', he, t, hc, hd, _, _, p1, p2, b1, b2, hdis⟩ => ⟨a, c', b, d', by rw [he, hs, hl], by omega, by omega, ?_⟩
  rw [hs] at p1
  rw [hl] at p2
  have := Sl.push2 h t p1 p2 (fun k ⟨o, e⟩ => b1 k o e) (fun k ⟨o, e⟩ => b2 k o e) (fun k ⟨o, e⟩ ⟨o', e'⟩ => hdis k o o' e e')
  exact this.perm (((List.Perm.swap _ _ _).cons _).trans (List.Perm.swap _ _ _))
theorem Ars.small (h : Ars w0 w g A E) (id : Nat) (hid : id < 4294967296) : (Ar.getS A id).length ≤ 4 ∧ (Ar.getL A id).length ≤ 4096 := by
  obtain ⟨O, ⟨⟨b, ha⟩, hok, hlt⟩, _⟩ := Sl.mem h List.mem_cons_self
  obtain ⟨D, _, hM⟩ := ha.map
  cases hl : Ar.look A.its id with
  | none => rw [Ar.getS, Ar.getL, hl]; exact ⟨by decide, by decide⟩
  | some x =>
    obtain ⟨xb, xt⟩ := x
    cases xt with
    | none => rw [Ar.getS, Ar.getL, hl]; exact ⟨Nat.zero_le _, Nat.zero_le _⟩
    | some sl =>
      obtain ⟨s, l⟩ := sl
      obtain ⟨v, hv, _⟩ := (hM.2 id hid).2 _ hl
      obtain ⟨sa, la, _, _, _, _, _, _, _, hck⟩ := (show ∃ sa la, v = .agg #[.int .i64 (xb : Nat), .slice sa s.length s.length, .slice la l.length l.length, .bool true] ∧ Rd w sa (ints .i64 s) ∧ Rd w la (ints .i32 l) ∧ (∀ g' o, sa = some ⟨g', o, none⟩ → O g' ∧ g' ≠ g ∧ g' ≠ b) ∧ (∀ g' o, la = some ⟨g', o, none⟩ → O g' ∧ g' ≠ g ∧ g' ≠ b) ∧ sa ≠ none ∧ la ≠ none ∧ Ar.check s l = true from hv)
      rw [Ar.getS, Ar.getL, hl]
      have h4 := Ar.check_pos hck
      have h2 : Ar.check s l = true := hck
      unfold Ar.check at h2
      rw [Bool.and_eq_true, decide_eq_true_iff, decide_eq_true_iff] at h2
      have := Ar.size_le s
      exact ⟨h4.2.1, by show l.length ≤ 4096; omega⟩
variable {h : Nat} {A2 : Ar.Arena} {R : List Ar.REnt} {n : Nat}
theorem Ars.takeR (H : Ars w0 w g A (Part.ref24 h A2.room A2.used A2.peak R :: E)) (hok : Ar.Ok A2) (hR : R.map Ar.REnt.it = A2.its) (hn : R.length ≤ n) (hn4 : n ≤ 10000) (x : Int) (id : Nat) (hx : x = id) (hid : id < 4294967296) (z : Int) (hz : -9223372036854775808 ≤ z ∧ z ≤ 9223372036854775807) (er : Int) (her : er = (Ar.takeE A2 id z : Nat)) (A3 : Ar.Arena) (hA : Ar.takeA A2 id z = A3) :
    Calls Tryz.prog 30 #[.pointer (some ⟨h, 0, none⟩), .int .u32 x, .int .i64 z] w fun e w' => e = .returned (.int .i64 er) ∧ ∃ R', R'.map Ar.REnt.it = A3.its ∧ R'.length ≤ n + 1 ∧ Ars w0 w' g A (Part.ref24 h A3.room A3.used A3.peak R' :: E) := by
  subst hx her hA
  obtain ⟨O, hp, hf⟩ := H.step
  exact (refTake24_any w h A2 R O hp hok hR n hn hn4 id hid z hz).mono fun e w' ⟨he, R', h1, h2, ht⟩ => ⟨he, R', h1, h2, hf w' _ ht⟩
theorem Ars.giveR (H : Ars w0 w g A (Part.ref24 h A2.room A2.used A2.peak R :: E)) (hok : Ar.Ok A2) (hR : R.map Ar.REnt.it = A2.its) (hn : R.length ≤ n) (hn4 : n ≤ 10000) (x : Int) (id : Nat) (hx : x = id) (hid : id < 4294967296) (er : Int) (her : er = (Ar.giveE A2 id : Nat)) (A3 : Ar.Arena) (hA : Ar.giveA A2 id = A3) :
    Calls Tryz.prog 21 #[.pointer (some ⟨h, 0, none⟩), .int .u32 x] w fun e w' => e = .returned (.int .i64 er) ∧ ∃ R', R'.map Ar.REnt.it = A3.its ∧ R'.length ≤ n ∧ Ars w0 w' g A (Part.ref24 h A3.room A3.used A3.peak R' :: E) := by
  subst hx her hA
  obtain ⟨O, hp, hf⟩ := H.step
  exact (refGive24_any w h A2 R O hp hok hR n hn hn4 id hid).mono fun e w' ⟨he, R', h1, h2, ht⟩ => ⟨he, R', h1, h2, hf w' _ ht⟩
theorem Ars.putR (H : Ars w0 w g A (Part.ref24 h A2.room A2.used A2.peak R :: E)) (hok : Ar.Ok A2) (hR : R.map Ar.REnt.it = A2.its) (hn : R.length ≤ n) (hn4 : n ≤ 10000) (x : Int) (id : Nat) (hx : x = id) (hid : id < 4294967296)
    (sa la : Option Addr) (sn c ln d : Nat) (s l : List Int) (hs : s.length = sn) (hsn : (sn : Int) ≤ 1000000) (hrs : Rd w sa (ints .i64 s)) (hl : l.length = ln) (hln : (ln : Int) ≤ 1000000) (hrl : Rd w la (ints .i32 l)) (er : Int) (her : er = (Ar.putE A2 id s l : Nat)) (A3 : Ar.Arena) (hA : Ar.putA A2 id s l = A3) :
    Calls Tryz.prog 23 #[.pointer (some ⟨h, 0, none⟩), .int .u32 x, .agg #[.slice sa sn c, .slice la ln d]] w fun e w' => e = .returned (.int .i64 er) ∧ ∃ R', R'.map Ar.REnt.it = A3.its ∧ R'.length ≤ n ∧ Ars w0 w' g A (Part.ref24 h A3.room A3.used A3.peak R' :: E) := by
  subst hx her hA
  obtain ⟨O, hp, hf⟩ := H.step
  exact (refPut24_any w h A2 R O hp hok hR n hn hn4 id hid sa la sn c ln d s l hs hsn hrs hl hln hrl).mono fun e w' ⟨he, R', h1, h2, ht⟩ => ⟨he, R', h1, h2, hf w' _ ht⟩
theorem Ars.getR (H : Ars w0 w g A (Part.ref24 h A2.room A2.used A2.peak R :: E)) (hok : Ar.Ok A2) (hR : R.map Ar.REnt.it = A2.its) (hn : R.length ≤ n) (hn4 : n ≤ 10000) (x : Int) (id : Nat) (hx : x = id) (hid : id < 4294967296) (er : Int) (her : er = (Ar.getE A2 id : Nat)) (s l : List Int) (hs : Ar.getS A2 id = s) (hl : Ar.getL A2 id = l) (sn ln : Nat) (hsn : s.length = sn) (hln : l.length = ln) :
    Calls Tryz.prog 27 #[.pointer (some ⟨h, 0, none⟩), .int .u32 x] w fun e w' => ∃ sa sc la lc, e = .returned (.tuple #[.agg #[.slice sa sn sc, .slice la ln lc], .int .i64 er]) ∧ Rd w' sa (ints .i64 s) ∧ Rd w' la (ints .i32 l) ∧ Touch No w w' := by
  subst hx her hs hl hsn hln
  obtain ⟨O, hp, _⟩ := H.step
  exact refGet24_any w h A2 R O hp hok hR n hn hn4 id hid
theorem Ars.get2K (H : Ars w0 w g A E) (x : Int) (id : Nat) (hx : x = id) (hid : id < 4294967296) (er : Int) (her : er = (Ar.getE A id : Nat)) (s l : List Int) (hs : Ar.getS A id = s) (hl : Ar.getL A id = l) (sn ln : Nat) (hsn : s.length = sn) (hln : l.length = ln) :
    Calls Tryz.prog 26 #[.pointer (some ⟨g, 0, none⟩), .int .u32 x] w fun e w' => ∃ sa la, e = .returned (.tuple #[.agg #[.slice sa sn sn, .slice la ln ln], .int .i64 er]) ∧ Ars w0 w' g A (Part.sl 3 sa sn sn (ints .i64 s) :: Part.sl 21 la ln ln (ints .i32 l) :: E) := by
  subst hx her hs hl hsn hln
  exact H.get2 id hid
theorem Ars.usedR (H : Ars w0 w g A (Part.ref24 h A2.room A2.used A2.peak R :: E)) (z : Int) (hz : z = (A2.used : Nat)) : Calls Tryz.prog 33 #[.pointer (some ⟨h, 0, none⟩)] w fun e w' => e = .returned (.int .i64 z) ∧ w = w' := by
  subst hz
  obtain ⟨O, hp, _⟩ := H.step
  obtain ⟨a, c, _, _, _, hat, _⟩ := ref24_at hp
  exact refUsed_any hat
theorem Ars.peakR (H : Ars w0 w g A (Part.ref24 h A2.room A2.used A2.peak R :: E)) (z : Int) (hz : z = (A2.peak : Nat)) : Calls Tryz.prog 35 #[.pointer (some ⟨h, 0, none⟩)] w fun e w' => e = .returned (.int .i64 z) ∧ w = w' := by
  subst hz
  obtain ⟨O, hp, _⟩ := H.step
  obtain ⟨a, c, _, _, _, hat, _⟩ := ref24_at hp
  exact refPeak_any hat
theorem Ars.idsR (H : Ars w0 w g A (Part.ref24 h A2.room A2.used A2.peak R :: E)) (hn : R.length ≤ 100000) (xs : List Int) (hxs : (R.map fun e => (e.id : Int)) = xs) (m : Nat) (hm : R.length = m) : Calls Tryz.prog 37 #[.pointer (some ⟨h, 0, none⟩)] w fun e w' => ∃ a c, e = .returned (.slice a m c) ∧ Rd w' a (ints .u32 xs) ∧ Touch No w w' := by
  subst hxs hm
  obtain ⟨O, hp, _⟩ := H.step
  obtain ⟨a, c, _, _, _, hat, _⟩ := ref24_at hp
  exact refIDs_any hat hn
end
end Go.Proofs.YtnffigfafalocaaGreatDoor
