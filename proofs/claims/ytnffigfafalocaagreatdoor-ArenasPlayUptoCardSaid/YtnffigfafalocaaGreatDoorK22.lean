/-
  Shapes and tensors by their own text: times, Size, Check; tensors.Check, Same; twin.
-/
import Derived.Test.YtnffigfafalocaaGreatDoorK03
import Derived.Test.YtnffigfafalocaaGreatDoorK04
import Derived.Deep.RegionHeld3
import Derived.Deep.QuietTactic
import Derived.BigQuiet
namespace Go.Proofs.YtnffigfafalocaaGreatDoor
open Go Go.RowKit
set_option linter.unusedSimpArgs false
set_option linter.unusedVariables false

set_option maxRecDepth 100000 in
set_option maxHeartbeats 2000000 in
theorem times_any (w : World) (a : Option Addr) (n c : Nat) (xs : List Int) (hl : xs.length = n) (hn : (n : Int) ≤ 1000000000000) (hr : Rd w a (ints .i64 xs)) :
    Calls Tryz.prog 234 #[.slice a n c] w fun e w' => e = .returned (.int .i64 (Ar.times 1 xs : Nat)) ∧ w = w' := by
  have HR := Lib.hid hr
  have HL := Lib.hid hl
  clear hr hl
  go_enter Tryz.func234, Tryz.ntmps234
  go_wp2
  go_loopg [3, 8] n (fun gh s3 s8 wr => ∃ k m : Nat, k + gh = n ∧ s8 = .int .i64 ((k : Nat) : Int) ∧ s3 = .int .i64 ((m : Nat) : Int) ∧ m ≤ 4096 ∧ Hid (Ar.times 1 xs = Ar.times m (xs.drop k)) ∧ Hid (wr = w))
  case atStart => exact ⟨0, 1, by omega, rfl, rfl, by omega, rfl, rfl⟩
  case round =>
    obtain ⟨k, m, hkg, rfl, rfl, hm, HT, hwr⟩ := hrel
    have hww : w = wr := hwr.out.symm
    clear hwr
    subst hww
    cases gk with
    | zero =>
      obtain rfl : k = n := by omega
      have Hres : Hid (Ar.times 1 xs = m) := by
        show _ = _
        rw [HT.out, List.drop_eq_nil_of_le (by rw [HL.out]; exact Nat.le_refl _)]; rfl
      go_wp2
      go_ret
      exact ⟨by rw [Hres.out]; rfl, rfl⟩
    | succ g' =>
      have hki : (k : Int) < (n : Nat) := by omega
      obtain ⟨x, hx⟩ : ∃ x, xs.getD k 0 = x := ⟨_, rfl⟩
      obtain ⟨gb, go, rfl, hcx⟩ := HR.out.int (i := k) (by rw [HL.out]; omega)
      rw [hx] at hcx
      have HD : Hid (xs.drop k = x :: xs.drop (k + 1)) := by
        show _ = _
        rw [drop_step xs k (by rw [HL.out]; omega), hx]
      clear hx
      by_cases h1 : x < 1
      · have Hres : Hid (Ar.times 1 xs = 0) := by show _ = _; rw [HT.out, HD.out, Ar.times, if_pos (Or.inl h1)]
        go_wp2
        go_ret
        exact ⟨by rw [Hres.out]; rfl, rfl⟩
      · by_cases h2 : 64 < x
        · have Hres : Hid (Ar.times 1 xs = 0) := by show _ = _; rw [HT.out, HD.out, Ar.times, if_pos (Or.inr h2)]
          go_wp2
          go_ret
          exact ⟨by rw [Hres.out]; rfl, rfl⟩
        · obtain ⟨y, rfl⟩ : ∃ y : Nat, x = (y : Nat) := ⟨x.toNat, by omega⟩
          obtain ⟨p, hp⟩ : ∃ p, m * y = p := ⟨_, rfl⟩
          have hy : y ≤ 64 := by omega
          have hpb : p ≤ 262144 := by
            have := Nat.mul_le_mul hm hy
            omega
          have hpi : (m : Int) * (y : Int) = (p : Nat) := by rw [← hp]; push_cast; rfl
          have HT2 : Hid (Ar.times 1 xs = if 4096 < p then 0 else Ar.times p (xs.drop (k + 1))) := by
            show _ = _
            rw [HT.out, HD.out, Ar.times, if_neg (by omega), Int.toNat_natCast, hp]
          have h2i : (y : Int) ≤ 64 := by omega
          have h1i : 1 ≤ (y : Int) := by omega
          have hmi : (m : Int) ≤ 4096 := by omega
          have hwr : IntKind.i64.wrap ((m : Int) * (y : Int)) = (p : Nat) := by rw [hpi]; exact IntWalk.i64_in _ (by omega)
          clear hp hy
          by_cases h3 : 4096 < p
          · have h3i : (4096 : Int) < (p : Nat) := by omega
            have Hres : Hid (Ar.times 1 xs = 0) := by show _ = _; rw [HT2.out, if_pos h3]
            go_wp2
            go_ret
            exact ⟨by rw [Hres.out]; rfl, rfl⟩
          · have h3i : ¬ (4096 : Int) < (p : Nat) := by omega
            have HT3 : Hid (Ar.times 1 xs = Ar.times p (xs.drop (k + 1))) := by show _ = _; rw [HT2.out, if_neg h3]
            go_wp2
            go_roundg g'
            case measure => omega
            case rel => exact ⟨k + 1, p, by omega, by go_num, rfl, by omega, HT3.out, rfl⟩
theorem size_any (w : World) (a : Option Addr) (n c : Nat) (xs : List Int) (hl : xs.length = n) (hn : (n : Int) ≤ 1000000000000) (hr : Rd w a (ints .i64 xs)) :
    Calls Tryz.prog 167 #[.slice a n c] w fun e w' => e = .returned (.int .i64 (Ar.size xs : Nat)) ∧ w = w' := by
  have C := Lib.hid (times_any w a n c xs hl hn hr)
  by_cases h1 : n < 1
  · have hs : Ar.size xs = 0 := by rw [Ar.size, if_pos (Or.inl (by omega))]
    have h1i : (n : Int) < 1 := by omega
    rw [hs]
    clear hs hr hl h1
    go_enter Tryz.func167, Tryz.ntmps167
    go_wp2
    go_ret
    exact ⟨rfl, rfl⟩
  · by_cases h2 : 4 < n
    · have hs : Ar.size xs = 0 := by rw [Ar.size, if_pos (Or.inr (by omega))]
      have h1i : ¬ (n : Int) < 1 := by omega
      have h2i : (4 : Int) < (n : Nat) := by omega
      rw [hs]
      clear hs hr hl h1 h2
      go_enter Tryz.func167, Tryz.ntmps167
      go_wp2
      go_ret
      exact ⟨rfl, rfl⟩
    · have hs : Ar.size xs = Ar.times 1 xs := by rw [Ar.size, if_neg (by omega)]
      have h1i : ¬ (n : Int) < 1 := by omega
      have h2i : ¬ (4 : Int) < (n : Nat) := by omega
      rw [hs]
      clear hs hr hl h1 h2
      go_enter Tryz.func167, Tryz.ntmps167
      go_wp2_with fail
      refine C.out.mono ?_
      rintro e w' ⟨rfl, rfl⟩
      go_wp2
      go_ret
      exact ⟨rfl, rfl⟩
theorem shapeCheck_any (w : World) (a : Option Addr) (n c : Nat) (xs : List Int) (hl : xs.length = n) (hn : (n : Int) ≤ 1000000000000) (hr : Rd w a (ints .i64 xs)) :
    Calls Tryz.prog 166 #[.slice a n c] w fun e w' => e = .returned (.bool (decide (0 < Ar.size xs))) ∧ w = w' := by
  have C := size_any w a n c xs hl hn hr
  obtain ⟨s, hs⟩ : ∃ s, Ar.size xs = s := ⟨_, rfl⟩
  rw [hs] at C ⊢
  have HC := Lib.hid C
  clear hs C hr hl
  go_enter Tryz.func166, Tryz.ntmps166
  go_wp2_with fail
  refine HC.out.mono ?_
  rintro e w' ⟨rfl, rfl⟩
  go_wp2
  go_ret
  refine ⟨ret_bool ?_, rfl⟩
  simp
set_option maxRecDepth 100000 in
set_option maxHeartbeats 2000000 in
theorem tenCheck_any (w : World) (sa la : Option Addr) (n c m d : Nat) (s l : List Int) (hs : s.length = n) (hn : (n : Int) ≤ 1000000000000) (hr : Rd w sa (ints .i64 s)) (hl : l.length = m) (hm : (m : Int) ≤ 1000000000000) :
    Calls Tryz.prog 69 #[.agg #[.slice sa n c, .slice la m d]] w fun e w' => e = .returned (.bool (Ar.check s l)) ∧ Touch No w w' := by
  obtain ⟨q, hq⟩ : ∃ q, Ar.size s = q := ⟨_, rfl⟩
  obtain ⟨w1, hw1⟩ : ∃ w1, w1 = w.alloc (.cells #[.slice sa n c, .slice la m d] 75) := ⟨_, rfl⟩
  have t1 : Touch No w w1 := by rw [hw1]; exact (Touch.refl No w).alloc _
  have B := Row.new w 75 #[.slice sa n c, .slice la m d]
  obtain ⟨X, hX⟩ : ∃ X, X = w.heap.size := ⟨_, rfl⟩
  rw [← hw1, ← hX] at B
  have b0 : w1.cell? ⟨X, 0, none⟩ = some (.slice sa n c) := B.cell 0
  have b1 : w1.cell? ⟨X, 1, none⟩ = some (.slice la m d) := B.cell 1
  have hlt : X < w1.heap.size := B.lt
  have C1 : Hid (∀ j, Calls Tryz.prog 166 #[.slice sa n c] (w1.drewN j) fun e w' => e = .returned (.bool (decide (0 < q))) ∧ w' = w1.drewN j) := fun j => by
    have := shapeCheck_any (w1.drewN j) sa n c s hs hn (hr.no (t1.drewN j))
    rw [hq] at this
    exact this.mono fun _ _ ⟨h1, h2⟩ => ⟨h1, h2.symm⟩
  have C2 : Hid (∀ j, Calls Tryz.prog 167 #[.slice sa n c] (w1.drewN j) fun e w' => e = .returned (.int .i64 (q : Nat)) ∧ w' = w1.drewN j) := fun j => by
    have := size_any (w1.drewN j) sa n c s hs hn (hr.no (t1.drewN j))
    rw [hq] at this
    exact this.mono fun _ _ ⟨h1, h2⟩ => ⟨h1, h2.symm⟩
  have T1 := Lib.hid t1
  have HRes : Hid (Ar.check s l = (decide (0 < q) && decide (m = q))) := by show _ = _; rw [Ar.check, hq, hl]
  rw [HRes.out]
  clear hq hr hs hl t1 B HRes
  by_cases h0 : 0 < q
  · rw [decide_eq_true h0] at C1 ⊢
    rw [Bool.true_and]
    go_enter Tryz.func69, Tryz.ntmps69
    go_wp2_with fail
    rw [← hw1, ← hX]
    clear hw1 hX
    go_quiet ((first | (go_at_call 166; exact Calls.quiet_of_same (C1.out _)) | (go_at_call 167; exact Calls.quiet_of_same (C2.out _))))
    go_wp2
    go_ret
    refine ⟨ret_bool ?_, T1.out.drewN _⟩
    rw [Bool.eq_iff_iff]; simp; omega
  · rw [decide_eq_false h0] at C1 ⊢
    rw [Bool.false_and]
    go_enter Tryz.func69, Tryz.ntmps69
    go_wp2_with fail
    rw [← hw1, ← hX]
    clear hw1 hX
    go_quiet ((first | (go_at_call 166; exact Calls.quiet_of_same (C1.out _)) | (go_at_call 167; exact Calls.quiet_of_same (C2.out _))))
    go_wp2
    go_ret
    exact ⟨rfl, T1.out.drewN _⟩
def TwinPost (w : World) (s l : List Int) (e : Ending) (w' : World) : Prop :=
  ∃ sa la, e = .returned (.agg #[.slice sa s.length s.length, .slice la l.length l.length]) ∧ Rd w' sa (ints .i64 s) ∧ Rd w' la (ints .i32 l) ∧ (∀ g o, sa = some ⟨g, o, none⟩ → w.heap.size ≤ g ∧ g < w'.heap.size) ∧ (∀ g o, la = some ⟨g, o, none⟩ → w.heap.size ≤ g ∧ g < w'.heap.size) ∧ sa ≠ none ∧ la ≠ none ∧ Touch No w w'
theorem rd_some {w : World} {k : IntKind} {a : Option Addr} {xs : List Int} (h : Rd w a (ints k xs)) (hp : 1 ≤ xs.length) : a ≠ none := by
  obtain ⟨b, o, e, _⟩ := h.int (i := 0) (by omega)
  rw [e]; exact fun h => by cases h
set_option maxRecDepth 100000 in
set_option maxHeartbeats 4000000 in
theorem twin_any (w : World) (sa la : Option Addr) (n c m d : Nat) (s l : List Int) (hs : s.length = n) (hn : (n : Int) ≤ 1000000000000) (hn1 : 1 ≤ n) (hr : Rd w sa (ints .i64 s)) (hl : l.length = m) (hm : (m : Int) ≤ 1000000000000) (hm1 : 1 ≤ m) (hr2 : Rd w la (ints .i32 l)) :
    Calls Tryz.prog 70 #[.agg #[.slice sa n c, .slice la m d]] w (TwinPost w s l) := by
  have hsa := Lib.hid (rd_some hr (by rw [hs]; exact hn1))
  have hla := Lib.hid (rd_some hr2 (by rw [hl]; exact hm1))
  obtain ⟨w1, hw1⟩ : ∃ w1, w1 = (w.alloc (.cells #[.slice sa n c, .slice la m d] 75)).alloc (.cells #[.slice none 0 0, .slice none 0 0] 75) := ⟨_, rfl⟩
  have t1 : Touch No w w1 := by rw [hw1]; exact ((Touch.refl No w).alloc _).alloc _
  have B := (Row.new w 75 #[.slice sa n c, .slice la m d]).touch ((Touch.refl No _).alloc (.cells #[.slice none 0 0, .slice none 0 0] 75)) id
  have B' := Row.new (w.alloc (.cells #[.slice sa n c, .slice la m d] 75)) 75 #[.slice none 0 0, .slice none 0 0]
  obtain ⟨X, hX⟩ : ∃ X, X = w.heap.size := ⟨_, rfl⟩
  have hX2 : (w.alloc (.cells #[.slice sa n c, .slice la m d] 75)).heap.size = X + 1 := by rw [hX]; simp
  rw [hX2] at B'
  rw [← hX] at B
  rw [← hw1] at B B'
  have HBx := Lib.hid B
  have HBy := Lib.hid B'
  have HXX := Lib.hid hX
  have C1 := Lib.hid (fun (wx : World) (t : Touch No w wx) => cloneI_own wx sa n c s hsa.out (hr.no t) hs hn)
  have C2 := Lib.hid (fun (wx : World) (t : Touch No w wx) => cloneL_own wx la m d l hla.out (hr2.no t) hl hm)
  have T1 := Lib.hid t1
  have Hs := Lib.hid hs
  have Hl := Lib.hid hl
  clear hr hr2 hs hl t1 B B' hX2
  go_enter Tryz.func70, Tryz.ntmps70
  go_wp2_with fail
  rw [← hw1, ← hX]
  clear hw1 hX
  have T1d := T1.out.drew
  have Q : Hid (∀ wx, Touch (fun k => k = X + 1) w1 wx → wx.cell? ⟨X, 0, none⟩ = some (.slice sa n c) ∧ wx.cell? ⟨X, 1, none⟩ = some (.slice la m d)) := fun wx t => ⟨(HBx.out.touch t (by omega)).cell 0, (HBx.out.touch t (by omega)).cell 1⟩
  have Q0 := Q.out w1 (Touch.refl _ w1)
  go_region_held3 (fun w' => w'.cell? ⟨X, 0, none⟩ = some (.slice sa n c) ∧ w'.cell? ⟨X, 1, none⟩ = some (.slice la m d)) (first | exact Q0 | exact Q.out _ ((((q5.no : Touch (fun k => k = X + 1) w1 w5).setCell (p := ⟨X + 1, 0, none⟩) (fun _ => rfl) _).setCell (p := ⟨X + 1, 1, none⟩) (fun _ => rfl) _).drew) | exact Q.out _ (((q5.no : Touch (fun k => k = X + 1) w1 w5).setCell (p := ⟨X + 1, 0, none⟩) (fun _ => rfl) _).setCell (p := ⟨X + 1, 1, none⟩) (fun _ => rfl) _) | exact Q.out _ q5.no | exact Q.out _ q3.no | exact Q.out _ ((Touch.refl _ w1).drew)) (first
    | (go_at_call 169; refine (C1.out _ T1d).mono ?_; rintro e w3 ⟨a3, c3, rfl, o3, hc3, t3⟩; have q3 := ((Touch.refl No w1).drew).trans t3)
    | (go_at_call 168; refine (clipI_any _ a3 n c3 hc3).mono ?_; rintro e w' ⟨rfl, rfl⟩)
    | (go_at_call 171; refine (C2.out _ (T1d.trans t3)).mono ?_; rintro e w5 ⟨a5, c5, rfl, o5, hc5, t5⟩; have q5 := q3.trans t5; have y0 : w5.cell? ⟨X + 1, 0, none⟩ = some (.slice none 0 0) := (HBy.out.touch q5 id).cell 0; have y1 : w5.cell? ⟨X + 1, 1, none⟩ = some (.slice none 0 0) := (HBy.out.touch q5 id).cell 1; have z0 := (HBy.out.touch q5 id).soft 0; have z1 := (HBy.out.touch q5 id).soft 1)
    | (go_at_call 170; refine (clipL_any _ a5 m c5 hc5).mono ?_; rintro e w' ⟨rfl, rfl⟩))
  have hy := HBy.out.lt
  have HY := Lib.hid hy
  have HE : Hid (∀ wx, Touch (fun k => k = X + 1) w5 wx → TwinPost w s l (.returned (.agg #[.slice a3 n n, .slice a5 m m])) wx) := fun wx t => by
    have b3 : ∀ gg oo, a3 = some ⟨gg, oo, none⟩ → w1.heap.size ≤ gg ∧ gg < w3.heap.size := fun gg oo e => o3.block (by rw [e]; rfl)
    have b5 : ∀ gg oo, a5 = some ⟨gg, oo, none⟩ → w3.heap.size ≤ gg ∧ gg < w5.heap.size := fun gg oo e => o5.block (by rw [e]; rfl)
    have h13 : w1.heap.size ≤ w3.heap.size := t3.size
    have h01 := T1.out.size
    have h35 := t5.size
    have h5x := t.size
    have hyy := HY.out
    have r3 : Rd wx a3 (ints .i64 s) := (o3.rd.no t5).touch t (fun gg oo e _ hk => by have := b3 gg oo e; omega)
    have r5 : Rd wx a5 (ints .i32 l) := o5.rd.touch t (fun gg oo e _ hk => by have := b5 gg oo e; omega)
    refine ⟨a3, a5, by rw [Hs.out, Hl.out], r3, r5, fun gg oo e => ?_, fun gg oo e => ?_, rd_some r3 (by rw [Hs.out]; exact hn1), rd_some r5 (by rw [Hl.out]; exact hm1), ?_⟩
    · have := b3 gg oo e; omega
    · have := b5 gg oo e; omega
    · exact ((T1.out.trans q3).trans t5).then t (fun i hi e => by
        have h := HXX.out
        omega)
  clear o3 o5 hc3 hc5 t3 t5 q3 q5 Q Q0 T1d hy
  go_wp2
  refine bodyPost_ret (v := .agg #[.slice a3 n n, .slice a5 m m]) (by simp [results, Tryz.results70, go_sem, y0, y1]) rfl ?_
  exact HE.out _ (((Touch.refl (fun k => k = X + 1) w5).setCell (p := ⟨X + 1, 0, none⟩) (fun _ => rfl) _).setCell (p := ⟨X + 1, 1, none⟩) (fun _ => rfl) _)
end Go.Proofs.YtnffigfafalocaaGreatDoor
