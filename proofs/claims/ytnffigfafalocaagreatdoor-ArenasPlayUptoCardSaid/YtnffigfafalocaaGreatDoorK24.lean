/-
  Package arenas by its own text: Get, New.
-/
import Derived.Test.YtnffigfafalocaaGreatDoorK23
namespace Go.Proofs.YtnffigfafalocaaGreatDoor
open Go Go.RowKit Go.Maps Go.MuLone
set_option linter.unusedSimpArgs false
set_option linter.unusedVariables false

def ArGet (w : World) (g b : Nat) (O : Nat → Prop) (A : Ar.Arena) (er : Nat) (s l : List Int) (e : Ending) (w' : World) : Prop :=
  ∃ sa la, e = .returned (.tuple #[.agg #[.slice sa s.length s.length, .slice la l.length l.length], .int .i64 (er : Nat)]) ∧ Rd w' sa (ints .i64 s) ∧ Rd w' la (ints .i32 l) ∧ (∀ g o, sa = some ⟨g, o, none⟩ → w.heap.size ≤ g ∧ g < w'.heap.size) ∧ (∀ g o, la = some ⟨g, o, none⟩ → w.heap.size ≤ g ∧ g < w'.heap.size) ∧ ArAt w' g b 0 A O ∧ Touch O w w'
section
variable {w : World} {g b : Nat} {A : Ar.Arena} {O : Nat → Prop}
set_option maxRecDepth 100000 in
set_option maxHeartbeats 8000000 in
theorem arGet_in (h : ArAt w g b 0 A O) (hlo : ∀ k, O k → k < w.heap.size) (hok : Ar.Ok A) (id : Nat) (hid : id < 4294967296) :
    Calls Tryz.prog 26 #[.pointer (some ⟨g, 0, none⟩), .int .u32 (id : Nat)] w (ArGet w g b O A (Ar.getE A id) (Ar.getS A id) (Ar.getL A id)) := by
  have hgw := h.row.lt
  obtain ⟨T, hT⟩ : ∃ T, T = w.heap.size := ⟨_, rfl⟩
  obtain ⟨wa, hwa⟩ : ∃ wa, wa = w.alloc (.cells #[.slice none 0 0, .slice none 0 0] 75) := ⟨_, rfl⟩
  have hT1 : Touch No w wa := by rw [hwa]; exact (Touch.refl No w).alloc _
  have B := Row.new w 75 #[.slice none 0 0, .slice none 0 0]
  rw [← hwa, ← hT] at B
  have ha := h.no hT1
  obtain ⟨w1, hw1⟩ : ∃ w1, w1 = wa.setCell ⟨g, 0, none⟩ (.int .i32 1) := ⟨_, rfl⟩
  have hL := ha.lock 1
  rw [← hw1] at hL
  have hgT : ¬ g = T := by omega
  have hB1 : Row w1 T 75 [.slice none 0 0, .slice none 0 0] := by
    rw [hw1]
    exact B.touch ((Touch.refl (fun k => k = g) wa).setCell (p := ⟨g, 0, none⟩) (fun _ => rfl) _) (fun e => hgT e.symm)
  have L1 := Lib.hid (lock_free muLib ⟨g, 0, none⟩ wa ha.c0 (ha.row.soft 0))
  rw [← hw1] at L1
  have T1 := Lib.hid (show Touch O w w1 from (hT1.no).trans hL.2)
  have HL := Lib.hid hL.1
  have HA := Lib.hid ha
  have HB1 := Lib.hid hB1
  have c6 := hL.1.c6
  have hlt : g < w1.heap.size := hL.1.row.lt
  have tc0 : w1.cell? ⟨T, 0, none⟩ = some (.slice none 0 0) := hB1.cell 0
  have tc1 : w1.cell? ⟨T, 1, none⟩ = some (.slice none 0 0) := hB1.cell 1
  have ts0 := hB1.soft 0
  have ts1 := hB1.soft 1
  have hTlt : T < w1.heap.size := hB1.lt
  have HId := Lib.hid hid
  have HOT : Hid (∀ k, O k → ¬ k = T) := fun k hk e => by have := hlo k hk; omega
  clear h ha hL hB1 B hT1 hw1 hgw
  cases hl : Ar.look A.its id with
  | none =>
    have hE : Ar.getE A id = 7 := by rw [Ar.getE, hl]
    have hS : Ar.getS A id = [] := by rw [Ar.getS, hl]
    have hLL : Ar.getL A id = [] := by rw [Ar.getL, hl]
    rw [hE, hS, hLL]
    obtain ⟨D, hD, hM, hh, hat⟩ := HL.out.look_none hid hl
    have LK := Lib.hid (And.intro hD (And.intro hh (show D.atKey (.int .u32 (id : Nat)) (.held noPart) = .held (.agg #[.int .i64 0, .slice none 0 0, .slice none 0 0, .bool false]) from hat)))
    clear hl hD hM hh hat hE hS hLL hid hok hlo
    go_enter_defers Tryz.func26, Tryz.ntmps26
    go_wp2_with fail
    rw [← hwa, ← hT]
    have HTT := Lib.hid hT
    clear hwa hT
    refine (there_any HA.out).mono ?_
    rintro e w' ⟨rfl, rfl⟩
    go_wp2_with fail
    refine L1.out.mono ?_
    rintro e w1 ⟨rfl, rfl⟩
    go_wp2_with (at_lookup; refine wpList_lookup_part _ rfl _ _ rfl b A.puts D rfl LK.out.1 id HId.out rfl _ LK.out.2.2 _ LK.out.2.1 ?_)
    obtain ⟨w2, hw2⟩ : ∃ w2, w2 = ((w1.setCell ⟨T, 0, none⟩ (.slice none 0 0)).setCell ⟨T, 1, none⟩ (.slice none 0 0)).alloc (.cells #[.int .i64 0, .slice none 0 0, .slice none 0 0, .bool false] 164) := ⟨_, rfl⟩
    have t2 : Touch (fun k => k = T) w1 w2 := by rw [hw2]; exact ((((Touch.refl (fun k => k = T) w1).setCell (p := ⟨T, 0, none⟩) (fun _ => rfl) _).setCell (p := ⟨T, 1, none⟩) (fun _ => rfl) _).alloc _)
    have R2 : Row w2 T 75 [.slice none 0 0, .slice none 0 0] := by rw [hw2]; exact ((HB1.out.setCell 0 _).setCell 1 _).touch ((Touch.refl No _).alloc _) (fun f => f)
    rw [← hw2]
    have T2 : Touch O w w2 := T1.out.then t2 (fun i hi e => by have := HTT.out; omega)
    have H2 := HL.out.touch t2 (fun k hk e => HOT.out k hk e)
    clear hw2
    refine leaves_cons (f := 67) (args := #[.pointer (some ⟨g, 0, none⟩)]) (by simp) (by simp [go_sem]) ?_
    refine (unlock_deferred muLib ⟨g, 0, none⟩ .returning _ H2.c0 (H2.row.soft 0)).mono ?_
    rintro e u' w'' ⟨rfl, rfl, rfl⟩
    have H3 := H2.lock 0
    have R3 := R2.touch ((Touch.refl (fun k => k = g) w2).setCell (p := ⟨g, 0, none⟩) (fun _ => rfl) (.int .i32 0)) (fun e => hgT e.symm)
    have r0 := R3.cell 0
    have r1 := R3.cell 1
    simp only [List.getElem?_cons_zero, List.getElem?_cons_succ] at r0 r1
    refine ⟨.tuple #[.agg #[.slice none 0 0, .slice none 0 0], .int .i64 7], by simp [results, Tryz.results26, go_sem, r0, r1], none, none, rfl, Rd.nil _ _, Rd.nil _ _, (fun _ _ e => by cases e), (fun _ _ e => by cases e), H3.1, T2.trans H3.2⟩
  | some x =>
    obtain ⟨xb, xt⟩ := x
    obtain ⟨D, v, hD, hM, hh, hat, hv⟩ := HL.out.look_some hid hl
    cases xt with
    | none =>
      have hE : Ar.getE A id = 9 := by rw [Ar.getE, hl]
      have hS : Ar.getS A id = [] := by rw [Ar.getS, hl]
      have hLL : Ar.getL A id = [] := by rw [Ar.getL, hl]
      rw [hE, hS, hLL]
      have hvv : v = .agg #[.int .i64 (xb : Nat), .slice none 0 0, .slice none 0 0, .bool false] := hv
      have LK := Lib.hid (And.intro hD (And.intro hh hat))
      rw [hvv] at LK
      clear hl hD hM hh hat hE hS hLL hid hok hv hvv hlo
      go_enter_defers Tryz.func26, Tryz.ntmps26
      go_wp2_with fail
      rw [← hwa, ← hT]
      have HTT := Lib.hid hT
      clear hwa hT
      refine (there_any HA.out).mono ?_
      rintro e w' ⟨rfl, rfl⟩
      go_wp2_with fail
      refine L1.out.mono ?_
      rintro e w1 ⟨rfl, rfl⟩
      go_wp2_with (at_lookup; refine wpList_lookup_part _ rfl _ _ rfl b A.puts D rfl LK.out.1 id HId.out rfl _ LK.out.2.2 _ LK.out.2.1 ?_)
      obtain ⟨w2, hw2⟩ : ∃ w2, w2 = ((w1.setCell ⟨T, 0, none⟩ (.slice none 0 0)).setCell ⟨T, 1, none⟩ (.slice none 0 0)).alloc (.cells #[.int .i64 (xb : Nat), .slice none 0 0, .slice none 0 0, .bool false] 164) := ⟨_, rfl⟩
      have t2 : Touch (fun k => k = T) w1 w2 := by rw [hw2]; exact ((((Touch.refl (fun k => k = T) w1).setCell (p := ⟨T, 0, none⟩) (fun _ => rfl) _).setCell (p := ⟨T, 1, none⟩) (fun _ => rfl) _).alloc _)
      have R2 : Row w2 T 75 [.slice none 0 0, .slice none 0 0] := by rw [hw2]; exact ((HB1.out.setCell 0 _).setCell 1 _).touch ((Touch.refl No _).alloc _) (fun f => f)
      rw [← hw2]
      have T2 : Touch O w w2 := T1.out.then t2 (fun i hi e => by have := HTT.out; omega)
      have H2 := HL.out.touch t2 (fun k hk e => HOT.out k hk e)
      clear hw2
      refine leaves_cons (f := 67) (args := #[.pointer (some ⟨g, 0, none⟩)]) (by simp) (by simp [go_sem]) ?_
      refine (unlock_deferred muLib ⟨g, 0, none⟩ .returning _ H2.c0 (H2.row.soft 0)).mono ?_
      rintro e u' w'' ⟨rfl, rfl, rfl⟩
      have H3 := H2.lock 0
      have R3 := R2.touch ((Touch.refl (fun k => k = g) w2).setCell (p := ⟨g, 0, none⟩) (fun _ => rfl) (.int .i32 0)) (fun e => hgT e.symm)
      have r0 := R3.cell 0
      have r1 := R3.cell 1
      simp only [List.getElem?_cons_zero, List.getElem?_cons_succ] at r0 r1
      refine ⟨.tuple #[.agg #[.slice none 0 0, .slice none 0 0], .int .i64 9], by simp [results, Tryz.results26, go_sem, r0, r1], none, none, rfl, Rd.nil _ _, Rd.nil _ _, (fun _ _ e => by cases e), (fun _ _ e => by cases e), H3.1, T2.trans H3.2⟩
    | some sl =>
      obtain ⟨s, l⟩ := sl
      have hE : Ar.getE A id = 0 := by rw [Ar.getE, hl]
      have hS : Ar.getS A id = s := by rw [Ar.getS, hl]
      have hLL : Ar.getL A id = l := by rw [Ar.getL, hl]
      rw [hE, hS, hLL]
      obtain ⟨sa, la, hvv, rs, rl, bs, bl, ns, nl, hck⟩ := (show ∃ sa la, v = .agg #[.int .i64 (xb : Nat), .slice sa s.length s.length, .slice la l.length l.length, .bool true] ∧ Rd w1 sa (ints .i64 s) ∧ Rd w1 la (ints .i32 l) ∧ (∀ g' o, sa = some ⟨g', o, none⟩ → O g' ∧ g' ≠ g ∧ g' ≠ b) ∧ (∀ g' o, la = some ⟨g', o, none⟩ → O g' ∧ g' ≠ g ∧ g' ≠ b) ∧ sa ≠ none ∧ la ≠ none ∧ Ar.check s l = true from hv)
      have LK := Lib.hid (And.intro hD (And.intro hh hat))
      rw [hvv] at LK
      have hpos := Ar.check_pos hck
      obtain ⟨n, hn⟩ : ∃ n, s.length = n := ⟨_, rfl⟩
      obtain ⟨m, hm⟩ : ∃ m, l.length = m := ⟨_, rfl⟩
      have hl4 : (n : Int) ≤ 1000000000000 := by omega
      have hlm : (m : Int) ≤ 1000000000000 := by
        have h2 : Ar.check s l = true := hck
        unfold Ar.check at h2
        rw [Bool.and_eq_true, decide_eq_true_iff, decide_eq_true_iff] at h2
        have := Ar.size_le s
        omega
      rw [hn, hm] at LK
      have hn1 : 1 ≤ n := by omega
      have hm1 : 1 ≤ m := by omega
      have Hn := Lib.hid hn
      have Hm := Lib.hid hm
      have C4 : Hid (∀ wx, Touch No w1 wx → Calls Tryz.prog 70 #[.agg #[.slice sa n n, .slice la m m]] wx fun e w' => ∃ sb lb, e = .returned (.agg #[.slice sb n n, .slice lb m m]) ∧ Rd w' sb (ints .i64 s) ∧ Rd w' lb (ints .i32 l) ∧ (∀ g o, sb = some ⟨g, o, none⟩ → wx.heap.size ≤ g ∧ g < w'.heap.size) ∧ (∀ g o, lb = some ⟨g, o, none⟩ → wx.heap.size ≤ g ∧ g < w'.heap.size) ∧ sb ≠ none ∧ lb ≠ none ∧ Touch No wx w') := fun wx t => by
        have := twin_any wx sa la n n m m s l hn hl4 hn1 (rs.no t) hm hlm hm1 (rl.no t)
        unfold TwinPost at this
        rw [hn, hm] at this
        exact this
      clear hl hD hM hh hat hE hS hLL hid hok hv hvv rs rl bs bl ns nl hck hpos hn hm hlo
      go_enter_defers Tryz.func26, Tryz.ntmps26
      go_wp2_with fail
      rw [← hwa, ← hT]
      have HTT := Lib.hid hT
      clear hwa hT
      refine (there_any HA.out).mono ?_
      rintro e w' ⟨rfl, rfl⟩
      go_wp2_with fail
      refine L1.out.mono ?_
      rintro e w1 ⟨rfl, rfl⟩
      go_wp2_with (at_lookup; refine wpList_lookup_part _ rfl _ _ rfl b A.puts D rfl LK.out.1 id HId.out rfl _ LK.out.2.2 _ LK.out.2.1 ?_)
      obtain ⟨w2, hw2⟩ : ∃ w2, w2 = w1.alloc (.cells #[.int .i64 (xb : Nat), .slice sa n n, .slice la m m, .bool true] 164) := ⟨_, rfl⟩
      have t2 : Touch No w1 w2 := by rw [hw2]; exact (Touch.refl No w1).alloc _
      rw [← hw2]
      have T2 := Lib.hid t2
      clear hw2 t2
      refine (C4.out w2 T2.out).mono ?_
      rintro e w4 ⟨sb, lb, rfl, rs, rl, bs, bl, ns', nl', t4⟩
      have t14 := T2.out.trans t4
      have R4 := HB1.out.touch t14 (fun f => f)
      have tc0 : w4.cell? ⟨T, 0, none⟩ = some (.slice none 0 0) := R4.cell 0
      have tc1 : w4.cell? ⟨T, 1, none⟩ = some (.slice none 0 0) := R4.cell 1
      have ts0 := R4.soft 0
      have ts1 := R4.soft 1
      have hT4 := R4.lt
      have HT4 := Lib.hid t14
      have HR4 := Lib.hid R4
      have HS := Lib.hid (And.intro rs (And.intro rl (And.intro bs (And.intro bl t4.size))))
      clear rs rl bs bl ns' nl' t4 t14 R4 C4
      go_wp2_with fail
      obtain ⟨w5, hw5⟩ : ∃ w5, w5 = (w4.setCell ⟨T, 0, none⟩ (.slice sb n n)).setCell ⟨T, 1, none⟩ (.slice lb m m) := ⟨_, rfl⟩
      have t5 : Touch (fun k => k = T) w4 w5 := by rw [hw5]; exact (((Touch.refl (fun k => k = T) w4).setCell (p := ⟨T, 0, none⟩) (fun _ => rfl) _).setCell (p := ⟨T, 1, none⟩) (fun _ => rfl) _)
      have R5 : Row w5 T 75 [.slice sb n n, .slice lb m m] := by rw [hw5]; exact (HR4.out.setCell 0 _).setCell 1 _
      rw [← hw5]
      clear hw5
      have H5 := (HL.out.no HT4.out).touch t5 (fun k hk e => HOT.out k hk e)
      refine leaves_cons (f := 67) (args := #[.pointer (some ⟨g, 0, none⟩)]) (by simp) (by simp [go_sem]) ?_
      refine (unlock_deferred muLib ⟨g, 0, none⟩ .returning _ H5.c0 (H5.row.soft 0)).mono ?_
      rintro e u' w'' ⟨rfl, rfl, rfl⟩
      have H6 := H5.lock 0
      have t6 : Touch (fun k => k = g) w5 (w5.setCell ⟨g, 0, none⟩ (.int .i32 0)) := (Touch.refl (fun k => k = g) w5).setCell (p := ⟨g, 0, none⟩) (fun _ => rfl) (.int .i32 0)
      have R6 := R5.touch t6 (fun e => hgT e.symm)
      have r0 := R6.cell 0
      have r1 := R6.cell 1
      simp only [List.getElem?_cons_zero, List.getElem?_cons_succ] at r0 r1
      obtain ⟨rs, rl, bs, bl, h24⟩ := HS.out
      have h45 := t5.size
      have h56 := t6.size
      have h12 := T2.out.size
      have h01 := T1.out.size
      have hTT := HTT.out
      have hTl : T < w1.heap.size := HB1.out.lt
      have hgl : g < w1.heap.size := HL.out.row.lt
      have nb : ∀ gg oo, sb = some ⟨gg, oo, none⟩ → ¬ gg = T ∧ ¬ gg = g := fun gg oo e => by have := bs gg oo e; omega
      have nb2 : ∀ gg oo, lb = some ⟨gg, oo, none⟩ → ¬ gg = T ∧ ¬ gg = g := fun gg oo e => by have := bl gg oo e; omega
      refine ⟨.tuple #[.agg #[.slice sb n n, .slice lb m m], .int .i64 0], by simp [results, Tryz.results26, go_sem, r0, r1], sb, lb, by rw [Hn.out, Hm.out]; rfl, (rs.touch t5 (fun gg oo e _ => (nb gg oo e).1)).touch t6 (fun gg oo e _ => (nb gg oo e).2), (rl.touch t5 (fun gg oo e _ => (nb2 gg oo e).1)).touch t6 (fun gg oo e _ => (nb2 gg oo e).2), fun gg oo e => ?_, fun gg oo e => ?_, H6.1, ((T1.out.trans HT4.out.no).then t5 (fun i hi e => by omega)).trans H6.2⟩
      · have := bs gg oo e; omega
      · have := bl gg oo e; omega
theorem arNew_bad (w : World) (z : Int) (hz : z < 0 ∨ 1048576 < z) : Calls Tryz.prog 17 #[.int .i64 z] w fun e w' => e = .returned (.tuple #[.pointer none, .int .i64 1]) ∧ w = w' := by
  by_cases h0 : z < 0
  · go_enter Tryz.func17, Tryz.ntmps17
    go_wp2
    go_ret2
    exact ⟨rfl, rfl⟩
  · have h1 : 1048576 < z := by omega
    go_enter Tryz.func17, Tryz.ntmps17
    go_wp2
    go_ret2
    exact ⟨rfl, rfl⟩
def ArNew (w : World) (n : Nat) (e : Ending) (w' : World) : Prop := ∃ g b, e = .returned (.tuple #[.pointer (some ⟨g, 0, none⟩), .int .i64 0]) ∧ ArAt w' g b 0 (Ar.new n) (fun k => k = g ∨ k = b) ∧ Touch No w w' ∧ w.heap.size ≤ g ∧ w.heap.size ≤ b ∧ g < w'.heap.size ∧ b < w'.heap.size
theorem arNew_in (w : World) (n : Nat) (hn : n ≤ 1048576) : Calls Tryz.prog 17 #[.int .i64 (n : Nat)] w (ArNew w n) := by
  have hmm := @run_makeMap Tryz.prog
  have hni : (n : Int) ≤ 1048576 := by omega
  have h0 : ¬ (n : Int) < 0 := by omega
  have HFin : Hid (ArAt ((w.alloc (.map #[] 0)).alloc (.cells #[.int .i32 0, .int .u32 0, .int .i64 1, .int .i64 (n : Nat), .int .i64 0, .int .i64 0, .map (some w.heap.size)] 157)) (w.heap.size + 1) w.heap.size 0 (Ar.new n) (fun k => k = w.heap.size + 1 ∨ k = w.heap.size)) := by
    have hr := Row.new (w.alloc (.map #[] 0)) 157 #[.int .i32 0, .int .u32 0, .int .i64 1, .int .i64 (n : Nat), .int .i64 0, .int .i64 0, .map (some w.heap.size)]
    have hs : (w.alloc (.map #[] 0)).heap.size = w.heap.size + 1 := by simp
    rw [hs] at hr
    exact ⟨hr, ⟨.map [], ownsMap_touch (World.ownsMap_made w Tryz.prog 38 asHeld) ((Touch.refl No _).alloc _) (fun f => f), MapOf.nil _ _⟩, Or.inl rfl, Or.inr rfl, by omega⟩
  go_enter Tryz.func17, Tryz.ntmps17
  go_wp2
  go_ret2
  exact ⟨w.heap.size + 1, w.heap.size, rfl, HFin.out, ((Touch.refl No w).alloc _).alloc _, by omega, by omega, by simp, by simp; omega⟩
end
end Go.Proofs.YtnffigfafalocaaGreatDoor
