/-
  Package arenas by its own text: Put, Get, New.
-/
import Derived.Test.YtnffigfafalocaaGreatDoorK21
import Derived.Test.YtnffigfafalocaaGreatDoorK22
namespace Go.Proofs.YtnffigfafalocaaGreatDoor
open Go Go.RowKit Go.Maps Go.MuLone
set_option linter.unusedSimpArgs false
set_option linter.unusedVariables false

theorem ArAt.wide {w : World} {g b : Nat} {lk : Int} {A : Ar.Arena} {O O' : Nat → Prop} (h : ArAt w g b lk A O) (hO : ∀ k, O k → O' k) : ArAt w g b lk A O' := by
  obtain ⟨D, hD, hM⟩ := h.map
  exact ⟨h.row, ⟨D, hD, hM.touch (Touch.refl No w) (fun _ _ f => f) (fun k hk => ⟨hO k hk.1, hk.2⟩)⟩, hO g h.og, hO b h.ob, h.ne⟩
def ArPut (w : World) (g b : Nat) (O : Nat → Prop) (er : Nat) (A' : Ar.Arena) (e : Ending) (w' : World) : Prop :=
  e = .returned (.int .i64 (er : Nat)) ∧ ∃ O', ArAt w' g b 0 A' O' ∧ Touch O w w' ∧ (∀ k, O' k → O k ∨ w.heap.size ≤ k) ∧ ∀ k, O' k → O k ∨ k < w'.heap.size
section
variable {w : World} {g b : Nat} {A : Ar.Arena} {O : Nat → Prop}
set_option maxRecDepth 100000 in
set_option maxHeartbeats 8000000 in
theorem arPut_in (h : ArAt w g b 0 A O) (hok : Ar.Ok A) (id : Nat) (hid : id < 4294967296) (sa la : Option Addr) (n c m d : Nat) (s l : List Int) (hs : s.length = n) (hn : (n : Int) ≤ 1000000000000) (hr : Rd w sa (ints .i64 s)) (hl : l.length = m) (hm : (m : Int) ≤ 1000000000000) (hr2 : Rd w la (ints .i32 l)) (hkr : ∀ w', Touch O w w' → Rd w' sa (ints .i64 s) ∧ Rd w' la (ints .i32 l)) (hp : A.puts < 1000000000) :
    Calls Tryz.prog 22 #[.pointer (some ⟨g, 0, none⟩), .int .u32 (id : Nat), .agg #[.slice sa n c, .slice la m d]] w (ArPut w g b O (Ar.putE A id s l) (Ar.putA A id s l)) := by
  have hgw := h.row.lt
  obtain ⟨T, hT⟩ : ∃ T, T = w.heap.size := ⟨_, rfl⟩
  obtain ⟨wa, hwa⟩ : ∃ wa, wa = w.alloc (.cells #[.slice sa n c, .slice la m d] 75) := ⟨_, rfl⟩
  have hT1 : Touch No w wa := by rw [hwa]; exact (Touch.refl No w).alloc _
  have B := Row.new w 75 #[.slice sa n c, .slice la m d]
  rw [← hwa, ← hT] at B
  have ha := h.no hT1
  obtain ⟨w1, hw1⟩ : ∃ w1, w1 = wa.setCell ⟨g, 0, none⟩ (.int .i32 1) := ⟨_, rfl⟩
  have hL := ha.lock 1
  rw [← hw1] at hL
  have hgT : ¬ g = T := by omega
  have hB1 : Row w1 T 75 [.slice sa n c, .slice la m d] := by
    rw [hw1]
    exact B.touch ((Touch.refl (fun k => k = g) wa).setCell (p := ⟨g, 0, none⟩) (fun _ => rfl) _) (fun e => hgT e.symm)
  have L1 := Lib.hid (lock_free muLib ⟨g, 0, none⟩ wa ha.c0 (ha.row.soft 0))
  rw [← hw1] at L1
  have T1 := Lib.hid (show Touch O w w1 from (hT1.no).trans hL.2)
  have HL := Lib.hid hL.1
  have HA := Lib.hid ha
  have HB1 := Lib.hid hB1
  have c6 := hL.1.c6
  have hlt : g < w1.heap.size := hL.1.row.lt
  have tc0 : w1.cell? ⟨T, 0, none⟩ = some (.slice sa n c) := hB1.cell 0
  have tc1 : w1.cell? ⟨T, 1, none⟩ = some (.slice la m d) := hB1.cell 1
  have hTlt : T < w1.heap.size := hB1.lt
  have HId := Lib.hid hid
  have Hok := Lib.hid hok
  have Hs := Lib.hid hs
  have Hl := Lib.hid hl
  have Hp := Lib.hid hp
  have Hrs : Hid (∀ wx, Touch No w1 wx → Rd wx sa (ints .i64 s)) := fun wx t => (hkr wx (T1.out.trans t.no)).1
  have Hrl : Hid (∀ wx, Touch No w1 wx → Rd wx la (ints .i32 l)) := fun wx t => (hkr wx (T1.out.trans t.no)).2
  have hmi : (m : Int) ≤ 1000000000000 := hm
  clear h ha hL hB1 B hT1 hw1 hgw hs hl hr hr2 hkr hp
  cases hl : Ar.look A.its id with
  | none =>
    have hE : Ar.putE A id s l = 7 := by rw [Ar.putE, hl]
    have hA : Ar.putA A id s l = A := by rw [Ar.putA, hl]
    rw [hE, hA]
    obtain ⟨D, hD, hM, hh, hat⟩ := HL.out.look_none hid hl
    have LK := Lib.hid (And.intro hD (And.intro hh (show D.atKey (.int .u32 (id : Nat)) (.held noPart) = .held (.agg #[.int .i64 0, .slice none 0 0, .slice none 0 0, .bool false]) from hat)))
    clear hl hD hM hh hat hE hA hid hok
    go_enter_defers Tryz.func22, Tryz.ntmps22
    go_wp2_with fail
    rw [← hwa, ← hT]
    have HTT := Lib.hid hT
    clear hwa hT
    refine (there_any HA.out).mono ?_
    rintro e w' ⟨rfl, rfl⟩
    go_wp2_with fail
    refine L1.out.mono ?_
    rintro e w1 ⟨rfl, rfl⟩
    go_wp2_with (at_lookup; refine wpList_lookup_part _ rfl _ _ rfl b A.puts D rfl LK.out.1 id HId.out rfl _ LK.out.2.2 _ LK.out.2.1 ?_)
    refine leaves_cons (f := 67) (args := #[.pointer (some ⟨g, 0, none⟩)]) (by simp) (by simp [go_sem]) ?_
    refine (unlock_deferred muLib ⟨g, 0, none⟩ .returning _ (HL.out.no ((Touch.refl No w1).alloc _)).c0 ((HL.out.no ((Touch.refl No w1).alloc _)).row.soft 0)).mono ?_
    rintro e u' w'' ⟨rfl, rfl, rfl⟩
    exact ⟨_, results_tmp rfl _ _ _, rfl, O, ((HL.out.no ((Touch.refl No w1).alloc _)).lock 0).1, (T1.out.alloc _).trans ((HL.out.no ((Touch.refl No w1).alloc _)).lock 0).2, fun k hk => Or.inl hk, fun k hk => Or.inl hk⟩
  | some x =>
    obtain ⟨D, v, hD, hM, hh, hat, hv⟩ := HL.out.look_some hid hl
    obtain ⟨qa, qs, ka, ks, xi, hvv⟩ : ∃ sa ns la nl xi, v = .agg #[.int .i64 (x.bytes : Nat), .slice sa ns ns, .slice la nl nl, .bool xi] := by
      unfold ItAt at hv
      split at hv
      · exact ⟨_, _, _, _, _, hv⟩
      · obtain ⟨sa, la, e, _⟩ := hv
        exact ⟨_, _, _, _, _, e⟩
    have hvb : (x.bytes : Int) ≤ 1048576 := by have := Ar.le_sum hl; have := hok.sum; have := hok.peak; have := hok.room; have := hok.max; omega
    have LK := Lib.hid (And.intro hD (And.intro hh hat))
    rw [hvv] at LK
    have HM := Lib.hid hM
    by_cases hck : Ar.check s l = true
    · by_cases h4 : 4 * l.length > x.bytes
      · have hE : Ar.putE A id s l = 13 := by rw [Ar.putE, hl]; simp only; rw [if_neg (by rw [hck]; decide), if_pos h4]
        have hA : Ar.putA A id s l = A := by rw [Ar.putA, hl]; simp only; rw [if_neg (by rw [hck]; decide), if_pos h4]
        rw [hE, hA]
        have h4i : (x.bytes : Int) < 4 * (m : Nat) := by rw [Hl.out] at h4; omega
        clear hl hD hM hh hat hv hvv hE hA hid hok h4
        go_enter_defers Tryz.func22, Tryz.ntmps22
        go_wp2_with fail
        rw [← hwa, ← hT]
        have HTT := Lib.hid hT
        clear hwa hT
        refine (there_any HA.out).mono ?_
        rintro e w' ⟨rfl, rfl⟩
        go_wp2_with fail
        refine L1.out.mono ?_
        rintro e w1 ⟨rfl, rfl⟩
        go_wp2_with (at_lookup; refine wpList_lookup_part _ rfl _ _ rfl b A.puts D rfl LK.out.1 id HId.out rfl _ LK.out.2.2 _ LK.out.2.1 ?_)
        obtain ⟨w2, hw2⟩ : ∃ w2, w2 = w1.alloc (.cells #[.int .i64 (x.bytes : Nat), .slice qa qs qs, .slice ka ks ks, .bool xi] 164) := ⟨_, rfl⟩
        have t2 : Touch No w1 w2 := by rw [hw2]; exact (Touch.refl No w1).alloc _
        have B2 := Row.new w1 164 #[.int .i64 (x.bytes : Nat), .slice qa qs qs, .slice ka ks ks, .bool xi]
        obtain ⟨X, hX⟩ : ∃ X, X = w1.heap.size := ⟨_, rfl⟩
        rw [← hw2, ← hX] at B2
        rw [← hw2, ← hX]
        have HXX := Lib.hid hX
        have hTX : ¬ T = X := by omega
        have hgX : ¬ g = X := by omega
        have T2 := Lib.hid t2
        have HB2 := Lib.hid B2
        clear hw2 t2 B2 tc0 tc1 c6 hX
        refine (tenCheck_any w2 sa la n c m d s l Hs.out hn (Hrs.out _ T2.out) Hl.out hm).mono ?_
        rintro e w3 ⟨rfl, t3⟩
        have T3 := Lib.hid (T2.out.trans t3)
        have tc0 : w3.cell? ⟨T, 0, none⟩ = some (.slice sa n c) := (HB1.out.touch T3.out (fun f => f)).cell 0
        have tc1 : w3.cell? ⟨T, 1, none⟩ = some (.slice la m d) := (HB1.out.touch T3.out (fun f => f)).cell 1
        have xc0 : w3.cell? ⟨X, 0, none⟩ = some (.int .i64 (x.bytes : Nat)) := (HB2.out.touch t3 (fun f => f)).cell 0
        have HB3 := Lib.hid (HB2.out.touch t3 (fun f => f))
        have c6 : w3.cell? ⟨g, 6, none⟩ = some (.map (some b)) := (HL.out.no T3.out).c6
        have hlt3 : g < w3.heap.size := (HL.out.no T3.out).row.lt
        have hTlt3 : T < w3.heap.size := (HB1.out.touch T3.out (fun f => f)).lt
        have hXlt3 : X < w3.heap.size := HB3.out.lt
        clear t3
        rw [hck]
        go_wp2_with fail
        refine leaves_cons (f := 67) (args := #[.pointer (some ⟨g, 0, none⟩)]) (by simp) (by simp [go_sem]) ?_
        refine (unlock_deferred muLib ⟨g, 0, none⟩ .returning _ (HL.out.no T3.out).c0 ((HL.out.no T3.out).row.soft 0)).mono ?_
        rintro e u' w'' ⟨rfl, rfl, rfl⟩
        exact ⟨_, results_tmp rfl _ _ _, rfl, O, ((HL.out.no T3.out).lock 0).1, (T1.out.trans T3.out.no).trans ((HL.out.no T3.out).lock 0).2, fun k hk => Or.inl hk, fun k hk => Or.inl hk⟩
      · have hpos := Ar.check_pos hck
        have hn1 : 1 ≤ n := by rw [← Hs.out]; exact hpos.1
        have hm1 : 1 ≤ m := by rw [← Hl.out]; exact hpos.2.2
        have hE : Ar.putE A id s l = 0 := by rw [Ar.putE, hl]; simp only; rw [if_neg (by rw [hck]; decide), if_neg h4]
        have hA : Ar.putA A id s l = ⟨A.room, A.used, A.peak, A.puts + 1, Ar.put A.its id ⟨x.bytes, some (s, l)⟩⟩ := by rw [Ar.putA, hl]; simp only; rw [if_neg (by rw [hck]; decide), if_neg h4]
        rw [hE, hA]
        have h4i : ¬ (x.bytes : Int) < 4 * (m : Nat) := by rw [Hl.out] at h4; omega
        have Hck := Lib.hid hck
        clear hl hD hM hh hat hv hvv hE hA hid hok h4 hpos hck
        go_enter_defers Tryz.func22, Tryz.ntmps22
        go_wp2_with fail
        rw [← hwa, ← hT]
        have HTT := Lib.hid hT
        clear hwa hT
        refine (there_any HA.out).mono ?_
        rintro e w' ⟨rfl, rfl⟩
        go_wp2_with fail
        refine L1.out.mono ?_
        rintro e w1 ⟨rfl, rfl⟩
        go_wp2_with (at_lookup; refine wpList_lookup_part _ rfl _ _ rfl b A.puts D rfl LK.out.1 id HId.out rfl _ LK.out.2.2 _ LK.out.2.1 ?_)
        obtain ⟨w2, hw2⟩ : ∃ w2, w2 = w1.alloc (.cells #[.int .i64 (x.bytes : Nat), .slice qa qs qs, .slice ka ks ks, .bool xi] 164) := ⟨_, rfl⟩
        have t2 : Touch No w1 w2 := by rw [hw2]; exact (Touch.refl No w1).alloc _
        have B2 := Row.new w1 164 #[.int .i64 (x.bytes : Nat), .slice qa qs qs, .slice ka ks ks, .bool xi]
        obtain ⟨X, hX⟩ : ∃ X, X = w1.heap.size := ⟨_, rfl⟩
        rw [← hw2, ← hX] at B2
        rw [← hw2, ← hX]
        have HXX := Lib.hid hX
        have hTX : ¬ T = X := by omega
        have hgX : ¬ g = X := by omega
        have T2 := Lib.hid t2
        have HB2 := Lib.hid B2
        clear hw2 t2 B2 tc0 tc1 c6 hX
        refine (tenCheck_any w2 sa la n c m d s l Hs.out hn (Hrs.out _ T2.out) Hl.out hm).mono ?_
        rintro e w3 ⟨rfl, t3⟩
        have T3 := Lib.hid (T2.out.trans t3)
        have tc0 : w3.cell? ⟨T, 0, none⟩ = some (.slice sa n c) := (HB1.out.touch T3.out (fun f => f)).cell 0
        have tc1 : w3.cell? ⟨T, 1, none⟩ = some (.slice la m d) := (HB1.out.touch T3.out (fun f => f)).cell 1
        have xc0 : w3.cell? ⟨X, 0, none⟩ = some (.int .i64 (x.bytes : Nat)) := (HB2.out.touch t3 (fun f => f)).cell 0
        have HB3 := Lib.hid (HB2.out.touch t3 (fun f => f))
        have c6 : w3.cell? ⟨g, 6, none⟩ = some (.map (some b)) := (HL.out.no T3.out).c6
        have hlt3 : g < w3.heap.size := (HL.out.no T3.out).row.lt
        have hTlt3 : T < w3.heap.size := (HB1.out.touch T3.out (fun f => f)).lt
        have hXlt3 : X < w3.heap.size := HB3.out.lt
        clear t3
        rw [Hck.out]
        have C4 : Hid (Calls Tryz.prog 70 #[.agg #[.slice sa n c, .slice la m d]] w3 fun e w' => ∃ sb lb, e = .returned (.agg #[.slice sb n n, .slice lb m m]) ∧ Rd w' sb (ints .i64 s) ∧ Rd w' lb (ints .i32 l) ∧ (∀ g o, sb = some ⟨g, o, none⟩ → w3.heap.size ≤ g ∧ g < w'.heap.size) ∧ (∀ g o, lb = some ⟨g, o, none⟩ → w3.heap.size ≤ g ∧ g < w'.heap.size) ∧ sb ≠ none ∧ lb ≠ none ∧ Touch No w3 w') := by
          have := twin_any w3 sa la n c m d s l Hs.out hn hn1 (Hrs.out _ T3.out) Hl.out hm hm1 (Hrl.out _ T3.out)
          unfold TwinPost at this
          rw [Hs.out, Hl.out] at this
          exact this
        go_wp2_with fail
        refine C4.out.mono ?_
        rintro e w4 ⟨sb, lb, rfl, rs, rl, bs, bl, ns', nl', t4⟩
        have R4 := HB3.out.touch t4 (fun f => f)
        have HB4 := Lib.hid R4
        have xc1 : w4.cell? ⟨X, 1, none⟩ = some (.slice qa qs qs) := R4.cell 1
        have xc2 : w4.cell? ⟨X, 2, none⟩ = some (.slice ka ks ks) := R4.cell 2
        have xc3 : w4.cell? ⟨X, 3, none⟩ = some (.bool xi) := R4.cell 3
        have xs1 := R4.soft 1
        have xs2 := R4.soft 2
        have xs3 := R4.soft 3
        have hX4 := R4.lt
        have c6 : w4.cell? ⟨g, 6, none⟩ = some (.map (some b)) := (HL.out.no (T3.out.trans t4)).c6
        have hlt4 : g < w4.heap.size := (HL.out.no (T3.out.trans t4)).row.lt
        have HT := Lib.hid (And.intro rs (And.intro rl (And.intro bs (And.intro bl (And.intro ns' (And.intro nl' t4))))))
        clear rs rl bs bl ns' nl' t4 R4 C4 tc0 tc1 xc0 hlt3 hTlt3 hXlt3
        go_wp2_with fail
        obtain ⟨w5, hw5⟩ : ∃ w5, w5 = ((w4.setCell ⟨X, 1, none⟩ (.slice sb n n)).setCell ⟨X, 2, none⟩ (.slice lb m m)).setCell ⟨X, 3, none⟩ (.bool true) := ⟨_, rfl⟩
        have t45 : Touch (fun k => k = X) w4 w5 := by rw [hw5]; exact (((Touch.refl (fun k => k = X) w4).setCell (p := ⟨X, 1, none⟩) (fun _ => rfl) _).setCell (p := ⟨X, 2, none⟩) (fun _ => rfl) _).setCell (p := ⟨X, 3, none⟩) (fun _ => rfl) _
        have R5 : Row w5 X 164 [.int .i64 (x.bytes : Nat), .slice sb n n, .slice lb m m, .bool true] := by rw [hw5]; exact ((HB4.out.setCell 1 _).setCell 2 _).setCell 3 _
        rw [← hw5]
        clear hw5 xc1 xc2 xc3 xs1 xs2 xs3 hX4 c6 hlt4
        have hX3 : X < w3.heap.size := HB3.out.lt
        have T5 : Touch No w1 w5 := ((T3.out.trans HT.out.2.2.2.2.2.2).then t45 (fun i hi e => by have := HXX.out; omega))
        have H5 := Lib.hid (HL.out.no T5)
        have c6 : w5.cell? ⟨g, 6, none⟩ = some (.map (some b)) := H5.out.c6
        have hlt5 : g < w5.heap.size := H5.out.row.lt
        have hX5 : X < w5.heap.size := R5.lt
        have x0 : w5.cell? ⟨X, 0, none⟩ = some (.int .i64 (x.bytes : Nat)) := R5.cell 0
        have x1 : w5.cell? ⟨X, 1, none⟩ = some (.slice sb n n) := R5.cell 1
        have x2 : w5.cell? ⟨X, 2, none⟩ = some (.slice lb m m) := R5.cell 2
        have x3 : w5.cell? ⟨X, 3, none⟩ = some (.bool true) := R5.cell 3
        have hb1 : b < w1.heap.size := LK.out.1.lt
        have HItem : Hid (ItAt w5 (fun k => (O k ∨ (w3.heap.size ≤ k ∧ k < w4.heap.size)) ∧ k ≠ g ∧ k ≠ b) ⟨x.bytes, some (s, l)⟩ (.agg #[.int .i64 (x.bytes : Nat), .slice sb n n, .slice lb m m, .bool true])) := by
          obtain ⟨rs, rl, bs, bl, ns', nl', t4⟩ := HT.out
          have h13 := T3.out.size
          refine ⟨sb, lb, by rw [Hs.out, Hl.out], rs.touch t45 (fun gg oo e _ hk => by have := bs gg oo e; omega), rl.touch t45 (fun gg oo e _ hk => by have := bl gg oo e; omega), fun gg oo e => ⟨Or.inr (bs gg oo e), ?_, ?_⟩, fun gg oo e => ⟨Or.inr (bl gg oo e), ?_, ?_⟩, ns', nl', Hck.out⟩
          · have := bs gg oo e; omega
          · have := bs gg oo e; omega
          · have := bl gg oo e; omega
          · have := bl gg oo e; omega
        have HT5 := Lib.hid T5
        have HS5 := Lib.hid (And.intro HT.out.2.2.2.2.2.2.size t45.size)
        have HS3 := Lib.hid T3.out.size
        have HMW := Lib.hid (HM.out.touch T5 (fun _ _ f => f) (O' := fun k => (O k ∨ (w3.heap.size ≤ k ∧ k < w4.heap.size)) ∧ k ≠ g ∧ k ≠ b) (fun k hk => ⟨Or.inl hk.1, hk.2⟩))
        clear t45 R5 T5 hX3 hb1
        go_still_tail 6, (by kernel_rfl)
        go_wp2_with (at_mapUpdate; refine wpList_mapUpdate_own _ rfl _ _ _ 145 rfl 38 164 keyU32 Tryz.underlying145 asHeld b A.puts D rfl (ownsMap_touch LK.out.1 (HT5.out.drewN _) (fun f => f)) (by have := Hp.out; unfold maxLen; omega) _ _ (.int .u32 (id : Nat)) rfl rfl (keyOf_id HId.out) (.held (.agg #[.int .i64 (x.bytes : Nat), .slice sb n n, .slice lb m m, .bool true])) [] rfl ?_; intro w6 own6 grow6; have H6 := Lib.hid (((H5.out.wide (O' := fun k => O k ∨ (w3.heap.size ≤ k ∧ k < w4.heap.size)) (fun k => Or.inl)).no ((Touch.refl No w5).drewN _)).mapped grow6 own6 ((HMW.out.touch ((Touch.refl No w5).drewN _) (fun _ _ f => f) (fun _ h => h)).put id ⟨x.bytes, some (s, l)⟩ _ (HItem.out.touch ((Touch.refl No w5).drewN _) (fun _ _ f => f) (fun _ h => h)))).1; have T6 := Lib.hid ((T1.out.trans ((HT5.out.drewN _).no)).trans (((Touch.refl (fun k => k = b) _).grown grow6 (fun k e _ => (Option.some.inj e).symm)).mono (fun k _ e => e ▸ HL.out.ob))); have Z6 := Lib.hid grow6.size; clear own6 grow6)
        refine leaves_cons (f := 67) (args := #[.pointer (some ⟨g, 0, none⟩)]) (by simp) (by simp [go_sem]) ?_
        refine (unlock_deferred muLib ⟨g, 0, none⟩ .returning _ H6.out.c0 (H6.out.row.soft 0)).mono ?_
        rintro e u' w'' ⟨rfl, rfl, rfl⟩
        refine ⟨_, results_tmp rfl _ _ _, rfl, _, (H6.out.lock 0).1, T6.out.trans (((Touch.refl (fun k => k = g) _).setCell (p := ⟨g, 0, none⟩) (fun _ => rfl) _).mono (fun k _ e => e ▸ HL.out.og)), fun k hk => ?_, fun k hk => ?_⟩
        · rcases hk with hk | hk
          · exact Or.inl hk
          · have := T1.out.size
            have := HS3.out
            exact Or.inr (by omega)
        · rcases hk with hk | hk
          · exact Or.inl hk
          · have := HS5.out.2
            have h6 := Z6.out
            refine Or.inr ?_
            have : w5.heap.size ≤ w6.heap.size := h6
            have h7 : ∀ v, (w6.setCell ⟨g, 0, none⟩ v).heap.size = w6.heap.size := fun v => by simp [World.setCell]
            rw [h7]
            omega
    · have hck' : Ar.check s l = false := by simpa using hck
      have hE : Ar.putE A id s l = 1 := by rw [Ar.putE, hl]; simp only; rw [if_pos hck']
      have hA : Ar.putA A id s l = A := by rw [Ar.putA, hl]; simp only; rw [if_pos hck']
      rw [hE, hA]
      clear hl hD hM hh hat hv hvv hE hA hid hok hck
      go_enter_defers Tryz.func22, Tryz.ntmps22
      go_wp2_with fail
      rw [← hwa, ← hT]
      have HTT := Lib.hid hT
      clear hwa hT
      refine (there_any HA.out).mono ?_
      rintro e w' ⟨rfl, rfl⟩
      go_wp2_with fail
      refine L1.out.mono ?_
      rintro e w1 ⟨rfl, rfl⟩
      go_wp2_with (at_lookup; refine wpList_lookup_part _ rfl _ _ rfl b A.puts D rfl LK.out.1 id HId.out rfl _ LK.out.2.2 _ LK.out.2.1 ?_)
      obtain ⟨w2, hw2⟩ : ∃ w2, w2 = w1.alloc (.cells #[.int .i64 (x.bytes : Nat), .slice qa qs qs, .slice ka ks ks, .bool xi] 164) := ⟨_, rfl⟩
      have t2 : Touch No w1 w2 := by rw [hw2]; exact (Touch.refl No w1).alloc _
      have B2 := Row.new w1 164 #[.int .i64 (x.bytes : Nat), .slice qa qs qs, .slice ka ks ks, .bool xi]
      obtain ⟨X, hX⟩ : ∃ X, X = w1.heap.size := ⟨_, rfl⟩
      rw [← hw2, ← hX] at B2
      rw [← hw2, ← hX]
      have HXX := Lib.hid hX
      have hTX : ¬ T = X := by omega
      have hgX : ¬ g = X := by omega
      have T2 := Lib.hid t2
      have HB2 := Lib.hid B2
      clear hw2 t2 B2 tc0 tc1 c6 hX
      refine (tenCheck_any w2 sa la n c m d s l Hs.out hn (Hrs.out _ T2.out) Hl.out hm).mono ?_
      rintro e w3 ⟨rfl, t3⟩
      have T3 := Lib.hid (T2.out.trans t3)
      have tc0 : w3.cell? ⟨T, 0, none⟩ = some (.slice sa n c) := (HB1.out.touch T3.out (fun f => f)).cell 0
      have tc1 : w3.cell? ⟨T, 1, none⟩ = some (.slice la m d) := (HB1.out.touch T3.out (fun f => f)).cell 1
      have xc0 : w3.cell? ⟨X, 0, none⟩ = some (.int .i64 (x.bytes : Nat)) := (HB2.out.touch t3 (fun f => f)).cell 0
      have HB3 := Lib.hid (HB2.out.touch t3 (fun f => f))
      have c6 : w3.cell? ⟨g, 6, none⟩ = some (.map (some b)) := (HL.out.no T3.out).c6
      have hlt3 : g < w3.heap.size := (HL.out.no T3.out).row.lt
      have hTlt3 : T < w3.heap.size := (HB1.out.touch T3.out (fun f => f)).lt
      have hXlt3 : X < w3.heap.size := HB3.out.lt
      clear t3
      rw [hck']
      go_wp2_with fail
      refine leaves_cons (f := 67) (args := #[.pointer (some ⟨g, 0, none⟩)]) (by simp) (by simp [go_sem]) ?_
      refine (unlock_deferred muLib ⟨g, 0, none⟩ .returning _ (HL.out.no T3.out).c0 ((HL.out.no T3.out).row.soft 0)).mono ?_
      rintro e u' w'' ⟨rfl, rfl, rfl⟩
      exact ⟨_, results_tmp rfl _ _ _, rfl, O, ((HL.out.no T3.out).lock 0).1, (T1.out.trans T3.out.no).trans ((HL.out.no T3.out).lock 0).2, fun k hk => Or.inl hk, fun k hk => Or.inl hk⟩
end
end Go.Proofs.YtnffigfafalocaaGreatDoor
