/-
  Package arenas by its own text: New, Used, Peak, Give, Take.
-/
import Derived.Test.YtnffigfafalocaaGreatDoorK05
import Derived.Deep.RegionLawGrows
import Derived.StillTailTactics
import Derived.Deep.RegionHeld3
namespace Go.Proofs.YtnffigfafalocaaGreatDoor
open Go Go.RowKit Go.Maps Go.MuLone
set_option linter.unusedSimpArgs false
set_option linter.unusedVariables false

theorem load64 (w : World) (g o : Nat) (x : Int) (hc : w.cell? ⟨g, o, none⟩ = some (.int .i64 x)) : Calls Tryz.prog 79 #[.pointer (some ⟨g, o, none⟩)] w fun e w' => e = .returned (.int .i64 x) ∧ w = w' := by
  have hr := run_call_load (P := Tryz.prog) Tryz.func177 (by kernel_rfl) (by kernel_rfl) (by kernel_rfl) .i64 (by kernel_rfl) hc
  go_enter Tryz.func79, Tryz.ntmps79
  go_wp2
  go_ret
  exact ⟨rfl, rfl⟩
theorem store64 (w : World) (g o : Nat) (x y : Int) (hc : w.cell? ⟨g, o, none⟩ = some (.int .i64 x)) (hz : w.frozen? ⟨g, o, none⟩ = false) : Calls Tryz.prog 78 #[.pointer (some ⟨g, o, none⟩), .int .i64 y] w fun e w' => e = .returned (.tuple #[]) ∧ w' = w.setCell ⟨g, o, none⟩ (.int .i64 y) := by
  have hr := run_call_store (P := Tryz.prog) Tryz.func176 (by kernel_rfl) (by kernel_rfl) (by kernel_rfl) (by kernel_rfl) (y := y) (k := .i64) hc hz
  go_enter Tryz.func78, Tryz.ntmps78
  go_wp2
  go_end0
  exact ⟨rfl, rfl⟩
def ArEnd (w : World) (g b : Nat) (O : Nat → Prop) (er : Nat) (A' : Ar.Arena) (e : Ending) (w' : World) : Prop := e = .returned (.int .i64 (er : Nat)) ∧ ArAt w' g b 0 A' O ∧ Touch O w w'
section
variable {w : World} {g b : Nat} {A : Ar.Arena} {O : Nat → Prop}
theorem arPeak_in (h : ArAt w g b 0 A O) : Calls Tryz.prog 34 #[.pointer (some ⟨g, 0, none⟩)] w fun e w' => e = .returned (.int .i64 (A.peak : Nat)) ∧ w = w' := by
  have H := Lib.hid h
  have C := Lib.hid (load64 w g 5 _ h.c5)
  have hlt : g < w.heap.size := h.row.lt
  have c0 := h.c0
  clear h
  go_enter Tryz.func34, Tryz.ntmps34
  go_wp2_with fail
  refine (there_any H.out).mono ?_
  rintro e w' ⟨rfl, rfl⟩
  go_wp2_with fail
  refine C.out.mono ?_
  rintro e w' ⟨rfl, rfl⟩
  go_wp2
  go_ret
  exact ⟨rfl, rfl⟩
set_option maxRecDepth 100000 in
set_option maxHeartbeats 1600000 in
theorem arUsed_in (h : ArAt w g b 0 A O) : Calls Tryz.prog 32 #[.pointer (some ⟨g, 0, none⟩)] w (ArEnd w g b O A.used A) := by
  have H := Lib.hid h
  obtain ⟨w1, hw1⟩ : ∃ w1, w1 = w.setCell ⟨g, 0, none⟩ (.int .i32 1) := ⟨_, rfl⟩
  have HL := Lib.hid (h.lock 1)
  rw [← hw1] at HL
  have L1 := Lib.hid (lock_free muLib ⟨g, 0, none⟩ w h.c0 (h.row.soft 0))
  rw [← hw1] at L1
  have c4 := HL.out.1.c4
  have hlt : g < w1.heap.size := HL.out.1.row.lt
  clear h hw1
  go_enter_defers Tryz.func32, Tryz.ntmps32
  go_wp2_with fail
  refine (there_any H.out).mono ?_
  rintro e w' ⟨rfl, rfl⟩
  go_wp2_with fail
  refine L1.out.mono ?_
  rintro e w1 ⟨rfl, rfl⟩
  go_wp2_with fail
  refine leaves_cons (f := 67) (args := #[.pointer (some ⟨g, 0, none⟩)]) (by simp) (by simp [go_sem]) ?_
  refine (unlock_deferred muLib ⟨g, 0, none⟩ .returning _ HL.out.1.c0 (HL.out.1.row.soft 0)).mono ?_
  rintro e u' w'' ⟨rfl, rfl, rfl⟩
  exact ⟨_, results_tmp rfl _ _ _, rfl, (HL.out.1.lock 0).1, HL.out.2.trans (HL.out.1.lock 0).2⟩
set_option maxRecDepth 100000 in
set_option maxHeartbeats 4000000 in
theorem arTake_in (h : ArAt w g b 0 A O) (hok : Ar.Ok A) (id : Nat) (hid : id < 4294967296) (z : Int) (hz : -9223372036854775808 ≤ z ∧ z ≤ 9223372036854775807) (hp : A.puts < 1000000000) :
    Calls Tryz.prog 29 #[.pointer (some ⟨g, 0, none⟩), .int .u32 (id : Nat), .int .i64 z] w (ArEnd w g b O (Ar.takeE A id z) (Ar.takeA A id z)) := by
  have H := Lib.hid h
  obtain ⟨w1, hw1⟩ : ∃ w1, w1 = w.setCell ⟨g, 0, none⟩ (.int .i32 1) := ⟨_, rfl⟩
  have HL := Lib.hid (h.lock 1)
  rw [← hw1] at HL
  have L1 := Lib.hid (lock_free muLib ⟨g, 0, none⟩ w h.c0 (h.row.soft 0))
  rw [← hw1] at L1
  have c4 := HL.out.1.c4
  have c3 := HL.out.1.c3
  have c6 := HL.out.1.c6
  have c0 := HL.out.1.c0
  have hlt : g < w1.heap.size := HL.out.1.row.lt
  have hu1 : (A.used : Int) ≤ A.room := by have := hok.peak; have := hok.room; omega
  have hu2 : (A.room : Int) ≤ 1048576 := by have := hok.max; omega
  have HId := Lib.hid hid
  have Hok := Lib.hid hok
  have Hp := Lib.hid hp
  clear h hw1 hp
  by_cases h0 : z < 0
  · have hE : Ar.takeE A id z = 1 := by rw [Ar.takeE, if_pos h0]
    have hA : Ar.takeA A id z = A := by rw [Ar.takeA, hE, if_neg (by decide)]
    rw [hE, hA]
    cases hl : Ar.look A.its id with
    | none =>
      obtain ⟨D, hD, hM, hh, ha⟩ := HL.out.1.look_none hid hl
      have LK := Lib.hid (And.intro hD (And.intro hh (show D.atKey (.int .u32 (id : Nat)) (.held noPart) = .held (.agg #[.int .i64 0, .slice none 0 0, .slice none 0 0, .bool false]) from ha)))
      clear hl hD hM hh ha hE hA hid hok
      go_enter_defers Tryz.func29, Tryz.ntmps29
      go_wp2_with fail
      refine (there_any H.out).mono ?_
      rintro e w' ⟨rfl, rfl⟩
      go_wp2_with fail
      refine L1.out.mono ?_
      rintro e w1 ⟨rfl, rfl⟩
      go_wp2_with (at_lookup; refine wpList_lookup_part _ rfl _ _ rfl b A.puts D rfl LK.out.1 id HId.out rfl _ LK.out.2.2 _ LK.out.2.1 ?_)
      refine leaves_cons (f := 67) (args := #[.pointer (some ⟨g, 0, none⟩)]) (by simp) (by simp [go_sem]) ?_
      refine (unlock_deferred muLib ⟨g, 0, none⟩ .returning _ (HL.out.1.no ((Touch.refl No w1).alloc _)).c0 ((HL.out.1.no ((Touch.refl No w1).alloc _)).row.soft 0)).mono ?_
      rintro e u' w'' ⟨rfl, rfl, rfl⟩
      exact ⟨_, results_tmp rfl _ _ _, rfl, ((HL.out.1.no ((Touch.refl No w1).alloc _)).lock 0).1, (HL.out.2.alloc _).trans ((HL.out.1.no ((Touch.refl No w1).alloc _)).lock 0).2⟩
    | some x =>
      obtain ⟨D, v, hD, hM, hh, ha, hv⟩ := HL.out.1.look_some hid hl
      obtain ⟨sa, ns, la, nl, xi, hvv⟩ : ∃ sa ns la nl xi, v = .agg #[.int .i64 (x.bytes : Nat), .slice sa ns ns, .slice la nl nl, .bool xi] := by
        unfold ItAt at hv
        split at hv
        · exact ⟨_, _, _, _, _, hv⟩
        · obtain ⟨sa, la, e, _⟩ := hv
          exact ⟨_, _, _, _, _, e⟩
      have hvb : (x.bytes : Int) ≤ A.used := by have := Ar.le_sum hl; have := hok.sum; omega
      have LK := Lib.hid (And.intro hD (And.intro hh ha))
      rw [hvv] at LK
      clear hl hD hM hh ha hv hvv hE hA hid hok
      go_enter_defers Tryz.func29, Tryz.ntmps29
      go_wp2_with fail
      refine (there_any H.out).mono ?_
      rintro e w' ⟨rfl, rfl⟩
      go_wp2_with fail
      refine L1.out.mono ?_
      rintro e w1 ⟨rfl, rfl⟩
      go_wp2_with (at_lookup; refine wpList_lookup_part _ rfl _ _ rfl b A.puts D rfl LK.out.1 id HId.out rfl _ LK.out.2.2 _ LK.out.2.1 ?_)
      refine leaves_cons (f := 67) (args := #[.pointer (some ⟨g, 0, none⟩)]) (by simp) (by simp [go_sem]) ?_
      refine (unlock_deferred muLib ⟨g, 0, none⟩ .returning _ (HL.out.1.no ((Touch.refl No w1).alloc _)).c0 ((HL.out.1.no ((Touch.refl No w1).alloc _)).row.soft 0)).mono ?_
      rintro e u' w'' ⟨rfl, rfl, rfl⟩
      exact ⟨_, results_tmp rfl _ _ _, rfl, ((HL.out.1.no ((Touch.refl No w1).alloc _)).lock 0).1, (HL.out.2.alloc _).trans ((HL.out.1.no ((Touch.refl No w1).alloc _)).lock 0).2⟩
  · cases hl : Ar.look A.its id with
    | some x =>
      have hE : Ar.takeE A id z = 8 := by rw [Ar.takeE, if_neg h0, hl]; rfl
      have hA : Ar.takeA A id z = A := by rw [Ar.takeA, hE, if_neg (by decide)]
      rw [hE, hA]
      obtain ⟨D, v, hD, hM, hh, ha, hv⟩ := HL.out.1.look_some hid hl
      obtain ⟨sa, ns, la, nl, xi, hvv⟩ : ∃ sa ns la nl xi, v = .agg #[.int .i64 (x.bytes : Nat), .slice sa ns ns, .slice la nl nl, .bool xi] := by
        unfold ItAt at hv
        split at hv
        · exact ⟨_, _, _, _, _, hv⟩
        · obtain ⟨sa, la, e, _⟩ := hv
          exact ⟨_, _, _, _, _, e⟩
      have hvb : (x.bytes : Int) ≤ A.used := by have := Ar.le_sum hl; have := hok.sum; omega
      have LK := Lib.hid (And.intro hD (And.intro hh ha))
      rw [hvv] at LK
      clear hl hD hM hh ha hv hvv hE hA hid hok
      go_enter_defers Tryz.func29, Tryz.ntmps29
      go_wp2_with fail
      refine (there_any H.out).mono ?_
      rintro e w' ⟨rfl, rfl⟩
      go_wp2_with fail
      refine L1.out.mono ?_
      rintro e w1 ⟨rfl, rfl⟩
      go_wp2_with (at_lookup; refine wpList_lookup_part _ rfl _ _ rfl b A.puts D rfl LK.out.1 id HId.out rfl _ LK.out.2.2 _ LK.out.2.1 ?_)
      refine leaves_cons (f := 67) (args := #[.pointer (some ⟨g, 0, none⟩)]) (by simp) (by simp [go_sem]) ?_
      refine (unlock_deferred muLib ⟨g, 0, none⟩ .returning _ (HL.out.1.no ((Touch.refl No w1).alloc _)).c0 ((HL.out.1.no ((Touch.refl No w1).alloc _)).row.soft 0)).mono ?_
      rintro e u' w'' ⟨rfl, rfl, rfl⟩
      exact ⟨_, results_tmp rfl _ _ _, rfl, ((HL.out.1.no ((Touch.refl No w1).alloc _)).lock 0).1, (HL.out.2.alloc _).trans ((HL.out.1.no ((Touch.refl No w1).alloc _)).lock 0).2⟩
    | none =>
      obtain ⟨D, hD, hM, hh, ha⟩ := HL.out.1.look_none hid hl
      have LK := Lib.hid (And.intro hD (And.intro hh (show D.atKey (.int .u32 (id : Nat)) (.held noPart) = .held (.agg #[.int .i64 0, .slice none 0 0, .slice none 0 0, .bool false]) from ha)))
      have hwr : IntKind.i64.wrap ((A.room : Int) - (A.used : Int)) = (A.room : Int) - (A.used : Int) := IntWalk.i64_in _ (by omega)
      by_cases h3 : z > (A.room : Int) - A.used
      · have hE : Ar.takeE A id z = 13 := by rw [Ar.takeE, if_neg h0, hl, if_neg (by simp), if_pos h3]
        have hA : Ar.takeA A id z = A := by rw [Ar.takeA, hE, if_neg (by decide)]
        rw [hE, hA]
        have h3' : (A.room : Int) - (A.used : Int) < z := h3
        clear hl hD hM hh ha hE hA hid hok h3
        go_enter_defers Tryz.func29, Tryz.ntmps29
        go_wp2_with fail
        refine (there_any H.out).mono ?_
        rintro e w' ⟨rfl, rfl⟩
        go_wp2_with fail
        refine L1.out.mono ?_
        rintro e w1 ⟨rfl, rfl⟩
        go_wp2_with (at_lookup; refine wpList_lookup_part _ rfl _ _ rfl b A.puts D rfl LK.out.1 id HId.out rfl _ LK.out.2.2 _ LK.out.2.1 ?_)
        go_quiet (fail)
        go_wp2_with fail
        refine leaves_cons (f := 67) (args := #[.pointer (some ⟨g, 0, none⟩)]) (by simp) (by simp [go_sem]) ?_
        refine (unlock_deferred muLib ⟨g, 0, none⟩ .returning _ (HL.out.1.no (((Touch.refl No w1).alloc _).drewN _)).c0 ((HL.out.1.no (((Touch.refl No w1).alloc _).drewN _)).row.soft 0)).mono ?_
        rintro e u' w'' ⟨rfl, rfl, rfl⟩
        exact ⟨_, results_tmp rfl _ _ _, rfl, ((HL.out.1.no (((Touch.refl No w1).alloc _).drewN _)).lock 0).1, ((HL.out.2.alloc _).drewN _).trans ((HL.out.1.no (((Touch.refl No w1).alloc _).drewN _)).lock 0).2⟩
      · have hE : Ar.takeE A id z = 0 := by rw [Ar.takeE, if_neg h0, hl, if_neg (by simp), if_neg h3]
        have h3' : ¬ (A.room : Int) - (A.used : Int) < z := h3
        obtain ⟨n, rfl⟩ : ∃ n : Nat, z = (n : Nat) := ⟨z.toNat, by omega⟩
        have hA : Ar.takeA A id (n : Nat) = ⟨A.room, A.used + n, Nat.max A.peak (A.used + n), A.puts + 1, Ar.put A.its id ⟨n, none⟩⟩ := by rw [Ar.takeA, hE, if_pos rfl, Int.toNat_natCast]
        rw [hE]
        have HA := Lib.hid hA
        have HM := Lib.hid hM
        clear hl hD hM hh ha hE hA hid hok h3
        go_enter_defers Tryz.func29, Tryz.ntmps29
        go_wp2_with fail
        refine (there_any H.out).mono ?_
        rintro e w' ⟨rfl, rfl⟩
        go_wp2_with fail
        refine L1.out.mono ?_
        rintro e w1 ⟨rfl, rfl⟩
        go_wp2_with (at_lookup; refine wpList_lookup_part _ rfl _ _ rfl b A.puts D rfl LK.out.1 id HId.out rfl _ LK.out.2.2 _ LK.out.2.1 ?_)
        go_quiet (fail)
        have hn2 : (n : Int) ≤ A.room := by omega
        have hsum : (A.used : Int) + (n : Int) ≤ 1048576 := by omega
        go_wp2_with (at_mapUpdate; refine wpList_mapUpdate_own _ rfl _ _ _ 145 rfl 38 164 keyU32 Tryz.underlying145 asHeld b A.puts D rfl (ownsMap_touch LK.out.1 (((Touch.refl No w1).alloc _).drewN _) (fun f => f)) (by have := Hp.out; unfold maxLen; omega) _ _ (.int .u32 (id : Nat)) rfl rfl (keyOf_id HId.out) (.held (.agg #[.int .i64 (n : Nat), .slice none 0 0, .slice none 0 0, .bool false])) [] rfl ?_; intro w3 hown3 hgrow3; have H3 := Lib.hid ((HL.out.1.no (((Touch.refl No w1).alloc _).drewN _)).mapped hgrow3 hown3 ((HM.out.touch (((Touch.refl No w1).alloc _).drewN _) (fun _ _ f => f) (fun _ h => h)).put id ⟨n, none⟩ _ rfl)); have d4 := H3.out.1.c4; have d5 := H3.out.1.c5; have dlt : g < w3.heap.size := H3.out.1.row.lt; have df := H3.out.1.row.soft 4; clear hown3 hgrow3)
        obtain ⟨w4, hw4⟩ : ∃ w4, w4 = w3.setCell ⟨g, 4, none⟩ (.int .i64 ((A.used : Int) + (n : Int))) := ⟨_, rfl⟩
        have H4 := Lib.hid (H3.out.1.turn 4 (.int .i64 ((A.used : Int) + (n : Int))) ⟨A.room, A.used + n, A.peak, A.puts + 1, Ar.put A.its id ⟨n, none⟩⟩ rfl rfl (by simp [arCells]))
        rw [← hw4] at H4 ⊢
        have T4 := Lib.hid ((((HL.out.2.alloc _).drewN _).trans H3.out.2).trans H4.out.2)
        have e4 : w4.cell? ⟨g, 4, none⟩ = some (.int .i64 ((A.used : Int) + (n : Int))) := by have := H4.out.1.c4; simpa using this
        have e5 := H4.out.1.c5
        have elt : g < w4.heap.size := H4.out.1.row.lt
        clear hw4 H3 d4 d5 dlt df c3 c4 c6 c0 hlt LK HM
        have HH4 := H4.out.1
        clear H4
        have CL : Hid (∀ j, Calls Tryz.prog 79 #[.pointer (some ⟨g, 5, none⟩)] (w4.drewN j) fun e w' => e = .returned (.int .i64 (A.peak : Nat)) ∧ w4.drewN j = w') := fun j => load64 _ g 5 _ (HH4.no ((Touch.refl No w4).drewN j)).c5
        have H4 := Lib.hid HH4
        clear HH4
        rcases Nat.lt_trichotomy A.peak (A.used + n) with hm | hm | hm
        · have hm' : (A.peak : Int) < (A.used : Int) + (n : Int) := by omega
          have hmc : ((Nat.max A.peak (A.used + n) : Nat) : Int) = (A.used : Int) + (n : Int) := by
            show ((max A.peak (A.used + n) : Nat) : Int) = _
            omega
          have HMC := Lib.hid hmc
          have H4d := H4.out.no (Touch.refl No w4).drew
          clear hmc hm
          go_region_held3 (fun w' => w'.cell? ⟨g, 4, none⟩ = some (.int .i64 ((A.used : Int) + (n : Int)))) (first | exact e4 | exact (World.cell?_setCell_other w4 ⟨g, 5, none⟩ ⟨g, 4, none⟩ _ (by simp)).trans e4) (first
            | (go_at_call 79; refine (load64 _ g 5 _ H4d.c5).mono ?_; rintro e w' ⟨rfl, rfl⟩)
            | (go_at_call 78; refine (store64 _ g 5 _ _ H4d.c5 (H4d.row.soft 5)).mono ?_; rintro e w9 ⟨rfl, rfl⟩))
          have H9 := Lib.hid (H4.out.turn 5 (.int .i64 ((A.used : Int) + (n : Int))) ⟨A.room, A.used + n, Nat.max A.peak (A.used + n), A.puts + 1, Ar.put A.its id ⟨n, none⟩⟩ rfl rfl (by simp only [arCells, List.set]; rw [HMC.out]))
          clear H4d H4
          go_wp2_with fail
          refine leaves_cons (f := 67) (args := #[.pointer (some ⟨g, 0, none⟩)]) (by simp) (by simp [go_sem]) ?_
          refine (unlock_deferred muLib ⟨g, 0, none⟩ .returning _ (H9.out.1.no (Touch.refl No _).drew).c0 ((H9.out.1.no (Touch.refl No _).drew).row.soft 0)).mono ?_
          rintro e u' w'' ⟨rfl, rfl, rfl⟩
          exact ⟨_, results_tmp rfl _ _ _, rfl, by rw [HA.out]; exact ((H9.out.1.no (Touch.refl No _).drew).lock 0).1, ((T4.out.trans H9.out.2).drew).trans ((H9.out.1.no (Touch.refl No _).drew).lock 0).2⟩
        · have hm' : ¬ (A.peak : Int) < (A.used : Int) + (n : Int) := by omega
          have hmc : ((Nat.max A.peak (A.used + n) : Nat) : Int) = (A.peak : Int) := by
            show ((max A.peak (A.used + n) : Nat) : Int) = _
            omega
          have HMC := Lib.hid hmc
          have H4d := H4.out.no (Touch.refl No w4).drew
          clear hmc hm
          go_region_held3 (fun w' => w'.cell? ⟨g, 4, none⟩ = some (.int .i64 ((A.used : Int) + (n : Int)))) (first | exact e4 | exact (World.cell?_setCell_other w4 ⟨g, 5, none⟩ ⟨g, 4, none⟩ _ (by simp)).trans e4) (first
            | (go_at_call 79; refine (load64 _ g 5 _ H4d.c5).mono ?_; rintro e w' ⟨rfl, rfl⟩)
            | (go_at_call 78; refine (store64 _ g 5 _ _ H4d.c5 (H4d.row.soft 5)).mono ?_; rintro e w9 ⟨rfl, rfl⟩))
          have H9 := Lib.hid (H4.out.turn 5 (.int .i64 ((A.peak : Int))) ⟨A.room, A.used + n, Nat.max A.peak (A.used + n), A.puts + 1, Ar.put A.its id ⟨n, none⟩⟩ rfl rfl (by simp only [arCells, List.set]; rw [HMC.out]))
          clear H4d H4
          go_wp2_with fail
          refine leaves_cons (f := 67) (args := #[.pointer (some ⟨g, 0, none⟩)]) (by simp) (by simp [go_sem]) ?_
          refine (unlock_deferred muLib ⟨g, 0, none⟩ .returning _ (H9.out.1.no (Touch.refl No _).drew).c0 ((H9.out.1.no (Touch.refl No _).drew).row.soft 0)).mono ?_
          rintro e u' w'' ⟨rfl, rfl, rfl⟩
          exact ⟨_, results_tmp rfl _ _ _, rfl, by rw [HA.out]; exact ((H9.out.1.no (Touch.refl No _).drew).lock 0).1, ((T4.out.trans H9.out.2).drew).trans ((H9.out.1.no (Touch.refl No _).drew).lock 0).2⟩
        · have hm' : ¬ (A.peak : Int) < (A.used : Int) + (n : Int) := by omega
          have hmc : ((Nat.max A.peak (A.used + n) : Nat) : Int) = (A.peak : Int) := by
            show ((max A.peak (A.used + n) : Nat) : Int) = _
            omega
          have HMC := Lib.hid hmc
          have H4d := H4.out.no (Touch.refl No w4).drew
          clear hmc hm
          go_region_held3 (fun w' => w'.cell? ⟨g, 4, none⟩ = some (.int .i64 ((A.used : Int) + (n : Int)))) (first | exact e4 | exact (World.cell?_setCell_other w4 ⟨g, 5, none⟩ ⟨g, 4, none⟩ _ (by simp)).trans e4) (first
            | (go_at_call 79; refine (load64 _ g 5 _ H4d.c5).mono ?_; rintro e w' ⟨rfl, rfl⟩)
            | (go_at_call 78; refine (store64 _ g 5 _ _ H4d.c5 (H4d.row.soft 5)).mono ?_; rintro e w9 ⟨rfl, rfl⟩))
          have H9 := Lib.hid (H4.out.turn 5 (.int .i64 ((A.peak : Int))) ⟨A.room, A.used + n, Nat.max A.peak (A.used + n), A.puts + 1, Ar.put A.its id ⟨n, none⟩⟩ rfl rfl (by simp only [arCells, List.set]; rw [HMC.out]))
          clear H4d H4
          go_wp2_with fail
          refine leaves_cons (f := 67) (args := #[.pointer (some ⟨g, 0, none⟩)]) (by simp) (by simp [go_sem]) ?_
          refine (unlock_deferred muLib ⟨g, 0, none⟩ .returning _ (H9.out.1.no (Touch.refl No _).drew).c0 ((H9.out.1.no (Touch.refl No _).drew).row.soft 0)).mono ?_
          rintro e u' w'' ⟨rfl, rfl, rfl⟩
          exact ⟨_, results_tmp rfl _ _ _, rfl, by rw [HA.out]; exact ((H9.out.1.no (Touch.refl No _).drew).lock 0).1, ((T4.out.trans H9.out.2).drew).trans ((H9.out.1.no (Touch.refl No _).drew).lock 0).2⟩
set_option maxRecDepth 100000 in
set_option maxHeartbeats 4000000 in
theorem arGive_in (h : ArAt w g b 0 A O) (hok : Ar.Ok A) (id : Nat) (hid : id < 4294967296) :
    Calls Tryz.prog 20 #[.pointer (some ⟨g, 0, none⟩), .int .u32 (id : Nat)] w (ArEnd w g b O (Ar.giveE A id) (Ar.giveA A id)) := by
  have H := Lib.hid h
  obtain ⟨w1, hw1⟩ : ∃ w1, w1 = w.setCell ⟨g, 0, none⟩ (.int .i32 1) := ⟨_, rfl⟩
  have HL := Lib.hid (h.lock 1)
  rw [← hw1] at HL
  have L1 := Lib.hid (lock_free muLib ⟨g, 0, none⟩ w h.c0 (h.row.soft 0))
  rw [← hw1] at L1
  have c4 := HL.out.1.c4
  have c3 := HL.out.1.c3
  have c6 := HL.out.1.c6
  have c0 := HL.out.1.c0
  have hlt : g < w1.heap.size := HL.out.1.row.lt
  have hu1 : (A.used : Int) ≤ A.room := by have := hok.peak; have := hok.room; omega
  have hu2 : (A.room : Int) ≤ 1048576 := by have := hok.max; omega
  have HId := Lib.hid hid
  have Hok := Lib.hid hok
  clear h hw1
  cases hl : Ar.look A.its id with
  | none =>
    have hE : Ar.giveE A id = 7 := by rw [Ar.giveE, hl]; rfl
    have hA : Ar.giveA A id = A := by rw [Ar.giveA, hl]
    rw [hE, hA]
    obtain ⟨D, hD, hM, hh, ha⟩ := HL.out.1.look_none hid hl
    have LK := Lib.hid (And.intro hD (And.intro hh (show D.atKey (.int .u32 (id : Nat)) (.held noPart) = .held (.agg #[.int .i64 0, .slice none 0 0, .slice none 0 0, .bool false]) from ha)))
    clear hl hD hM hh ha hE hA hid hok
    go_enter_defers Tryz.func20, Tryz.ntmps20
    go_wp2_with fail
    refine (there_any H.out).mono ?_
    rintro e w' ⟨rfl, rfl⟩
    go_wp2_with fail
    refine L1.out.mono ?_
    rintro e w1 ⟨rfl, rfl⟩
    go_wp2_with (at_lookup; refine wpList_lookup_part _ rfl _ _ rfl b A.puts D rfl LK.out.1 id HId.out rfl _ LK.out.2.2 _ LK.out.2.1 ?_)
    refine leaves_cons (f := 67) (args := #[.pointer (some ⟨g, 0, none⟩)]) (by simp) (by simp [go_sem]) ?_
    refine (unlock_deferred muLib ⟨g, 0, none⟩ .returning _ (HL.out.1.no ((Touch.refl No w1).alloc _)).c0 ((HL.out.1.no ((Touch.refl No w1).alloc _)).row.soft 0)).mono ?_
    rintro e u' w'' ⟨rfl, rfl, rfl⟩
    exact ⟨_, results_tmp rfl _ _ _, rfl, ((HL.out.1.no ((Touch.refl No w1).alloc _)).lock 0).1, (HL.out.2.alloc _).trans ((HL.out.1.no ((Touch.refl No w1).alloc _)).lock 0).2⟩
  | some x =>
    have hE : Ar.giveE A id = 0 := by rw [Ar.giveE, hl]; rfl
    have hA : Ar.giveA A id = ⟨A.room, A.used - x.bytes, A.peak, A.puts, Ar.del A.its id⟩ := by rw [Ar.giveA, hl]
    rw [hE, hA]
    obtain ⟨D, v, hD, hM, hh, ha, hv⟩ := HL.out.1.look_some hid hl
    obtain ⟨sa, ns, la, nl, xi, hvv⟩ : ∃ sa ns la nl xi, v = .agg #[.int .i64 (x.bytes : Nat), .slice sa ns ns, .slice la nl nl, .bool xi] := by
      unfold ItAt at hv
      split at hv
      · exact ⟨_, _, _, _, _, hv⟩
      · obtain ⟨sa, la, e, _⟩ := hv
        exact ⟨_, _, _, _, _, e⟩
    have hvb : (x.bytes : Int) ≤ A.used := by have := Ar.le_sum hl; have := hok.sum; omega
    have LK := Lib.hid (And.intro hD (And.intro hh ha))
    rw [hvv] at LK
    have HM := Lib.hid hM
    have hwr : IntKind.i64.wrap ((A.used : Int) - (x.bytes : Int)) = (A.used : Int) - (x.bytes : Int) := IntWalk.i64_in _ (by omega)
    have hcast : ((A.used - x.bytes : Nat) : Int) = (A.used : Int) - (x.bytes : Int) := by omega
    have HCA := Lib.hid hcast
    clear hl hD hM hh ha hv hvv hE hA hid hok hcast
    go_enter_defers Tryz.func20, Tryz.ntmps20
    go_wp2_with fail
    refine (there_any H.out).mono ?_
    rintro e w' ⟨rfl, rfl⟩
    go_wp2_with fail
    refine L1.out.mono ?_
    rintro e w1 ⟨rfl, rfl⟩
    go_wp2_with (at_lookup; refine wpList_lookup_part _ rfl _ _ rfl b A.puts D rfl LK.out.1 id HId.out rfl _ LK.out.2.2 _ LK.out.2.1 ?_)
    obtain ⟨w2, hw2⟩ : ∃ w2, w2 = w1.alloc (.cells #[.int .i64 (x.bytes : Nat), .slice sa ns ns, .slice la nl nl, .bool xi] 164) := ⟨_, rfl⟩
    have H2 := HL.out.1.no ((Touch.refl No w1).alloc (.cells #[.int .i64 (x.bytes : Nat), .slice sa ns ns, .slice la nl nl, .bool xi] 164))
    have T2 := HL.out.2.alloc (.cells #[.int .i64 (x.bytes : Nat), .slice sa ns ns, .slice la nl nl, .bool xi] 164)
    have B2 := (Row.new w1 164 #[.int .i64 (x.bytes : Nat), .slice sa ns ns, .slice la nl nl, .bool xi])
    have D2 := ownsMap_touch LK.out.1 ((Touch.refl No w1).alloc (.cells #[.int .i64 (x.bytes : Nat), .slice sa ns ns, .slice la nl nl, .bool xi] 164)) (fun f => f)
    have M2 := HM.out.touch ((Touch.refl No w1).alloc (.cells #[.int .i64 (x.bytes : Nat), .slice sa ns ns, .slice la nl nl, .bool xi] 164)) (fun _ _ f => f) (fun _ h => h)
    obtain ⟨X, hX⟩ : ∃ X, X = w1.heap.size := ⟨_, rfl⟩
    rw [← hw2] at H2 T2 B2 D2 M2
    rw [← hX] at B2
    rw [← hw2, ← hX]
    have c4 : w2.cell? ⟨g, 4, none⟩ = some (.int .i64 (A.used : Nat)) := H2.c4
    have c6 : w2.cell? ⟨g, 6, none⟩ = some (.map (some b)) := H2.c6
    have b0 : w2.cell? ⟨X, 0, none⟩ = some (.int .i64 (x.bytes : Nat)) := B2.cell 0
    have hlt2 : g < w2.heap.size := H2.row.lt
    have hXlt : X < w2.heap.size := B2.lt
    have f4 := H2.row.soft 4
    have HH2 := Lib.hid H2
    have TT2 := Lib.hid T2
    have MM2 := Lib.hid (And.intro D2 M2)
    clear hw2 hX H2 T2 B2 D2 M2 c3 c0 hlt LK HM
    go_still_tail 9, (by kernel_rfl)
    have HT4 : Hid (∀ j, Touch (fun k => k = g) w2 ((w2.drewN j).setCell ⟨g, 4, none⟩ (.int .i64 ((A.used : Int) - (x.bytes : Int))))) := fun j => ((Touch.refl (fun k => k = g) w2).drewN j).setCell (p := ⟨g, 4, none⟩) (fun _ => rfl) _
    have H4 : Hid (∀ j, ArAt ((w2.drewN j).setCell ⟨g, 4, none⟩ (.int .i64 ((A.used : Int) - (x.bytes : Int)))) g b 1 ⟨A.room, A.used - x.bytes, A.peak, A.puts, A.its⟩ O ∧ Touch O w2 ((w2.drewN j).setCell ⟨g, 4, none⟩ (.int .i64 ((A.used : Int) - (x.bytes : Int))))) := fun j => by
      have h := (HH2.out.no ((Touch.refl No w2).drewN j)).turn 4 (.int .i64 ((A.used : Int) - (x.bytes : Int))) ⟨A.room, A.used - x.bytes, A.peak, A.puts, A.its⟩ rfl rfl (by simp only [arCells, List.set]; rw [HCA.out])
      exact ⟨h.1, ((Touch.refl O w2).drewN j).trans h.2⟩
    have hgb : g ≠ b := HH2.out.ne
    have HGB := Lib.hid hgb
    clear hgb
    go_wp2_with (at_delete; refine wpList_delete_own _ rfl _ _ 145 38 rfl 164 keyU32 Tryz.underlying145 asHeld b A.puts D rfl (ownsMap_touch MM2.out.1 (HT4.out _) (fun e => HGB.out e.symm)) _ _ rfl (keyOf_id HId.out) ?_; intro w3 own3 turn3; have H3 := Lib.hid ((H4.out _).1.mapped turn3.grown own3 ((MM2.out.2.touch (HT4.out _) (fun k hk e => hk.2.1 e) (fun _ h => h)).del id)); have T3 := Lib.hid ((TT2.out.trans (H4.out _).2).trans H3.out.2); clear own3 turn3)
    refine leaves_cons (f := 67) (args := #[.pointer (some ⟨g, 0, none⟩)]) (by simp) (by simp [go_sem]) ?_
    refine (unlock_deferred muLib ⟨g, 0, none⟩ .returning _ H3.out.1.c0 (H3.out.1.row.soft 0)).mono ?_
    rintro e u' w'' ⟨rfl, rfl, rfl⟩
    exact ⟨_, results_tmp rfl _ _ _, rfl, (H3.out.1.lock 0).1, T3.out.trans (H3.out.1.lock 0).2⟩
end
end Go.Proofs.YtnffigfafalocaaGreatDoor
