/-
  Package drydocklaw24 by its own text: the walk of ArenasPut.
-/
import Derived.Test.YtkiehoboeiengaaK24
import Derived.Test.YtkiehoboeiengaaK25
import Derived.Test.YtkiehoboeiengaaK05
namespace Go.Proofs.Ytkiehoboeiengaa
open Go Go.RowKit
set_option linter.unusedSimpArgs false
set_option linter.unusedVariables false

theorem apt_ints {w0 w : World} {g : Nat} {A : Ar.Arena} {E : List Part} {a : Option Addr} {n c : Nat} {zs : List Int} (hb : Ints w0 a n c zs) (h1 : 1 ≤ n) (h : Ars w0 w g A E) : Apt w0 w E a (ints .i32 zs) :=
  apt_old hb.rd (by rw [ints_length, hb.len]; exact h1) h.end
theorem tenSameK (w : World) (sa la sb lb : Option Addr) (n c m d n' c' m' d' : Nat) (s l : List Int) (hs : s.length = n) (hn : (n : Int) ≤ 1000000000000) (hr : Rd w sa (ints .i64 s)) (hl : l.length = m) (hm : (m : Int) ≤ 1000000000000) (hr2 : Rd w la (ints .i32 l))
    (hs' : s.length = n') (hr' : Rd w sb (ints .i64 s)) (hl' : l.length = m') (hr2' : Rd w lb (ints .i32 l)) :
    Calls Try.prog 29 #[.agg #[.slice sa n c, .slice la m d], .agg #[.slice sb n' c', .slice lb m' d']] w fun e w' => e = .returned (.bool true) ∧ Touch No w w' :=
  (tenSame_any w sa la sb lb n c m d n' c' m' d' s l s l hs hn hr hl hm hr2 hs' hr' hl' hr2').mono fun e w' ⟨he, t⟩ => ⟨by rw [he]; simp, t⟩
theorem Ars.cells {w0 w : World} {g : Nat} {A : Ar.Arena} {E : List Part} (h : Ars w0 w g A E) {T : TypeId} {x : Nat} {u v : Value} (hp : Part.row x T [u, v] ∈ E) : w.cell? ⟨x, 0, none⟩ = some u ∧ w.cell? ⟨x, 1, none⟩ = some v :=
  ⟨(h.row hp).cell 0, (h.row hp).cell 1⟩

set_option maxRecDepth 100000 in
set_option maxHeartbeats 16000000 in
theorem arenasPut_go (w : World) (pl : Option Addr) (n cl : Nat) (L : List Int) (hL : Ints w pl n cl L) (pm : Option Addr) (m cm : Nat) (M : List Int) (hM : Ints w pm m cm M) (id : Nat) (hid : id < 4294967296) (h1 : 1 ≤ n) (h2 : n ≤ 64) (h3 : 1 ≤ m) (h4 : m ≤ n) :
    Calls Try.prog 4 #[.slice pl n cl, .slice pm m cm, .int .u32 (id : Nat)] w (LawPost w) := by
  obtain ⟨id2, hid2, hw2, hne⟩ : ∃ id2 : Nat, id2 < 4294967296 ∧ ((id : Int) + 1) % 4294967296 = (id2 : Nat) ∧ id2 ≠ id := ⟨(id + 1) % 4294967296, by omega, by omega, by omega⟩
  obtain ⟨A1, A2, A3, A4, A5, A6, A7, hP⟩ := Ar.puts_all (L := L) (M := M) hne hL.len hM.len h1 h2 h3 h4
  have HP := Lib.hid hP
  have HL := Lib.hid hL
  have HM := Lib.hid hM
  have K1 := Lib.hid h1
  have K3 := Lib.hid h3
  have F4 : Hid (4 * (n : Int) = ((4 * n : Nat) : Int)) := by show _ = _; omega
  clear hP hL hM hne
  go_enter Try.func4, Try.ntmps4
  go_wp2_with fail
  refine (ars_newK w w (Touch.refl No w) 1000 1000 rfl (by decide)).mono ?_
  rintro e w1 ⟨g, rfl, q1⟩
  have H1 := Lib.hid q1
  clear q1
  go_wp2_with fail
  obtain ⟨w2, hw⟩ : ∃ w2, w2 = ((((w1.alloc (.cells #[.int .i64 (n : Nat)] 3)).alloc (.cells #[.slice (some ⟨w1.heap.size, 0, none⟩) 1 1, .slice pl n cl] 56)).alloc (.cells #[.int .i64 (m : Nat)] 3)).alloc (.cells #[.slice (some ⟨w1.heap.size + 1 + 1, 0, none⟩) 1 1, .slice pm m cm] 56)) := ⟨_, rfl⟩
  obtain ⟨b2, hb2⟩ : ∃ b2, b2 = w1.heap.size + 1 + 1 + 1 := ⟨_, rfl⟩
  obtain ⟨b1, hb1⟩ : ∃ b1, b1 = w1.heap.size + 1 + 1 := ⟨_, rfl⟩
  obtain ⟨a2, ha2⟩ : ∃ a2, a2 = w1.heap.size + 1 := ⟨_, rfl⟩
  obtain ⟨a1, ha1⟩ : ∃ a1, a1 = w1.heap.size := ⟨_, rfl⟩
  have H2 : Hid (Ars w w2 g (Ar.new 1000) [Part.row b2 56 [.slice (some ⟨b1, 0, none⟩) 1 1, .slice pm m cm], Part.row b1 3 (ints .i64 [(m : Int)]), Part.row a2 56 [.slice (some ⟨a1, 0, none⟩) 1 1, .slice pl n cl], Part.row a1 3 (ints .i64 [(n : Int)])]) := by
    show Ars _ _ _ _ _
    rw [hw, hb2, hb1, ha2, ha1]
    exact (((H1.out.pushRow _ rfl 3 #[.int .i64 (n : Nat)] _ rfl).pushRow _ (by simp) 56 #[.slice (some ⟨w1.heap.size, 0, none⟩) 1 1, .slice pl n cl] _ rfl).pushRow _ (by simp) 3 #[.int .i64 (m : Nat)] _ rfl).pushRow _ (by simp) 56 #[.slice (some ⟨w1.heap.size + 1 + 1, 0, none⟩) 1 1, .slice pm m cm] _ rfl
  rw [← hw, ← hb2, ← hb1, ← ha2, ← ha1]
  clear hw hb2 hb1 ha2 ha1 H1
  refine (H2.out.takeK id id rfl hid (4 * (n : Int)) (by omega) (by decide) 0 (by rw [F4.out, HP.out.e1]; rfl) A1 (by rw [F4.out]; exact HP.out.a1)).mono ?_
  rintro e w3 ⟨rfl, q1⟩
  have H3 := Lib.hid q1
  clear q1 H2
  go_wp2_with fail
  refine (H3.out.takeK _ id2 rfl hid2 (4 * (n : Int)) (by omega) (Nat.lt_trans HP.out.p1 (by decide)) 0 (by rw [F4.out, HP.out.e2]; rfl) A2 (by rw [F4.out]; exact HP.out.a2)).mono ?_
  rintro e w4 ⟨rfl, q1⟩
  have H4 := Lib.hid q1
  clear q1 H3
  obtain ⟨ca20, ca21⟩ := H4.out.cells (T := 56) (x := a2) (u := .slice (some ⟨a1, 0, none⟩) 1 1) (v := .slice pl n cl) (by simp)
  go_wp2_with fail
  clear ca20 ca21
  refine (H4.out.putK id id rfl hid _ _ _ _ _ _ [(n : Int)] L _ _ rfl rfl rfl (by show (1 : Int) ≤ _; decide) (apt_row (x := a1) (T := 3) (by simp) H4.out) HL.out.len (by omega) (apt_ints HL.out K1.out H4.out) (Nat.lt_trans HP.out.p2 (by decide)) 0 (by rw [HP.out.e3]; rfl) A3 HP.out.a3).mono ?_
  rintro e w5 ⟨rfl, q1⟩
  have H5 := Lib.hid q1
  clear q1 H4
  obtain ⟨cb20, cb21⟩ := H5.out.cells (T := 56) (x := b2) (u := .slice (some ⟨b1, 0, none⟩) 1 1) (v := .slice pm m cm) (by simp)
  go_wp2_with fail
  clear cb20 cb21
  refine (H5.out.putK _ id2 rfl hid2 _ _ _ _ _ _ [(m : Int)] M _ _ rfl rfl rfl (by show (1 : Int) ≤ _; decide) (apt_row (x := b1) (T := 3) (by simp) H5.out) HM.out.len (by omega) (apt_ints HM.out K3.out H5.out) (Nat.lt_trans HP.out.p3 (by decide)) 0 (by rw [HP.out.e4]; rfl) A4 HP.out.a4).mono ?_
  rintro e w6 ⟨rfl, q1⟩
  have H6 := Lib.hid q1
  clear q1 H5
  obtain ⟨cb20, cb21⟩ := H6.out.cells (T := 56) (x := b2) (u := .slice (some ⟨b1, 0, none⟩) 1 1) (v := .slice pm m cm) (by simp)
  go_wp2_with fail
  clear cb20 cb21
  refine (H6.out.putK id id rfl hid _ _ _ _ _ _ [(m : Int)] M _ _ rfl rfl rfl (by show (1 : Int) ≤ _; decide) (apt_row (x := b1) (T := 3) (by simp) H6.out) HM.out.len (by omega) (apt_ints HM.out K3.out H6.out) (Nat.lt_trans HP.out.p4 (by decide)) 0 (by rw [HP.out.e5]; rfl) A5 HP.out.a5).mono ?_
  rintro e w7 ⟨rfl, q1⟩
  have H7 := Lib.hid q1
  clear q1 H6
  go_wp2_with fail
  refine (H7.out.getK id id rfl hid 0 (by rw [HP.out.g5.1]; rfl) [(m : Int)] M HP.out.g5.2.1 HP.out.g5.2.2 1 m rfl HM.out.len).mono ?_
  rintro e w8 ⟨sx, lx, rfl, q1⟩
  have H8 := Lib.hid q1
  clear q1 H7
  go_wp2_with fail
  obtain ⟨bx, hbx⟩ : ∃ x, x = w8.heap.size := ⟨_, rfl⟩
  obtain ⟨w9, hw⟩ : ∃ x, x = w8.alloc (.cells #[.slice sx 1 1, .slice lx m m] 56) := ⟨_, rfl⟩
  have q1 := H8.out.pushRow _ rfl 56 #[.slice sx 1 1, .slice lx m m] _ rfl
  rw [← hw, ← hbx] at q1
  rw [← hw, ← hbx]
  have H9 := Lib.hid q1
  clear q1 hw hbx H8
  refine (H9.out.getK _ id2 rfl hid2 0 (by rw [HP.out.k5.1]; rfl) [(m : Int)] M HP.out.k5.2.1 HP.out.k5.2.2 1 m rfl HM.out.len).mono ?_
  rintro e w10 ⟨sy, ly, rfl, q1⟩
  have H10 := Lib.hid q1
  clear q1 H9
  have kbx0 : ∀ ob, (w10.alloc ob).cell? ⟨bx, 0, none⟩ = some (.slice sx 1 1) := fun ob => ((H10.out.no ((Touch.refl No _).alloc ob)).cells (T := 56) (x := bx) (u := .slice sx 1 1) (v := .slice lx m m) (by simp)).1
  have kbx1 : ∀ ob, (w10.alloc ob).cell? ⟨bx, 1, none⟩ = some (.slice lx m m) := fun ob => ((H10.out.no ((Touch.refl No _).alloc ob)).cells (T := 56) (x := bx) (u := .slice sx 1 1) (v := .slice lx m m) (by simp)).2
  have kb20 : ∀ ob, (w10.alloc ob).cell? ⟨b2, 0, none⟩ = some (.slice (some ⟨b1, 0, none⟩) 1 1) := fun ob => ((H10.out.no ((Touch.refl No _).alloc ob)).cells (T := 56) (x := b2) (u := .slice (some ⟨b1, 0, none⟩) 1 1) (v := .slice pm m cm) (by simp)).1
  have kb21 : ∀ ob, (w10.alloc ob).cell? ⟨b2, 1, none⟩ = some (.slice pm m cm) := fun ob => ((H10.out.no ((Touch.refl No _).alloc ob)).cells (T := 56) (x := b2) (u := .slice (some ⟨b1, 0, none⟩) 1 1) (v := .slice pm m cm) (by simp)).2
  go_wp2_with fail
  clear kbx0 kbx1 kb20 kb21
  obtain ⟨bw, hbw⟩ : ∃ x, x = w10.heap.size := ⟨_, rfl⟩
  obtain ⟨w11, hw⟩ : ∃ x, x = w10.alloc (.cells #[.slice sy 1 1, .slice ly m m] 56) := ⟨_, rfl⟩
  have q1 := H10.out.pushRow _ rfl 56 #[.slice sy 1 1, .slice ly m m] _ rfl
  rw [← hw, ← hbw] at q1
  rw [← hw, ← hbw]
  have H11 := Lib.hid q1
  clear q1 hw hbw H10
  obtain ⟨r1, r2⟩ := H11.out.rd2 (sa := sx) (vs := ints .i64 [(m : Int)]) (la := lx) (us := ints .i32 M) (by simp)
  refine (tenSameK w11 sx lx (some ⟨b1, 0, none⟩) pm 1 1 m m 1 1 m cm [(m : Int)] M rfl (by show (1 : Int) ≤ _; decide) r1 HM.out.len (by omega) r2 rfl (apt_row (x := b1) (T := 3) (by simp) H11.out).1 HM.out.len (HM.out.rd.no H11.out.end)).mono ?_
  rintro e w12 ⟨rfl, q1⟩
  have H12 := Lib.hid (H11.out.no q1)
  clear q1 r1 r2 H11
  obtain ⟨cbw0, cbw1⟩ := H12.out.cells (T := 56) (x := bw) (u := .slice sy 1 1) (v := .slice ly m m) (by simp)
  obtain ⟨cb20, cb21⟩ := H12.out.cells (T := 56) (x := b2) (u := .slice (some ⟨b1, 0, none⟩) 1 1) (v := .slice pm m cm) (by simp)
  go_wp2_with fail
  clear cbw0 cbw1 cb20 cb21
  obtain ⟨r1, r2⟩ := H12.out.rd2 (sa := sy) (vs := ints .i64 [(m : Int)]) (la := ly) (us := ints .i32 M) (by simp)
  refine (tenSameK w12 sy ly (some ⟨b1, 0, none⟩) pm 1 1 m m 1 1 m cm [(m : Int)] M rfl (by show (1 : Int) ≤ _; decide) r1 HM.out.len (by omega) r2 rfl (apt_row (x := b1) (T := 3) (by simp) H12.out).1 HM.out.len (HM.out.rd.no H12.out.end)).mono ?_
  rintro e w13 ⟨rfl, q1⟩
  have H13 := Lib.hid (H12.out.no q1)
  clear q1 r1 r2 H12
  go_wp2_with fail
  refine (H13.out.giveK id id rfl hid 0 (by rw [HP.out.e6]; rfl) A6 HP.out.a6).mono ?_
  rintro e w14 ⟨rfl, q1⟩
  have H14 := Lib.hid q1
  clear q1 H13
  go_wp2_with fail
  refine (H14.out.takeK id id rfl hid 4 (by decide) (Nat.lt_trans HP.out.p6 (by decide)) 0 (by rw [show (4 : Int) = ((4 : Nat) : Int) from rfl, HP.out.e7]; rfl) A7 HP.out.a7).mono ?_
  rintro e w15 ⟨rfl, q1⟩
  have H15 := Lib.hid q1
  clear q1 H14
  go_wp2_with fail
  refine (H15.out.getK id id rfl hid 9 (by rw [HP.out.g7.1]; rfl) [] [] HP.out.g7.2.1 HP.out.g7.2.2 0 0 rfl rfl).mono ?_
  rintro e w16 ⟨sz, lz, rfl, q1⟩
  have H16 := Lib.hid q1
  clear q1 H15
  go_wp2_with fail
  obtain ⟨bz, hbz⟩ : ∃ x, x = w16.heap.size := ⟨_, rfl⟩
  obtain ⟨w17, hw⟩ : ∃ x, x = w16.alloc (.cells #[.slice sz 0 0, .slice lz 0 0] 56) := ⟨_, rfl⟩
  have q1 := H16.out.pushRow _ rfl 56 #[.slice sz 0 0, .slice lz 0 0] _ rfl
  rw [← hw, ← hbz] at q1
  rw [← hw, ← hbz]
  have H17 := Lib.hid q1
  clear q1 hw hbz H16
  refine (H17.out.getK _ id2 rfl hid2 0 (by rw [HP.out.k7.1]; rfl) [(m : Int)] M HP.out.k7.2.1 HP.out.k7.2.2 1 m rfl HM.out.len).mono ?_
  rintro e w18 ⟨su, lu, rfl, q1⟩
  have H18 := Lib.hid q1
  clear q1 H17
  have kb20 : ∀ ob, (w18.alloc ob).cell? ⟨b2, 0, none⟩ = some (.slice (some ⟨b1, 0, none⟩) 1 1) := fun ob => ((H18.out.no ((Touch.refl No _).alloc ob)).cells (T := 56) (x := b2) (u := .slice (some ⟨b1, 0, none⟩) 1 1) (v := .slice pm m cm) (by simp)).1
  have kb21 : ∀ ob, (w18.alloc ob).cell? ⟨b2, 1, none⟩ = some (.slice pm m cm) := fun ob => ((H18.out.no ((Touch.refl No _).alloc ob)).cells (T := 56) (x := b2) (u := .slice (some ⟨b1, 0, none⟩) 1 1) (v := .slice pm m cm) (by simp)).2
  have ko0 : (w18.alloc (.cells #[.slice su 1 1, .slice lu m m] 56)).cell? ⟨w18.heap.size, 0, none⟩ = some (.slice su 1 1) := by rw [cell_new]; rfl
  have ko1 : (w18.alloc (.cells #[.slice su 1 1, .slice lu m m] 56)).cell? ⟨w18.heap.size, 1, none⟩ = some (.slice lu m m) := by rw [cell_new]; rfl
  go_wp2_with fail
  clear kb20 kb21 ko0 ko1
  obtain ⟨bu, hbu⟩ : ∃ x, x = w18.heap.size := ⟨_, rfl⟩
  obtain ⟨w19, hw⟩ : ∃ x, x = w18.alloc (.cells #[.slice su 1 1, .slice lu m m] 56) := ⟨_, rfl⟩
  have q1 := H18.out.pushRow _ rfl 56 #[.slice su 1 1, .slice lu m m] _ rfl
  rw [← hw, ← hbu] at q1
  rw [← hw, ← hbu]
  have H19 := Lib.hid q1
  clear q1 hw hbu H18
  obtain ⟨r1, r2⟩ := H19.out.rd2 (sa := su) (vs := ints .i64 [(m : Int)]) (la := lu) (us := ints .i32 M) (by simp)
  refine (tenSameK w19 su lu (some ⟨b1, 0, none⟩) pm 1 1 m m 1 1 m cm [(m : Int)] M rfl (by show (1 : Int) ≤ _; decide) r1 HM.out.len (by omega) r2 rfl (apt_row (x := b1) (T := 3) (by simp) H19.out).1 HM.out.len (HM.out.rd.no H19.out.end)).mono ?_
  rintro e w20 ⟨rfl, q1⟩
  have H20 := Lib.hid (H19.out.no q1)
  clear q1 r1 r2 H19
  go_wp2_with fail
  refine (lives_is _).mono ?_
  rintro e wz ⟨rfl, tz⟩
  go_wp2
  go_ret
  exact ⟨rfl, H20.out.end.trans tz⟩

set_option maxRecDepth 100000 in
set_option maxHeartbeats 8000000 in
theorem arenasPut_walk (w : World) (pl : Option Addr) (n cl : Nat) (L : List Int) (hL : Ints w pl n cl L) (pm : Option Addr) (m cm : Nat) (M : List Int) (hM : Ints w pm m cm M) (id : Nat) (hid : id < 4294967296) :
    Calls Try.prog 4 #[.slice pl n cl, .slice pm m cm, .int .u32 (id : Nat)] w (LawPost w) := by
  have c1 := hL.cap
  have c2 := hL.max
  have c3 := hM.cap
  have c4 := hM.max
  by_cases h1 : 1 ≤ n
  · by_cases h2 : n ≤ 64
    · by_cases h3 : 1 ≤ m
      · by_cases h4 : m ≤ n
        · exact arenasPut_go w pl n cl L hL pm m cm M hM id hid h1 h2 h3 h4
        all_goals
          clear hL hM
          go_enter Try.func4, Try.ntmps4
          go_wp2_with fail
          refine (lives_is _).mono ?_
          rintro e wz ⟨rfl, tz⟩
          go_wp2
          go_ret
          exact ⟨rfl, tz⟩
      all_goals
        clear hL hM
        go_enter Try.func4, Try.ntmps4
        go_wp2_with fail
        refine (lives_is _).mono ?_
        rintro e wz ⟨rfl, tz⟩
        go_wp2
        go_ret
        exact ⟨rfl, tz⟩
    all_goals
      clear hL hM
      go_enter Try.func4, Try.ntmps4
      go_wp2_with fail
      refine (lives_is _).mono ?_
      rintro e wz ⟨rfl, tz⟩
      go_wp2
      go_ret
      exact ⟨rfl, tz⟩
  all_goals
    clear hL hM
    go_enter Try.func4, Try.ntmps4
    go_wp2_with fail
    refine (lives_is _).mono ?_
    rintro e wz ⟨rfl, tz⟩
    go_wp2
    go_ret
    exact ⟨rfl, tz⟩
end Go.Proofs.Ytkiehoboeiengaa
