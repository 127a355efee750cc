/-
  Package drydockref24 by its own text: Get.
  Package drydocklaw24 by its own text: lives.
-/
import Derived.Test.YtnffigfafalocaaGreatDoorK44
import Derived.StillTailTactics
import Derived.Test.YtnffigfafalocaaGreatDoorK25
namespace Go.Proofs.YtnffigfafalocaaGreatDoor
open Go Go.RowKit
set_option linter.unusedSimpArgs false
set_option linter.unusedVariables false

/-- what Get tells: slices, that read as what was put -/
def Ref24Get (w : World) (er : Nat) (s l : List Int) (e : Ending) (w' : World) : Prop :=
  ∃ sa sc la lc, e = .returned (.tuple #[.agg #[.slice sa s.length sc, .slice la l.length lc], .int .i64 (er : Nat)]) ∧ Rd w' sa (ints .i64 s) ∧ Rd w' la (ints .i32 l) ∧ Touch No w w'
set_option maxRecDepth 100000 in
set_option maxHeartbeats 4000000 in
theorem refGet24_any (w : World) (g : Nat) (A : Ar.Arena) (R : List Ar.REnt) (O : Nat → Prop) (h : (Part.ref24 g A.room A.used A.peak R).P w O) (hok : Ar.Ok A) (hR : R.map Ar.REnt.it = A.its) (n : Nat) (hn : R.length ≤ n) (hn4 : n ≤ 10000) (id : Nat) (hid : id < 4294967296) :
    Calls Tryz.prog 27 #[.pointer (some ⟨g, 0, none⟩), .int .u32 (id : Nat)] w (Ref24Get w (Ar.getE A id) (Ar.getS A id) (Ar.getL A id)) := by
  have hids : ∀ e ∈ R, e.id < 4294967296 := fun e he => hok.ids e.it (by rw [← hR]; exact List.mem_map_of_mem he)
  have hsome := takeE_cases A R hok hR id
  have hat0 : ∀ w', Touch No w w' → ∃ a c, Ref24At w' g A.room A.used A.peak R a c ∧ ∀ e ∈ R, Rd w' e.sa (ints .i64 e.s) ∧ Rd w' e.la (ints .i32 e.l) := fun w' t => by
    obtain ⟨a, c, A1, A2, A3, hat, p1, p2, p3, _⟩ := ref24_at ((Part.ref24 g _ _ _ R).stable h t (fun _ _ f => f))
    exact ⟨a, c, hat, fun e he => (p3.1 e he).1⟩
  have HAT := Lib.hid hat0
  obtain ⟨w0, hw0⟩ : ∃ w0, w0 = w.alloc (.cells #[.slice none 0 0, .slice none 0 0] 75) := ⟨_, rfl⟩
  have t0 : Touch No w w0 := by rw [hw0]; exact (Touch.refl No w).alloc _
  have B0 := Row.new w 75 #[.slice none 0 0, .slice none 0 0]
  obtain ⟨T, hT⟩ : ∃ T, T = w.heap.size := ⟨_, rfl⟩
  rw [← hw0, ← hT] at B0
  have HB := Lib.hid B0
  have HTT := Lib.hid hT
  have C : Hid (Calls Tryz.prog 68 #[.pointer (some ⟨g, 0, none⟩), .int .u32 (id : Nat)] w0 fun e w' => e = .returned (.tuple #[.int .i64 (Ar.place R id : Nat), .bool (Ar.isAt R id)]) ∧ Touch No w0 w') := by
    obtain ⟨a, c, hat, _⟩ := hat0 w0 t0
    exact refFind_any hat (by omega) hids id hid
  have T0 := Lib.hid t0
  have HZ : Hid (∀ w1 w', Touch No w0 w1 → Touch (fun k => k = T) w1 w' → Touch No w w') := fun w1 w' t1 t2 => (T0.out.trans t1).then t2 (fun i hi e => by have := HTT.out; omega)
  cases hi : Ar.isAt R id with
  | false =>
    have hnone : Ar.look A.its id = none := by rw [hi] at hsome; exact Option.isNone_iff_eq_none.1 (by simpa using hsome)
    have hE : Ar.getE A id = 7 := by rw [Ar.getE, hnone]
    have hS : Ar.getS A id = [] := by rw [Ar.getS, hnone]
    have hL : Ar.getL A id = [] := by rw [Ar.getL, hnone]
    rw [hE, hS, hL]
    rw [hi] at C
    obtain ⟨p, hp⟩ : ∃ p, Ar.place R id = p := ⟨_, rfl⟩
    rw [hp] at C
    clear h hok hR hn hE hS hL hids hsome hi hp hat0 t0 B0 hnone
    go_enter Tryz.func27, Tryz.ntmps27
    go_wp2_with fail
    rw [← hw0, ← hT]
    clear hw0 hT
    refine C.out.mono ?_
    rintro e w1 ⟨rfl, t1⟩
    have T1 := Lib.hid t1
    have R1 := HB.out.touch t1 (fun f => f)
    have y0 : w1.cell? ⟨T, 0, none⟩ = some (.slice none 0 0) := R1.cell 0
    have y1 : w1.cell? ⟨T, 1, none⟩ = some (.slice none 0 0) := R1.cell 1
    have z0 := R1.soft 0
    have z1 := R1.soft 1
    clear t1 R1
    go_wp2
    refine bodyPost_ret (v := .tuple #[.agg #[.slice none 0 0, .slice none 0 0], .int .i64 7]) (by simp [results, Tryz.results27, go_sem, y0, y1]) rfl ?_
    exact ⟨none, 0, none, 0, rfl, Rd.nil _ _, Rd.nil _ _, HZ.out _ _ T1.out (((Touch.refl (fun k => k = T) w1).setCell (p := ⟨T, 0, none⟩) (fun _ => rfl) _).setCell (p := ⟨T, 1, none⟩) (fun _ => rfl) _)⟩
  | true =>
    rw [hi] at C
    obtain ⟨e, he, heid⟩ := Ar.isAt_get hi
    have hlk : Ar.look A.its id = some e.it.2 := by
      rw [← hR, Ar.look_is id (by rw [hR]; exact hok.up), hi, if_pos rfl, he]; rfl
    obtain ⟨p, hp⟩ : ∃ p, Ar.place R id = p := ⟨_, rfl⟩
    rw [hp] at C he
    obtain ⟨eid, eb, es, esa, esc, el, ela, elc, eis⟩ := e
    obtain ⟨X, hX⟩ : ∃ X, R.length = X := ⟨_, rfl⟩
    have hpX : (p : Int) < (X : Nat) := by
      rcases Nat.lt_or_ge p R.length with h | h
      · omega
      · rw [List.getElem?_eq_none h] at he; cases he
    have HK : Hid (∀ w', Touch No w w' → ∃ gb c, w'.cell? ⟨g, 3, none⟩ = some (.slice (some ⟨gb, 0, none⟩) X c) ∧ w'.cell? ⟨gb, p * 5 + 2, none⟩ = some (.slice esa es.length esc) ∧ w'.cell? ⟨gb, p * 5 + 3, none⟩ = some (.slice ela el.length elc) ∧ w'.cell? ⟨gb, p * 5 + 4, none⟩ = some (.bool eis) ∧ Rd w' esa (ints .i64 es) ∧ Rd w' ela (ints .i32 el) ∧ gb < w.heap.size) := fun w' t => by
      obtain ⟨a, c, hat, hl⟩ := HAT.out w' t
      obtain ⟨b, hb, hin, h2⟩ := hat.cell he (j := 2) (by decide)
      obtain ⟨_, e3, _, h3⟩ := hat.cell he (j := 3) (by decide)
      obtain ⟨_, e4, _, h4⟩ := hat.cell he (j := 4) (by decide)
      obtain ⟨a', c', hat', _⟩ := HAT.out w (Touch.refl No w)
      rw [hb] at e3 e4
      cases e3; cases e4
      have hk3 := hat.row.cell 3
      have hk3' := t.cell (fun f => f) (hat'.row.cell 3)
      rw [hk3] at hk3'
      injection hk3' with hk3'
      injection hk3' with ha hc
      subst ha
      obtain ⟨b', hb', hin', _⟩ := hat'.cell he (j := 2) (by decide)
      rw [hb] at hb'
      cases hb'
      obtain ⟨r1, r2⟩ := hl _ (List.mem_of_getElem? he)
      rw [hb, hX] at hk3
      exact ⟨b, c, hk3, h2, h3, h4, r1, r2, (rowBlock hat'.rows hin').2⟩
    cases eis with
    | false =>
      have hE : Ar.getE A id = 9 := by rw [Ar.getE, hlk]; rfl
      have hS : Ar.getS A id = [] := by rw [Ar.getS, hlk]; rfl
      have hL : Ar.getL A id = [] := by rw [Ar.getL, hlk]; rfl
      rw [hE, hS, hL]
      clear h hok hR hn hE hS hL hids hsome hi hp hat0 t0 B0 hlk he heid hX
      go_enter Tryz.func27, Tryz.ntmps27
      go_wp2_with fail
      rw [← hw0, ← hT]
      clear hw0 hT
      refine C.out.mono ?_
      rintro e w1 ⟨rfl, t1⟩
      have T1 := Lib.hid t1
      obtain ⟨gb, c, k3, k4, k5, k6, _, _, _⟩ := HK.out _ (T0.out.trans t1)
      have R1 := HB.out.touch t1 (fun f => f)
      have y0 : w1.cell? ⟨T, 0, none⟩ = some (.slice none 0 0) := R1.cell 0
      have y1 : w1.cell? ⟨T, 1, none⟩ = some (.slice none 0 0) := R1.cell 1
      have z0 := R1.soft 0
      have z1 := R1.soft 1
      clear t1 R1
      go_wp2
      refine bodyPost_ret (v := .tuple #[.agg #[.slice none 0 0, .slice none 0 0], .int .i64 9]) (by simp [results, Tryz.results27, go_sem, y0, y1]) rfl ?_
      exact ⟨none, 0, none, 0, rfl, Rd.nil _ _, Rd.nil _ _, HZ.out _ _ T1.out (((Touch.refl (fun k => k = T) w1).setCell (p := ⟨T, 0, none⟩) (fun _ => rfl) _).setCell (p := ⟨T, 1, none⟩) (fun _ => rfl) _)⟩
    | true =>
      have hE : Ar.getE A id = 0 := by rw [Ar.getE, hlk]; rfl
      have hS : Ar.getS A id = es := by rw [Ar.getS, hlk]; rfl
      have hL : Ar.getL A id = el := by rw [Ar.getL, hlk]; rfl
      rw [hE, hS, hL]
      obtain ⟨sn, hsn⟩ : ∃ n, es.length = n := ⟨_, rfl⟩
      obtain ⟨ln, hln⟩ : ∃ n, el.length = n := ⟨_, rfl⟩
      rw [hsn, hln] at HK
      have Hsn := Lib.hid hsn
      have Hln := Lib.hid hln
      clear h hok hR hn hE hS hL hids hsome hi hp hat0 t0 B0 hlk he heid hX hsn hln
      go_enter Tryz.func27, Tryz.ntmps27
      go_wp2_with fail
      rw [← hw0, ← hT]
      clear hw0 hT
      refine C.out.mono ?_
      rintro e w1 ⟨rfl, t1⟩
      have T1 := Lib.hid t1
      obtain ⟨gb, c, k3, k4, k5, k6, r1, r2, hgb⟩ := HK.out _ (T0.out.trans t1)
      have R1 := HB.out.touch t1 (fun f => f)
      have y0 : w1.cell? ⟨T, 0, none⟩ = some (.slice none 0 0) := R1.cell 0
      have y1 : w1.cell? ⟨T, 1, none⟩ = some (.slice none 0 0) := R1.cell 1
      have z0 := R1.soft 0
      have z1 := R1.soft 1
      have hrd : Hid (∀ w', Touch (fun k => k = T) w1 w' → Rd w' esa (ints .i64 es) ∧ Rd w' ela (ints .i32 el)) := fun w' t => by
        have hT1 := HTT.out
        obtain ⟨_, _, _, _, _, _, q1, q2, _⟩ := HK.out w (Touch.refl No w)
        refine ⟨?_, ?_⟩
        · rcases Nat.eq_zero_or_pos es.length with h0 | h0
          · rw [List.length_eq_zero_iff.1 h0]; exact Rd.nil _ _
          · exact r1.touch t (fun b o eb hb ek => by
              obtain ⟨b', o', e', hc⟩ := q1.int h0
              rw [eb] at e'; cases e'
              have := lt_of_cell hc
              omega)
        · rcases Nat.eq_zero_or_pos el.length with h0 | h0
          · rw [List.length_eq_zero_iff.1 h0]; exact Rd.nil _ _
          · exact r2.touch t (fun b o eb hb ek => by
              obtain ⟨b', o', e', hc⟩ := q2.int h0
              rw [eb] at e'; cases e'
              have := lt_of_cell hc
              omega)
      clear t1 R1 r1 r2
      go_wp2
      refine bodyPost_ret (v := .tuple #[.agg #[.slice esa sn esc, .slice ela ln elc], .int .i64 0]) (by simp [results, Tryz.results27, go_sem, y0, y1]) rfl ?_
      have tE : Touch (fun k => k = T) w1 ((w1.setCell ⟨T, 0, none⟩ (.slice esa sn esc)).setCell ⟨T, 1, none⟩ (.slice ela ln elc)) := ((Touch.refl (fun k => k = T) w1).setCell (p := ⟨T, 0, none⟩) (fun _ => rfl) _).setCell (p := ⟨T, 1, none⟩) (fun _ => rfl) _
      exact ⟨esa, esc, ela, elc, by rw [Hsn.out, Hln.out]; rfl, (hrd.out _ tE).1, (hrd.out _ tE).2, HZ.out _ _ T1.out tE⟩
end Go.Proofs.YtnffigfafalocaaGreatDoor
namespace Go.Proofs.YtnffigfafalocaaGreatDoor
open Go Go.RowKit
set_option linter.unusedSimpArgs false
set_option linter.unusedVariables false

/-- the law says true, and of what was there nothing has turned -/
def LawPost (w : World) (e : Ending) (w' : World) : Prop := e = .returned (.bool true) ∧ Touch No w w'
section
variable {w0 w w' : World} {g : Nat} {A : Ar.Arena} {E : List Part}
theorem Ars.takeK (h : Ars w0 w g A E) (x : Int) (id : Nat) (hx : x = id) (hid : id < 4294967296) (z : Int) (hz : -9223372036854775808 ≤ z ∧ z ≤ 9223372036854775807) (hp : A.puts < 1000000000) (er : Int) (her : er = (Ar.takeE A id z : Nat)) (A' : Ar.Arena) (hA : Ar.takeA A id z = A') :
    Calls Tryz.prog 29 #[.pointer (some ⟨g, 0, none⟩), .int .u32 x, .int .i64 z] w fun e w' => e = .returned (.int .i64 er) ∧ Ars w0 w' g A' E := by
  subst hx her hA; exact h.take id hid z hz hp
theorem Ars.giveK (h : Ars w0 w g A E) (x : Int) (id : Nat) (hx : x = id) (hid : id < 4294967296) (er : Int) (her : er = (Ar.giveE A id : Nat)) (A' : Ar.Arena) (hA : Ar.giveA A id = A') :
    Calls Tryz.prog 20 #[.pointer (some ⟨g, 0, none⟩), .int .u32 x] w fun e w' => e = .returned (.int .i64 er) ∧ Ars w0 w' g A' E := by
  subst hx her hA; exact h.give id hid
theorem Ars.getK (h : Ars w0 w g A E) (x : Int) (id : Nat) (hx : x = id) (hid : id < 4294967296) (er : Int) (her : er = (Ar.getE A id : Nat)) (s l : List Int) (hs : Ar.getS A id = s) (hl : Ar.getL A id = l) (n m : Nat) (hn : s.length = n) (hm : l.length = m) :
    Calls Tryz.prog 26 #[.pointer (some ⟨g, 0, none⟩), .int .u32 x] w fun e w' => ∃ sa la, e = .returned (.tuple #[.agg #[.slice sa n n, .slice la m m], .int .i64 er]) ∧ Ars w0 w' g A (Part.rd2 sa (ints .i64 s) la (ints .i32 l) :: E) := by
  subst hx her hs hl hn hm; exact h.get id hid
theorem Ars.putK (h : Ars w0 w g A E) (x : Int) (id : Nat) (hx : x = id) (hid : id < 4294967296) (sa la : Option Addr) (n c m d : Nat) (s l : List Int) (vs us : List Value) (hvs : vs = ints .i64 s) (hus : us = ints .i32 l) (hs : s.length = n) (hn : (n : Int) ≤ 1000000000000) (hr : Apt w0 w E sa vs) (hl : l.length = m) (hm : (m : Int) ≤ 1000000000000) (hr2 : Apt w0 w E la us) (hp : A.puts < 1000000000) (er : Int) (her : er = (Ar.putE A id s l : Nat)) (A' : Ar.Arena) (hA : Ar.putA A id s l = A') :
    Calls Tryz.prog 22 #[.pointer (some ⟨g, 0, none⟩), .int .u32 x, .agg #[.slice sa n c, .slice la m d]] w fun e w' => e = .returned (.int .i64 er) ∧ Ars w0 w' g A' E := by
  subst hx her hA hvs hus; exact h.put id hid sa la n c m d s l hs hn hr hl hm hr2 hp
theorem Ars.usedK (h : Ars w0 w g A E) (z : Int) (hz : z = (A.used : Nat)) : Calls Tryz.prog 32 #[.pointer (some ⟨g, 0, none⟩)] w fun e w' => e = .returned (.int .i64 z) ∧ Ars w0 w' g A E := by
  subst hz; exact h.used
theorem Ars.peakK (h : Ars w0 w g A E) (z : Int) (hz : z = (A.peak : Nat)) : Calls Tryz.prog 34 #[.pointer (some ⟨g, 0, none⟩)] w fun e w' => e = .returned (.int .i64 z) ∧ w = w' := by
  subst hz; exact h.peak
theorem Ars.pushRow (h : Ars w0 w g A E) (x : Nat) (hx : x = w.heap.size) (T : TypeId) (c : Array Value) (vs : List Value) (hvs : c.toList = vs) : Ars w0 (w.alloc (.cells c T)) g A (Part.row x T vs :: E) := by
  subst hx hvs; exact h.push (Born.row w T c)
theorem Ars.sub {E' : List Part} (h : Ars w0 w g A (E' ++ E)) : Ars w0 w g A E := by
  induction E' with
  | nil => exact h
  | cons p r ih => exact ih (Ars.drop h)
end
theorem ars_newK (w0 w : World) (t0 : Touch No w0 w) (n : Nat) (x : Int) (hx : x = n) (hn : n ≤ 1048576) : Calls Tryz.prog 17 #[.int .i64 x] w fun e w' => ∃ g, e = .returned (.tuple #[.pointer (some ⟨g, 0, none⟩), .int .i64 0]) ∧ Ars w0 w' g (Ar.new n) [] := by
  subst hx; exact Ars.new w0 w t0 n hn

def z11 : Array Value := (List.replicate 11 (Value.int .i32 0)).toArray
theorem made11 (wx : World) : (Instr.makeSlice 73 (.int .i64 11) (.int .i64 11)).run Tryz.prog wx = .ok (.slice (some ⟨wx.heap.size, 0, none⟩) 11 11) (wx.alloc (.cells z11 21)) := by
  obtain ⟨I, hi0, hi1, hi2, hi3⟩ := i32_info
  have := run_make (P := Tryz.prog) wx 73 21 I (.int .i32 0) Tryz.underlying73 hi0 hi1 .i64 .i64 (11 : Int) (11 : Int) (by omega) (by omega) (by rw [hi3]; omega) (by omega)
  rw [this, hi2]
  show Result.ok _ (wx.alloc (.cells (madeCells #[Value.int .i32 0] (11 * 1)) _)) = _
  rw [made_fill]; rfl

namespace Ar
def L1 : Arena := ⟨100, 60, 60, 1, [(1, ⟨60, none⟩)]⟩
def L2 : Arena := ⟨100, 100, 100, 2, [(1, ⟨60, none⟩), (2, ⟨40, none⟩)]⟩
def L3 : Arena := ⟨100, 40, 100, 2, [(2, ⟨40, none⟩)]⟩
def L4 : Arena := ⟨100, 40, 100, 3, [(2, ⟨40, some ([1], [-3])⟩)]⟩
end Ar

set_option maxRecDepth 100000 in
set_option maxHeartbeats 8000000 in
theorem lives_is (w : World) : Calls Tryz.prog 16 #[] w (LawPost w) := by
  have hm11 := made11
  go_enter Tryz.func16, Tryz.ntmps16
  go_wp2_with fail
  refine (ars_newK w w (Touch.refl No w) 100 100 rfl (by decide)).mono ?_
  rintro e w1 ⟨g, rfl, h1⟩
  have H1 := Lib.hid h1
  clear h1
  go_wp2_with fail
  refine (H1.out.takeK 1 1 rfl (by decide) 60 (by decide) (by decide) 0 rfl Ar.L1 rfl).mono ?_
  rintro e w2 ⟨rfl, h2⟩
  have H2 := Lib.hid h2
  clear h2 H1
  go_wp2_with fail
  refine (H2.out.takeK 2 2 rfl (by decide) 50 (by decide) (by decide) 13 rfl Ar.L1 rfl).mono ?_
  rintro e w3 ⟨rfl, h3⟩
  have H3 := Lib.hid h3
  clear h3 H2
  go_wp2_with fail
  refine (H3.out.takeK 2 2 rfl (by decide) 40 (by decide) (by decide) 0 rfl Ar.L2 rfl).mono ?_
  rintro e w4 ⟨rfl, h4⟩
  have H4 := Lib.hid h4
  clear h4 H3
  go_wp2_with fail
  refine (H4.out.giveK 1 1 rfl (by decide) 0 rfl Ar.L3 rfl).mono ?_
  rintro e w5 ⟨rfl, h5⟩
  have H5 := Lib.hid h5
  clear h5 H4
  go_wp2_with fail
  refine (H5.out.getK 2 2 rfl (by decide) 9 rfl [] [] rfl rfl 0 0 rfl rfl).mono ?_
  rintro e w6 ⟨sa, la, rfl, h6⟩
  have H6 := Lib.hid h6.drop
  clear h6 H5
  go_wp2_with fail
  have P1 := (H6.out.pushRow _ rfl 75 #[.slice sa 0 0, .slice la 0 0] _ rfl).drop
  have P3 := (P1.pushRow (w6.heap.size + 1) (by simp) 3 #[.int .i64 11] (ints .i64 [11]) rfl).pushRow (w6.heap.size + 1 + 1) (by simp) 21 z11 (ints .i32 (List.replicate 11 0)) rfl
  refine (P3.putK 2 2 rfl (by decide) _ _ _ _ _ _ [11] (List.replicate 11 0) _ _ rfl rfl rfl (by decide) (apt_row (List.mem_cons_of_mem _ List.mem_cons_self) P3) rfl (by decide) (apt_row List.mem_cons_self P3) (by decide) 13 rfl Ar.L3 rfl).mono ?_
  rintro e w7 ⟨rfl, h7⟩
  have H7 := Lib.hid h7.drop.drop
  clear h7 P1 P3 H6
  go_wp2_with fail
  have P3 := (H7.out.pushRow (w7.heap.size) (by simp) 3 #[.int .i64 1] (ints .i64 [1]) rfl).pushRow (w7.heap.size + 1) (by simp) 21 #[.int .i32 (-3)] (ints .i32 [-3]) rfl
  refine (P3.putK 2 2 rfl (by decide) _ _ _ _ _ _ [1] [-3] _ _ rfl rfl rfl (by decide) (apt_row (List.mem_cons_of_mem _ List.mem_cons_self) P3) rfl (by decide) (apt_row List.mem_cons_self P3) (by decide) 0 rfl Ar.L4 rfl).mono ?_
  rintro e w8 ⟨rfl, h8⟩
  have H8 := Lib.hid h8.drop.drop
  clear h8 P3 H7
  go_wp2_with fail
  refine (H8.out.getK 2 2 rfl (by decide) 0 rfl [1] [-3] rfl rfl 1 1 rfl rfl).mono ?_
  rintro e w9 ⟨sb, lb, rfl, h9⟩
  obtain ⟨gl, ol, rfl, hl⟩ := (h9.rd2 List.mem_cons_self).2.int (i := 0) (by decide)
  have H9 := Lib.hid h9
  clear h9 hl H8
  go_wp2_with fail
  obtain ⟨wx, hwx⟩ : ∃ wx, wx = w9.alloc (.cells #[.slice sb 1 1, .slice (some ⟨gl, ol, none⟩) 1 1] 75) := ⟨_, rfl⟩
  obtain ⟨bx, hbx⟩ : ∃ bx, bx = w9.heap.size := ⟨_, rfl⟩
  have P4 : Hid (Ars w wx g Ar.L4 (Part.row bx 75 [.slice sb 1 1, .slice (some ⟨gl, ol, none⟩) 1 1] :: Part.rd2 sb (ints .i64 [1]) (some ⟨gl, ol, none⟩) (ints .i32 [-3]) :: [])) := by
    show Ars _ _ _ _ _
    rw [hwx, hbx]
    exact H9.out.pushRow _ rfl _ _ _ rfl
  rw [← hwx, ← hbx]
  clear hwx hbx H9
  refine (arNew_bad wx (-1) (by decide)).mono ?_
  rintro e w10 ⟨rfl, rfl⟩
  go_wp2_with fail
  refine (P4.out.usedK 40 rfl).mono ?_
  rintro e w11 ⟨rfl, h11⟩
  have H11 := Lib.hid h11
  clear h11 P4
  go_wp2_with fail
  refine (H11.out.peakK 100 rfl).mono ?_
  rintro e w12 ⟨rfl, rfl⟩
  have hrow := H11.out.row List.mem_cons_self
  have b0 : w11.cell? ⟨bx, 0, none⟩ = some (.slice sb 1 1) := hrow.cell 0
  have b1 : w11.cell? ⟨bx, 1, none⟩ = some (.slice (some ⟨gl, ol, none⟩) 1 1) := hrow.cell 1
  have c0 : w11.cell? ⟨gl, ol, none⟩ = some (.int .i32 (-3)) := by
    obtain ⟨gl', ol', e, h⟩ := (H11.out.rd2 (List.mem_cons_of_mem _ List.mem_cons_self)).2.int (i := 0) (by decide)
    cases e
    exact h
  clear hrow
  go_wp2_with fail
  refine (takeNil_any w11 1 1).mono ?_
  rintro e w13 ⟨rfl, rfl⟩
  clear b0 b1 c0
  go_wp2
  go_ret
  exact ⟨rfl, H11.out.end⟩
end Go.Proofs.YtnffigfafalocaaGreatDoor
