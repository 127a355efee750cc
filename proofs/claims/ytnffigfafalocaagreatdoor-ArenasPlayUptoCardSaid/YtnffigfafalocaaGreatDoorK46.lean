/-
  Package drydockref24 by its own text: Put.
-/
import Derived.Test.YtnffigfafalocaaGreatDoorK44
import Derived.Test.YtnffigfafalocaaGreatDoorK45
import Derived.Test.YtnffigfafalocaaGreatDoorK36
import Derived.StillTailTactics
import Derived.Deep.DeepCutAuto
import Derived.Deep.CutBlock
import Derived.Lib.SmallJoins
namespace Go.Proofs.YtnffigfafalocaaGreatDoor
open Go Go.RowKit
set_option linter.unusedSimpArgs false
set_option linter.unusedVariables false

theorem entCells_set {R : List Ar.REnt} {p : Nat} {e e' : Ar.REnt} {j : Nat} {v : Value} (he : R[p]? = some e) (hj : j < 5) (hy : e'.cells = e.cells.set j v) : (entCells R).set (p * 5 + j) v = entCells (R.set p e') := by
  have := flat_cell ent_length R p j e e' v [] he hj hy
  rw [List.append_nil, List.append_nil] at this
  exact this
/-- an item written anew: three cells of the list, lists in new memory -/
theorem ref24_set {w w1 w2 : World} {g room used peak : Nat} {R : List Ar.REnt} {O : Nat → Prop} {p : Nat} {e : Ar.REnt} {gb c : Nat} {s l : List Int} {sa la : Option Addr} {n m sc lc : Nat}
    (h : (Part.ref24 g room used peak R).P w O) (t : Touch No w w1) (he : R[p]? = some e) (hat : Ref24At w g room used peak R (some ⟨gb, 0, none⟩) c)
    (os : Own w1 w.heap.size 3 (.slice sa n sc) (ints .i64 s)) (ol : Own w1 w.heap.size 21 (.slice la m lc) (ints .i32 l)) (hn : s.length = n) (hm : l.length = m)
    (h2 : w2 = (((w1.setCell ⟨gb, p * 5 + 2, none⟩ (.slice sa n sc)).setCell ⟨gb, p * 5 + 3, none⟩ (.slice la m lc))).setCell ⟨gb, p * 5 + 4, none⟩ (.bool true)) :
    TurnsL w O [Part.ref24 g room used peak (R.set p ⟨e.id, e.bytes, s, sa, sc, l, la, lc, true⟩)] w2 := by
  obtain ⟨a, c', A1, A2, A3, hat2, p1, p2, p3, d12, d13, d23, o1, o2, o3⟩ := ref24_at h
  obtain ⟨b', hb', hin', _⟩ := hat2.cell he (j := 2) (by decide)
  have hac : a = some ⟨gb, 0, none⟩ ∧ c' = c := by
    have h1 := hat.row.cell 3
    rw [hat2.row.cell 3] at h1
    injection h1 with h1
    injection h1 with h1 h2 h3
    exact ⟨h1, h3⟩
  obtain ⟨rfl, rfl⟩ := hac
  have hgb2 : A2 gb := p2.2.1 gb rfl
  have hgl := p2.2.2 gb hgb2
  have tB : Touch (fun k => k = gb) w1 w2 := by
    rw [h2]
    exact (((Touch.refl (fun k => k = gb) w1).setCell (p := ⟨gb, p * 5 + 2, none⟩) (fun _ => rfl) _).setCell (p := ⟨gb, p * 5 + 3, none⟩) (fun _ => rfl) _).setCell (p := ⟨gb, p * 5 + 4, none⟩) (fun _ => rfl) _
  have tB2 : Touch O w w2 := (t.mono (fun _ _ f => f.elim)).then (tB.mono (G := O) (fun k _ e => by rw [e]; exact o2 gb hgb2)) (fun i _ hi => hi)
  have hs1 := t.size
  have hs2 := tB.size
  have r0 := rowTouch hat2.rows t (fun _ _ f => f)
  have r1 := (r0.stored (p * 5 + 2) (.slice sa n sc)).1
  rw [entCells_set (e' := { e with s := s, sa := sa, sc := sc }) he (by decide) (by subst hn; rfl)] at r1
  have hpl : p < R.length := by
    rcases Nat.lt_or_ge p R.length with h | h
    · exact h
    · rw [List.getElem?_eq_none h] at he; cases he
  have he1 : (R.set p { e with s := s, sa := sa, sc := sc })[p]? = some { e with s := s, sa := sa, sc := sc } := List.getElem?_set_self hpl
  have r2 := (r1.stored (p * 5 + 3) (.slice la m lc)).1
  rw [entCells_set (e' := { e with s := s, sa := sa, sc := sc, l := l, la := la, lc := lc }) he1 (by decide) (by subst hm; rfl), List.set_set] at r2
  have he2 : (R.set p { e with s := s, sa := sa, sc := sc, l := l, la := la, lc := lc })[p]? = some { e with s := s, sa := sa, sc := sc, l := l, la := la, lc := lc } := List.getElem?_set_self hpl
  have r3 := (r2.stored (p * 5 + 4) (.bool true)).1
  rw [entCells_set (e' := ⟨e.id, e.bytes, s, sa, sc, l, la, lc, true⟩) he2 (by decide) rfl, List.set_set, ← h2] at r3
  have q1 : (Part.row g 160 (refCells room used peak (.slice (some ⟨gb, 0, none⟩) (R.set p ⟨e.id, e.bytes, s, sa, sc, l, la, lc, true⟩).length c'))).P w2 A1 := by
    rw [List.length_set]
    exact (Part.row _ _ _).stable ((Part.row _ _ _).stable p1 t (fun _ _ f => f)) tB (fun k hk e => d12 k hk (by rw [e]; exact hgb2))
  have q2 : (Part.rows 169 5 (.slice (some ⟨gb, 0, none⟩) (R.set p ⟨e.id, e.bytes, s, sa, sc, l, la, lc, true⟩).length c') (R.set p ⟨e.id, e.bytes, s, sa, sc, l, la, lc, true⟩).length (entCells (R.set p ⟨e.id, e.bytes, s, sa, sc, l, la, lc, true⟩))).P w2 A2 := by
    rw [List.length_set]
    exact ⟨r3, fun k hk => p2.2.1 k hk, fun k hk => by have := p2.2.2 k hk; omega⟩
  have bs : ∀ g' o, sa = some ⟨g', o, none⟩ → w.heap.size ≤ g' ∧ g' < w1.heap.size := fun g' o e => os.block (by rw [e]; rfl)
  have bl : ∀ g' o, la = some ⟨g', o, none⟩ → w.heap.size ≤ g' ∧ g' < w1.heap.size := fun g' o e => ol.block (by rw [e]; rfl)
  have p3' := (Part.lists R).stable ((Part.lists R).stable p3 t (fun _ _ f => f)) tB (fun k hk e => d23 gb hgb2 (by rw [← e]; exact hk))
  have q3 : (Part.lists (R.set p ⟨e.id, e.bytes, s, sa, sc, l, la, lc, true⟩)).P w2 (fun k => A3 k ∨ (w.heap.size ≤ k ∧ k < w2.heap.size)) := by
    refine ⟨fun x hx => ?_, fun k hk => hk.elim (fun h => by have := p3.2 k h; omega) And.right⟩
    rcases List.mem_or_eq_of_mem_set hx with hx | rfl
    · exact ⟨(p3'.1 x hx).1, fun g' o e => Or.inl ((p3'.1 x hx).2.1 g' o e), fun g' o e => Or.inl ((p3'.1 x hx).2.2 g' o e)⟩
    · exact ⟨⟨os.rd.touch tB (fun b o e _ hk => by have := bs b o e; omega), ol.rd.touch tB (fun b o e _ hk => by have := bl b o e; omega)⟩, fun g' o e => Or.inr (by have := bs g' o e; omega), fun g' o e => Or.inr (by have := bl g' o e; omega)⟩
  have hlt := (Part.ref24 g room used peak R).lt h
  refine ⟨tB2, _, ⟨_, fun _ => False, ref24_of (O := fun _ => True) q1 q2 q3 d12 (fun k hk h => h.elim (d13 k hk) (fun h => by have := hlt k (o1 k hk); omega)) (fun k hk h => h.elim (d23 k hk) (fun h => by have := hlt k (o2 k hk); omega)) (fun _ _ => trivial) (fun _ _ => trivial) (fun _ _ => trivial), trivial, fun _ _ f => f, fun _ h => h, fun _ f => f.elim⟩, fun k hk => ?_⟩
  rcases hk with hk | hk | hk | hk
  · exact Or.inl (o1 k hk)
  · exact Or.inl (o2 k hk)
  · exact Or.inl (o3 k hk)
  · exact Or.inr hk.1

set_option maxRecDepth 100000 in
set_option maxHeartbeats 4000000 in
theorem refPut24_any (w : World) (g : Nat) (A : Ar.Arena) (R : List Ar.REnt) (O : Nat → Prop) (h : (Part.ref24 g A.room A.used A.peak R).P w O) (hok : Ar.Ok A) (hR : R.map Ar.REnt.it = A.its) (n : Nat) (hn : R.length ≤ n) (hn4 : n ≤ 10000) (id : Nat) (hid : id < 4294967296)
    (sa la : Option Addr) (sn c ln d : Nat) (s l : List Int) (hs : s.length = sn) (hsn : (sn : Int) ≤ 1000000) (hrs : Rd w sa (ints .i64 s)) (hl : l.length = ln) (hln : (ln : Int) ≤ 1000000) (hrl : Rd w la (ints .i32 l)) :
    Calls Tryz.prog 23 #[.pointer (some ⟨g, 0, none⟩), .int .u32 (id : Nat), .agg #[.slice sa sn c, .slice la ln d]] w (Ref24Post w g O (Ar.putE A id s l) (Ar.putA A id s l) n) := by
  have hids : ∀ e ∈ R, e.id < 4294967296 := fun e he => hok.ids e.it (by rw [← hR]; exact List.mem_map_of_mem he)
  have hsome := takeE_cases A R hok hR id
  obtain ⟨w0, hw0⟩ : ∃ w0, w0 = w.alloc (.cells #[.slice sa sn c, .slice la ln d] 75) := ⟨_, rfl⟩
  have t0 : Touch No w w0 := by rw [hw0]; exact (Touch.refl No w).alloc _
  have B0 := Row.new w 75 #[.slice sa sn c, .slice la ln d]
  obtain ⟨T, hT⟩ : ∃ T, T = w.heap.size := ⟨_, rfl⟩
  rw [← hw0, ← hT] at B0
  have HB := Lib.hid B0
  have T0 := Lib.hid t0
  obtain ⟨a, c1, hat, hat0⟩ : ∃ a c1, Ref24At w g A.room A.used A.peak R a c1 ∧ True := by
    obtain ⟨a, c, _, _, _, hat, _⟩ := ref24_at h
    exact ⟨a, c, hat, trivial⟩
  have C : Hid (Calls Tryz.prog 68 #[.pointer (some ⟨g, 0, none⟩), .int .u32 (id : Nat)] w0 fun e w' => e = .returned (.tuple #[.int .i64 (Ar.place R id : Nat), .bool (Ar.isAt R id)]) ∧ Touch No w0 w') := refFind_any (hat.no t0) (by omega) hids id hid
  have C2 : Hid (∀ wx, Touch No w wx → Calls Tryz.prog 71 #[.agg #[.slice sa sn c, .slice la ln d]] wx fun e w' => e = .returned (.bool (Ar.check s l)) ∧ Touch No wx w') := fun wx t => refCheck_any wx sa la sn c ln d s l hs (by omega) (hrs.no t) hl
  cases hi : Ar.isAt R id with
  | false =>
    have hnone : Ar.look A.its id = none := by rw [hi] at hsome; exact Option.isNone_iff_eq_none.1 (by simpa using hsome)
    have hE : Ar.putE A id s l = 7 := by rw [Ar.putE, hnone]
    have hA : Ar.putA A id s l = A := by rw [Ar.putA, hnone]
    rw [hE, hA]
    rw [hi] at C
    have HF : Hid (∀ w', Touch No w w' → Ref24Post w g O 7 A n (.returned (.int .i64 7)) w') := fun w' t => ref24_same h hR hn t
    obtain ⟨p, hp⟩ : ∃ p, Ar.place R id = p := ⟨_, rfl⟩
    rw [hp] at C
    clear h hok hR hn hE hA hids hsome hat hi hp B0 t0 hnone hrs hrl C2
    go_enter Tryz.func23, Tryz.ntmps23
    go_wp2_with fail
    rw [← hw0]
    clear hw0
    refine C.out.mono ?_
    rintro e w1 ⟨rfl, t1⟩
    have T1 := Lib.hid t1
    clear t1
    go_wp2
    go_ret
    exact HF.out _ (T0.out.trans T1.out)
  | true =>
    rw [hi] at C
    obtain ⟨e, he, heid⟩ := Ar.isAt_get hi
    have hlk : Ar.look A.its id = some e.it.2 := by
      rw [← hR, Ar.look_is id (by rw [hR]; exact hok.up), hi, if_pos rfl, he]; rfl
    have hput := fun e' he' => Ar.put_there (R := R) id ⟨e.bytes, some (s, l)⟩ e' (by rw [hR]; exact hok.up) hi he'
    rw [hR] at hput
    obtain ⟨p, hp⟩ : ∃ p, Ar.place R id = p := ⟨_, rfl⟩
    rw [hp] at C he hput
    obtain ⟨ck, hck⟩ : ∃ b, Ar.check s l = b := ⟨_, rfl⟩
    rw [hck] at C2
    cases ck with
    | false =>
      have hE : Ar.putE A id s l = 1 := by rw [Ar.putE, hlk]; simp only [hck, if_true]
      have hA : Ar.putA A id s l = A := by rw [Ar.putA, hlk]; simp only [hck, if_true]
      rw [hE, hA]
      have HF : Hid (∀ w', Touch No w w' → Ref24Post w g O 1 A n (.returned (.int .i64 1)) w') := fun w' t => ref24_same h hR hn t
      clear h hok hR hn hE hA hids hsome hat hi hp B0 t0 hlk hrs hrl he heid hput hck
      go_enter Tryz.func23, Tryz.ntmps23
      go_wp2_with fail
      rw [← hw0, ← hT]
      clear hw0 hT
      refine C.out.mono ?_
      rintro e w1 ⟨rfl, t1⟩
      have T1 := Lib.hid (T0.out.trans t1)
      have R1 := HB.out.touch t1 (fun f => f)
      have y0 : w1.cell? ⟨T, 0, none⟩ = some (.slice sa sn c) := R1.cell 0
      have y1 : w1.cell? ⟨T, 1, none⟩ = some (.slice la ln d) := R1.cell 1
      clear t1 R1
      go_wp2_with fail
      refine (C2.out _ T1.out).mono ?_
      rintro e w2 ⟨rfl, t2⟩
      have T2 := Lib.hid (T1.out.trans t2)
      clear t2
      go_wp2
      go_ret
      exact HF.out _ T2.out
    | true =>
      obtain ⟨eid, eb, es, esa, esc, el, ela, elc, eis⟩ := e
      dsimp only at heid
      have hlk2 : Ar.look A.its id = some ⟨eb, if eis then some (es, el) else none⟩ := hlk
      have hebm : eb ≤ 1048576 := by
        have := Ar.le_sum hlk2
        have h1 := hok.sum
        have h2 := hok.peak
        have h3 := hok.room
        have h4 := hok.max
        dsimp only at this
        omega
      obtain ⟨X, hX⟩ : ∃ X, R.length = X := ⟨_, rfl⟩
      have hpX : (p : Int) < (X : Nat) := by
        rcases Nat.lt_or_ge p R.length with h | h
        · omega
        · rw [List.getElem?_eq_none h] at he; cases he
      obtain ⟨gb, hae, hInb, hc1⟩ := hat.cell he (j := 1) (by decide)
      subst hae
      obtain ⟨_, e2, _, hc2⟩ := hat.cell he (j := 2) (by decide)
      cases e2
      obtain ⟨_, e3, _, hc3⟩ := hat.cell he (j := 3) (by decide)
      cases e3
      obtain ⟨_, e4, _, hc4⟩ := hat.cell he (j := 4) (by decide)
      cases e4
      have HK : Hid (∀ w', Touch No w w' → (w'.cell? ⟨g, 3, none⟩ = some (.slice (some ⟨gb, 0, none⟩) X c1) ∧ w'.cell? ⟨gb, p * 5 + 1, none⟩ = some (.int .i64 (eb : Nat))) ∧ (∃ v, w'.cell? ⟨gb, p * 5 + 2, none⟩ = some v) ∧ (∃ v, w'.cell? ⟨gb, p * 5 + 3, none⟩ = some v) ∧ (∃ v, w'.cell? ⟨gb, p * 5 + 4, none⟩ = some v) ∧ ∀ j, w'.frozen? ⟨gb, j, none⟩ = false) := fun w' t => by
        refine ⟨⟨?_, t.cell (fun f => f) hc1⟩, ⟨_, t.cell (fun f => f) hc2⟩, ⟨_, t.cell (fun f => f) hc3⟩, ⟨_, t.cell (fun f => f) hc4⟩, fun j => (hat.no t).soft j⟩
        have := (hat.no t).row.cell 3
        rw [hX] at this; exact this
      have HG : Hid (∀ w', Touch No w0 w' → w'.cell? ⟨T, 0, none⟩ = some (.slice sa sn c) ∧ w'.cell? ⟨T, 1, none⟩ = some (.slice la ln d)) := fun w' t => ⟨(HB.out.touch t (fun f => f)).cell 0, (HB.out.touch t (fun f => f)).cell 1⟩
      by_cases hfull : 4 * ln > eb
      · have hE : Ar.putE A id s l = 13 := by rw [Ar.putE, hlk2]; simp only [hck, hl]; rw [if_neg (by decide), if_pos hfull]
        have hA : Ar.putA A id s l = A := by rw [Ar.putA, hlk2]; simp only [hck, hl]; rw [if_neg (by decide), if_pos hfull]
        rw [hE, hA]
        have HF : Hid (∀ w', Touch No w w' → Ref24Post w g O 13 A n (.returned (.int .i64 13)) w') := fun w' t => ref24_same h hR hn t
        have hfull' : (eb : Int) < 4 * (ln : Int) := by omega
        have hwr : IntKind.i64.wrap (4 * (ln : Int)) = 4 * (ln : Int) := IntWalk.i64_in _ (by omega)
        clear h hok hR hn hE hA hids hsome hat hi hp B0 t0 hlk hlk2 hrs hrl he heid hput hck hfull hX hc1 hc2 hc3 hc4 hInb
        go_enter Tryz.func23, Tryz.ntmps23
        go_wp2_with fail
        rw [← hw0, ← hT]
        clear hw0 hT
        refine C.out.mono ?_
        rintro e w1 ⟨rfl, t1⟩
        have T1a := Lib.hid t1
        have T1 := Lib.hid (T0.out.trans t1)
        obtain ⟨y0, y1⟩ := HG.out w1 t1
        clear t1
        go_wp2_with fail
        refine (C2.out _ T1.out).mono ?_
        rintro e w2 ⟨rfl, t2⟩
        have T2 := Lib.hid (T1.out.trans t2)
        obtain ⟨y0, y1⟩ := HG.out w2 (T1a.out.trans t2)
        obtain ⟨⟨q3, q4⟩, _⟩ := HK.out w2 T2.out
        clear t2
        go_wp2
        go_quiet (fail)
        go_wp2
        go_ret
        exact HF.out _ (T2.out.drewN _)
      · have hE : Ar.putE A id s l = 0 := by rw [Ar.putE, hlk2]; simp only [hck, hl]; rw [if_neg (by decide), if_neg hfull]
        have hA : Ar.putA A id s l = ⟨A.room, A.used, A.peak, A.puts + 1, Ar.put A.its id ⟨eb, some (s, l)⟩⟩ := by rw [Ar.putA, hlk2]; simp only [hck, hl]; rw [if_neg (by decide), if_neg hfull]
        rw [hE, hA]
        have HF : Hid (∀ (w1 w2 : World) (sa' la' : Option Addr) (sc lc : Nat), Touch No w w1 → Own w1 w.heap.size 3 (.slice sa' sn sc) (ints .i64 s) → Own w1 w.heap.size 21 (.slice la' ln lc) (ints .i32 l) → w2 = (((w1.setCell ⟨gb, p * 5 + 2, none⟩ (.slice sa' sn sc)).setCell ⟨gb, p * 5 + 3, none⟩ (.slice la' ln lc))).setCell ⟨gb, p * 5 + 4, none⟩ (.bool true) → Ref24Post w g O 0 ⟨A.room, A.used, A.peak, A.puts + 1, Ar.put A.its id ⟨eb, some (s, l)⟩⟩ n (.returned (.int .i64 0)) w2) := fun w1 w2 sa' la' sc lc t os ol e2 =>
          ⟨rfl, _, hput ⟨eid, eb, s, sa', sc, l, la', lc, true⟩ (by simp [Ar.REnt.it, heid]), by rw [List.length_set]; exact hn, ref24_set h t he hat os ol hs hl e2⟩
        have HK5 : Hid (∀ (w5 : World) (u1 u2 : Value), Touch No w w5 → ((w5.setCell ⟨gb, p * 5 + 2, none⟩ u1).setCell ⟨gb, p * 5 + 3, none⟩ u2).cell? ⟨g, 3, none⟩ = some (.slice (some ⟨gb, 0, none⟩) X c1) ∧ (∃ v, ((w5.setCell ⟨gb, p * 5 + 2, none⟩ u1).setCell ⟨gb, p * 5 + 3, none⟩ u2).cell? ⟨gb, p * 5 + 4, none⟩ = some v) ∧ ((w5.setCell ⟨gb, p * 5 + 2, none⟩ u1).setCell ⟨gb, p * 5 + 3, none⟩ u2).frozen? ⟨gb, p * 5 + 4, none⟩ = false) := fun w5 u1 u2 t => by
          obtain ⟨⟨q1, _⟩, _, _, ⟨v, q2⟩, q3⟩ := HK.out w5 t
          have hng : ¬ gb = g := fun e => hat.ne (by rw [hX]; show _ = _; rw [e]; rfl)
          refine ⟨?_, ⟨v, ?_⟩, ?_⟩
          · rw [cell_set_ne (Or.inl hng), cell_set_ne (Or.inl hng)]; exact q1
          · rw [cell_set_ne (Or.inr (by omega)), cell_set_ne (Or.inr (by omega))]; exact q2
          · rw [World.frozen?_setCell, World.frozen?_setCell]; exact q3 _
        have hfull' : ¬ (eb : Int) < 4 * (ln : Int) := by omega
        have hwr : IntKind.i64.wrap (4 * (ln : Int)) = 4 * (ln : Int) := IntWalk.i64_in _ (by omega)
        obtain ⟨I, hi0, hi1, hi2, hi3⟩ := int_info
        have HI := Lib.hid (And.intro hi0 (And.intro hi1 (And.intro hi2 hi3)))
        obtain ⟨J, hj0, hj1, hj2, hj3⟩ := i32_info
        have HJ := Lib.hid (And.intro hj0 (And.intro hj1 (And.intro hj2 hj3)))
        have HS : Hid (∀ w', Touch No w w' → Rd w' sa (ints .i64 s)) := fun w' t => hrs.no t
        have HL : Hid (∀ w', Touch No w w' → Rd w' la (ints .i32 l)) := fun w' t => hrl.no t
        have l1 : Hid ((ints .i64 s).length = sn) := by show _ = _; rw [ints_length, hs]
        have l2 : Hid ((ints .i32 l).length = ln) := by show _ = _; rw [ints_length, hl]
        clear h hok hR hn hE hA hids hsome hat hi hp B0 t0 hlk hlk2 hrs hrl he heid hput hck hfull hX hc1 hc2 hc3 hc4 hInb hi0 hi1 hi2 hi3 hj0 hj1 hj2 hj3
        go_enter Tryz.func23, Tryz.ntmps23
        go_wp2_with fail
        rw [← hw0, ← hT]
        clear hw0 hT
        refine C.out.mono ?_
        rintro e w1 ⟨rfl, t1⟩
        have T1a := Lib.hid t1
        have T1 := Lib.hid (T0.out.trans t1)
        obtain ⟨y0, y1⟩ := HG.out w1 t1
        clear t1
        go_wp2_with fail
        refine (C2.out _ T1.out).mono ?_
        rintro e w2 ⟨rfl, t2⟩
        have T2a := Lib.hid (T1a.out.trans t2)
        have T2 := Lib.hid (T1.out.trans t2)
        obtain ⟨y0, y1⟩ := HG.out w2 T2a.out
        obtain ⟨⟨q3, q4⟩, _⟩ := HK.out w2 T2.out
        clear t2
        go_wp2
        go_quiet (fail)
        go_upto_region 8 with fail
        obtain ⟨w3, hw3⟩ : ∃ w3, w3 = w2.drewN nq := ⟨_, rfl⟩
        have t3 : Touch No w w3 := by rw [hw3]; exact T2.out.drewN nq
        have t3a : Touch No w0 w3 := by rw [hw3]; exact T2a.out.drewN nq
        rw [← hw3]
        have T3 := Lib.hid t3
        have Td : Hid (Touch No w w3.drew) := t3.drew
        have Tda : Hid (Touch No w0 w3.drew) := t3a.drew
        obtain ⟨⟨q3, q4⟩, ⟨v2, q5⟩, ⟨v3, q6⟩, _, qf⟩ := HK.out w3 t3
        have qf2 := qf (p * 5 + 2)
        have qf3 := qf (p * 5 + 3)
        obtain ⟨y0, y1⟩ := HG.out w3 t3a
        clear hw3 t3 t3a qf T2 T2a T1 T1a
        go_cut [] (fun wx => Hid (∃ (w5 : World) (xsa xla : Option Addr) (cs cl : Nat), Touch No w w5 ∧ Own w5 w.heap.size 3 (.slice xsa sn cs) (ints .i64 s) ∧ Own w5 w.heap.size 21 (.slice xla ln cl) (ints .i32 l) ∧ wx = (w5.setCell ⟨gb, p * 5 + 2, none⟩ (.slice xsa sn cs)).setCell ⟨gb, p * 5 + 3, none⟩ (.slice xla ln cl)))
        case first =>
          go_wp2_with fail
          go_region_law (first
            | (refine step_append_rds ?_ (.const (.slice none 0 0)) (.tmp 39) 72 rfl w.heap.size 3 I (.int .i64 0) 8 Tryz.underlying72 HI.out.1 HI.out.2.1 HI.out.2.2.1 HI.out.2.2.2 rfl _ [] (Own.nil _ _ _) rfl sa sn c sn (ints .i64 s) rfl l1.out (HS.out _ Td.out) (ints_one _ _) (by simp) (by unfold maxLen; omega) (by omega) Td.out.size ?_; rfl; intro xsa cs w4 os t4; have t4' : Touch No _ w4 := t4.mono (fun k _ h => by cases h); have T4 := Lib.hid (Td.out.trans t4'); have T4a := Lib.hid (Tda.out.trans t4'); have OS : Hid (Own w4 w.heap.size 3 (.slice xsa sn cs) (ints .i64 s)) := os; obtain ⟨⟨q3, q4⟩, ⟨v2, q5⟩, ⟨v3, q6⟩, _, qf⟩ := HK.out w4 T4.out; have qf2 := qf (p * 5 + 2); have qf3 := qf (p * 5 + 3); obtain ⟨y0, y1⟩ := HG.out w4 T4a.out; clear os t4 t4' qf)
            | (refine step_append_rds ?_ (.const (.slice none 0 0)) (.tmp 42) 73 rfl w.heap.size 21 J (.int .i32 0) 4 Tryz.underlying73 HJ.out.1 HJ.out.2.1 HJ.out.2.2.1 HJ.out.2.2.2 rfl _ [] (Own.nil _ _ _) rfl la ln d ln (ints .i32 l) rfl l2.out (HL.out _ T4.out) (ints_one _ _) (by simp) (by unfold maxLen; omega) (by omega) T4.out.size ?_; rfl; intro xla cl w5 ol t4; have t4' : Touch No _ w5 := t4.mono (fun k _ h => by cases h); have T5 := Lib.hid (T4.out.trans t4'); have T5a := Lib.hid (T4a.out.trans t4'); have OL : Hid (Own w5 w.heap.size 21 (.slice xla ln cl) (ints .i32 l)) := ol; obtain ⟨⟨q3, q4⟩, ⟨v2, q5⟩, ⟨v3, q6⟩, _, qf⟩ := HK.out w5 T5.out; have qf2 := qf (p * 5 + 2); have qf3 := qf (p * 5 + 3); obtain ⟨y0, y1⟩ := HG.out w5 T5a.out; have OS := Lib.hid (OS.out.touch t4' (fun _ _ _ f => f)); clear ol t4 t4' qf))
          all_goals
            have FIN : Hid (∃ (w6 : World) (xsa' xla' : Option Addr) (cs' cl' : Nat), Touch No w w6 ∧ Own w6 w.heap.size 3 (.slice xsa' sn cs') (ints .i64 s) ∧ Own w6 w.heap.size 21 (.slice xla' ln cl') (ints .i32 l) ∧ (w5.setCell ⟨gb, p * 5 + 2, none⟩ (.slice xsa sn cs)).setCell ⟨gb, p * 5 + 3, none⟩ (.slice xla ln cl) = (w6.setCell ⟨gb, p * 5 + 2, none⟩ (.slice xsa' sn cs')).setCell ⟨gb, p * 5 + 3, none⟩ (.slice xla' ln cl')) := ⟨w5, xsa, xla, cs, cl, T5.out, OS.out, OL.out, rfl⟩
            go_wp2_with fail
            go_meet
            exact FIN.out
        case rest =>
          obtain ⟨w5, xsa, xla, cs, cl, t5, os, ol, hwc⟩ := hcut.out
          have E2 := Lib.hid hwc
          have T5 := Lib.hid t5
          have OS := Lib.hid os
          have OL := Lib.hid ol
          obtain ⟨k3, ⟨v4, k4⟩, kf⟩ := HK5.out w5 (.slice xsa sn cs) (.slice xla ln cl) t5
          rw [← hwc] at k3 k4 kf
          clear hcut t5 os ol hwc q3 q4 q5 q6 qf2 qf3 y0 y1
          go_wp2
          go_ret
          exact HF.out w5 _ xsa xla cs cl T5.out OS.out OL.out (by rw [E2.out])
end Go.Proofs.YtnffigfafalocaaGreatDoor
