/-
  An arena beside what else stands there: its methods, whatever is beside it.
  The arena's IDs.
  Slices with room of their own, as parts; a book's lists. No program in sight.
  Lists with their room, in a block of their own; package arenas' twin once more: its lists' room, apart.
-/
import Derived.Test.YtnffigfafalocaaGreatDoorK24
import Derived.Test.YtnffigfafalocaaGreatDoorK20
import Derived.Test.YtnffigfafalocaaGreatDoorK05
import Derived.ArgAppend
import Derived.Test.YtnffigfafalocaaGreatDoorK22
namespace Go.Proofs.YtnffigfafalocaaGreatDoor
open Go Go.RowKit Go.Maps Go.MuLone
set_option linter.unusedSimpArgs false
set_option linter.unusedVariables false

theorem Sl.step2 {w0 w : World} {p : Part} {l : List Part} (h : Sl w0 w (p :: l)) : ∃ A, p.P w A ∧ (∀ k, A k → w0.heap.size ≤ k ∧ k < w.heap.size) ∧ (∀ q ∈ l, ∃ C, q.P w C ∧ ∀ k, A k → ¬ C k) ∧ ∀ w' l', TurnsL w A l' w' → Sl w0 w' (l' ++ l) := by
  obtain ⟨O, ⟨A, B, ha, hb, hd, h1, h2⟩, h3, t0⟩ := h
  refine ⟨A, ha, fun k hk => h3 k (h1 k hk), fun q hq => ?_, fun w' l' ht => ?_⟩
  · obtain ⟨C, hC, hCB⟩ := hb.mem hq
    exact ⟨C, hC, fun k hk hc => hd k hk (hCB k hc)⟩
  · obtain ⟨t, A', ha', hin⟩ := ht
    have hAl : Al w' (l' ++ l) (fun k => A' k ∨ (B k ∧ k < w.heap.size)) := Al.join ha' (Al.stable t hb.cut (fun k hk f => hd k f hk.1)) (fun k hk hB => by
      rcases hin k hk with h | h
      · exact hd k h hB.1
      · have := hB.2
        omega) (fun k => Or.inl) (fun k => Or.inr)
    refine ⟨_, hAl.cut, fun k hk => ⟨?_, hk.2⟩, t0.then t (fun i hi f => absurd hi (Nat.not_lt.2 (h3 i (h1 i f)).1))⟩
    rcases hk.1 with h | h
    · rcases hin k h with h | h
      · exact (h3 k (h1 k h)).1
      · exact Nat.le_trans t0.size h
    · exact (h3 k (h2 k h.1)).1
/-- two lists that lie somewhere -/
def Part.rd2 (sa : Option Addr) (vs : List Value) (la : Option Addr) (us : List Value) : Part where
  P w O := Rd w sa vs ∧ Rd w la us ∧ (∀ g o, sa = some ⟨g, o, none⟩ → O g) ∧ (∀ g o, la = some ⟨g, o, none⟩ → O g) ∧ ∀ k, O k → k < w.heap.size
  stable := fun {F w w' O} ⟨h1, h2, h3, h4, h5⟩ t hF => ⟨h1.touch t (fun b o e _ => hF b (h3 b o e)), h2.touch t (fun b o e _ => hF b (h4 b o e)), h3, h4, fun k hk => Nat.lt_of_lt_of_le (h5 k hk) t.size⟩
  lt := fun {w O} h => h.2.2.2.2
theorem one_al {w : World} {p : Part} {O : Nat → Prop} (h : p.P w O) : Al w [p] O := ⟨O, fun _ => False, h, trivial, fun _ _ f => f, fun _ h => h, fun _ f => f.elim⟩
def Ars (w0 w : World) (g : Nat) (A : Ar.Arena) (E : List Part) : Prop := Sl w0 w (Part.arena g A :: E)
section
variable {w0 w w' : World} {g : Nat} {A : Ar.Arena} {E : List Part}
theorem Ars.no (h : Ars w0 w g A E) (t : Touch No w w') : Ars w0 w' g A E := Sl.no h t
theorem Ars.end (h : Ars w0 w g A E) : Touch No w0 w := Sl.end h
theorem Ars.push {p : Part} (h : Ars w0 w g A E) (hb : Born w p w') : Ars w0 w' g A (p :: E) := Sl.perm (Sl.push h hb) (List.Perm.swap _ _ _)
theorem Ars.drop {p : Part} (h : Ars w0 w g A (p :: E)) : Ars w0 w g A E := (Sl.perm h (List.Perm.swap _ _ _)).drop
theorem Ars.row (h : Ars w0 w g A E) {T : TypeId} {x : Nat} {vs : List Value} (hp : Part.row x T vs ∈ E) : Row w x T vs := by
  obtain ⟨O, ⟨h, _⟩, _⟩ := Sl.mem h (List.mem_cons_of_mem _ hp)
  exact h
theorem Ars.new (w0 w : World) (t0 : Touch No w0 w) (n : Nat) (hn : n ≤ 1048576) : Calls Tryz.prog 17 #[.int .i64 (n : Nat)] w fun e w' => ∃ g, e = .returned (.tuple #[.pointer (some ⟨g, 0, none⟩), .int .i64 0]) ∧ Ars w0 w' g (Ar.new n) [] :=
  (arNew_in w n hn).mono fun e w' ⟨g, b, he, ha, t, h1, h2, h3, h4⟩ => ⟨g, he, (Sl.nil t0).push (p := Part.arena g (Ar.new n)) ⟨t, _, ⟨⟨b, ha⟩, Ar.ok_new hn, fun k hk => by rcases hk with rfl | rfl <;> assumption⟩, fun k hk => by rcases hk with rfl | rfl <;> assumption⟩⟩
theorem ars_turn {A' : Ar.Arena} {O : Nat → Prop} {b : Nat} (hlt : ∀ k, O k → k < w.heap.size) (hok : Ar.Ok A') (ha : ArAt w' g b 0 A' O) (t : Touch O w w') : TurnsL w O [Part.arena g A'] w' :=
  ⟨t, O, one_al ⟨⟨b, ha⟩, hok, fun k hk => Nat.lt_of_lt_of_le (hlt k hk) t.size⟩, fun _ h => Or.inl h⟩
theorem Ars.used (h : Ars w0 w g A E) : Calls Tryz.prog 32 #[.pointer (some ⟨g, 0, none⟩)] w fun e w' => e = .returned (.int .i64 (A.used : Nat)) ∧ Ars w0 w' g A E := by
  obtain ⟨O, ⟨⟨b, ha⟩, hok, hlt⟩, _, _, hf⟩ := Sl.step2 h
  exact (arUsed_in ha).mono fun e w' ⟨he, h1, h2⟩ => ⟨he, hf w' [_] (ars_turn hlt hok h1 h2)⟩
theorem Ars.peak (h : Ars w0 w g A E) : Calls Tryz.prog 34 #[.pointer (some ⟨g, 0, none⟩)] w fun e w' => e = .returned (.int .i64 (A.peak : Nat)) ∧ w = w' := by
  obtain ⟨O, ⟨⟨b, ha⟩, hok, hlt⟩, _, _, hf⟩ := Sl.step2 h
  exact arPeak_in ha
theorem Ars.take (h : Ars w0 w g A E) (id : Nat) (hid : id < 4294967296) (z : Int) (hz : -9223372036854775808 ≤ z ∧ z ≤ 9223372036854775807) (hp : A.puts < 1000000000) :
    Calls Tryz.prog 29 #[.pointer (some ⟨g, 0, none⟩), .int .u32 (id : Nat), .int .i64 z] w fun e w' => e = .returned (.int .i64 (Ar.takeE A id z : Nat)) ∧ Ars w0 w' g (Ar.takeA A id z) E := by
  obtain ⟨O, ⟨⟨b, ha⟩, hok, hlt⟩, _, _, hf⟩ := Sl.step2 h
  exact (arTake_in ha hok id hid z hz hp).mono fun e w' ⟨he, h1, h2⟩ => ⟨he, hf w' [_] (ars_turn hlt (Ar.ok_take hok hid z) h1 h2)⟩
theorem Ars.give (h : Ars w0 w g A E) (id : Nat) (hid : id < 4294967296) :
    Calls Tryz.prog 20 #[.pointer (some ⟨g, 0, none⟩), .int .u32 (id : Nat)] w fun e w' => e = .returned (.int .i64 (Ar.giveE A id : Nat)) ∧ Ars w0 w' g (Ar.giveA A id) E := by
  obtain ⟨O, ⟨⟨b, ha⟩, hok, hlt⟩, _, _, hf⟩ := Sl.step2 h
  exact (arGive_in ha hok id hid).mono fun e w' ⟨he, h1, h2⟩ => ⟨he, hf w' [_] (ars_turn hlt (Ar.ok_give hok id) h1 h2)⟩
/-- a list that an arena does not touch -/
def Apt (w0 w : World) (E : List Part) (a : Option Addr) (vs : List Value) : Prop :=
  Rd w a vs ∧ ∀ F : Nat → Prop, (∀ k, F k → w0.heap.size ≤ k ∧ k < w.heap.size) → (∀ q ∈ E, ∃ C, q.P w C ∧ ∀ k, F k → ¬ C k) → ∀ g o, a = some ⟨g, o, none⟩ → ¬ F g
theorem apt_row {x : Nat} {T : TypeId} {vs : List Value} (hp : Part.row x T vs ∈ E) (h : Ars w0 w g A E) : Apt w0 w E (some ⟨x, 0, none⟩) vs :=
  ⟨fun i v hi => ⟨x, 0, rfl, by rw [Nat.zero_add]; exact ((h.row hp).cell i).trans hi⟩, fun F _ hq g o e hk => by
    obtain ⟨C, ⟨_, hx, _⟩, hC⟩ := hq _ hp
    cases e
    exact hC _ hk hx⟩
theorem Ars.put (h : Ars w0 w g A E) (id : Nat) (hid : id < 4294967296) (sa la : Option Addr) (n c m d : Nat) (s l : List Int) (hs : s.length = n) (hn : (n : Int) ≤ 1000000000000) (hr : Apt w0 w E sa (ints .i64 s)) (hl : l.length = m) (hm : (m : Int) ≤ 1000000000000) (hr2 : Apt w0 w E la (ints .i32 l)) (hp : A.puts < 1000000000) :
    Calls Tryz.prog 22 #[.pointer (some ⟨g, 0, none⟩), .int .u32 (id : Nat), .agg #[.slice sa n c, .slice la m d]] w fun e w' => e = .returned (.int .i64 (Ar.putE A id s l : Nat)) ∧ Ars w0 w' g (Ar.putA A id s l) E := by
  obtain ⟨O, ⟨⟨b, ha⟩, hok, hlt⟩, hF, hq, hf⟩ := Sl.step2 h
  refine (arPut_in ha hok id hid sa la n c m d s l hs hn hr.1 hl hm hr2.1 (fun w' t => ⟨hr.1.touch t (fun b o e _ => hr.2 O hF hq b o e), hr2.1.touch t (fun b o e _ => hr2.2 O hF hq b o e)⟩) hp).mono fun e w' ⟨he, O', h1, h2, h3, h4⟩ => ⟨he, hf w' [_] ⟨h2, O', one_al ⟨⟨b, h1⟩, Ar.ok_put hok hid s l, fun k hk => ?_⟩, h3⟩⟩
  rcases h4 k hk with hk | hk
  · exact Nat.lt_of_lt_of_le (hlt k hk) h2.size
  · exact hk
def ArsGet (w0 w : World) (g : Nat) (A : Ar.Arena) (E : List Part) (er : Nat) (s l : List Int) (e : Ending) (w' : World) : Prop :=
  ∃ sa la, e = .returned (.tuple #[.agg #[.slice sa s.length s.length, .slice la l.length l.length], .int .i64 (er : Nat)]) ∧ Ars w0 w' g A (Part.rd2 sa (ints .i64 s) la (ints .i32 l) :: E)
theorem Ars.rd2 {sa la : Option Addr} {vs us : List Value} (h : Ars w0 w g A E) (hp : Part.rd2 sa vs la us ∈ E) : Rd w sa vs ∧ Rd w la us := by
  obtain ⟨O, ⟨h1, h2, _⟩, _⟩ := Sl.mem h (List.mem_cons_of_mem _ hp)
  exact ⟨h1, h2⟩
theorem Ars.get (h : Ars w0 w g A E) (id : Nat) (hid : id < 4294967296) :
    Calls Tryz.prog 26 #[.pointer (some ⟨g, 0, none⟩), .int .u32 (id : Nat)] w (ArsGet w0 w g A E (Ar.getE A id) (Ar.getS A id) (Ar.getL A id)) := by
  obtain ⟨O, ⟨⟨b, ha⟩, hok, hlt⟩, _, _, hf⟩ := Sl.step2 h
  refine (arGet_in ha hlt hok id hid).mono fun e w' ⟨sa, la, he, r1, r2, b1, b2, h1, h2⟩ => ⟨sa, la, he, hf w' [_, _] ⟨h2, fun k => O k ∨ (w.heap.size ≤ k ∧ k < w'.heap.size), ⟨O, fun k => w.heap.size ≤ k ∧ k < w'.heap.size, ⟨⟨b, h1⟩, hok, fun k hk => Nat.lt_of_lt_of_le (hlt k hk) h2.size⟩, one_al ⟨r1, r2, b1, b2, fun k hk => hk.2⟩, fun k hk hk2 => by have := hlt k hk; omega, fun k => Or.inl, fun k => Or.inr⟩, fun k hk => hk.imp (fun h => h) And.left⟩⟩
end
/-- an arena that is not there -/
theorem takeNil_any (w : World) (id : Nat) (z : Int) : Calls Tryz.prog 29 #[.pointer none, .int .u32 (id : Nat), .int .i64 z] w fun e w' => e = .returned (.int .i64 2) ∧ w = w' := by
  go_enter_defers Tryz.func29, Tryz.ntmps29
  go_wp2_with fail
  refine (there_nil w).mono ?_
  rintro e w' ⟨rfl, rfl⟩
  go_wp2_with fail
  exact ⟨_, results_tmp rfl _ _ _, rfl, rfl⟩
end Go.Proofs.YtnffigfafalocaaGreatDoor
namespace Go.Proofs.YtnffigfafalocaaGreatDoor
open Go Go.RowKit Go.Maps Go.MuLone
set_option linter.unusedSimpArgs false
set_option linter.unusedVariables false

theorem clipU_any (w : World) (a : Option Addr) (n c : Nat) (h : n ≤ c) : Calls Tryz.prog 80 #[.slice a n c] w fun e w' => e = .returned (.slice a n n) ∧ w = w' := by
  have hnc : (n : Int) ≤ (c : Int) := by omega
  have h0 : (0 : Int) ≤ (n : Int) := Int.natCast_nonneg _
  go_enter Tryz.func80, Tryz.ntmps80
  go_wp2
  go_ret
  exact ⟨rfl, rfl⟩
end Go.Proofs.YtnffigfafalocaaGreatDoor
namespace Go.Proofs.YtnffigfafalocaaGreatDoor
open Go Go.RowKit
set_option linter.unusedVariables false

/-- room for cap cells at a -/
def RoomAt (w : World) (T : TypeId) (a : Option Addr) (cap : Nat) (vs : List Value) (O : Nat → Prop) : Prop :=
  cap = 0 ∨ ∃ g o cs, a = some ⟨g, o, none⟩ ∧ w.heap[g]? = some (.cells cs T (0, 0)) ∧ o + cap ≤ cs.size ∧ O g ∧ ∀ (i : Nat) v, vs[i]? = some v → cs[o + i]? = some v
/-- a slice with its room, that reads so -/
def Part.sl (T : TypeId) (a : Option Addr) (n cap : Nat) (vs : List Value) : Part where
  P w O := vs.length = n ∧ n ≤ cap ∧ cap ≤ maxLen ∧ (∀ k, O k → k < w.heap.size) ∧ RoomAt w T a cap vs O
  stable := fun {F w w' O} ⟨h1, h2, h3, h4, h5⟩ t hF => ⟨h1, h2, h3, fun k hk => Nat.lt_of_lt_of_le (h4 k hk) t.size, by
    rcases h5 with h5 | ⟨g, o, cs, ha, hg, hc, hO, hv⟩
    · exact Or.inl h5
    · exact Or.inr ⟨g, o, cs, ha, by rw [t.block g (h4 g hO) (hF g hO)]; exact hg, hc, hO, hv⟩⟩
  lt := fun {w O} h => h.2.2.2.1
section
variable {w w' : World} {T : TypeId} {a : Option Addr} {n cap : Nat} {vs : List Value} {O : Nat → Prop}
theorem sl_len (h : (Part.sl T a n cap vs).P w O) : vs.length = n ∧ n ≤ cap ∧ cap ≤ maxLen := ⟨h.1, h.2.1, h.2.2.1⟩
theorem sl_rd (h : (Part.sl T a n cap vs).P w O) : Rd w a vs := by
  obtain ⟨h1, h2, h3, h4, h5⟩ := h
  intro i v hi
  have hlt : i < vs.length := by
    rcases Nat.lt_or_ge i vs.length with h | h
    · exact h
    · rw [List.getElem?_eq_none h] at hi; cases hi
  rcases h5 with h5 | ⟨g, o, cs, rfl, hg, hc, hO, hv⟩
  · omega
  · exact ⟨g, o, rfl, by simp only [World.cell?, hg]; simpa using hv i v hi⟩
theorem sl_cut {m : Nat} (h : (Part.sl T a n cap vs).P w O) (hm : m ≤ n) : (Part.sl T a m cap (vs.take m)).P w O := by
  obtain ⟨h1, h2, h3, h4, h5⟩ := h
  refine ⟨by rw [List.length_take]; omega, by omega, h3, h4, ?_⟩
  rcases h5 with h5 | ⟨g, o, cs, ha, hg, hc, hO, hv⟩
  · exact Or.inl h5
  · refine Or.inr ⟨g, o, cs, ha, hg, hc, hO, fun i v hi => ?_⟩
    rw [List.getElem?_take] at hi
    split at hi
    · exact hv i v hi
    · cases hi
/-- new memory of a call's own -/
theorem born_sl {base c : Nat} (t : Touch No w w') (hb : w.heap.size ≤ base) (h : Own w' base T (.slice a n c) vs) (hc : n ≤ cap) (hc' : cap ≤ c) : Born w (.sl T a n cap vs) w' := by
  obtain ⟨hl, h⟩ := h
  rcases h with ⟨hv, h0⟩ | ⟨g, cp, cur, hv, hg, hh, hn, hm, hs, ht⟩
  · cases hv
    exact ⟨t, fun _ => False, ⟨h0, hc, by omega, fun _ f => f.elim, Or.inl (by omega)⟩, fun _ f => f.elim⟩
  · cases hv
    have hgs : g < w'.heap.size := (Array.getElem?_eq_some_iff.1 hh).1
    refine ⟨t, fun k => k = g, ⟨by omega, hc, by omega, fun k hk => by rw [hk]; exact hgs, Or.inr ⟨g, 0, cur, rfl, hh, by omega, rfl, fun i v hi => ?_⟩⟩, fun k hk => by rw [hk]; omega⟩
    rw [← ht, List.getElem?_take] at hi
    split at hi
    · rw [Nat.zero_add]; simpa using hi
    · cases hi
theorem row_at {g : Nat} {cs : Array Value} (h : w.heap[g]? = some (.cells cs T (0, 0))) : Row w g T cs.toList := by
  rw [Row, Array.toArray_toList]; exact h
/-- one cell of it, written anew -/
theorem sl_set {i : Nat} (h : (Part.sl T a n cap vs).P w O) (hi : i < n) (v : Value) : ∃ g o, a = some ⟨g, o, none⟩ ∧ O g ∧ w.frozen? ⟨g, o + i, none⟩ = false ∧ (∃ u, w.cell? ⟨g, o + i, none⟩ = some u) ∧
    (Part.sl T a n cap (vs.set i v)).P (w.setCell ⟨g, o + i, none⟩ v) O ∧ Touch O w (w.setCell ⟨g, o + i, none⟩ v) := by
  obtain ⟨h1, h2, h3, h4, h5⟩ := h
  rcases h5 with h5 | ⟨g, o, cs, rfl, hg, hc, hO, hv⟩
  · omega
  · have hR := row_at hg
    have hR' := hR.setCell (o + i) v
    refine ⟨g, o, rfl, hO, hR.soft _, ?_, ?_, (Touch.refl O w).setCell (p := ⟨g, o + i, none⟩) (fun _ => hO) v⟩
    · refine ⟨cs[o + i]'(by omega), ?_⟩
      rw [hR.cell]; simp [Array.getElem?_eq_getElem (show o + i < cs.size by omega)]
    · refine ⟨by rw [List.length_set]; exact h1, h2, h3, fun k hk => by have := h4 k hk; simpa [World.setCell] using this, Or.inr ⟨g, o, (cs.toList.set (o + i) v).toArray, rfl, ?_, by simp; exact hc, hO, fun j u hj => ?_⟩⟩
      · exact hR'
      · rw [List.getElem?_set] at hj
        simp only [List.getElem?_toArray, List.getElem?_set]
        by_cases e : i = j
        · subst e
          rw [if_pos rfl] at hj ⊢
          split at hj
          · cases hj
            rw [if_pos (by simp; omega)]
          · cases hj
        · rw [if_neg e] at hj
          rw [if_neg (by omega)]
          simpa using hv j u hj
end
end Go.Proofs.YtnffigfafalocaaGreatDoor
namespace Go.Proofs.YtnffigfafalocaaGreatDoor
open Go Go.RowKit Go.Maps
set_option linter.unusedSimpArgs false
set_option linter.unusedVariables false

/-- a list with its room, that is all its length -/
def SlAt (w : World) (T : TypeId) (a : Option Addr) (vs : List Value) : Prop := (Part.sl T a vs.length vs.length vs).P w (fun k => ∃ o, a = some ⟨k, o, none⟩)
/-- .. in another block than that -/
def SlAt2 (w : World) (b : Option Addr) (T : TypeId) (a : Option Addr) (vs : List Value) : Prop := SlAt w T a vs ∧ ∀ g o o', b = some ⟨g, o, none⟩ → a = some ⟨g, o', none⟩ → False
section
variable {w w' : World} {T : TypeId} {a b : Option Addr} {vs : List Value}
theorem SlAt.rd (h : SlAt w T a vs) : Rd w a vs := sl_rd h
theorem SlAt.touch {F : Nat → Prop} (h : SlAt w T a vs) (t : Touch F w w') (hF : ∀ g o, a = some ⟨g, o, none⟩ → g < w.heap.size → ¬ F g) : SlAt w' T a vs :=
  (Part.sl T a _ _ vs).stable h t (fun k ⟨o, e⟩ => hF k o e ((Part.sl T a _ _ vs).lt h k ⟨o, e⟩))
theorem SlAt.no (h : SlAt w T a vs) (t : Touch No w w') : SlAt w' T a vs := h.touch t (fun _ _ _ _ f => f)
theorem SlAt2.touch {F : Nat → Prop} (h : SlAt2 w b T a vs) (t : Touch F w w') (hF : ∀ g o, a = some ⟨g, o, none⟩ → g < w.heap.size → ¬ F g) : SlAt2 w' b T a vs := ⟨h.1.touch t hF, h.2⟩
theorem slAt_nil (w : World) (T : TypeId) : SlAt w T none [] := ⟨rfl, Nat.le_refl _, Nat.zero_le _, (fun k ⟨o, e⟩ => by cases e), Or.inl rfl⟩
theorem slAt2_nil (w : World) (b : Option Addr) (T : TypeId) : SlAt2 w b T none [] := ⟨slAt_nil w T, fun g o o' _ e => by cases e⟩
theorem slAt_own {base n c : Nat} (h : Own w base T (.slice a n c) vs) : SlAt w T a vs := by
  obtain ⟨hl, h⟩ := h
  rcases h with ⟨hv, h0⟩ | ⟨g, cp, cur, hv, hg, hh, hn, hm, hs, ht⟩
  · cases hv
    have : vs = [] := List.length_eq_zero_iff.1 h0
    subst this
    exact slAt_nil w T
  · cases hv
    have hgs : g < w.heap.size := (Array.getElem?_eq_some_iff.1 hh).1
    refine ⟨rfl, Nat.le_refl _, by omega, (fun k ⟨o, e⟩ => by cases e; exact hgs), Or.inr ⟨g, 0, cur, rfl, hh, by omega, ⟨0, rfl⟩, fun i v hi => ?_⟩⟩
    rw [← ht, List.getElem?_take] at hi
    split at hi
    · rw [Nat.zero_add]; simpa using hi
    · cases hi
theorem slAt_al {T' : TypeId} {vs' : List Value} {n m : Nat} {O : Nat → Prop} (h1 : SlAt w T b vs) (h2 : SlAt2 w b T' a vs') (hn : vs.length = n) (hm : vs'.length = m) (hb : ∀ g o, b = some ⟨g, o, none⟩ → O g) (ha : ∀ g o, a = some ⟨g, o, none⟩ → O g) : Al w [Part.sl T b n n vs, Part.sl T' a m m vs'] O := by
  subst hn hm
  exact ⟨_, fun k => ∃ o, a = some ⟨k, o, none⟩, h1, ⟨_, fun _ => False, h2.1, trivial, fun _ _ f => f, fun _ h => h, fun _ f => f.elim⟩, fun k ⟨o, e⟩ ⟨o', e'⟩ => h2.2 k o o' e e', fun k ⟨o, e⟩ => hb k o e, fun k ⟨o, e⟩ => ha k o e⟩
end
def TwinPost2 (w : World) (s l : List Int) (e : Ending) (w' : World) : Prop :=
  ∃ sa la, e = .returned (.agg #[.slice sa s.length s.length, .slice la l.length l.length]) ∧ SlAt w' 3 sa (ints .i64 s) ∧ SlAt2 w' sa 21 la (ints .i32 l) ∧ (∀ g o, sa = some ⟨g, o, none⟩ → w.heap.size ≤ g ∧ g < w'.heap.size) ∧ (∀ g o, la = some ⟨g, o, none⟩ → w.heap.size ≤ g ∧ g < w'.heap.size) ∧ sa ≠ none ∧ la ≠ none ∧ Touch No w w'
set_option maxRecDepth 100000 in
set_option maxHeartbeats 4000000 in
theorem twin2_any (w : World) (sa la : Option Addr) (n c m d : Nat) (s l : List Int) (hs : s.length = n) (hn : (n : Int) ≤ 1000000000000) (hn1 : 1 ≤ n) (hr : Rd w sa (ints .i64 s)) (hl : l.length = m) (hm : (m : Int) ≤ 1000000000000) (hm1 : 1 ≤ m) (hr2 : Rd w la (ints .i32 l)) :
    Calls Tryz.prog 70 #[.agg #[.slice sa n c, .slice la m d]] w (TwinPost2 w s l) := by
  have hsa := Lib.hid (rd_some hr (by rw [hs]; exact hn1))
  have hla := Lib.hid (rd_some hr2 (by rw [hl]; exact hm1))
  obtain ⟨w1, hw1⟩ : ∃ w1, w1 = (w.alloc (.cells #[.slice sa n c, .slice la m d] 75)).alloc (.cells #[.slice none 0 0, .slice none 0 0] 75) := ⟨_, rfl⟩
  have t1 : Touch No w w1 := by rw [hw1]; exact ((Touch.refl No w).alloc _).alloc _
  have B := (Row.new w 75 #[.slice sa n c, .slice la m d]).touch ((Touch.refl No _).alloc (.cells #[.slice none 0 0, .slice none 0 0] 75)) id
  have B' := Row.new (w.alloc (.cells #[.slice sa n c, .slice la m d] 75)) 75 #[.slice none 0 0, .slice none 0 0]
  obtain ⟨X, hX⟩ : ∃ X, X = w.heap.size := ⟨_, rfl⟩
  have hX2 : (w.alloc (.cells #[.slice sa n c, .slice la m d] 75)).heap.size = X + 1 := by rw [hX]; simp
  rw [hX2] at B'
  rw [← hX] at B
  rw [← hw1] at B B'
  have HBx := Lib.hid B
  have HBy := Lib.hid B'
  have HXX := Lib.hid hX
  have C1 := Lib.hid (fun (wx : World) (t : Touch No w wx) => cloneI_own wx sa n c s hsa.out (hr.no t) hs hn)
  have C2 := Lib.hid (fun (wx : World) (t : Touch No w wx) => cloneL_own wx la m d l hla.out (hr2.no t) hl hm)
  have T1 := Lib.hid t1
  have Hs := Lib.hid hs
  have Hl := Lib.hid hl
  clear hr hr2 hs hl t1 B B' hX2
  go_enter Tryz.func70, Tryz.ntmps70
  go_wp2_with fail
  rw [← hw1, ← hX]
  clear hw1 hX
  have T1d := T1.out.drew
  have Q : Hid (∀ wx, Touch (fun k => k = X + 1) w1 wx → wx.cell? ⟨X, 0, none⟩ = some (.slice sa n c) ∧ wx.cell? ⟨X, 1, none⟩ = some (.slice la m d)) := fun wx t => ⟨(HBx.out.touch t (by omega)).cell 0, (HBx.out.touch t (by omega)).cell 1⟩
  have Q0 := Q.out w1 (Touch.refl _ w1)
  go_region_held3 (fun w' => w'.cell? ⟨X, 0, none⟩ = some (.slice sa n c) ∧ w'.cell? ⟨X, 1, none⟩ = some (.slice la m d)) (first | exact Q0 | exact Q.out _ ((((q5.no : Touch (fun k => k = X + 1) w1 w5).setCell (p := ⟨X + 1, 0, none⟩) (fun _ => rfl) _).setCell (p := ⟨X + 1, 1, none⟩) (fun _ => rfl) _).drew) | exact Q.out _ (((q5.no : Touch (fun k => k = X + 1) w1 w5).setCell (p := ⟨X + 1, 0, none⟩) (fun _ => rfl) _).setCell (p := ⟨X + 1, 1, none⟩) (fun _ => rfl) _) | exact Q.out _ q5.no | exact Q.out _ q3.no | exact Q.out _ ((Touch.refl _ w1).drew)) (first
    | (go_at_call 169; refine (C1.out _ T1d).mono ?_; rintro e w3 ⟨a3, c3, rfl, o3, hc3, t3⟩; have q3 := ((Touch.refl No w1).drew).trans t3)
    | (go_at_call 168; refine (clipI_any _ a3 n c3 hc3).mono ?_; rintro e w' ⟨rfl, rfl⟩)
    | (go_at_call 171; refine (C2.out _ (T1d.trans t3)).mono ?_; rintro e w5 ⟨a5, c5, rfl, o5, hc5, t5⟩; have q5 := q3.trans t5; have y0 : w5.cell? ⟨X + 1, 0, none⟩ = some (.slice none 0 0) := (HBy.out.touch q5 id).cell 0; have y1 : w5.cell? ⟨X + 1, 1, none⟩ = some (.slice none 0 0) := (HBy.out.touch q5 id).cell 1; have z0 := (HBy.out.touch q5 id).soft 0; have z1 := (HBy.out.touch q5 id).soft 1)
    | (go_at_call 170; refine (clipL_any _ a5 m c5 hc5).mono ?_; rintro e w' ⟨rfl, rfl⟩))
  have hy := HBy.out.lt
  have HY := Lib.hid hy
  have HE : Hid (∀ wx, Touch (fun k => k = X + 1) w5 wx → TwinPost2 w s l (.returned (.agg #[.slice a3 n n, .slice a5 m m])) wx) := fun wx t => by
    have b3 : ∀ gg oo, a3 = some ⟨gg, oo, none⟩ → w1.heap.size ≤ gg ∧ gg < w3.heap.size := fun gg oo e => o3.block (by rw [e]; rfl)
    have b5 : ∀ gg oo, a5 = some ⟨gg, oo, none⟩ → w3.heap.size ≤ gg ∧ gg < w5.heap.size := fun gg oo e => o5.block (by rw [e]; rfl)
    have h13 : w1.heap.size ≤ w3.heap.size := t3.size
    have h01 := T1.out.size
    have h35 := t5.size
    have h5x := t.size
    have hyy := HY.out
    have r3 : SlAt wx 3 a3 (ints .i64 s) := ((slAt_own o3).no t5).touch t (fun gg oo e _ hk => by have := b3 gg oo e; omega)
    have r5 : SlAt2 wx a3 21 a5 (ints .i32 l) := ⟨(slAt_own o5).touch t (fun gg oo e _ hk => by have := b5 gg oo e; omega), fun gg oo oo' e1 e2 => by have := b3 gg oo e1; have := b5 gg oo' e2; omega⟩
    refine ⟨a3, a5, by rw [Hs.out, Hl.out], r3, r5, fun gg oo e => ?_, fun gg oo e => ?_, rd_some r3.rd (by rw [Hs.out]; exact hn1), rd_some r5.1.rd (by rw [Hl.out]; exact hm1), ?_⟩
    · have := b3 gg oo e; omega
    · have := b5 gg oo e; omega
    · exact ((T1.out.trans q3).trans t5).then t (fun i hi e => by
        have h := HXX.out
        omega)
  clear o3 o5 hc3 hc5 t3 t5 q3 q5 Q Q0 T1d hy
  go_wp2
  refine bodyPost_ret (v := .agg #[.slice a3 n n, .slice a5 m m]) (by simp [results, Tryz.results70, go_sem, y0, y1]) rfl ?_
  exact HE.out _ (((Touch.refl (fun k => k = X + 1) w5).setCell (p := ⟨X + 1, 0, none⟩) (fun _ => rfl) _).setCell (p := ⟨X + 1, 1, none⟩) (fun _ => rfl) _)
end Go.Proofs.YtnffigfafalocaaGreatDoor
