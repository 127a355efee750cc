/-
  An arena beside what else stands there: its methods, whatever is beside it.
-/
import Derived.Test.YtnjdcpbaippdlaaArX
namespace Go.Proofs.Ytnjdcpbaippdlaa
open Go Go.RowKit Go.Maps Go.MuLone
set_option linter.unusedSimpArgs false
set_option linter.unusedVariables false

theorem Sl.step2 {w0 w : World} {p : Part} {l : List Part} (h : Sl w0 w (p :: l)) : ∃ A, p.P w A ∧ (∀ k, A k → w0.heap.size ≤ k ∧ k < w.heap.size) ∧ (∀ q ∈ l, ∃ C, q.P w C ∧ ∀ k, A k → ¬ C k) ∧ ∀ w' l', TurnsL w A l' w' → Sl w0 w' (l' ++ l) := by
  obtain ⟨O, ⟨A, B, ha, hb, hd, h1, h2⟩, h3, t0⟩ := h
  refine ⟨A, ha, fun k hk => h3 k (h1 k hk), fun q hq => ?_, fun w' l' ht => ?_⟩
  · obtain ⟨C, hC, hCB⟩ := hb.mem hq
    exact ⟨C, hC, fun k hk hc => hd k hk (hCB k hc)⟩
  · obtain ⟨t, A', ha', hin⟩ := ht
    have hAl : Al w' (l' ++ l) (fun k => A' k ∨ (B k ∧ k < w.heap.size)) := Al.join ha' (Al.stable t hb.cut (fun k hk f => hd k f hk.1)) (fun k hk hB => by
      rcases hin k hk with h | h
      · exact hd k h hB.1
      · have := hB.2
        omega) (fun k => Or.inl) (fun k => Or.inr)
    refine ⟨_, hAl.cut, fun k hk => ⟨?_, hk.2⟩, t0.then t (fun i hi f => absurd hi (Nat.not_lt.2 (h3 i (h1 i f)).1))⟩
    rcases hk.1 with h | h
    · rcases hin k h with h | h
      · exact (h3 k (h1 k h)).1
      · exact Nat.le_trans t0.size h
    · exact (h3 k (h2 k h.1)).1
/-- two lists that lie somewhere -/
def Part.rd2 (sa : Option Addr) (vs : List Value) (la : Option Addr) (us : List Value) : Part where
  P w O := Rd w sa vs ∧ Rd w la us ∧ (∀ g o, sa = some ⟨g, o, none⟩ → O g) ∧ (∀ g o, la = some ⟨g, o, none⟩ → O g) ∧ ∀ k, O k → k < w.heap.size
  stable := fun {F w w' O} ⟨h1, h2, h3, h4, h5⟩ t hF => ⟨h1.touch t (fun b o e _ => hF b (h3 b o e)), h2.touch t (fun b o e _ => hF b (h4 b o e)), h3, h4, fun k hk => Nat.lt_of_lt_of_le (h5 k hk) t.size⟩
  lt := fun {w O} h => h.2.2.2.2
theorem one_al {w : World} {p : Part} {O : Nat → Prop} (h : p.P w O) : Al w [p] O := ⟨O, fun _ => False, h, trivial, fun _ _ f => f, fun _ h => h, fun _ f => f.elim⟩
def Ars (w0 w : World) (g : Nat) (A : Ar.Arena) (E : List Part) : Prop := Sl w0 w (Part.arena g A :: E)
section
variable {w0 w w' : World} {g : Nat} {A : Ar.Arena} {E : List Part}
theorem Ars.no (h : Ars w0 w g A E) (t : Touch No w w') : Ars w0 w' g A E := Sl.no h t
theorem Ars.end (h : Ars w0 w g A E) : Touch No w0 w := Sl.end h
theorem Ars.ok (h : Ars w0 w g A E) : Ar.Ok A := by
  obtain ⟨O, ⟨_, ho, _⟩, _⟩ := Sl.mem h List.mem_cons_self
  exact ho
theorem Ars.push {p : Part} (h : Ars w0 w g A E) (hb : Born w p w') : Ars w0 w' g A (p :: E) := Sl.perm (Sl.push h hb) (List.Perm.swap _ _ _)
theorem Ars.drop {p : Part} (h : Ars w0 w g A (p :: E)) : Ars w0 w g A E := (Sl.perm h (List.Perm.swap _ _ _)).drop
theorem Ars.row (h : Ars w0 w g A E) {T : TypeId} {x : Nat} {vs : List Value} (hp : Part.row x T vs ∈ E) : Row w x T vs := by
  obtain ⟨O, ⟨h, _⟩, _⟩ := Sl.mem h (List.mem_cons_of_mem _ hp)
  exact h
theorem Ars.new (w0 w : World) (t0 : Touch No w0 w) (n : Nat) (hn : n ≤ 1048576) : Calls Try.prog 6 #[.int .i64 (n : Nat)] w fun e w' => ∃ g, e = .returned (.tuple #[.pointer (some ⟨g, 0, none⟩), .int .i64 0]) ∧ Ars w0 w' g (Ar.new n) [] :=
  (arNew_in w n hn).mono fun e w' ⟨g, b, he, ha, t, h1, h2, h3, h4⟩ => ⟨g, he, (Sl.nil t0).push (p := Part.arena g (Ar.new n)) ⟨t, _, ⟨⟨b, ha⟩, Ar.ok_new hn, fun k hk => by rcases hk with rfl | rfl <;> assumption⟩, fun k hk => by rcases hk with rfl | rfl <;> assumption⟩⟩
theorem ars_turn {A' : Ar.Arena} {O : Nat → Prop} {b : Nat} (hlt : ∀ k, O k → k < w.heap.size) (hok : Ar.Ok A') (ha : ArAt w' g b 0 A' O) (t : Touch O w w') : TurnsL w O [Part.arena g A'] w' :=
  ⟨t, O, one_al ⟨⟨b, ha⟩, hok, fun k hk => Nat.lt_of_lt_of_le (hlt k hk) t.size⟩, fun _ h => Or.inl h⟩
theorem Ars.used (h : Ars w0 w g A E) : Calls Try.prog 9 #[.pointer (some ⟨g, 0, none⟩)] w fun e w' => e = .returned (.int .i64 (A.used : Nat)) ∧ Ars w0 w' g A E := by
  obtain ⟨O, ⟨⟨b, ha⟩, hok, hlt⟩, _, _, hf⟩ := Sl.step2 h
  exact (arUsed_in ha).mono fun e w' ⟨he, h1, h2⟩ => ⟨he, hf w' [_] (ars_turn hlt hok h1 h2)⟩
theorem Ars.peak (h : Ars w0 w g A E) : Calls Try.prog 10 #[.pointer (some ⟨g, 0, none⟩)] w fun e w' => e = .returned (.int .i64 (A.peak : Nat)) ∧ w = w' := by
  obtain ⟨O, ⟨⟨b, ha⟩, hok, hlt⟩, _, _, hf⟩ := Sl.step2 h
  exact arPeak_in ha
theorem Ars.take (h : Ars w0 w g A E) (id : Nat) (hid : id < 4294967296) (z : Int) (hz : -9223372036854775808 ≤ z ∧ z ≤ 9223372036854775807) (hp : A.puts < 1000000000) :
    Calls Try.prog 7 #[.pointer (some ⟨g, 0, none⟩), .int .u32 (id : Nat), .int .i64 z] w fun e w' => e = .returned (.int .i64 (Ar.takeE A id z : Nat)) ∧ Ars w0 w' g (Ar.takeA A id z) E := by
  obtain ⟨O, ⟨⟨b, ha⟩, hok, hlt⟩, _, _, hf⟩ := Sl.step2 h
  exact (arTake_in ha hok id hid z hz hp).mono fun e w' ⟨he, h1, h2⟩ => ⟨he, hf w' [_] (ars_turn hlt (Ar.ok_take hok hid z) h1 h2)⟩
theorem Ars.give (h : Ars w0 w g A E) (id : Nat) (hid : id < 4294967296) :
    Calls Try.prog 8 #[.pointer (some ⟨g, 0, none⟩), .int .u32 (id : Nat)] w fun e w' => e = .returned (.int .i64 (Ar.giveE A id : Nat)) ∧ Ars w0 w' g (Ar.giveA A id) E := by
  obtain ⟨O, ⟨⟨b, ha⟩, hok, hlt⟩, _, _, hf⟩ := Sl.step2 h
  exact (arGive_in ha hok id hid).mono fun e w' ⟨he, h1, h2⟩ => ⟨he, hf w' [_] (ars_turn hlt (Ar.ok_give hok id) h1 h2)⟩
/-- a list that an arena does not touch -/
def Apt (w0 w : World) (E : List Part) (a : Option Addr) (vs : List Value) : Prop :=
  Rd w a vs ∧ ∀ F : Nat → Prop, (∀ k, F k → w0.heap.size ≤ k ∧ k < w.heap.size) → (∀ q ∈ E, ∃ C, q.P w C ∧ ∀ k, F k → ¬ C k) → ∀ g o, a = some ⟨g, o, none⟩ → ¬ F g
theorem apt_old {a : Option Addr} {vs : List Value} (hr : Rd w0 a vs) (hv : 0 < vs.length) (t : Touch No w0 w) : Apt w0 w E a vs :=
  ⟨hr.no t, fun F hF _ g o e hk => by
    obtain ⟨b, o', e', hc⟩ := hr 0 (vs[0]) (List.getElem?_eq_getElem hv)
    rw [e] at e'; cases e'
    have := lt_of_cell hc
    have := (hF g hk).1
    omega⟩
theorem apt_row {x : Nat} {T : TypeId} {vs : List Value} (hp : Part.row x T vs ∈ E) (h : Ars w0 w g A E) : Apt w0 w E (some ⟨x, 0, none⟩) vs :=
  ⟨fun i v hi => ⟨x, 0, rfl, by rw [Nat.zero_add]; exact ((h.row hp).cell i).trans hi⟩, fun F _ hq g o e hk => by
    obtain ⟨C, ⟨_, hx, _⟩, hC⟩ := hq _ hp
    cases e
    exact hC _ hk hx⟩
theorem Ars.put (h : Ars w0 w g A E) (id : Nat) (hid : id < 4294967296) (sa la : Option Addr) (n c m d : Nat) (s l : List Int) (hs : s.length = n) (hn : (n : Int) ≤ 1000000000000) (hr : Apt w0 w E sa (ints .i64 s)) (hl : l.length = m) (hm : (m : Int) ≤ 1000000000000) (hr2 : Apt w0 w E la (ints .i32 l)) (hp : A.puts < 1000000000) :
    Calls Try.prog 13 #[.pointer (some ⟨g, 0, none⟩), .int .u32 (id : Nat), .agg #[.slice sa n c, .slice la m d]] w fun e w' => e = .returned (.int .i64 (Ar.putE A id s l : Nat)) ∧ Ars w0 w' g (Ar.putA A id s l) E := by
  obtain ⟨O, ⟨⟨b, ha⟩, hok, hlt⟩, hF, hq, hf⟩ := Sl.step2 h
  refine (arPut_in ha hok id hid sa la n c m d s l hs hn hr.1 hl hm hr2.1 (fun w' t => ⟨hr.1.touch t (fun b o e _ => hr.2 O hF hq b o e), hr2.1.touch t (fun b o e _ => hr2.2 O hF hq b o e)⟩) hp).mono fun e w' ⟨he, O', h1, h2, h3, h4⟩ => ⟨he, hf w' [_] ⟨h2, O', one_al ⟨⟨b, h1⟩, Ar.ok_put hok hid s l, fun k hk => ?_⟩, h3⟩⟩
  rcases h4 k hk with hk | hk
  · exact Nat.lt_of_lt_of_le (hlt k hk) h2.size
  · exact hk
def ArsGet (w0 w : World) (g : Nat) (A : Ar.Arena) (E : List Part) (er : Nat) (s l : List Int) (e : Ending) (w' : World) : Prop :=
  ∃ sa la, e = .returned (.tuple #[.agg #[.slice sa s.length s.length, .slice la l.length l.length], .int .i64 (er : Nat)]) ∧ Ars w0 w' g A (Part.rd2 sa (ints .i64 s) la (ints .i32 l) :: E)
theorem Ars.rd2 {sa la : Option Addr} {vs us : List Value} (h : Ars w0 w g A E) (hp : Part.rd2 sa vs la us ∈ E) : Rd w sa vs ∧ Rd w la us := by
  obtain ⟨O, ⟨h1, h2, _⟩, _⟩ := Sl.mem h (List.mem_cons_of_mem _ hp)
  exact ⟨h1, h2⟩
theorem Ars.get (h : Ars w0 w g A E) (id : Nat) (hid : id < 4294967296) :
    Calls Try.prog 12 #[.pointer (some ⟨g, 0, none⟩), .int .u32 (id : Nat)] w (ArsGet w0 w g A E (Ar.getE A id) (Ar.getS A id) (Ar.getL A id)) := by
  obtain ⟨O, ⟨⟨b, ha⟩, hok, hlt⟩, _, _, hf⟩ := Sl.step2 h
  refine (arGet_in ha hlt hok id hid).mono fun e w' ⟨sa, la, he, r1, r2, b1, b2, h1, h2⟩ => ⟨sa, la, he, hf w' [_, _] ⟨h2, fun k => O k ∨ (w.heap.size ≤ k ∧ k < w'.heap.size), ⟨O, fun k => w.heap.size ≤ k ∧ k < w'.heap.size, ⟨⟨b, h1⟩, hok, fun k hk => Nat.lt_of_lt_of_le (hlt k hk) h2.size⟩, one_al ⟨r1, r2, b1, b2, fun k hk => hk.2⟩, fun k hk hk2 => by have := hlt k hk; omega, fun k => Or.inl, fun k => Or.inr⟩, fun k hk => hk.imp (fun h => h) And.left⟩⟩
end
/-- an arena that is not there -/
theorem takeNil_any (w : World) (id : Nat) (z : Int) : Calls Try.prog 7 #[.pointer none, .int .u32 (id : Nat), .int .i64 z] w fun e w' => e = .returned (.int .i64 2) ∧ w = w' := by
  go_enter_defers Try.func7, Try.ntmps7
  go_wp2_with fail
  refine (there_nil w).mono ?_
  rintro e w' ⟨rfl, rfl⟩
  go_wp2_with fail
  exact ⟨_, results_tmp rfl _ _ _, rfl, rfl⟩
end Go.Proofs.Ytnjdcpbaippdlaa
