/-
  A store in memory: a struct, the two maps that it leads to, lists of pages.
  Package shadows by its own text: there, pages, drops.
  Package shadows by its own text: drops, marks.
-/
import Derived.Test.YtnffigfafalocaaGreatDoorK20
import Derived.Maps.OwnSet
import Derived.Lib.Hide
import Derived.Deep.DeepCutAuto
import Derived.Deep.CutBlock
import Derived.Lib.SmallJoins
namespace Go.Proofs.YtnffigfafalocaaGreatDoor
open Go Go.RowKit Go.Maps
set_option linter.unusedSimpArgs false
set_option linter.unusedVariables false

/-- an element reads as itself -/
def asHeld (v : Value) : Option (DataW Value × List MemPlace) := some (.held v, [])
def noTh : Value := .agg #[.int .u32 0, .int .u32 0, .slice none 0 0, .bool false]
theorem keyU32 : Keyed Tryz.prog 38 := int_keyed Tryz.underlying38
theorem keyOf_id {id : Nat} (h : id < 4294967296) : keyOf Tryz.prog 38 (.int .u32 (id : Nat)) = some (.int .u32 (id : Nat)) := keyOf_int_mk Tryz.underlying38 (WalkArith.wf_u32 (by omega))
theorem isKey_id (x : Int) : WideAt.IsKeyLit (.int .u32 x) := by simp [WideAt.IsKeyLit]
theorem lit_ne {a b : Nat} (h : a ≠ b) : (Lit.int .u32 (a : Nat)) ≠ Lit.int .u32 (b : Nat) := fun e => h (by injection e with _ e; omega)
theorem zeroTh (w : World) : (zeroValue 103).run Tryz.prog w = .ok noTh w := by kernel_rfl
/-- a list of pages in the blocks of L -/
def ListAt (w : World) (L : Nat → Prop) (a : Option Addr) (c : Nat) (l : List Nat) : Prop := l.length ≤ c ∧ c ≤ maxLen ∧ Rd w a (nums .u32 l) ∧ ∀ g o, a = some ⟨g, o, none⟩ → l ≠ [] → L g
theorem rd_off {F L : Nat → Prop} {w w' : World} {a : Option Addr} {l : List Nat} (h : Rd w a (nums .u32 l)) (hL : ∀ g o, a = some ⟨g, o, none⟩ → l ≠ [] → L g) (t : Touch F w w') (hF : ∀ k, L k → ¬ F k) : Rd w' a (nums .u32 l) := by
  by_cases h0 : l = []
  · subst h0; exact Rd.nil _ _
  · exact h.touch t (fun b o e _ => hF b (hL b o e h0))
theorem ListAt.touch {F L L' : Nat → Prop} {w w' : World} {a : Option Addr} {c : Nat} {l : List Nat} (h : ListAt w L a c l) (t : Touch F w w') (hF : ∀ k, L k → ¬ F k) (hL : ∀ k, L k → L' k) : ListAt w' L' a c l :=
  ⟨h.1, h.2.1, rd_off h.2.2.1 h.2.2.2 t hF, fun g o e h0 => hL g (h.2.2.2 g o e h0)⟩
def thV (x : Sh.Th) (a : Option Addr) (c : Nat) : Value := .agg #[.int .u32 (x.bytes : Nat), .int .u32 (x.epoch : Nat), .slice a x.pages.length c, .bool x.fresh]
/-- the value of a thing -/
def ThAt (w : World) (L : Nat → Prop) (x : Sh.Th) (v : Value) : Prop := ∃ a c, v = thV x a c ∧ ListAt w L a c x.pages
theorem ThAt.touch {F L L' : Nat → Prop} {w w' : World} {x : Sh.Th} {v : Value} (h : ThAt w L x v) (t : Touch F w w') (hF : ∀ k, L k → ¬ F k) (hL : ∀ k, L k → L' k) : ThAt w' L' x v := by
  obtain ⟨a, c, h1, h2⟩ := h
  exact ⟨a, c, h1, h2.touch t hF hL⟩
/-- what a map of things reads as -/
def MapT (w : World) (L : Nat → Prop) (D : DataW Value) (its : List (Nat × Sh.Th)) : Prop :=
  IsMap D ∧ ∀ id, id < 4294967296 → Maps.has D (.int .u32 (id : Nat)) = (Mp.look its id).isSome ∧ ∀ x, Mp.look its id = some x → ∃ v, ThAt w L x v ∧ D.atKey (.int .u32 (id : Nat)) (.held noTh) = .held v
theorem MapT.touch {F L L' : Nat → Prop} {w w' : World} {D : DataW Value} {its : List (Nat × Sh.Th)} (h : MapT w L D its) (t : Touch F w w') (hF : ∀ k, L k → ¬ F k) (hL : ∀ k, L k → L' k) : MapT w' L' D its :=
  ⟨h.1, fun id hid => ⟨(h.2 id hid).1, fun x hx => by
    obtain ⟨v, hv, ha⟩ := (h.2 id hid).2 x hx
    exact ⟨v, hv.touch t hF hL, ha⟩⟩⟩
theorem MapT.nil (w : World) (L : Nat → Prop) : MapT w L (.map []) [] := ⟨isMap_empty, fun id _ => ⟨rfl, fun x hx => by cases hx⟩⟩
theorem MapT.put {w : World} {L : Nat → Prop} {D : DataW Value} {its : List (Nat × Sh.Th)} (h : MapT w L D its) (id : Nat) (x : Sh.Th) (v : Value) (hv : ThAt w L x v) : MapT w L (D.put (.int .u32 (id : Nat)) (.held v)) (Mp.put its id x) := by
  refine ⟨h.1.put _ _, fun id' hid' => ?_⟩
  by_cases e : id' = id
  · subst e
    refine ⟨by rw [has_put_same h.1 (isKey_id _), Mp.look_put_same]; rfl, fun y hy => ?_⟩
    rw [Mp.look_put_same] at hy
    cases hy
    exact ⟨v, hv, atKey_put_same h.1 (isKey_id _) _ _⟩
  · refine ⟨by rw [has_put_other (lit_ne e), Mp.look_put_other _ e]; exact (h.2 id' hid').1, fun y hy => ?_⟩
    rw [Mp.look_put_other _ e] at hy
    rw [atKey_put_other (lit_ne e)]
    exact (h.2 id' hid').2 y hy
theorem ownsMap_touch {F : Nat → Prop} {w w' : World} {b n : Nat} {D : DataW Value} (h : w.ownsMap Tryz.prog 38 asHeld b n D) (t : Touch F w w') (hF : ¬ F b) : w'.ownsMap Tryz.prog 38 asHeld b n D := by
  have hlt := h.lt
  obtain ⟨es, clock, hb, r⟩ := h
  exact ⟨es, clock, by rw [t.block b hlt hF]; exact hb, r⟩
/-- the map at b, written n times at most -/
def MapAtT (w : World) (L : Nat → Prop) (b n : Nat) (its : List (Nat × Sh.Th)) : Prop := ∃ cnt D, cnt ≤ n ∧ w.ownsMap Tryz.prog 38 asHeld b cnt D ∧ MapT w L D its
theorem MapAtT.touch {F L L' : Nat → Prop} {w w' : World} {b n : Nat} {its : List (Nat × Sh.Th)} (h : MapAtT w L b n its) (t : Touch F w w') (hb : ¬ F b) (hF : ∀ k, L k → ¬ F k) (hL : ∀ k, L k → L' k) : MapAtT w' L' b n its := by
  obtain ⟨cnt, D, h1, h2, h3⟩ := h
  exact ⟨cnt, D, h1, ownsMap_touch h2 t hb, h3.touch t hF hL⟩
theorem MapAtT.lt {w : World} {L : Nat → Prop} {b n : Nat} {its : List (Nat × Sh.Th)} (h : MapAtT w L b n its) : b < w.heap.size := by
  obtain ⟨cnt, D, h1, h2, h3⟩ := h
  exact h2.lt
/-- what lies in the struct -/
structure Sm where
  epoch : Nat
  now : List (Nat × Sh.Th)
  puts : Nat
  kept : List (Nat × Sh.Th)
  table : List Nat
def Sh.Sto.m (T : Sh.Sto) : Sm := ⟨T.epoch, T.now, T.puts, T.kept, T.table⟩
structure StoIn (w : World) (s : Nat) (d f : Option Addr) (m : Sm) (nb : Option Nat) (bk : Nat) (ta : Option Addr) (tc : Nat) (L : Nat → Prop) : Prop where
  row : Row w s 106 [.pointer d, .int .u32 (m.epoch : Nat), .map nb, .map (some bk), .slice ta m.table.length tc, .pointer f]
  now : ∀ b, nb = some b → MapAtT w L b m.puts m.now ∧ ¬ L b ∧ b ≠ s ∧ b ≠ bk
  kept : MapAtT w L bk 5000 m.kept
  tab : ListAt w L ta tc m.table
  ls : ¬ L s
  lk : ¬ L bk
  sk : s ≠ bk
  llt : ∀ k, L k → k < w.heap.size
/-- its blocks -/
def stoO (s : Nat) (nb : Option Nat) (bk : Nat) (L : Nat → Prop) : Nat → Prop := fun k => k = s ∨ nb = some k ∨ k = bk ∨ L k
theorem StoIn.lt {w : World} {s : Nat} {d f : Option Addr} {m : Sm} {nb : Option Nat} {bk : Nat} {ta : Option Addr} {tc : Nat} {L : Nat → Prop} (h : StoIn w s d f m nb bk ta tc L) : ∀ k, stoO s nb bk L k → k < w.heap.size := by
  rintro k (rfl | e | rfl | hk)
  · exact h.row.lt
  · exact (h.now k e).1.lt
  · exact h.kept.lt
  · exact h.llt k hk
theorem StoIn.touch {F : Nat → Prop} {w w' : World} {s : Nat} {d f : Option Addr} {m : Sm} {nb : Option Nat} {bk : Nat} {ta : Option Addr} {tc : Nat} {L : Nat → Prop} (h : StoIn w s d f m nb bk ta tc L) (t : Touch F w w') (hF : ∀ k, stoO s nb bk L k → ¬ F k) : StoIn w' s d f m nb bk ta tc L :=
  have hL : ∀ k, L k → ¬ F k := fun k hk => hF k (Or.inr (Or.inr (Or.inr hk)))
  ⟨h.row.touch t (hF s (Or.inl rfl)), fun b e => ⟨(h.now b e).1.touch t (hF b (Or.inr (Or.inl e))) hL (fun _ h => h), (h.now b e).2⟩, h.kept.touch t (hF bk (Or.inr (Or.inr (Or.inl rfl)))) hL (fun _ h => h), h.tab.touch t hL (fun _ h => h), h.ls, h.lk, h.sk, fun k hk => Nat.lt_of_lt_of_le (h.llt k hk) t.size⟩
/-- u: is the map of what there is now made? X: lists in its blocks that nothing there leads to yet -/
def Part.stoX (s : Nat) (d f : Option Addr) (u : Bool) (m : Sm) (X : List (Option Addr × Nat × List Nat)) : Part where
  P w O := ∃ nb bk ta tc L, StoIn w s d f m nb bk ta tc L ∧ nb.isSome = u ∧ (∀ x ∈ X, ListAt w L x.1 x.2.1 x.2.2) ∧ ∀ k, O k ↔ stoO s nb bk L k
  stable := fun {F w w' O} ⟨nb, bk, ta, tc, L, h1, h2, hx, h3⟩ t hF => ⟨nb, bk, ta, tc, L, h1.touch t (fun k hk => hF k ((h3 k).2 hk)), h2, fun x hX => (hx x hX).touch t (fun k hk => hF k ((h3 k).2 (Or.inr (Or.inr (Or.inr hk))))) (fun _ h => h), h3⟩
  lt := fun {w O} ⟨nb, bk, ta, tc, L, h1, h2, hx, h3⟩ k hk => h1.lt k ((h3 k).1 hk)
abbrev Part.sto (s : Nat) (d f : Option Addr) (u : Bool) (m : Sm) : Part := Part.stoX s d f u m []
/-- a store beside its disk and its free pages, and beside what else stands there -/
def Sg (u : Bool) (w0 w : World) (s d f : Nat) (T : Sh.Sto) (E : List Part) : Prop := Dd w0 w d T.D (Part.sto s (some ⟨d, 0, none⟩) (some ⟨f, 0, none⟩) u T.m :: Part.map f 1 (1 + Sh.many T.D) T.S :: E)
abbrev Ss := Sg true
end Go.Proofs.YtnffigfafalocaaGreatDoor
namespace Go.Proofs.YtnffigfafalocaaGreatDoor
open Go Go.RowKit Go.Maps
set_option linter.unusedSimpArgs false
set_option linter.unusedVariables false

section
variable {u : Bool} {w0 w w' : World} {s d f : Nat} {T : Sh.Sto} {E : List Part}
theorem Sg.end (h : Sg u w0 w s d f T E) : Touch No w0 w := Dd.end h
theorem Sg.no (h : Sg u w0 w s d f T E) (t : Touch No w w') : Sg u w0 w' s d f T E := Dd.no h t
theorem Sg.disk (h : Sg u w0 w s d f T E) : ∃ O, DiskAt w d T.D O := Dd.disk h
theorem Sg.stoIn (h : Sg u w0 w s d f T E) : ∃ nb bk ta tc L, StoIn w s (some ⟨d, 0, none⟩) (some ⟨f, 0, none⟩) T.m nb bk ta tc L := by
  obtain ⟨A, ⟨nb, bk, ta, tc, L, h1, h2, hx, h3⟩, _⟩ := Dd.rest h List.mem_cons_self
  exact ⟨nb, bk, ta, tc, L, h1⟩
theorem Sg.push {p : Part} (h : Sg u w0 w s d f T E) (hb : Born w p w') : Sg u w0 w' s d f T (p :: E) :=
  Dd.perm (Dd.push h hb) ((List.Perm.swap _ _ _).trans ((List.Perm.swap _ _ _).cons _))
theorem Sg.perm {E' : List Part} (h : Sg u w0 w s d f T E) (hp : E.Perm E') : Sg u w0 w s d f T E' := Dd.perm h ((hp.cons _).cons _)
theorem Sg.drop {p : Part} (h : Sg u w0 w s d f T (p :: E)) : Sg u w0 w s d f T E := (Dd.perm h (((List.Perm.swap _ _ _).cons _).trans (List.Perm.swap _ _ _))).drop
theorem Sg.row (h : Sg u w0 w s d f T E) {Ty : TypeId} {x : Nat} {vs : List Value} (hp : Part.row x Ty vs ∈ E) : Row w x Ty vs := Dd.row h (List.mem_cons_of_mem _ (List.mem_cons_of_mem _ hp))
theorem Sg.rd (h : Sg u w0 w s d f T E) {Ty : TypeId} {a : Option Addr} {m c : Nat} {vs : List Value} (hp : Part.sl Ty a m c vs ∈ E) : Rd w a vs := Dd.rd h (List.mem_cons_of_mem _ (List.mem_cons_of_mem _ hp))
/-- the map of free pages, taken up and turned -/
theorem Sg.map (h : Sg u w0 w s d f T E) : MapAt w f 1 (1 + Sh.many T.D) T.S ∧ (∀ q ∈ Part.disk d T.D :: Part.sto s (some ⟨d, 0, none⟩) (some ⟨f, 0, none⟩) u T.m :: E, ∃ C, q.P w C ∧ ¬ C f) ∧ w0.heap.size ≤ f ∧
    ∀ w' S', Touch (One f) w w' → MapAt w' f 1 (1 + Sh.many T.D) S' → Sg u w0 w' s d f { T with S := S' } E := by
  have h1 : Sl w0 w (Part.map f 1 (1 + Sh.many T.D) T.S :: Part.disk d T.D :: Part.sto s (some ⟨d, 0, none⟩) (some ⟨f, 0, none⟩) u T.m :: E) := Sl.perm h (((List.Perm.swap _ _ _).cons _).trans (List.Perm.swap _ _ _))
  obtain ⟨A, ⟨ha, hf, hlt⟩, hA, hq, hk⟩ := Sl.step2 h1
  refine ⟨ha, fun q hq' => ?_, (hA f hf).1, fun w' S' t hm => ?_⟩
  · obtain ⟨C, hC, hd⟩ := hq q hq'
    exact ⟨C, hC, hd f hf⟩
  · have := hk w' [Part.map f 1 (1 + Sh.many T.D) S'] ⟨t.mono (fun k _ e => by rw [show k = f from e]; exact hf), One f, ⟨One f, fun _ => False, ⟨hm, rfl, fun k e => by rw [show k = f from e]; exact hm.lt⟩, trivial, fun _ _ f => f, fun _ h => h, fun _ f => f.elim⟩, fun k e => Or.inl (by rw [show k = f from e]; exact hf)⟩
    exact Sl.perm this ((List.Perm.swap _ _ _).trans ((List.Perm.swap _ _ _).cons _))
theorem Sg.c0 (h : Sg u w0 w s d f T E) : w.cell? ⟨s, 0, none⟩ = some (.pointer (some ⟨d, 0, none⟩)) := by
  obtain ⟨bn, bk, ta, tc, L, h⟩ := h.stoIn
  exact h.row.cell 0
theorem Sg.c1 (h : Sg u w0 w s d f T E) : w.cell? ⟨s, 1, none⟩ = some (.int .u32 (T.epoch : Nat)) := by
  obtain ⟨bn, bk, ta, tc, L, h⟩ := h.stoIn
  exact h.row.cell 1
theorem Sg.c5 (h : Sg u w0 w s d f T E) : w.cell? ⟨s, 5, none⟩ = some (.pointer (some ⟨f, 0, none⟩)) := by
  obtain ⟨bn, bk, ta, tc, L, h⟩ := h.stoIn
  exact h.row.cell 5
end
theorem shThere_at (w : World) (s d : Nat) (c0 : w.cell? ⟨s, 0, none⟩ = some (.pointer (some ⟨d, 0, none⟩))) : Calls Tryz.prog 44 #[.pointer (some ⟨s, 0, none⟩)] w fun e w' => e = .returned (.bool true) ∧ w = w' := by
  go_enter Tryz.func44, Tryz.ntmps44
  go_wp2
  go_ret
  exact ⟨rfl, rfl⟩
theorem shThere_nil (w : World) : Calls Tryz.prog 44 #[.pointer none] w fun e w' => e = .returned (.bool false) ∧ w = w' := by
  go_enter Tryz.func44, Tryz.ntmps44
  go_wp2
  go_ret
  exact ⟨rfl, rfl⟩
set_option maxRecDepth 100000 in
theorem shPages_at (w : World) (s d : Nat) (D : Dk.Disk) (O : Nat → Prop) (h : DiskAt w d D O) (hl : 32 ≤ D.seen.length) (c0 : w.cell? ⟨s, 0, none⟩ = some (.pointer (some ⟨d, 0, none⟩))) :
    Calls Tryz.prog 152 #[.pointer (some ⟨s, 0, none⟩)] w fun e w' => e = .returned (.int .i64 (Sh.many D : Nat)) ∧ w = w' := by
  have H := Lib.hid h
  obtain ⟨n, hn⟩ : ∃ n, D.seen.length = n := ⟨_, rfl⟩
  have hm : Sh.many D = min 4096 (n / 4 - 1) := by rw [Sh.many, hn]
  rw [hn] at hl
  have ht := h.ok.top
  rw [hn] at ht
  have Hn := Lib.hid hn
  have e1 : Int.tdiv (n : Int) 4 = (n / 4 : Nat) := by rw [Int.tdiv_eq_ediv_of_nonneg (by omega)]; rfl
  obtain ⟨q, hq⟩ : ∃ q, n / 4 = q := ⟨_, rfl⟩
  rw [hq] at e1 hm
  have hq2 : 8 ≤ q ∧ q ≤ 4096 := by omega
  have Hm := Lib.hid hm
  clear h hn hm
  go_enter Tryz.func152, Tryz.ntmps152
  go_wp2_with fail
  refine (len_in w d D O H.out).mono ?_
  rintro e w' ⟨rfl, rfl⟩
  rw [Hn.out]
  go_wp2
  go_ret
  refine ⟨?_, rfl⟩
  rw [Hm.out]
  show Ending.returned (Value.int .i64 _) = _
  congr 2
  omega
end Go.Proofs.YtnffigfafalocaaGreatDoor
namespace Go.Proofs.YtnffigfafalocaaGreatDoor
open Go Go.RowKit Go.Maps
set_option linter.unusedSimpArgs false
set_option linter.unusedVariables false

/-- what dropping a thing leaves free -/
def Sh.dropped (T : Sh.Sto) (x : Sh.Th) : Nat → Bool := if x.fresh = true then giveSet 1 (1 + Sh.many T.D) T.S x.pages else T.S
set_option maxRecDepth 100000 in
set_option maxHeartbeats 4000000 in
theorem shDrops_any {u : Bool} {w0 w : World} {s d f : Nat} {T : Sh.Sto} {E : List Part} (h : Sg u w0 w s d f T E) (x : Sh.Th) (a : Option Addr) (c : Nat) (hl : x.pages.length ≤ c) (hc : c ≤ maxLen) (hr : Rd w a (nums .u32 x.pages)) (hoff : ∀ g o, a = some ⟨g, o, none⟩ → 0 < x.pages.length → g ≠ f) (hx : ∀ y ∈ x.pages, y < 4294967296) :
    Calls Tryz.prog 130 #[.pointer (some ⟨s, 0, none⟩), thV x a c] w fun e w' => e = .returned (.tuple #[]) ∧ Sg u w0 w' s d f { T with S := Sh.dropped T x } E ∧ Touch (One f) w w' := by
  obtain ⟨xb, xe, xp, xf⟩ := x
  have H := Lib.hid h
  have HR := Lib.hid hr
  have HO := Lib.hid hoff
  have HX := Lib.hid hx
  obtain ⟨n, hn⟩ : ∃ n, xp.length = n := ⟨_, rfl⟩
  have HN := Lib.hid hn
  have Hl : Hid (n ≤ c) := by show _ ≤ _; rw [← hn]; exact hl
  have Hc := Lib.hid hc
  unfold thV
  rw [show (Sh.Th.pages ⟨xb, xe, xp, xf⟩).length = n from hn]
  dsimp only at *
  clear h hr hoff hx hl hn hc
  go_enter Tryz.func130, Tryz.ntmps130
  go_upto_region 1 with fail
  obtain ⟨X, hX⟩ : ∃ X, X = w.heap.size := ⟨_, rfl⟩
  obtain ⟨w2, hw2⟩ : ∃ w2, w2 = w.alloc (.cells #[.int .u32 (xb : Nat), .int .u32 (xe : Nat), .slice a n c, .bool xf] 103) := ⟨_, rfl⟩
  have S2 : Hid (Sg u w0 w2 s d f T (Part.row X 103 [.int .u32 (xb : Nat), .int .u32 (xe : Nat), .slice a n c, .bool xf] :: E)) := by
    show Sg _ _ _ _ _ _ _ _
    rw [hw2, hX]
    exact H.out.push (Born.row w 103 #[.int .u32 (xb : Nat), .int .u32 (xe : Nat), .slice a n c, .bool xf])
  have HT2 : Hid (Touch No w w2) := by show Touch _ _ _; rw [hw2]; exact (Touch.refl No w).alloc _
  have HR2 : Hid (Rd w2 a (nums .u32 xp)) := by show Rd _ _ _; rw [hw2]; exact HR.out.no ((Touch.refl No w).alloc _)
  rw [← hw2, ← hX]
  clear hw2 hX H HR
  have k3 : w2.cell? ⟨X, 3, none⟩ = some (.bool xf) := (S2.out.row List.mem_cons_self).cell 3
  cases xf with
  | false =>
    go_wp2
    go_end0
    exact ⟨rfl, S2.out.drop, HT2.out.no⟩
  | true =>
    have k5 : w2.cell? ⟨s, 5, none⟩ = some (.pointer (some ⟨f, 0, none⟩)) := S2.out.c5
    have k2 : w2.cell? ⟨X, 2, none⟩ = some (.slice a n c) := (S2.out.row List.mem_cons_self).cell 2
    have hS : w2.cell? ⟨s, 5, none⟩ = some (.pointer (some ⟨f, 0, none⟩)) ∧ w2.cell? ⟨X, 2, none⟩ = some (.slice a n c) := ⟨k5, k2⟩
    have S2D := Lib.hid (S2.out.no (Touch.refl No w2).drew)
    have G : Hid (Calls Tryz.prog 54 #[.pointer (some ⟨f, 0, none⟩), .slice a n c] w2.drew fun e w' => e = .returned (.int .i64 (giveSays 1 (1 + Sh.many T.D) T.S xp : Nat)) ∧ Sg u w0 w' s d f { T with S := giveSet 1 (1 + Sh.many T.D) T.S xp } (Part.row X 103 [.int .u32 (xb : Nat), .int .u32 (xe : Nat), .slice a n c, .bool true] :: E) ∧ Touch (One f) w2.drew w') := by
      obtain ⟨hm, _, _, hk⟩ := S2D.out.map
      exact (give_any _ f 1 (1 + Sh.many T.D) T.S a n c xp hm HN.out Hl.out (by have := Hc.out; unfold maxLen at this; omega) (HR2.out.no (Touch.refl No w2).drew) (fun g o e h0 => HO.out g o e (by rw [HN.out]; exact h0)) HX.out).mono fun e w' ⟨he, ht, hm'⟩ => ⟨he, hk w' _ ht hm', ht⟩
    clear k5 k2
    go_wp2_with fail
    go_region_held3 (fun w' => w'.cell? ⟨s, 5, none⟩ = some (.pointer (some ⟨f, 0, none⟩)) ∧ w'.cell? ⟨X, 2, none⟩ = some (.slice a n c)) (first | exact hS | exact ⟨s9.c5, (s9.row List.mem_cons_self).cell 2⟩ | exact ⟨S2D.out.c5, (S2D.out.row List.mem_cons_self).cell 2⟩) (first
      | (go_at_call 54; refine G.out.mono ?_; rintro e w9 ⟨rfl, s9, t9⟩))
    go_wp2
    go_end0
    refine ⟨rfl, ?_, (HT2.out.drew.no : Touch (One f) w w2.drew).then t9 (fun _ _ h => h)⟩
    rw [Sh.dropped, if_pos rfl]
    exact s9.drop

/-- may these be marked, one by one? -/
def Sh.marks (S : Nat → Bool) (l : List Nat) : Bool := decide (l.Nodup) && l.all S
theorem Sh.marks_true {S : Nat → Bool} {l : List Nat} : Sh.marks S l = true ↔ l.Nodup ∧ ∀ p ∈ l, S p = true := by simp [Sh.marks]
def faultV (b : Nat) : Value := .iface 134 (.pointer (some ⟨b, 0, none⟩))
def MarksPost (u : Bool) (w0 w : World) (s d f : Nat) (T : Sh.Sto) (E : List Part) (l : List Nat) (e : Ending) (w' : World) : Prop :=
  (Sh.marks T.S l = true ∧ e = .returned .nilIface ∧ Sg u w0 w' s d f { T with S := Fr.sub T.S l } E ∧ Touch (One f) w w') ∨
  (Sh.marks T.S l = false ∧ ∃ b S' st, e = .returned (faultV b) ∧ Sg u w0 w' s d f { T with S := S' } (Part.row b 141 [.string st, .int .i64 4] :: E))
theorem Sh.marks_step {S : Nat → Bool} {l : List Nat} {k : Nat} (hk : k < l.length) (h : (l.take k).Nodup ∧ ∀ p ∈ l.take k, S p = true) (hs : Fr.sub S (l.take k) (l.getD k 0) = true) : ((l.take (k + 1)).Nodup ∧ ∀ p ∈ l.take (k + 1), S p = true) ∧ Fr.flip (Fr.sub S (l.take k)) (l.getD k 0) = Fr.sub S (l.take (k + 1)) := by
  have e : l.take (k + 1) = l.take k ++ [l.getD k 0] := by rw [List.take_add_one, List.getD_eq_getElem?_getD, List.getElem?_eq_getElem hk]; rfl
  have h2 := Sh.sub_true.1 hs
  rw [e]
  refine ⟨⟨List.nodup_append.2 ⟨h.1, by simp, fun a ha b hb e2 => ?_⟩, fun p hp => ?_⟩, Fr.flip_sub hs⟩
  · rw [List.mem_singleton] at hb; subst hb; subst e2; exact h2.2 ha
  · rcases List.mem_append.1 hp with hp | hp
    · exact h.2 p hp
    · rw [List.mem_singleton] at hp; rw [hp]; exact h2.1
theorem Sh.marks_not {S : Nat → Bool} {l : List Nat} {k : Nat} (hk : k < l.length) (hs : Fr.sub S (l.take k) (l.getD k 0) = false) : Sh.marks S l = false := by
  rw [Bool.eq_false_iff]
  intro h
  obtain ⟨h1, h2⟩ := Sh.marks_true.1 h
  have hm : l.getD k 0 ∈ l := by rw [List.getD_eq_getElem?_getD, List.getElem?_eq_getElem hk]; exact List.getElem_mem hk
  have : Fr.sub S (l.take k) (l.getD k 0) = true := by
    refine Sh.sub_true.2 ⟨h2 _ hm, fun hx => ?_⟩
    rw [List.getD_eq_getElem?_getD, List.getElem?_eq_getElem hk] at hx
    obtain ⟨j, hj, e⟩ := List.mem_iff_getElem.1 hx
    rw [List.getElem_take] at e
    rw [List.length_take] at hj
    have := (List.getElem_inj h1).1 e
    omega
  rw [this] at hs; cases hs
set_option maxRecDepth 100000 in
set_option maxHeartbeats 4000000 in
theorem shMarks_any {u : Bool} {w0 w : World} {s d f : Nat} {T : Sh.Sto} {E : List Part} (h : Sg u w0 w s d f T E) (a : Option Addr) (n c : Nat) (l : List Nat) (hn : l.length = n) (hmax : (n : Int) ≤ 1000000000000) (hr : Rd w a (nums .u32 l)) (hoff : ∀ g o, a = some ⟨g, o, none⟩ → 0 < n → g ≠ f) (hx : ∀ y ∈ l, y < 4294967296) :
    Calls Tryz.prog 153 #[.pointer (some ⟨s, 0, none⟩), .slice a n c] w (MarksPost u w0 w s d f T E l) := by
  have H := Lib.hid h
  have HN := Lib.hid hn
  have HX := Lib.hid hx
  have HR : Hid (∀ w', Touch (One f) w w' → Rd w' a (nums .u32 l)) := by
    intro w' t
    by_cases h0 : 0 < n
    · exact hr.touch t (fun b o e _ => fun e2 => hoff b o e h0 e2)
    · have : l = [] := List.eq_nil_of_length_eq_zero (by omega)
      rw [this]; exact Rd.nil _ _
  clear h hn hr hoff hx
  go_enter Tryz.func153, Tryz.ntmps153
  go_wp2
  go_loopg [10] n (fun g s10 wr => ∃ k : Nat, k + g = n ∧ s10 = .int .i64 ((k : Nat) : Int) ∧ Hid (Touch (One f) w wr) ∧ Hid ((l.take k).Nodup ∧ ∀ p ∈ l.take k, T.S p = true) ∧ Hid (Sg u w0 wr s d f { T with S := Fr.sub T.S (l.take k) } E))
  case atStart => exact ⟨0, by omega, rfl, Touch.refl _ _, ⟨List.nodup_nil, fun p hp => by cases hp⟩, by show Sg _ _ _ _ _ _ _ _; rw [List.take_zero, Fr.sub_nil]; exact H.out⟩
  case round =>
    clear H
    obtain ⟨k, hkn, rfl, HT, HK, HS⟩ := hrel
    cases gk with
    | zero =>
      obtain rfl : k = n := by omega
      have e : l.take k = l := List.take_of_length_le (by rw [HN.out]; exact Nat.le_refl _)
      go_wp2
      go_ret
      exact Or.inl ⟨Sh.marks_true.2 (by rw [e] at HK; exact HK.out), rfl, by rw [e] at HS; exact HS.out, HT.out⟩
    | succ g =>
      have hki : (k : Int) < (n : Nat) := by omega
      have hkl : k < l.length := by rw [HN.out]; omega
      obtain ⟨gb, go, rfl, hc⟩ := (HR.out _ HT.out).num hkl
      obtain ⟨y, hy⟩ : ∃ y, l.getD k 0 = y := ⟨_, rfl⟩
      have hy32 : y < 4294967296 := by rw [← hy]; exact nums_lt HX.out
      rw [hy] at hc
      have Hy := Lib.hid hy
      have Hkl := Lib.hid hkl
      have k5 := HS.out.c5
      obtain ⟨hm, _, _, hk⟩ := HS.out.map
      have C := Lib.hid (mark_any wr f 1 (1 + Sh.many T.D) y (Fr.sub T.S (l.take k)) hm hy32)
      have HKK := Lib.hid hk
      have hrng := hm.rng
      clear hy hkl hm hk
      by_cases hs : Fr.sub T.S (l.take k) y = true
      · have hsay : markSays 1 (1 + Sh.many T.D) (Fr.sub T.S (l.take k)) y = 0 := by rw [markSays, if_pos (inMap_true.2 (hrng y hs)), if_pos hs]
        have hset : markSet (Fr.sub T.S (l.take k)) y = Fr.flip (Fr.sub T.S (l.take k)) y := by rw [markSet, if_pos hs]
        rw [hsay, hset] at C
        have hst := Sh.marks_step Hkl.out HK.out (by rw [Hy.out]; exact hs)
        rw [Hy.out] at hst
        rw [hst.2] at C
        have HK2 := Lib.hid hst.1
        clear hs hsay hset hst hrng
        go_wp2_with fail
        refine C.out.mono ?_
        rintro e w1 ⟨rfl, t1, m1⟩
        have HS2 := Lib.hid (HKK.out _ _ t1 m1)
        have HT2 := Lib.hid (HT.out.then t1 (fun _ _ h => h))
        clear t1 m1 HKK HS HT k5 hc
        go_wp2
        go_roundg g
        case measure => omega
        case rel => exact ⟨k + 1, by omega, by go_num, HT2.out, HK2.out, HS2.out⟩
      · have hs0 : Fr.sub T.S (l.take k) y = false := by simpa using hs
        obtain ⟨v, hv⟩ : ∃ v, markSays 1 (1 + Sh.many T.D) (Fr.sub T.S (l.take k)) y = v := ⟨_, rfl⟩
        have hv0 : ¬ (v : Int) = 0 := by
          intro e
          have e' : v = 0 := by omega
          rw [← hv, markSays, hs0] at e'
          split at e' <;> cases e'
        have hnot := Lib.hid (Sh.marks_not Hkl.out (by rw [Hy.out]; exact hs0))
        rw [hv] at C
        clear hs hs0 hv hrng
        go_wp2_with fail
        refine C.out.mono ?_
        rintro e w1 ⟨rfl, t1, m1⟩
        have HS2 := Lib.hid (HKK.out _ _ t1 m1)
        clear t1 m1 HKK HS k5 hc
        go_wp2
        go_ret
        exact Or.inr ⟨hnot.out, _, _, _, rfl, HS2.out.push (Born.row _ _ _)⟩
end Go.Proofs.YtnffigfafalocaaGreatDoor
