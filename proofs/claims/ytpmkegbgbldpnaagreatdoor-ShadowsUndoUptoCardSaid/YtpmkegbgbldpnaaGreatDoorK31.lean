/-
  A store in memory: a struct, the two maps that it leads to, lists of pages.
  Package shadows by its own text: there, pages, drops.
-/
import Derived.Test.YtpmkegbgbldpnaaGreatDoorK30
import Derived.Maps.OwnSet
import Derived.Lib.Hide
namespace Go.Proofs.YtpmkegbgbldpnaaGreatDoor
open Go Go.RowKit Go.Maps
set_option linter.unusedSimpArgs false
set_option linter.unusedVariables false

/-- an element reads as itself -/
def asHeld (v : Value) : Option (DataW Value × List MemPlace) := some (.held v, [])
def noTh : Value := .agg #[.int .u32 0, .int .u32 0, .slice none 0 0, .bool false]
theorem keyU32 : Keyed Tryz.prog 24 := int_keyed Tryz.underlying24
theorem keyOf_id {id : Nat} (h : id < 4294967296) : keyOf Tryz.prog 24 (.int .u32 (id : Nat)) = some (.int .u32 (id : Nat)) := keyOf_int_mk Tryz.underlying24 (WalkArith.wf_u32 (by omega))
theorem isKey_id (x : Int) : WideAt.IsKeyLit (.int .u32 x) := by simp [WideAt.IsKeyLit]
theorem lit_ne {a b : Nat} (h : a ≠ b) : (Lit.int .u32 (a : Nat)) ≠ Lit.int .u32 (b : Nat) := fun e => h (by injection e with _ e; omega)
theorem zeroTh (w : World) : (zeroValue 137).run Tryz.prog w = .ok noTh w := by kernel_rfl
/-- a list of pages in the blocks of L -/
def ListAt (w : World) (L : Nat → Prop) (a : Option Addr) (c : Nat) (l : List Nat) : Prop := l.length ≤ c ∧ c ≤ maxLen ∧ Rd w a (nums .u32 l) ∧ ∀ g o, a = some ⟨g, o, none⟩ → l ≠ [] → L g
theorem rd_off {F L : Nat → Prop} {w w' : World} {a : Option Addr} {l : List Nat} (h : Rd w a (nums .u32 l)) (hL : ∀ g o, a = some ⟨g, o, none⟩ → l ≠ [] → L g) (t : Touch F w w') (hF : ∀ k, L k → ¬ F k) : Rd w' a (nums .u32 l) := by
  by_cases h0 : l = []
  · subst h0; exact Rd.nil _ _
  · exact h.touch t (fun b o e _ => hF b (hL b o e h0))
theorem ListAt.touch {F L L' : Nat → Prop} {w w' : World} {a : Option Addr} {c : Nat} {l : List Nat} (h : ListAt w L a c l) (t : Touch F w w') (hF : ∀ k, L k → ¬ F k) (hL : ∀ k, L k → L' k) : ListAt w' L' a c l :=
  ⟨h.1, h.2.1, rd_off h.2.2.1 h.2.2.2 t hF, fun g o e h0 => hL g (h.2.2.2 g o e h0)⟩
def thV (x : Sh.Th) (a : Option Addr) (c : Nat) : Value := .agg #[.int .u32 (x.bytes : Nat), .int .u32 (x.epoch : Nat), .slice a x.pages.length c, .bool x.fresh]
/-- the value of a thing -/
def ThAt (w : World) (L : Nat → Prop) (x : Sh.Th) (v : Value) : Prop := ∃ a c, v = thV x a c ∧ ListAt w L a c x.pages
theorem ThAt.touch {F L L' : Nat → Prop} {w w' : World} {x : Sh.Th} {v : Value} (h : ThAt w L x v) (t : Touch F w w') (hF : ∀ k, L k → ¬ F k) (hL : ∀ k, L k → L' k) : ThAt w' L' x v := by
  obtain ⟨a, c, h1, h2⟩ := h
  exact ⟨a, c, h1, h2.touch t hF hL⟩
/-- what a map of things reads as -/
def MapT (w : World) (L : Nat → Prop) (D : DataW Value) (its : List (Nat × Sh.Th)) : Prop :=
  IsMap D ∧ ∀ id, id < 4294967296 → Maps.has D (.int .u32 (id : Nat)) = (Mp.look its id).isSome ∧ ∀ x, Mp.look its id = some x → ∃ v, ThAt w L x v ∧ D.atKey (.int .u32 (id : Nat)) (.held noTh) = .held v
theorem MapT.touch {F L L' : Nat → Prop} {w w' : World} {D : DataW Value} {its : List (Nat × Sh.Th)} (h : MapT w L D its) (t : Touch F w w') (hF : ∀ k, L k → ¬ F k) (hL : ∀ k, L k → L' k) : MapT w' L' D its :=
  ⟨h.1, fun id hid => ⟨(h.2 id hid).1, fun x hx => by
    obtain ⟨v, hv, ha⟩ := (h.2 id hid).2 x hx
    exact ⟨v, hv.touch t hF hL, ha⟩⟩⟩
theorem MapT.nil (w : World) (L : Nat → Prop) : MapT w L (.map []) [] := ⟨isMap_empty, fun id _ => ⟨rfl, fun x hx => by cases hx⟩⟩
theorem MapT.put {w : World} {L : Nat → Prop} {D : DataW Value} {its : List (Nat × Sh.Th)} (h : MapT w L D its) (id : Nat) (x : Sh.Th) (v : Value) (hv : ThAt w L x v) : MapT w L (D.put (.int .u32 (id : Nat)) (.held v)) (Mp.put its id x) := by
  refine ⟨h.1.put _ _, fun id' hid' => ?_⟩
  by_cases e : id' = id
  · subst e
    refine ⟨by rw [has_put_same h.1 (isKey_id _), Mp.look_put_same]; rfl, fun y hy => ?_⟩
    rw [Mp.look_put_same] at hy
    cases hy
    exact ⟨v, hv, atKey_put_same h.1 (isKey_id _) _ _⟩
  · refine ⟨by rw [has_put_other (lit_ne e), Mp.look_put_other _ e]; exact (h.2 id' hid').1, fun y hy => ?_⟩
    rw [Mp.look_put_other _ e] at hy
    rw [atKey_put_other (lit_ne e)]
    exact (h.2 id' hid').2 y hy
theorem MapT.del {w : World} {L : Nat → Prop} {D : DataW Value} {its : List (Nat × Sh.Th)} (h : MapT w L D its) (id : Nat) : MapT w L (D.del (.int .u32 (id : Nat))) (Mp.del its id) := by
  refine ⟨h.1.del _, fun id' hid' => ?_⟩
  by_cases e : id' = id
  · subst e
    refine ⟨by rw [has_del_same, Mp.look_del_same]; rfl, fun y hy => ?_⟩
    rw [Mp.look_del_same] at hy
    cases hy
  · refine ⟨by rw [has_del_other (lit_ne e), Mp.look_del_other _ e]; exact (h.2 id' hid').1, fun y hy => ?_⟩
    rw [Mp.look_del_other _ e] at hy
    rw [atKey_del_other (lit_ne e)]
    exact (h.2 id' hid').2 y hy
theorem ownsMap_touch {F : Nat → Prop} {w w' : World} {b n : Nat} {D : DataW Value} (h : w.ownsMap Tryz.prog 24 asHeld b n D) (t : Touch F w w') (hF : ¬ F b) : w'.ownsMap Tryz.prog 24 asHeld b n D := by
  have hlt := h.lt
  obtain ⟨es, clock, hb, r⟩ := h
  exact ⟨es, clock, by rw [t.block b hlt hF]; exact hb, r⟩
/-- the map at b, written n times at most -/
def MapAtT (w : World) (L : Nat → Prop) (b n : Nat) (its : List (Nat × Sh.Th)) : Prop := ∃ cnt D, cnt ≤ n ∧ w.ownsMap Tryz.prog 24 asHeld b cnt D ∧ MapT w L D its
theorem MapAtT.touch {F L L' : Nat → Prop} {w w' : World} {b n : Nat} {its : List (Nat × Sh.Th)} (h : MapAtT w L b n its) (t : Touch F w w') (hb : ¬ F b) (hF : ∀ k, L k → ¬ F k) (hL : ∀ k, L k → L' k) : MapAtT w' L' b n its := by
  obtain ⟨cnt, D, h1, h2, h3⟩ := h
  exact ⟨cnt, D, h1, ownsMap_touch h2 t hb, h3.touch t hF hL⟩
theorem MapAtT.lt {w : World} {L : Nat → Prop} {b n : Nat} {its : List (Nat × Sh.Th)} (h : MapAtT w L b n its) : b < w.heap.size := by
  obtain ⟨cnt, D, h1, h2, h3⟩ := h
  exact h2.lt
/-- what lies in the struct -/
structure Sm where
  epoch : Nat
  now : List (Nat × Sh.Th)
  puts : Nat
  kept : List (Nat × Sh.Th)
  table : List Nat
def Sh.Sto.m (T : Sh.Sto) : Sm := ⟨T.epoch, T.now, T.puts, T.kept, T.table⟩
structure StoIn (w : World) (s : Nat) (d f : Option Addr) (m : Sm) (nb : Option Nat) (bk : Nat) (ta : Option Addr) (tc : Nat) (L : Nat → Prop) : Prop where
  row : Row w s 124 [.pointer d, .int .u32 (m.epoch : Nat), .map nb, .map (some bk), .slice ta m.table.length tc, .pointer f]
  now : ∀ b, nb = some b → MapAtT w L b m.puts m.now ∧ ¬ L b ∧ b ≠ s ∧ b ≠ bk
  kept : MapAtT w L bk 5000 m.kept
  tab : ListAt w L ta tc m.table
  ls : ¬ L s
  lk : ¬ L bk
  sk : s ≠ bk
  llt : ∀ k, L k → k < w.heap.size
/-- its blocks -/
def stoO (s : Nat) (nb : Option Nat) (bk : Nat) (L : Nat → Prop) : Nat → Prop := fun k => k = s ∨ nb = some k ∨ k = bk ∨ L k
theorem StoIn.lt {w : World} {s : Nat} {d f : Option Addr} {m : Sm} {nb : Option Nat} {bk : Nat} {ta : Option Addr} {tc : Nat} {L : Nat → Prop} (h : StoIn w s d f m nb bk ta tc L) : ∀ k, stoO s nb bk L k → k < w.heap.size := by
  rintro k (rfl | e | rfl | hk)
  · exact h.row.lt
  · exact (h.now k e).1.lt
  · exact h.kept.lt
  · exact h.llt k hk
theorem StoIn.touch {F : Nat → Prop} {w w' : World} {s : Nat} {d f : Option Addr} {m : Sm} {nb : Option Nat} {bk : Nat} {ta : Option Addr} {tc : Nat} {L : Nat → Prop} (h : StoIn w s d f m nb bk ta tc L) (t : Touch F w w') (hF : ∀ k, stoO s nb bk L k → ¬ F k) : StoIn w' s d f m nb bk ta tc L :=
  have hL : ∀ k, L k → ¬ F k := fun k hk => hF k (Or.inr (Or.inr (Or.inr hk)))
  ⟨h.row.touch t (hF s (Or.inl rfl)), fun b e => ⟨(h.now b e).1.touch t (hF b (Or.inr (Or.inl e))) hL (fun _ h => h), (h.now b e).2⟩, h.kept.touch t (hF bk (Or.inr (Or.inr (Or.inl rfl)))) hL (fun _ h => h), h.tab.touch t hL (fun _ h => h), h.ls, h.lk, h.sk, fun k hk => Nat.lt_of_lt_of_le (h.llt k hk) t.size⟩
/-- u: is the map of what there is now made? X: lists in its blocks that nothing there leads to yet -/
def Part.stoX (s : Nat) (d f : Option Addr) (u : Bool) (m : Sm) (X : List (Option Addr × Nat × List Nat)) : Part where
  P w O := ∃ nb bk ta tc L, StoIn w s d f m nb bk ta tc L ∧ nb.isSome = u ∧ (∀ x ∈ X, ListAt w L x.1 x.2.1 x.2.2) ∧ ∀ k, O k ↔ stoO s nb bk L k
  stable := fun {F w w' O} ⟨nb, bk, ta, tc, L, h1, h2, hx, h3⟩ t hF => ⟨nb, bk, ta, tc, L, h1.touch t (fun k hk => hF k ((h3 k).2 hk)), h2, fun x hX => (hx x hX).touch t (fun k hk => hF k ((h3 k).2 (Or.inr (Or.inr (Or.inr hk))))) (fun _ h => h), h3⟩
  lt := fun {w O} ⟨nb, bk, ta, tc, L, h1, h2, hx, h3⟩ k hk => h1.lt k ((h3 k).1 hk)
abbrev Part.sto (s : Nat) (d f : Option Addr) (u : Bool) (m : Sm) : Part := Part.stoX s d f u m []
/-- a store beside its disk and its free pages, and beside what else stands there -/
def Sg (u : Bool) (w0 w : World) (s d f : Nat) (T : Sh.Sto) (E : List Part) : Prop := Dd w0 w d T.D (Part.sto s (some ⟨d, 0, none⟩) (some ⟨f, 0, none⟩) u T.m :: Part.map f 1 (1 + Sh.many T.D) T.S :: E)
abbrev Ss := Sg true
end Go.Proofs.YtpmkegbgbldpnaaGreatDoor
namespace Go.Proofs.YtpmkegbgbldpnaaGreatDoor
open Go Go.RowKit Go.Maps
set_option linter.unusedSimpArgs false
set_option linter.unusedVariables false

section
variable {u : Bool} {w0 w w' : World} {s d f : Nat} {T : Sh.Sto} {E : List Part}
theorem Sg.end (h : Sg u w0 w s d f T E) : Touch No w0 w := Dd.end h
theorem Sg.no (h : Sg u w0 w s d f T E) (t : Touch No w w') : Sg u w0 w' s d f T E := Dd.no h t
theorem Sg.disk (h : Sg u w0 w s d f T E) : ∃ O, DiskAt w d T.D O := Dd.disk h
theorem Sg.stoIn (h : Sg u w0 w s d f T E) : ∃ nb bk ta tc L, StoIn w s (some ⟨d, 0, none⟩) (some ⟨f, 0, none⟩) T.m nb bk ta tc L := by
  obtain ⟨A, ⟨nb, bk, ta, tc, L, h1, h2, hx, h3⟩, _⟩ := Dd.rest h List.mem_cons_self
  exact ⟨nb, bk, ta, tc, L, h1⟩
theorem Sg.push {p : Part} (h : Sg u w0 w s d f T E) (hb : Born w p w') : Sg u w0 w' s d f T (p :: E) :=
  Dd.perm (Dd.push h hb) ((List.Perm.swap _ _ _).trans ((List.Perm.swap _ _ _).cons _))
theorem Sg.perm {E' : List Part} (h : Sg u w0 w s d f T E) (hp : E.Perm E') : Sg u w0 w s d f T E' := Dd.perm h ((hp.cons _).cons _)
theorem Sg.drop {p : Part} (h : Sg u w0 w s d f T (p :: E)) : Sg u w0 w s d f T E := (Dd.perm h (((List.Perm.swap _ _ _).cons _).trans (List.Perm.swap _ _ _))).drop
theorem Sg.row (h : Sg u w0 w s d f T E) {Ty : TypeId} {x : Nat} {vs : List Value} (hp : Part.row x Ty vs ∈ E) : Row w x Ty vs := Dd.row h (List.mem_cons_of_mem _ (List.mem_cons_of_mem _ hp))
theorem Sg.rd (h : Sg u w0 w s d f T E) {Ty : TypeId} {a : Option Addr} {m c : Nat} {vs : List Value} (hp : Part.sl Ty a m c vs ∈ E) : Rd w a vs := Dd.rd h (List.mem_cons_of_mem _ (List.mem_cons_of_mem _ hp))
/-- the map of free pages, taken up and turned -/
theorem Sg.map (h : Sg u w0 w s d f T E) : MapAt w f 1 (1 + Sh.many T.D) T.S ∧ (∀ q ∈ Part.disk d T.D :: Part.sto s (some ⟨d, 0, none⟩) (some ⟨f, 0, none⟩) u T.m :: E, ∃ C, q.P w C ∧ ¬ C f) ∧ w0.heap.size ≤ f ∧
    ∀ w' S', Touch (One f) w w' → MapAt w' f 1 (1 + Sh.many T.D) S' → Sg u w0 w' s d f { T with S := S' } E := by
  have h1 : Sl w0 w (Part.map f 1 (1 + Sh.many T.D) T.S :: Part.disk d T.D :: Part.sto s (some ⟨d, 0, none⟩) (some ⟨f, 0, none⟩) u T.m :: E) := Sl.perm h (((List.Perm.swap _ _ _).cons _).trans (List.Perm.swap _ _ _))
  obtain ⟨A, ⟨ha, hf, hlt⟩, hA, hq, hk⟩ := Sl.step2 h1
  refine ⟨ha, fun q hq' => ?_, (hA f hf).1, fun w' S' t hm => ?_⟩
  · obtain ⟨C, hC, hd⟩ := hq q hq'
    exact ⟨C, hC, hd f hf⟩
  · have := hk w' [Part.map f 1 (1 + Sh.many T.D) S'] ⟨t.mono (fun k _ e => by rw [show k = f from e]; exact hf), One f, ⟨One f, fun _ => False, ⟨hm, rfl, fun k e => by rw [show k = f from e]; exact hm.lt⟩, trivial, fun _ _ f => f, fun _ h => h, fun _ f => f.elim⟩, fun k e => Or.inl (by rw [show k = f from e]; exact hf)⟩
    exact Sl.perm this ((List.Perm.swap _ _ _).trans ((List.Perm.swap _ _ _).cons _))
theorem Sg.c0 (h : Sg u w0 w s d f T E) : w.cell? ⟨s, 0, none⟩ = some (.pointer (some ⟨d, 0, none⟩)) := by
  obtain ⟨bn, bk, ta, tc, L, h⟩ := h.stoIn
  exact h.row.cell 0
theorem Sg.c1 (h : Sg u w0 w s d f T E) : w.cell? ⟨s, 1, none⟩ = some (.int .u32 (T.epoch : Nat)) := by
  obtain ⟨bn, bk, ta, tc, L, h⟩ := h.stoIn
  exact h.row.cell 1
theorem Sg.c5 (h : Sg u w0 w s d f T E) : w.cell? ⟨s, 5, none⟩ = some (.pointer (some ⟨f, 0, none⟩)) := by
  obtain ⟨bn, bk, ta, tc, L, h⟩ := h.stoIn
  exact h.row.cell 5
end
theorem shThere_at (w : World) (s d : Nat) (c0 : w.cell? ⟨s, 0, none⟩ = some (.pointer (some ⟨d, 0, none⟩))) : Calls Tryz.prog 59 #[.pointer (some ⟨s, 0, none⟩)] w fun e w' => e = .returned (.bool true) ∧ w = w' := by
  go_enter Tryz.func59, Tryz.ntmps59
  go_wp2
  go_ret
  exact ⟨rfl, rfl⟩
theorem shThere_nil (w : World) : Calls Tryz.prog 59 #[.pointer none] w fun e w' => e = .returned (.bool false) ∧ w = w' := by
  go_enter Tryz.func59, Tryz.ntmps59
  go_wp2
  go_ret
  exact ⟨rfl, rfl⟩
set_option maxRecDepth 100000 in
theorem shPages_at (w : World) (s d : Nat) (D : Dk.Disk) (O : Nat → Prop) (h : DiskAt w d D O) (hl : 32 ≤ D.seen.length) (c0 : w.cell? ⟨s, 0, none⟩ = some (.pointer (some ⟨d, 0, none⟩))) :
    Calls Tryz.prog 148 #[.pointer (some ⟨s, 0, none⟩)] w fun e w' => e = .returned (.int .i64 (Sh.many D : Nat)) ∧ w = w' := by
  have H := Lib.hid h
  obtain ⟨n, hn⟩ : ∃ n, D.seen.length = n := ⟨_, rfl⟩
  have hm : Sh.many D = min 4096 (n / 4 - 1) := by rw [Sh.many, hn]
  rw [hn] at hl
  have ht := h.ok.top
  rw [hn] at ht
  have Hn := Lib.hid hn
  have e1 : Int.tdiv (n : Int) 4 = (n / 4 : Nat) := by rw [Int.tdiv_eq_ediv_of_nonneg (by omega)]; rfl
  obtain ⟨q, hq⟩ : ∃ q, n / 4 = q := ⟨_, rfl⟩
  rw [hq] at e1 hm
  have hq2 : 8 ≤ q ∧ q ≤ 4096 := by omega
  have Hm := Lib.hid hm
  clear h hn hm
  go_enter Tryz.func148, Tryz.ntmps148
  go_wp2_with fail
  refine (len_in w d D O H.out).mono ?_
  rintro e w' ⟨rfl, rfl⟩
  rw [Hn.out]
  go_wp2
  go_ret
  refine ⟨?_, rfl⟩
  rw [Hm.out]
  show Ending.returned (Value.int .i64 _) = _
  congr 2
  omega
end Go.Proofs.YtpmkegbgbldpnaaGreatDoor
