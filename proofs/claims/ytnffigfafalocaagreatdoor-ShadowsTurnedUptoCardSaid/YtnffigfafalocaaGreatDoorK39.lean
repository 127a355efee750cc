/-
  Package shadows by its own text: maps.Clone; what settling turns.
  Package shadows by its own text: settle.
-/
import Derived.Test.YtnffigfafalocaaGreatDoorK38
import Derived.Shelf.SlMaps.Clone
import Derived.Maps.RangeWalk
namespace Go.Proofs.YtnffigfafalocaaGreatDoor
open Go Go.RowKit Go.Maps
set_option linter.unusedSimpArgs false
set_option linter.unusedVariables false

set_option maxRecDepth 100000 in
set_option maxHeartbeats 2000000 in
theorem shClone_at (b : Nat) (es : Array MapEntry) (clock : Nat) (w : World) (hb : w.heap[b]? = some (.map es clock)) :
    Calls Tryz.prog 61 #[.map (some b)] w fun e w' => e = .returned (.map (some w.heap.size)) ∧ w' = w.alloc (.map es clock) := by
  have hq := fun w => run_eql_map_nil_sl (P := Tryz.prog) w 99 _ _ (some b) Tryz.underlying99
  go_enter Tryz.func61, Tryz.ntmps61
  go_wp2
  rw [run_callFunc_extern Tryz.func162 (by kernel_rfl) (by kernel_rfl) (by kernel_rfl) (e := Extern.MapsClone.clone) (by kernel_rfl), run_maps_clone_sl w 99 hb]
  simp only [Result.andThen]
  rw [Oper.upon_value]
  go_wp2
  rw [run_typeAssert_map_sl _ 99 _ _ _ _ Tryz.underlying99]
  simp only [Result.andThen]
  rw [Oper.upon_value]
  go_wp2
  go_ret
  exact ⟨rfl, rfl⟩
theorem own_unique {w : World} {b n n' : Nat} {D D' : DataW Value} (h : w.ownsMap Tryz.prog 38 asHeld b n D) (h' : w.ownsMap Tryz.prog 38 asHeld b n' D') : D = D' := by
  obtain ⟨es, clock, hb, _, _, rfl⟩ := h
  obtain ⟨es', clock', hb', _, _, rfl⟩ := h'
  rw [hb] at hb'
  injection hb' with hb'
  injection hb' with e1 e2
  subst e1; rfl
theorem own_tight {w : World} {b n : Nat} {D : DataW Value} (h : w.ownsMap Tryz.prog 38 asHeld b n D) : w.ownsMap Tryz.prog 38 asHeld b (Maps.size D) D := by
  obtain ⟨es, clock, hb, F, hs, rfl⟩ := h
  exact ⟨es, clock, hb, F, by simp [Maps.size, length_sorted], rfl⟩
theorem MapAtT.tight {w : World} {L : Nat → Prop} {b n : Nat} {its : List (Nat × Sh.Th)} (h : MapAtT w L b n its) (hu : Mp.Up its) (hlt : ∀ p ∈ its, p.1 < 4294967296) {n' : Nat} (hn : its.length ≤ n') : MapAtT w L b n' its := by
  obtain ⟨cnt, D, h1, h2, h3⟩ := h
  exact ⟨Maps.size D, D, by rw [sh_size h2 h3 hu hlt]; exact hn, own_tight h2, h3⟩
theorem ranges_touch {F : Nat → Prop} {w w' : World} {b r n : Nat} {D : DataW Value} {left : Lit → Bool} {cnt : Nat} (h : w.ranges Tryz.prog 38 asHeld b r n D left cnt) (t : Touch F w w') (hb : ¬ F b) (hr : ¬ F r) : w'.ranges Tryz.prog 38 asHeld b r n D left cnt := by
  have h1 := h.owns.lt
  have h2 := h.lt
  obtain ⟨es, clock, since, seen, c0, e1, e2, e3, e4, e5, e6⟩ := h
  exact ⟨es, clock, since, seen, c0, by rw [t.block b h1 hb]; exact e1, e2, e3, e4, by rw [t.block r h2 hr]; exact e5, e6⟩
theorem grown_touch {w w' : World} (hg : w.grownBy w' none) : Touch No w w' := (Touch.refl No w).grown hg (fun k e _ => by cases e)
section
variable {u : Bool} {w0 w w' : World} {s d f : Nat} {T : Sh.Sto} {E : List Part}
/-- maps.Clone of a map of things -/
theorem MapAtT.clone {L : Nat → Prop} {b n : Nat} {its : List (Nat × Sh.Th)} (h : MapAtT w L b n its) : Calls Tryz.prog 61 #[.map (some b)] w fun e w' => e = .returned (.map (some w.heap.size)) ∧ MapAtT w' L w.heap.size n its ∧ Touch No w w' ∧ w.heap.size < w'.heap.size := by
  obtain ⟨cnt, D, h1, h2, h3⟩ := h
  have h2' := h2
  obtain ⟨es, clock, hb, F, hs, hD⟩ := h2'
  refine (shClone_at b es clock w hb).mono fun e w' ⟨he, hw⟩ => ?_
  subst hw
  have t : Touch No w (w.alloc (.map es clock)) := (Touch.refl No w).alloc _
  exact ⟨he, ⟨cnt, D, h1, ⟨es, clock, (MapKept.heap_alloc w _).1, F, hs, hD⟩, h3.touch t (fun _ _ f => f) (fun _ h => h)⟩, t, by simp⟩
/-- another map of free pages -/
theorem Sg.newFree {w1 : World} {f' : Nat} {S' : Nat → Bool} (h : Sg u w0 w s d f T E) (hb : Born w (Part.map f' 1 (1 + Sh.many T.D) S') w1) : Sg u w0 (w1.setCell ⟨s, 5, none⟩ (.pointer (some ⟨f', 0, none⟩))) s d f' { T with S := S' } E := by
  have h1 : Dd w0 w1 d T.D (Part.sto s (some ⟨d, 0, none⟩) (some ⟨f, 0, none⟩) u T.m :: Part.map f' 1 (1 + Sh.many T.D) S' :: Part.map f 1 (1 + Sh.many T.D) T.S :: E) := Dd.perm (Dd.push h hb) (List.Perm.swap _ _ _)
  obtain ⟨nb, bk, ta, tc, L, h2, h3, hx, h4, h5, h6⟩ := Dd.stoX h1
  obtain ⟨h7, t⟩ := h2.setFree (some ⟨f', 0, none⟩)
  have h8 := h6 _ _ _ u _ [] nb bk ta tc L h7 h3 (fun x hx => by cases hx) (t.mono (fun k _ e => Or.inl e)) (fun k hk => Or.inl hk)
  exact (Dd.perm h8 (((List.Perm.swap _ _ _).cons _).trans (List.Perm.swap _ _ _))).drop
theorem Sg.soft (h : Sg u w0 w s d f T E) (o : Nat) : w.frozen? ⟨s, o, none⟩ = false := by
  obtain ⟨nb, bk, ta, tc, L, h⟩ := h.stoIn
  exact h.row.soft o
/-- what was kept, cloned: what there is now -/
theorem Sg.cloneKept (h : Sg u w0 w s d f T E) (hu : Mp.Up T.kept) (hlt : ∀ p ∈ T.kept, p.1 < 4294967296) {n : Nat} (hn : T.kept.length ≤ n) : ∃ bk, w.cell? ⟨s, 3, none⟩ = some (.map (some bk)) ∧ Calls Tryz.prog 61 #[.map (some bk)] w fun e w1 => e = .returned (.map (some w.heap.size)) ∧ (∃ v, w1.cell? ⟨s, 2, none⟩ = some v) ∧ w1.frozen? ⟨s, 2, none⟩ = false ∧ Sg true w0 (w1.setCell ⟨s, 2, none⟩ (.map (some w.heap.size))) s d f { T with now := T.kept, puts := n } E := by
  obtain ⟨nb, bk, ta, tc, L, h2, h3, hx, h4, h5, h6⟩ := Dd.stoX h
  refine ⟨bk, h2.row.cell 3, (MapAtT.clone (h2.kept.tight hu hlt hn)).mono fun e w1 ⟨he, hm, t, hs⟩ => ?_⟩
  have h2' := h2.touch (F := No) t (fun _ _ f => f)
  have hno : ∀ k, stoO s nb bk L k → k < w.heap.size := fun k hk => (h4 k hk).2
  obtain ⟨h7, t7⟩ := h2'.setNow w.heap.size n T.kept hm (fun e => by have := hno _ (Or.inr (Or.inr (Or.inr e))); omega) (fun e => by have := hno s (Or.inl rfl); omega) (fun e => by have := hno bk (Or.inr (Or.inr (Or.inl rfl))); omega)
  refine ⟨he, ⟨_, h2'.row.cell 2⟩, h2'.row.soft 2, h6 _ _ _ true _ [] (some w.heap.size) bk ta tc L h7 rfl (fun x hx => by cases hx) ((t.no : Touch (stoO s nb bk L) w w1).then t7 (fun k _ e => Or.inl e)) (fun k hk => ?_)⟩
  rcases hk with e | e | e | e
  · exact Or.inl (Or.inl e)
  · exact Or.inr (by injection e with e; omega)
  · exact Or.inl (Or.inr (Or.inr (Or.inl e)))
  · exact Or.inl (Or.inr (Or.inr (Or.inr e)))
/-- an item of the map of what there is now -/
theorem Ss.item {bn n id : Nat} {D : DataW Value} {v : Value} (h : Sg true w0 w s d f T E) (hc : w.cell? ⟨s, 2, none⟩ = some (.map (some bn))) (hown : w.ownsMap Tryz.prog 38 asHeld bn n D) (hid : id < 4294967296) (hat : ∀ zd, D.atKey (.int .u32 (id : Nat)) zd = .held v) :
    ∃ x a c, Mp.look T.now id = some x ∧ v = thV x a c ∧ x.pages.length ≤ c ∧ c ≤ maxLen ∧ Rd w a (nums .u32 x.pages) ∧ (∀ g o, a = some ⟨g, o, none⟩ → x.pages ≠ [] → g ≠ f) := by
  obtain ⟨bn', bk, ta, tc, L, hin, hO, hLf, hk⟩ := Ss.in h
  have e : bn' = bn := by
    have := hin.row.cell 2
    rw [hc] at this
    simpa using this.symm
  subst e
  obtain ⟨cnt, D', h1, h2, h3⟩ := (hin.now bn' rfl).1
  obtain rfl := own_unique hown h2
  cases hl : Mp.look T.now id with
  | none =>
    have hh : Maps.has D (.int .u32 (id : Nat)) = false := by rw [(h3.2 id hid).1, show T.m.now = T.now from rfl, hl]; rfl
    have e1 := atKey_of_not_has hh (DataW.held Value.nilIface)
    have e2 := atKey_of_not_has hh (DataW.held (Value.bool true))
    rw [hat] at e1 e2
    rw [e1] at e2
    injection e2 with e2
    cases e2
  | some x =>
    obtain ⟨v', ⟨a, c, ev, h4, h5, h6, h7⟩, ha⟩ := (h3.2 id hid).2 x hl
    have : v = v' := by
      have := (hat (.held noTh)).symm.trans ha
      injection this
    subst this
    exact ⟨x, a, c, rfl, ev, h4, h5, h6, fun g o e h0 => hLf g (h7 g o e h0)⟩
/-- .. kept -/
theorem Ss.keepOne {bn bk n id : Nat} {D : DataW Value} {v : Value} (h : Sg true w0 w s d f T E) (hc : w.cell? ⟨s, 2, none⟩ = some (.map (some bn))) (hc3 : w.cell? ⟨s, 3, none⟩ = some (.map (some bk))) (hown : w.ownsMap Tryz.prog 38 asHeld bn n D) (hid : id < 4294967296) (hat : ∀ zd, D.atKey (.int .u32 (id : Nat)) zd = .held v)
    (hu : Mp.Up T.kept) (hlt : ∀ p ∈ T.kept, p.1 < 4294967296) (hn : T.kept.length ≤ 64) {x : Sh.Th} {a : Option Addr} {c : Nat} (hl : Mp.look T.now id = some x) (hx : v = thV x a c) : ∃ w', (Instr.mapUpdate 99 (.map (some bk)) (.int .u32 (id : Nat)) (thV ⟨x.bytes, x.epoch, x.pages, false⟩ a c)).run Tryz.prog w = .ok () w' ∧ Sg true w0 w' s d f { T with kept := Mp.put T.kept id ⟨x.bytes, x.epoch, x.pages, false⟩ } E ∧ Touch (One bk) w w' := by
  obtain ⟨bn', bk', ta, tc, L, hin, hO, hLf, hk⟩ := Ss.in h
  have e : bn' = bn := by
    have := hin.row.cell 2
    rw [hc] at this
    simpa using this.symm
  have e3 : bk' = bk := by
    have := hin.row.cell 3
    rw [hc3] at this
    simpa using this.symm
  subst e e3
  obtain ⟨cnt, D', h1, h2, h3⟩ := (hin.now bn' rfl).1
  obtain rfl := own_unique hown h2
  have hL : ListAt w L a c x.pages := by
    obtain ⟨v', ⟨a', c', ev, hl'⟩, ha⟩ := (h3.2 id hid).2 x hl
    have e4 : v = v' := by
      have := (hat (.held noTh)).symm.trans ha
      injection this
    rw [hx, ev] at e4
    unfold thV at e4
    simp only [Value.agg.injEq, Array.mk.injEq, List.cons.injEq, Value.slice.injEq, true_and, and_true] at e4
    obtain ⟨rfl, rfl⟩ := e4
    exact hl'
  obtain ⟨w', hrun, h7, t, _⟩ := hin.putKept (hin.kept.tight hu hlt hn) (by decide) hid (x := ⟨x.bytes, x.epoch, x.pages, false⟩) ⟨a, c, rfl, hL⟩
  exact ⟨w', hrun, hk w' T.D T.S _ _ _ _ _ L h7 (t.mono (fun k _ e => Or.inr (Or.inr (Or.inl e)))) (fun k hk => Or.inl hk) rfl rfl, t⟩
end
end Go.Proofs.YtnffigfafalocaaGreatDoor
namespace Go.Proofs.YtnffigfafalocaaGreatDoor
open Go Go.RowKit Go.Maps
set_option linter.unusedSimpArgs false
set_option linter.unusedVariables false

namespace Mp
section
variable {α : Type}
theorem up_filter {l : List (Nat × α)} (h : Up l) (q : Nat × α → Bool) : Up (l.filter q) := h.sublist List.filter_sublist
theorem look_filter {l : List (Nat × α)} (hu : Up l) (q : Nat → Bool) (id : Nat) : look (l.filter fun p => q p.1) id = if q id = true then look l id else none := by
  cases hl : look (l.filter fun p => q p.1) id with
  | none =>
    by_cases hq : q id = true
    · rw [if_pos hq]
      cases hx : look l id with
      | none => rfl
      | some x =>
        have := mem_of_look hx
        have h2 : (id, x) ∈ l.filter fun p => q p.1 := List.mem_filter.2 ⟨this, hq⟩
        rw [look_mem (up_filter hu _) h2] at hl
        cases hl
    · rw [if_neg hq]
  | some x =>
    have h1 := List.mem_filter.1 (mem_of_look hl)
    rw [if_pos h1.2, look_mem hu h1.1]
end
end Mp
namespace Sh
def oldT (x : Th) : Th := ⟨x.bytes, x.epoch, x.pages, false⟩
theorem look_old (l : List (Nat × Th)) (id : Nat) : Mp.look (l.map old) id = (Mp.look l id).map oldT := by
  induction l with
  | nil => rfl
  | cons p r ih =>
    obtain ⟨k, x⟩ := p
    rw [List.map_cons, old, Mp.look, Mp.look]
    by_cases e : k = id
    · rw [if_pos e, if_pos e]; rfl
    · rw [if_neg e, if_neg e, ih]
/-- those that have come -/
def come (left : Nat → Bool) (l : List (Nat × Th)) : List (Nat × Th) := l.filter fun p => !left p.1
theorem come_put {l : List (Nat × Th)} (hu : Mp.Up l) {left left' : Nat → Bool} {id : Nat} {x : Th} (hl : Mp.look l id = some x) (hleft : ∀ z, left' z = (left z && decide (z ≠ id))) : Mp.put ((come left l).map old) id (oldT x) = (come left' l).map old := by
  refine Mp.ext (Mp.up_put (up_old (Mp.up_filter hu _)) _ _) (up_old (Mp.up_filter hu _)) (fun k => ?_)
  have c1 : ∀ (lf : Nat → Bool) z, Mp.look (come lf l) z = if (!lf z) = true then Mp.look l z else none := fun lf z => Mp.look_filter hu (fun z => !lf z) z
  rw [look_old, c1, hleft]
  by_cases e : k = id
  · subst e
    rw [Mp.look_put_same, if_pos (by simp), hl]; rfl
  · rw [Mp.look_put_other _ e, look_old, c1]
    simp [e]
theorem come_all {l : List (Nat × Th)} {left : Nat → Bool} (h : ∀ p ∈ l, left p.1 = false) : come left l = l := by
  rw [come, List.filter_eq_self]
  intro p hp
  rw [h p hp]; rfl
theorem come_none {l : List (Nat × Th)} {left : Nat → Bool} (h : ∀ p ∈ l, left p.1 = true) : come left l = [] := by
  rw [come, List.filter_eq_nil_iff]
  intro p hp
  rw [h p hp]; simp
theorem rest_start (D : Dk.Disk) (table : List Nat) : Fr.sub (upTo 1 (1 + many D)) table = restS D table [] := by
  funext x
  rw [Bool.eq_iff_iff, sub_true, restS_true]
  simp only [upTo, Bool.and_eq_true, decide_eq_true_eq]
  constructor
  · rintro ⟨⟨h1, h2⟩, h3⟩
    exact ⟨h1, by omega, fun e => e.elim h3 (fun ⟨p, hp, _⟩ => by cases hp)⟩
  · rintro ⟨h1, h2, h3⟩
    exact ⟨⟨h1, by omega⟩, fun e => h3 (Or.inl e)⟩
theorem Fit.marks0 {D : Dk.Disk} {e : Nat} {table : List Nat} {now : List (Nat × Th)} (h : Fit D e table now) : marks (upTo 1 (1 + many D)) table = true :=
  marks_true.2 ⟨h.tnod, fun p hp => by
    have := h.trng p hp
    simp only [upTo, Bool.and_eq_true, decide_eq_true_eq]
    omega⟩
theorem Fit.marks {D : Dk.Disk} {e : Nat} {table : List Nat} {now : List (Nat × Th)} (h : Fit D e table now) {left left' : Nat → Bool} {id : Nat} {x : Th} (hl : Mp.look now id = some x) (hid : left id = true) (hleft : ∀ z, left' z = (left z && decide (z ≠ id))) :
    Sh.marks (restS D table (come left now)) x.pages = true ∧ Fr.sub (restS D table (come left now)) x.pages = restS D table (come left' now) := by
  have hm := Mp.mem_of_look hl
  refine ⟨marks_true.2 ⟨(h.th _ hm).nod, fun y hy => restS_true.2 ?_⟩, ?_⟩
  · have hr := h.nrng _ hm y hy
    refine ⟨hr.1, hr.2, fun e => ?_⟩
    rcases e with e | ⟨p, hp, e⟩
    · exact h.tn _ hm y e hy
    · obtain ⟨hp, hlf⟩ := List.mem_filter.1 hp
      refine h.nn p hp _ hm (fun e2 => ?_) y e hy
      rw [show p.1 = id from e2, hid] at hlf
      cases hlf
  · funext y
    rw [Bool.eq_iff_iff, sub_true, restS_true, restS_true]
    constructor
    · rintro ⟨⟨h1, h2, h3⟩, h4⟩
      refine ⟨h1, h2, fun e => ?_⟩
      rcases e with e | ⟨p, hp, e⟩
      · exact h3 (Or.inl e)
      · obtain ⟨hp, hlf⟩ := List.mem_filter.1 hp
        rw [hleft] at hlf
        by_cases e2 : p.1 = id
        · have : p.2 = x := by
            have := Mp.look_mem h.up hp
            rw [e2, hl] at this
            injection this with this
            exact this.symm
          rw [this] at e
          exact h4 e
        · refine h3 (Or.inr ⟨p, List.mem_filter.2 ⟨hp, ?_⟩, e⟩)
          simpa [e2] using hlf
    · rintro ⟨h1, h2, h3⟩
      refine ⟨⟨h1, h2, fun e => ?_⟩, fun hy => h3 (Or.inr ⟨_, List.mem_filter.2 ⟨hm, ?_⟩, hy⟩)⟩
      · rcases e with e | ⟨p, hp, e⟩
        · exact h3 (Or.inl e)
        · obtain ⟨hp, hlf⟩ := List.mem_filter.1 hp
          refine h3 (Or.inr ⟨p, List.mem_filter.2 ⟨hp, ?_⟩, e⟩)
          rw [hleft]
          simp only [Bool.not_eq_true'] at hlf
          simp [hlf]
      · rw [hleft]; simp
end Sh
/-- a block of one's own -/
def Part.blk (r : Nat) : Part where
  P w O := O r ∧ ∀ k, O k → k < w.heap.size
  stable := fun {F w w' O} ⟨h1, h2⟩ t hF => ⟨h1, fun k hk => Nat.lt_of_lt_of_le (h2 k hk) t.size⟩
  lt := fun {w O} h => h.2
section
variable {u : Bool} {w0 w w' : World} {s d f : Nat} {T : Sh.Sto} {E : List Part}
theorem Sg.turnBlk {r : Nat} (h : Sg u w0 w s d f T (Part.blk r :: E)) (t : Touch (One r) w w') : Sg u w0 w' s d f T (Part.blk r :: E) := by
  have h1 : Sl w0 w (Part.blk r :: ([Part.disk d T.D, Part.sto s (some ⟨d, 0, none⟩) (some ⟨f, 0, none⟩) u T.m, Part.map f 1 (1 + Sh.many T.D) T.S] ++ E)) := Sl.perm h (List.perm_middle (l₁ := [_, _, _]))
  obtain ⟨A, ⟨ha, hlt⟩, hA, hq, hk⟩ := Sl.step2 h1
  have := hk w' [Part.blk r] ⟨t.mono (fun k _ e => by rw [show k = r from e]; exact ha), One r, ⟨One r, fun _ => False, ⟨rfl, fun k e => by rw [show k = r from e]; exact Nat.lt_of_lt_of_le (hlt r ha) t.size⟩, trivial, fun _ _ f => f, fun _ h => h, fun _ f => f.elim⟩, fun k e => Or.inl (by rw [show k = r from e]; exact ha)⟩
  exact Sl.perm this (List.perm_middle (l₁ := [_, _, _])).symm
theorem Sg.tableC (h : Sg u w0 w s d f T E) : ∃ ta tc, w.cell? ⟨s, 4, none⟩ = some (.slice ta T.table.length tc) ∧ T.table.length ≤ tc ∧ tc ≤ maxLen ∧ Rd w ta (nums .u32 T.table) ∧ ∀ g o, ta = some ⟨g, o, none⟩ → 0 < T.table.length → g ≠ f := by
  obtain ⟨nb, bk, ta, tc, L, h2, h3, hx, h4, h5, h6⟩ := Dd.stoX h
  obtain ⟨a1, a2, a3, a4⟩ := h2.tab
  refine ⟨ta, tc, h2.row.cell 4, a1, a2, a3, fun g o e h0 e2 => ?_⟩
  obtain ⟨C, ⟨_, hC, _⟩, hd⟩ := h5 _ (List.mem_cons_of_mem _ List.mem_cons_self)
  exact hd g (Or.inr (Or.inr (Or.inr (a4 g o e (List.length_pos_iff.1 h0))))) (by rw [e2]; exact hC)
theorem Ss.mapsC (h : Sg true w0 w s d f T E) : ∃ bn bk, w.cell? ⟨s, 2, none⟩ = some (.map (some bn)) ∧ w.cell? ⟨s, 3, none⟩ = some (.map (some bk)) ∧ bn ≠ bk ∧ bn ≠ f ∧ bn < w.heap.size ∧ bk < w.heap.size ∧ f < w.heap.size ∧ s ≠ f ∧ s ≠ bk ∧ s < w.heap.size ∧ ∃ L cnt D, w.ownsMap Tryz.prog 38 asHeld bn cnt D ∧ MapT w L D T.now := by
  have hm := h.map.1.lt
  obtain ⟨nb, bk, ta, tc, L, h2, h3, hx, h4, h5, h6⟩ := Dd.stoX h
  cases nb with
  | none => cases h3
  | some bn =>
    obtain ⟨C, ⟨_, hC, _⟩, hd⟩ := h5 _ (List.mem_cons_of_mem _ List.mem_cons_self)
    obtain ⟨cnt, D, h7, h8, h9⟩ := (h2.now bn rfl).1
    exact ⟨bn, bk, h2.row.cell 2, h2.row.cell 3, (h2.now bn rfl).2.2.2, fun e => hd bn (Or.inr (Or.inl rfl)) (by rw [e]; exact hC), (h4 bn (Or.inr (Or.inl rfl))).2, (h4 bk (Or.inr (Or.inr (Or.inl rfl)))).2, hm, fun e => hd s (Or.inl rfl) (by rw [e]; exact hC), h2.sk, (h4 s (Or.inl rfl)).2, L, cnt, D, h8, h9⟩
/-- a new map of what was kept, as the walk lays it -/
theorem Sg.freshKept (h : Sg u w0 w s d f T E) : Sg u w0 ((w.setCell ⟨s, 3, none⟩ (.map (some w.heap.size))).alloc (.map #[] 0)) s d f { T with kept := [] } E := by
  obtain ⟨nb, bk, ta, tc, L, h2, h3, hx, h4, h5, h6⟩ := Dd.stoX h
  have t1 : Touch (One s) w (w.setCell ⟨s, 3, none⟩ (.map (some w.heap.size))) := (Touch.refl (One s) w).setCell (p := ⟨s, 3, none⟩) (fun _ => rfl) _
  have t2 : Touch No (w.setCell ⟨s, 3, none⟩ (.map (some w.heap.size))) ((w.setCell ⟨s, 3, none⟩ (.map (some w.heap.size))).alloc (.map #[] 0)) := (Touch.refl No _).alloc _
  have t : Touch (One s) w ((w.setCell ⟨s, 3, none⟩ (.map (some w.heap.size))).alloc (.map #[] 0)) := t1.alloc _
  have hs : (w.setCell ⟨s, 3, none⟩ (.map (some w.heap.size))).heap.size = w.heap.size := by simp [World.setCell]
  have hn : ∀ k, stoO s nb bk L k → k ≠ w.heap.size := fun k hk e => by have := (h4 k hk).2; omega
  have hL' : ∀ k, L k → ¬ One s k := fun k hk e => h2.ls (by rw [← show k = s from e]; exact hk)
  have hrow := (h2.row.setCell 3 (.map (some w.heap.size))).touch t2 (fun f => f)
  have hm : MapAtT ((w.setCell ⟨s, 3, none⟩ (.map (some w.heap.size))).alloc (.map #[] 0)) L w.heap.size 5000 [] := by
    have := World.ownsMap_made (H := Value) (w.setCell ⟨s, 3, none⟩ (.map (some w.heap.size))) Tryz.prog 38 asHeld
    rw [hs] at this
    exact ⟨0, .map [], by decide, this, MapT.nil _ _⟩
  refine h6 _ _ _ u ⟨T.epoch, T.now, T.puts, [], T.table⟩ [] nb w.heap.size ta tc L ⟨hrow, fun b e => ⟨(h2.now b e).1.touch t (h2.now b e).2.2.1 hL' (fun _ h => h), (h2.now b e).2.1, (h2.now b e).2.2.1, hn b (Or.inr (Or.inl e))⟩, hm, h2.tab.touch t hL' (fun _ h => h), h2.ls, fun e => hn _ (Or.inr (Or.inr (Or.inr e))) rfl, hn s (Or.inl rfl), fun k hk => Nat.lt_of_lt_of_le (h2.llt k hk) t.size⟩ h3 (fun x hx => by cases hx) (t.mono (fun k _ e => Or.inl e)) (fun k hk => ?_)
  rcases hk with e | e | e | e
  · exact Or.inl (Or.inl e)
  · exact Or.inl (Or.inr (Or.inl e))
  · exact Or.inr (by omega)
  · exact Or.inl (Or.inr (Or.inr (Or.inr e)))
theorem Ss.itemRd {bn n id : Nat} {D : DataW Value} {x : Sh.Th} {a : Option Addr} {c : Nat} (h : Sg true w0 w s d f T E) (hc : w.cell? ⟨s, 2, none⟩ = some (.map (some bn))) (hown : w.ownsMap Tryz.prog 38 asHeld bn n D) (hid : id < 4294967296) (hat : ∀ zd, D.atKey (.int .u32 (id : Nat)) zd = .held (thV x a c)) (hl : Mp.look T.now id = some x) :
    Rd w a (nums .u32 x.pages) ∧ (∀ g o, a = some ⟨g, o, none⟩ → x.pages ≠ [] → g ≠ f) := by
  obtain ⟨x', a', c', h1, h2, h3, h4, h5, h6⟩ := Ss.item h hc hown hid hat
  rw [hl] at h1
  injection h1 with h1
  subst h1
  unfold thV at h2
  simp only [Value.agg.injEq, Array.mk.injEq, List.cons.injEq, Value.slice.injEq, true_and, and_true] at h2
  obtain ⟨rfl, rfl⟩ := h2
  exact ⟨h5, h6⟩
set_option maxRecDepth 100000 in
set_option maxHeartbeats 8000000 in
theorem Ss.settle (h : Sg true w0 w s d f T E) (hT : Sh.Fit T.D T.epoch T.table T.now) :
    Calls Tryz.prog 55 #[.pointer (some ⟨s, 0, none⟩)] w fun e w' => e = .returned (.tuple #[]) ∧ ∃ f', Sg true w0 w' s d f' (Sh.settle T.D T.epoch T.table T.now) E := by
  have hmm := @run_makeMap Tryz.prog
  have H := Lib.hid h
  have HT := Lib.hid hT
  obtain ⟨bn0, bk0, m2, m3, _, _, _, _, _, _, _, ms, _⟩ := Ss.mapsC h
  have c3 : ∀ ob, (w.alloc ob).cell? ⟨s, 3, none⟩ = some (.map (some bk0)) := fun ob => ((Touch.refl No w).alloc ob).cell (fun f => f) m3
  have f3 : ∀ ob, (w.alloc ob).frozen? ⟨s, 3, none⟩ = false := fun ob => (h.no ((Touch.refl No w).alloc ob)).soft 3
  have HM : Hid (∀ p ∈ T.now, p.1 < 4294967296) := fun p hp => (hT.th p hp).id
  have HMany : Hid (Sh.many T.D ≤ 4095) := Sh.many_le hT.hi
  have HTL : Hid (T.table.length ≤ 61) := hT.tlen
  clear h hT m2
  go_enter Tryz.func55, Tryz.ntmps55
  go_upto_region 1 with fail
  obtain ⟨w1, hw1⟩ : ∃ w1, w1 = (w.setCell ⟨s, 3, none⟩ (.map (some w.heap.size))).alloc (.map #[] 0) := ⟨_, rfl⟩
  have S1 : Hid (Sg true w0 w1 s d f { T with kept := [] } E) := by
    show Sg _ _ _ _ _ _ _ _
    rw [hw1]
    exact H.out.freshKept
  rw [← hw1]
  clear hw1 c3 f3 hmm H m3 ms
  have k0 := S1.out.c0
  have C1 : Hid (Calls Tryz.prog 152 #[.pointer (some ⟨s, 0, none⟩)] w1 fun e w' => e = .returned (.int .i64 (Sh.many T.D : Nat)) ∧ w1 = w') := by
    obtain ⟨O, hO⟩ := S1.out.disk
    exact shPages_at w1 s d T.D O hO HT.out.lo k0
  go_wp2_with fail
  refine C1.out.mono ?_
  rintro e w' ⟨rfl, rfl⟩
  go_wp2_with fail
  refine (new_ok w1 1 (Sh.many T.D) (by have := HMany.out; omega)).mono ?_
  rintro e w2 ⟨f1, rfl, hf1, t2, m2⟩
  have B2 := Lib.hid (born_map hf1 t2 m2)
  have k5 : w2.cell? ⟨s, 5, none⟩ = some (.pointer (some ⟨f, 0, none⟩)) := (S1.out.no t2).c5
  have g5 : w2.frozen? ⟨s, 5, none⟩ = false := (S1.out.no t2).soft 5
  clear hf1 t2 m2 C1 k0
  go_upto_region 2 with fail
  obtain ⟨w3, hw3⟩ : ∃ w3, w3 = w2.setCell ⟨s, 5, none⟩ (.pointer (some ⟨f1, 0, none⟩)) := ⟨_, rfl⟩
  have S3 : Hid (Sg true w0 w3 s d f1 ⟨T.D, upTo 1 (1 + Sh.many T.D), T.epoch, T.now, [], T.table, T.puts⟩ E) := by
    show Sg _ _ _ _ _ _ _ _
    rw [hw3]
    exact S1.out.newFree B2.out
  rw [← hw3]
  clear hw3 B2 S1 k5 g5
  obtain ⟨ta, tc, k4, a1, a2, a3, a4⟩ := S3.out.tableC
  dsimp only at k4 a1 a3 a4
  obtain ⟨tn, htn⟩ : ∃ tn, T.table.length = tn := ⟨_, rfl⟩
  rw [htn] at k4 a1 a4
  have CM := Lib.hid (shMarks_any S3.out ta tn tc T.table htn (by have := HTL.out; omega) a3 a4 (fun y hy => by have := (HT.out.trng y hy).2; have := HMany.out; omega))
  clear a1 a2 a3 a4 htn
  go_wp2_with fail
  refine CM.out.mono ?_
  rintro e w4 (⟨_, rfl, s4, t4⟩ | ⟨hno, _⟩)
  · rw [Sh.rest_start] at s4
    have S4 : Hid (Sg true w0 w4 s d f1 ⟨T.D, Sh.restS T.D T.table [], T.epoch, T.now, [], T.table, T.puts⟩ E) := s4
    clear s4 t4 CM S3 k4
    obtain ⟨bn, bk, m2, m3, n1, n2, n3, n4, n5, n6, n7, n8, L0, cnt0, D0, hown, hM0⟩ := Ss.mapsC S4.out
    have HM0 := Lib.hid hM0
    clear hM0
    go_wp2_with (first
      | (at_range; refine wpList_range_own _ rfl _ 99 rfl 38 103 keyU32 Tryz.underlying99 _ bn cnt0 _ rfl hown ?_; intro w5 hrg0 hg0 hs0)
      | fail)
    go_frame
    obtain ⟨r, hr⟩ : ∃ r, r = w4.heap.size := ⟨_, rfl⟩
    have r1 : r ≠ bn := by omega
    have r2 : r ≠ bk := by omega
    have r3 : r ≠ f1 := by omega
    have r4 : r ≠ s := by omega
    have S5 : Hid (Sg true w0 w5 s d f1 ⟨T.D, Sh.restS T.D T.table [], T.epoch, T.now, [], T.table, T.puts⟩ (Part.blk r :: E)) :=
      S4.out.push ⟨grown_touch hg0, One r, ⟨rfl, fun k e => by rw [show k = r from e, hs0]; omega⟩, fun k e => by rw [show k = r from e]; omega⟩
    have q2 : Hid (w5.cell? ⟨s, 2, none⟩ = some (.map (some bn))) := (grown_touch hg0).cell (fun f => f) m2
    have q3 : Hid (w5.cell? ⟨s, 3, none⟩ = some (.map (some bk))) := (grown_touch hg0).cell (fun f => f) m3
    rw [← hr] at hrg0 ⊢
    have HRG := Lib.hid hrg0
    clear hrg0 hg0 hs0 hown hr m2 m3 n4 n5 S4
    have Hn : Hid (bn ≠ bk ∧ bn ≠ f1 ∧ r ≠ bn ∧ r ≠ bk ∧ r ≠ f1 ∧ s ≠ f1 ∧ s ≠ bk ∧ r ≠ s) := ⟨n1, n2, r1, r2, r3, n6, n7, r4⟩
    clear n1 n2 n3 r1 r2 r3 n6 n7 n8 r4
    have HD0 : Hid (∀ id, id < 4294967296 → Maps.has D0 (.int .u32 (id : Nat)) = (Mp.look T.now id).isSome) := fun id hid => (HM0.out.2 id hid).1
    go_loopw [2] (fun _ wr => ∃ (left : Lit → Bool) (cnt : Nat) (lf : Nat → Bool), Hid (∀ z : Nat, lf z = left (.int .u32 (z : Nat))) ∧ Hid (wr.ranges Tryz.prog 38 asHeld bn r cnt0 D0 left cnt) ∧ Hid (Sg true w0 wr s d f1 ⟨T.D, Sh.restS T.D T.table (Sh.come lf T.now), T.epoch, T.now, (Sh.come lf T.now).map Sh.old, T.table, T.puts⟩ (Part.blk r :: E)) ∧ Hid (wr.cell? ⟨s, 2, none⟩ = some (.map (some bn))) ∧ Hid (wr.cell? ⟨s, 3, none⟩ = some (.map (some bk))))
      (fun _ wr => wr.rangeLeft bn r)
    case atStart =>
      refine ⟨Maps.has D0, _, fun z => Maps.has D0 (.int .u32 (z : Nat)), fun z => rfl, HRG.out, ?_, q2.out, q3.out⟩
      have e : Sh.come (fun z => Maps.has D0 (.int .u32 (z : Nat))) T.now = [] := Sh.come_none (fun p hp => by
        rw [HD0.out p.1 (HM.out p hp), Mp.look_mem HT.out.up hp]; rfl)
      show Sg _ _ _ _ _ _ _ _
      rw [e]; exact S5.out
    case round =>
      clear S5 q2 q3 HRG
      obtain ⟨left, cnt, lf, HL, HR, HS, q2, q3⟩ := hrel
      go_wp2_with (first
        | (at_next; refine wpList_next_ranges _ rfl _ rfl 38 keyU32 asHeld (fun x : Int => Value.int .u32 x) (fun v : Value => v) (fun key kl hk => by obtain ⟨x, e, _⟩ := Maps.keyOf_int_inv Tryz.underlying38 hk; exact ⟨x, e⟩) (fun v y hy => ⟨v, rfl⟩) bn r cnt0 _ _ _ rfl HR.out ?_ ?_)
        | fail)
      · intro hc0 hl0
        have e : Sh.come lf T.now = T.now := Sh.come_all (fun p hp => by rw [HL.out]; exact hl0 _)
        have S6 : Hid (Sg true w0 wr s d f1 ⟨T.D, Sh.restS T.D T.table T.now, T.epoch, T.now, T.now.map Sh.old, T.table, T.puts⟩ E) := by
          have := HS.out.drop
          rw [e] at this
          exact this
        obtain ⟨bk6, k3, C6⟩ := S6.out.cloneKept (Sh.up_old HT.out.up) (fun p hp => by obtain ⟨q, hq, rfl⟩ := Sh.mem_old hp; exact HM.out q hq) (n := 64) (by show (T.now.map Sh.old).length ≤ 64; rw [List.length_map]; exact HT.out.len)
        have CC := Lib.hid C6
        clear C6 hc0 hl0 e HS q2 q3 HR HL
        go_wp2_with fail
        refine CC.out.mono ?_
        rintro e w7 ⟨rfl, ⟨v7, k7⟩, g7, s7⟩
        have S7 := Lib.hid s7
        clear s7 CC S6 k3
        go_wp2
        go_end0
        exact ⟨rfl, f1, S7.out⟩
      · intro x v kl y yp w6 cnt6 hkey hlk hy hat hrg6 hlt6 hg6 hs6 hen
        obtain ⟨xi, ex, rfl, hwx⟩ := Maps.keyOf_int_inv Tryz.underlying38 hkey
        cases ex
        have hb := bounds_u32 hwx
        obtain ⟨id, rfl⟩ : ∃ id : Nat, x = (id : Nat) := ⟨x.toNat, by omega⟩
        have hid : id < 4294967296 := by omega
        obtain rfl : y = .held v := by
          have := Option.some.inj hy
          injection this with this
          exact this.symm
        have t6 : Touch (One r) wr w6 := (Touch.refl (One r) wr).grown hg6 (fun k e _ => (Option.some.inj e).symm)
        have S6 := HS.out.turnBlk t6
        have p2 : w6.cell? ⟨s, 2, none⟩ = some (.map (some bn)) := t6.cell (fun e => Hn.out.2.2.2.2.2.2.2 (show s = r from e).symm) q2.out
        have p3 : w6.cell? ⟨s, 3, none⟩ = some (.map (some bk)) := t6.cell (fun e => Hn.out.2.2.2.2.2.2.2 (show s = r from e).symm) q3.out
        obtain ⟨x, a, c, hlk2, rfl, hA1, hA2, hA3, hA4⟩ := Ss.item S6 p2 hrg6.owns hid hat
        dsimp only at hlk2
        obtain ⟨xb, xe, xp, xf⟩ := x
        dsimp only at hA1 hA3 hA4
        obtain ⟨n, hn⟩ : ∃ n, xp.length = n := ⟨_, rfl⟩
        unfold thV at hen hat ⊢
        dsimp only at hen hat ⊢
        rw [hn] at hen hat ⊢
        have H6 : Hid (Sg true w0 w6 s d f1 _ (Part.blk r :: E)) := S6
        have HR6 := Lib.hid hrg6
        have P2 := Lib.hid p2
        have P3 := Lib.hid p3
        have HA3 := Lib.hid hA3
        have HA4 := Lib.hid hA4
        have HA1 := Lib.hid hA1
        have HA2 := Lib.hid hA2
        have Hxn := Lib.hid hn
        have Hat := Lib.hid hat
        have Hlk := Lib.hid hlk
        have Hlk2 := Lib.hid hlk2
        have Hlt := Lib.hid hlt6
        clear S6 hrg6 p2 p3 hA1 hA2 hA3 hA4 hn hat hlk hlk2 hlt6 t6 hg6 hs6 hy hkey hwx hb HS q2 q3
        go_upto_region 7 with fail
        obtain ⟨X, hX⟩ : ∃ X, X = w6.heap.size := ⟨_, rfl⟩
        obtain ⟨w7, hw7⟩ : ∃ w7, w7 = w6.alloc (.cells #[.int .u32 (xb : Nat), .int .u32 (xe : Nat), .slice a n c, .bool false] 103) := ⟨_, rfl⟩
        have t7 : Touch No w6 w7 := by rw [hw7]; exact (Touch.refl No w6).alloc _
        have row7 : Row w7 X 103 [.int .u32 (xb : Nat), .int .u32 (xe : Nat), .slice a n c, .bool false] := by rw [hw7, hX]; exact Row.new w6 _ _
        have hXbk : X ≠ bk := by
          have := lt_of_cell P3.out
          obtain ⟨_, bk', _, m3, _, _, _, b4, _⟩ := Ss.mapsC H6.out
          have e : bk' = bk := by
            rw [P3.out] at m3
            simpa using m3.symm
          omega
        rw [← hw7, ← hX]
        have t7d : Touch No w6 w7.drew := t7.drew
        have S7 := H6.out.no t7d
        have p2 := t7d.cell (fun f => f) P2.out
        have p3 := t7d.cell (fun f => f) P3.out
        have hr7 := ranges_touch HR6.out t7d (fun f => f) (fun f => f)
        have hatx : ∀ zd, D0.atKey (.int .u32 (id : Nat)) zd = .held (thV ⟨xb, xe, xp, xf⟩ a c) := fun zd => by
          rw [Hat.out zd]; unfold thV; dsimp only; rw [Hxn.out]
        have Hatx := Lib.hid hatx
        obtain ⟨w8, hrun, s8, t8⟩ := Ss.keepOne (x := ⟨xb, xe, xp, xf⟩) (a := a) (c := c) S7 p2 p3 hr7.owns hid hatx (Sh.up_old (Mp.up_filter HT.out.up _)) (fun p hp => by obtain ⟨q, hq, rfl⟩ := Sh.mem_old hp; exact HM.out q (List.mem_filter.1 hq).1) (by
          show ((Sh.come lf T.now).map Sh.old).length ≤ 64
          rw [List.length_map]
          exact Nat.le_trans (List.length_filter_le _ _) HT.out.len) Hlk2.out rfl
        unfold thV at hrun
        dsimp only at hrun
        rw [Hxn.out] at hrun
        have p3' : w7.cell? ⟨s, 3, none⟩ = some (.map (some bk)) := p3
        have x0 : w7.cell? ⟨X, 0, none⟩ = some (.int .u32 (xb : Nat)) := row7.cell 0
        have x1 : w7.cell? ⟨X, 1, none⟩ = some (.int .u32 (xe : Nat)) := row7.cell 1
        have x2 : w7.cell? ⟨X, 2, none⟩ = some (.slice a n c) := row7.cell 2
        have x3 : w7.cell? ⟨X, 3, none⟩ = some (.bool false) := row7.cell 3
        have row8 := (row7.touch (Touch.refl No w7).drew (fun f => f)).touch t8 hXbk
        have y2 : w8.cell? ⟨X, 2, none⟩ = some (.slice a n c) := row8.cell 2
        have hr8 := ranges_touch hr7 t8 Hn.out.1 Hn.out.2.2.2.1
        have p28 : w8.cell? ⟨s, 2, none⟩ = some (.map (some bn)) := t8.cell (fun e => Hn.out.2.2.2.2.2.2.1 (show s = bk from e)) p2
        have p38 : w8.cell? ⟨s, 3, none⟩ = some (.map (some bk)) := t8.cell (fun e => Hn.out.2.2.2.2.2.2.1 (show s = bk from e)) p3
        have hrd := Ss.itemRd s8 p28 hr8.owns hid Hatx.out Hlk2.out
        have hlf : lf id = true := by rw [HL.out]; exact Hlk.out
        have hl' : ∀ z, (fun z => lf z && decide (z ≠ id)) z = (lf z && decide (z ≠ id)) := fun z => rfl
        have hmk := HT.out.marks Hlk2.out hlf hl'
        have hcp := Sh.come_put HT.out.up Hlk2.out hl'
        have CM := Lib.hid (shMarks_any s8 a n c xp Hxn.out (by have := (HT.out.th _ (Mp.mem_of_look Hlk2.out)); have h2 := this.len; have h3 := Sh.pages_max this.bytes; have h4 := Hxn.out; simp only at h2 h3; omega) hrd.1 (fun g o e h0 => hrd.2 g o e (List.length_pos_iff.1 (by show 0 < xp.length; rw [Hxn.out]; exact h0))) (fun y hy => by have := (HT.out.nrng _ (Mp.mem_of_look Hlk2.out) y hy).2; have := HMany.out; omega))
        have HP28 := Lib.hid p28
        have HP38 := Lib.hid p38
        have HR8 := Lib.hid hr8
        have HMK := Lib.hid hmk
        have HCP := Lib.hid hcp
        clear hw7 hX t7 row7 t7d S7 p2 p3 hr7 hatx s8 t8 row8 hr8 p28 p38 hrd hlf hl' hmk hcp H6 HR6
        go_wp2_with fail
        go_still_tail 6, (by kernel_rfl)
        clear x0 x1 x2 x3 p3' 
        go_wp2_with fail
        refine CM.out.mono ?_
        rintro e w9 (⟨_, rfl, s9, t9⟩ | ⟨hno, _⟩)
        · have S9 : Hid (Sg true w0 w9 s d f1 ⟨T.D, Sh.restS T.D T.table (Sh.come (fun z => lf z && decide (z ≠ id)) T.now), T.epoch, T.now, (Sh.come (fun z => lf z && decide (z ≠ id)) T.now).map Sh.old, T.table, T.puts⟩ (Part.blk r :: E)) := by
            show Sg _ _ _ _ _ _ _ _
            rw [← HCP.out, ← HMK.out.2]
            exact s9
          have HR9 := Lib.hid (ranges_touch HR8.out t9 Hn.out.2.1 Hn.out.2.2.2.2.1)
          have P29 : Hid (w9.cell? ⟨s, 2, none⟩ = some (.map (some bn))) := t9.cell (fun e => Hn.out.2.2.2.2.2.1 (show s = f1 from e)) HP28.out
          have P39 : Hid (w9.cell? ⟨s, 3, none⟩ = some (.map (some bk))) := t9.cell (fun e => Hn.out.2.2.2.2.2.1 (show s = f1 from e)) HP38.out
          clear s9 t9 CM HR8 HP28 HP38 HMK HCP y2
          go_wp2
          go_roundw
          case rel =>
            refine ⟨_, cnt6, _, fun z => ?_, HR9.out, S9.out, P29.out, P39.out⟩
            show (lf z && decide (z ≠ id)) = (left (.int .u32 (z : Nat)) && !(Lit.int .u32 (z : Nat)).sameKey (.int .u32 (id : Nat)))
            rw [HL.out]
            congr 1
            simp [Lit.sameKey]
            omega
          case measure =>
            rw [HR9.out.left_eq, HR.out.left_eq]; exact Hlt.out
        · exact absurd HMK.out.1 (by rw [show Sh.marks (Sh.restS T.D T.table (Sh.come lf T.now)) xp = false from hno]; decide)
  · exact absurd (HT.out.marks0) (by rw [show Sh.marks (upTo 1 (1 + Sh.many T.D)) T.table = false from hno]; decide)
end
end Go.Proofs.YtnffigfafalocaaGreatDoor
