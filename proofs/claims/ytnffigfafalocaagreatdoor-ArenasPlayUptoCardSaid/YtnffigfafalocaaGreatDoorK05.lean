/-
  States that stand beside each other, as a list that may be put in another order. No program in sight.
  An arena in memory: a struct, and the map that it leads to.
-/
import Derived.Test.YtnffigfafalocaaGreatDoorK04
import Derived.Test.YtnffigfafalocaaGreatDoorK03
import Derived.Maps.OwnSet
import Derived.Lib.Hide
namespace Go.Proofs.YtnffigfafalocaaGreatDoor
open Go Go.RowKit
set_option linter.unusedVariables false

/-- these, each in blocks of its own, all of which are O's -/
def Al (w : World) : List Part → (Nat → Prop) → Prop
  | [], _ => True
  | p :: l, O => ∃ A B, p.P w A ∧ Al w l B ∧ (∀ k, A k → ¬ B k) ∧ (∀ k, A k → O k) ∧ ∀ k, B k → O k
section
variable {w w' : World} {l m : List Part} {O O' : Nat → Prop}
theorem Al.mono (h : Al w l O) (hO : ∀ k, O k → O' k) : Al w l O' := by
  cases l with
  | nil => trivial
  | cons p l =>
    obtain ⟨A, B, ha, hb, hd, h1, h2⟩ := h
    exact ⟨A, B, ha, hb, hd, fun k hk => hO k (h1 k hk), fun k hk => hO k (h2 k hk)⟩
theorem Al.stable {F : Nat → Prop} (t : Touch F w w') : ∀ {l : List Part} {O : Nat → Prop}, Al w l O → (∀ k, O k → ¬ F k) → Al w' l O
  | [], _, _, _ => trivial
  | p :: l, O, ⟨A, B, ha, hb, hd, h1, h2⟩, hF => ⟨A, B, p.stable ha t (fun k hk => hF k (h1 k hk)), Al.stable t hb (fun k hk => hF k (h2 k hk)), hd, h1, h2⟩
theorem Al.no (t : Touch No w w') (h : Al w l O) : Al w' l O := Al.stable t h (fun _ _ f => f)
/-- no more blocks than there are -/
theorem Al.cut : ∀ {l : List Part} {O : Nat → Prop}, Al w l O → Al w l (fun k => O k ∧ k < w.heap.size)
  | [], _, _ => trivial
  | p :: l, O, ⟨A, B, ha, hb, hd, h1, h2⟩ => ⟨A, _, ha, Al.cut hb, fun k hk h => hd k hk h.1, fun k hk => ⟨h1 k hk, p.lt ha k hk⟩, fun k hk => ⟨h2 k hk.1, hk.2⟩⟩
theorem Al.append : ∀ {l m : List Part} {O : Nat → Prop}, Al w (l ++ m) O → ∃ A B, Al w l A ∧ Al w m B ∧ (∀ k, A k → ¬ B k) ∧ (∀ k, A k → O k) ∧ ∀ k, B k → O k
  | [], m, O, h => ⟨fun _ => False, O, trivial, h, fun _ f => f.elim, fun _ f => f.elim, fun _ h => h⟩
  | p :: l, m, O, ⟨A, B, ha, hb, hd, h1, h2⟩ => by
    obtain ⟨C, D, hc, hdd, hcd, h3, h4⟩ := Al.append hb
    refine ⟨fun k => A k ∨ C k, D, ⟨A, C, ha, hc, fun k hk h => hd k hk (h3 k h), fun k => Or.inl, fun k => Or.inr⟩, hdd, fun k hk h => ?_, fun k hk => ?_, fun k hk => h2 k (h4 k hk)⟩
    · rcases hk with hk | hk
      · exact hd k hk (h4 k h)
      · exact hcd k hk h
    · rcases hk with hk | hk
      · exact h1 k hk
      · exact h2 k (h3 k hk)
theorem Al.join : ∀ {l m : List Part} {A B O : Nat → Prop}, Al w l A → Al w m B → (∀ k, A k → ¬ B k) → (∀ k, A k → O k) → (∀ k, B k → O k) → Al w (l ++ m) O
  | [], m, A, B, O, _, hb, _, _, h2 => hb.mono h2
  | p :: l, m, A, B, O, ⟨C, D, hc, hd, hcd, h3, h4⟩, hb, hdis, h1, h2 => by
    refine ⟨C, fun k => D k ∨ B k, hc, Al.join hd hb (fun k hk => hdis k (h4 k hk)) (fun k => Or.inl) (fun k => Or.inr), fun k hk h => ?_, fun k hk => h1 k (h3 k hk), fun k hk => ?_⟩
    · rcases h with h | h
      · exact hcd k hk h
      · exact hdis k (h3 k hk) h
    · rcases hk with hk | hk
      · exact h1 k (h4 k hk)
      · exact h2 k hk
theorem Al.perm (h : l.Perm m) : ∀ {O : Nat → Prop}, Al w l O → Al w m O := by
  induction h with
  | nil => intro O h; exact h
  | cons p _ ih => rintro O ⟨A, B, ha, hb, hd, h1, h2⟩; exact ⟨A, B, ha, ih hb, hd, h1, h2⟩
  | swap p q l =>
    rintro O ⟨A, B, ha, ⟨C, D, hc, hdd, hcd, h3, h4⟩, hd, h1, h2⟩
    refine ⟨C, fun k => A k ∨ D k, hc, ⟨A, D, ha, hdd, fun k hk h => hd k hk (h4 k h), fun k => Or.inl, fun k => Or.inr⟩, fun k hk h => ?_, fun k hk => h2 k (h3 k hk), fun k hk => ?_⟩
    · rcases h with h | h
      · exact hd k h (h3 k hk)
      · exact hcd k hk h
    · rcases hk with hk | hk
      · exact h1 k hk
      · exact h2 k (h4 k hk)
  | trans _ _ ih1 ih2 => intro O h; exact ih2 (ih1 h)
theorem Al.head {p : Part} (h : Al w (p :: l) O) : ∃ A, p.P w A ∧ ∀ k, A k → O k := by
  obtain ⟨A, B, ha, _, _, h1, _⟩ := h
  exact ⟨A, ha, h1⟩
theorem Al.tail {p : Part} (h : Al w (p :: l) O) : Al w l O := by
  obtain ⟨A, B, _, hb, _, _, h2⟩ := h
  exact hb.mono h2
theorem Al.mem {p : Part} : ∀ {l : List Part} {O : Nat → Prop}, Al w l O → p ∈ l → ∃ A, p.P w A ∧ ∀ k, A k → O k
  | q :: l, O, h, hp => by
    rcases List.mem_cons.1 hp with rfl | hp
    · exact h.head
    · exact Al.mem h.tail hp
end

/-- in their blocks, and in new ones, these became those -/
def TurnsL (w : World) (O : Nat → Prop) (l' : List Part) (w' : World) : Prop := Touch O w w' ∧ ∃ O', Al w' l' O' ∧ ∀ k, O' k → O k ∨ w.heap.size ≤ k
theorem TurnsL.no {w w1 w2 : World} {O : Nat → Prop} {l : List Part} (h : TurnsL w O l w1) (t : Touch No w1 w2) : TurnsL w O l w2 := by
  obtain ⟨t1, O', h1, h2⟩ := h
  exact ⟨t1.then t (fun _ _ f => f.elim), O', h1.no t, h2⟩
theorem TurnsL.same {w : World} {O : Nat → Prop} {l : List Part} (h : Al w l O) : TurnsL w O l w := ⟨Touch.refl _ _, O, h, fun _ h => Or.inl h⟩
theorem TurnsL.perm {w w' : World} {O : Nat → Prop} {l m : List Part} (h : TurnsL w O l w') (hp : l.Perm m) : TurnsL w O m w' := by
  obtain ⟨t, O', h1, h2⟩ := h
  exact ⟨t, O', h1.perm hp, h2⟩
/-- .. whatever stands beside them -/
theorem Al.frame {w : World} {l m : List Part} {O : Nat → Prop} (h : Al w (l ++ m) O) : ∃ A, Al w l A ∧ (∀ k, A k → O k) ∧ ∀ w' l', TurnsL w A l' w' → TurnsL w O (l' ++ m) w' := by
  obtain ⟨A, B, ha, hb, hd, h1, h2⟩ := h.append
  refine ⟨A, ha, h1, fun w' l' ht => ?_⟩
  obtain ⟨t, A', ha', hin⟩ := ht
  refine ⟨t.mono (fun k _ hk => h1 k hk), fun k => A' k ∨ (B k ∧ k < w.heap.size), Al.join ha' (Al.stable t hb.cut (fun k hk f => hd k f hk.1)) (fun k hk hB => ?_) (fun k => Or.inl) (fun k => Or.inr), fun k hk => ?_⟩
  · rcases hin k hk with h | h
    · exact hd k h hB.1
    · have := hB.2
      omega
  · rcases hk with hk | hk
    · exact (hin k hk).imp (h1 k) id
    · exact Or.inl (h2 k hk.1)
/-- these, made since w0 -/
def Sl (w0 w : World) (l : List Part) : Prop := ∃ O, Al w l O ∧ (∀ k, O k → w0.heap.size ≤ k ∧ k < w.heap.size) ∧ Touch No w0 w
section
variable {w0 w w' : World} {l m : List Part}
theorem Sl.end (h : Sl w0 w l) : Touch No w0 w := by obtain ⟨O, _, _, t⟩ := h; exact t
theorem Sl.nil (t : Touch No w0 w) : Sl w0 w [] := ⟨fun _ => False, trivial, fun _ f => f.elim, t⟩
theorem Sl.no (h : Sl w0 w l) (t : Touch No w w') : Sl w0 w' l := by
  obtain ⟨O, h1, h2, t0⟩ := h
  exact ⟨O, h1.no t, fun k hk => ⟨(h2 k hk).1, Nat.lt_of_lt_of_le (h2 k hk).2 t.size⟩, t0.trans t⟩
theorem Sl.perm (h : Sl w0 w l) (hp : l.Perm m) : Sl w0 w m := by
  obtain ⟨O, h1, h2, t0⟩ := h
  exact ⟨O, h1.perm hp, h2, t0⟩
theorem Sl.mem (h : Sl w0 w l) {p : Part} (hp : p ∈ l) : ∃ A, p.P w A ∧ ∀ k, A k → w0.heap.size ≤ k ∧ k < w.heap.size := by
  obtain ⟨O, h1, h2, _⟩ := h
  obtain ⟨A, ha, hA⟩ := h1.mem hp
  exact ⟨A, ha, fun k hk => h2 k (hA k hk)⟩
theorem Sl.frame (h : Sl w0 w (l ++ m)) : ∃ A, Al w l A ∧ (∀ k, A k → w0.heap.size ≤ k ∧ k < w.heap.size) ∧ ∀ w' l', TurnsL w A l' w' → Sl w0 w' (l' ++ m) := by
  obtain ⟨O, h1, h2, t0⟩ := h
  obtain ⟨A, ha, hA, hf⟩ := h1.frame
  refine ⟨A, ha, fun k hk => h2 k (hA k hk), fun w' l' ht => ?_⟩
  obtain ⟨t, O', hO', hin⟩ := hf w' l' ht
  refine ⟨_, hO'.cut, fun k hk => ⟨?_, hk.2⟩, t0.then t (fun i hi f => absurd hi (Nat.not_lt.2 (h2 i f).1))⟩
  rcases hin k hk.1 with h | h
  · exact (h2 k h).1
  · exact Nat.le_trans t0.size h
theorem Sl.push (h : Sl w0 w l) {p : Part} (b : Born w p w') : Sl w0 w' (p :: l) := by
  obtain ⟨O, h1, h2, t0⟩ := h
  obtain ⟨t, A, ha, hge⟩ := b
  have hs := t.size
  refine ⟨fun k => A k ∨ O k, ⟨A, O, ha, h1.no t, fun k hk ho => ?_, fun k => Or.inl, fun k => Or.inr⟩, fun k hk => ?_, t0.trans t⟩
  · have := hge k hk
    have := (h2 k ho).2
    omega
  · rcases hk with hk | hk
    · exact ⟨Nat.le_trans t0.size (hge k hk), p.lt ha k hk⟩
    · exact ⟨(h2 k hk).1, Nat.lt_of_lt_of_le (h2 k hk).2 hs⟩
theorem Sl.drop {p : Part} (h : Sl w0 w (p :: l)) : Sl w0 w l := by
  obtain ⟨O, h1, h2, t0⟩ := h
  exact ⟨O, h1.tail, h2, t0⟩
end
end Go.Proofs.YtnffigfafalocaaGreatDoor
namespace Go.Proofs.YtnffigfafalocaaGreatDoor
open Go Go.RowKit Go.Maps
set_option linter.unusedSimpArgs false
set_option linter.unusedVariables false

/-- an element reads as itself -/
def asHeld (v : Value) : Option (DataW Value × List MemPlace) := some (.held v, [])
def noPart : Value := .agg #[.int .i64 0, .slice none 0 0, .slice none 0 0, .bool false]
theorem keyU32 : Keyed Tryz.prog 38 := int_keyed Tryz.underlying38
theorem keyOf_id {id : Nat} (h : id < 4294967296) : keyOf Tryz.prog 38 (.int .u32 (id : Nat)) = some (.int .u32 (id : Nat)) := keyOf_int_mk Tryz.underlying38 (WalkArith.wf_u32 (by omega))
theorem isKey_id (x : Int) : WideAt.IsKeyLit (.int .u32 x) := by simp [WideAt.IsKeyLit]
theorem lit_ne {a b : Nat} (h : a ≠ b) : (Lit.int .u32 (a : Nat)) ≠ Lit.int .u32 (b : Nat) := fun e => h (by injection e with _ e; omega)
/-- the value of an item -/
def ItAt (w : World) (O : Nat → Prop) (x : Ar.It) (v : Value) : Prop :=
  match x.t with
  | none => v = .agg #[.int .i64 (x.bytes : Nat), .slice none 0 0, .slice none 0 0, .bool false]
  | some (s, l) => ∃ sa la, v = .agg #[.int .i64 (x.bytes : Nat), .slice sa s.length s.length, .slice la l.length l.length, .bool true] ∧ Rd w sa (ints .i64 s) ∧ Rd w la (ints .i32 l) ∧ (∀ g o, sa = some ⟨g, o, none⟩ → O g) ∧ (∀ g o, la = some ⟨g, o, none⟩ → O g) ∧ sa ≠ none ∧ la ≠ none ∧ Ar.check s l = true
theorem ItAt.touch {F : Nat → Prop} {w w' : World} {O O' : Nat → Prop} {x : Ar.It} {v : Value} (h : ItAt w O x v) (t : Touch F w w') (hF : ∀ k, O k → ¬ F k) (hO : ∀ k, O k → O' k) : ItAt w' O' x v := by
  unfold ItAt at h ⊢
  split
  · rename_i e; rw [e] at h; exact h
  · rename_i s l e
    rw [e] at h
    obtain ⟨sa, la, h1, h2, h3, h4, h5, h6, h7, h8⟩ := h
    exact ⟨sa, la, h1, h2.touch t (fun b o e _ => hF b (h4 b o e)), h3.touch t (fun b o e _ => hF b (h5 b o e)), fun g o e => hO g (h4 g o e), fun g o e => hO g (h5 g o e), h6, h7, h8⟩
/-- what a map of items reads as -/
def MapOf (w : World) (O : Nat → Prop) (D : DataW Value) (its : List (Nat × Ar.It)) : Prop :=
  IsMap D ∧ ∀ id, id < 4294967296 → Maps.has D (.int .u32 (id : Nat)) = (Ar.look its id).isSome ∧ ∀ x, Ar.look its id = some x → ∃ v, ItAt w O x v ∧ D.atKey (.int .u32 (id : Nat)) (.held noPart) = .held v
theorem MapOf.touch {F : Nat → Prop} {w w' : World} {O O' : Nat → Prop} {D : DataW Value} {its : List (Nat × Ar.It)} (h : MapOf w O D its) (t : Touch F w w') (hF : ∀ k, O k → ¬ F k) (hO : ∀ k, O k → O' k) : MapOf w' O' D its :=
  ⟨h.1, fun id hid => ⟨(h.2 id hid).1, fun x hx => by
    obtain ⟨v, hv, ha⟩ := (h.2 id hid).2 x hx
    exact ⟨v, hv.touch t hF hO, ha⟩⟩⟩
theorem MapOf.nil (w : World) (O : Nat → Prop) : MapOf w O (.map []) [] := ⟨isMap_empty, fun id _ => ⟨rfl, fun x hx => by cases hx⟩⟩
theorem MapOf.put {w : World} {O : Nat → Prop} {D : DataW Value} {its : List (Nat × Ar.It)} (h : MapOf w O D its) (id : Nat) (x : Ar.It) (v : Value) (hv : ItAt w O x v) : MapOf w O (D.put (.int .u32 (id : Nat)) (.held v)) (Ar.put its id x) := by
  refine ⟨h.1.put _ _, fun id' hid' => ?_⟩
  by_cases e : id' = id
  · subst e
    refine ⟨by rw [has_put_same h.1 (isKey_id _), Ar.look_put_same]; rfl, fun y hy => ?_⟩
    rw [Ar.look_put_same] at hy
    cases hy
    exact ⟨v, hv, atKey_put_same h.1 (isKey_id _) _ _⟩
  · refine ⟨by rw [has_put_other (lit_ne e), Ar.look_put_other _ e]; exact (h.2 id' hid').1, fun y hy => ?_⟩
    rw [Ar.look_put_other _ e] at hy
    rw [atKey_put_other (lit_ne e)]
    exact (h.2 id' hid').2 y hy
theorem MapOf.del {w : World} {O : Nat → Prop} {D : DataW Value} {its : List (Nat × Ar.It)} (h : MapOf w O D its) (id : Nat) : MapOf w O (D.del (.int .u32 (id : Nat))) (Ar.del its id) := by
  refine ⟨h.1.del _, fun id' hid' => ?_⟩
  by_cases e : id' = id
  · subst e
    refine ⟨by rw [has_del_same, Ar.look_del_same]; rfl, fun y hy => ?_⟩
    rw [Ar.look_del_same] at hy
    cases hy
  · refine ⟨by rw [has_del_other (lit_ne e), Ar.look_del_other _ e]; exact (h.2 id' hid').1, fun y hy => ?_⟩
    rw [Ar.look_del_other _ e] at hy
    rw [atKey_del_other (lit_ne e)]
    exact (h.2 id' hid').2 y hy

def arCells (lk : Int) (A : Ar.Arena) (b : Nat) : List Value := [.int .i32 lk, .int .u32 0, .int .i64 1, .int .i64 (A.room : Nat), .int .i64 (A.used : Nat), .int .i64 (A.peak : Nat), .map (some b)]
/-- the map, some writes since -/
def ArMap (w : World) (g b : Nat) (A : Ar.Arena) (O : Nat → Prop) : Prop := ∃ D, w.ownsMap Tryz.prog 38 asHeld b A.puts D ∧ MapOf w (fun k => O k ∧ k ≠ g ∧ k ≠ b) D A.its
structure ArAt (w : World) (g b : Nat) (lk : Int) (A : Ar.Arena) (O : Nat → Prop) : Prop where
  row : Row w g 157 (arCells lk A b)
  map : ArMap w g b A O
  og : O g
  ob : O b
  ne : g ≠ b
theorem ownsMap_touch {F : Nat → Prop} {w w' : World} {b n : Nat} {D : DataW Value} (h : w.ownsMap Tryz.prog 38 asHeld b n D) (t : Touch F w w') (hF : ¬ F b) : w'.ownsMap Tryz.prog 38 asHeld b n D := by
  have hlt := h.lt
  obtain ⟨es, clock, hb, r⟩ := h
  exact ⟨es, clock, by rw [t.block b hlt hF]; exact hb, r⟩
theorem ArAt.touch {F : Nat → Prop} {w w' : World} {g b : Nat} {lk : Int} {A : Ar.Arena} {O : Nat → Prop} (h : ArAt w g b lk A O) (t : Touch F w w') (hF : ∀ k, O k → ¬ F k) : ArAt w' g b lk A O := by
  obtain ⟨D, hD, hM⟩ := h.map
  exact ⟨h.row.touch t (hF g h.og), ⟨D, ownsMap_touch hD t (hF b h.ob), hM.touch t (fun k hk => hF k hk.1) (fun _ h => h)⟩, h.og, h.ob, h.ne⟩
theorem ArAt.no {w w' : World} {g b : Nat} {lk : Int} {A : Ar.Arena} {O : Nat → Prop} (h : ArAt w g b lk A O) (t : Touch No w w') : ArAt w' g b lk A O := h.touch t (fun _ _ f => f)
def Part.arena (g : Nat) (A : Ar.Arena) : Part where
  P w O := (∃ b, ArAt w g b 0 A O) ∧ Ar.Ok A ∧ ∀ k, O k → k < w.heap.size
  stable := fun {F w w' O} ⟨⟨b, h⟩, ho, hl⟩ t hF => ⟨⟨b, h.touch t hF⟩, ho, fun k hk => Nat.lt_of_lt_of_le (hl k hk) t.size⟩
  lt := fun {w O} h => h.2.2
theorem zeroPart (w : World) : (zeroValue 164).run Tryz.prog w = .ok noPart w := by kernel_rfl
/-- 'v, ok := a.l[id]' -/
theorem wpList_lookup_part (w : World) {ops : Array Oper} {rest : List Oper} {o : Oper} {a : Act} {Q : Exit → Act → World → Prop} (hg : o.guard = none) (m x : Operand) (hop : o.op = Op.lookup 145 m x true)
    (b n : Nat) (D : DataW Value) (hm : a.eval m = .map (some b)) (hown : w.ownsMap Tryz.prog 38 asHeld b n D) (id : Nat) (hid : id < 4294967296) (hx : a.eval x = .int .u32 (id : Nat)) (v0 : Value) (hat : D.atKey (.int .u32 (id : Nat)) (.held noPart) = .held v0) (bo : Bool) (hhas : Maps.has D (.int .u32 (id : Nat)) = bo)
    (hK : wpList Tryz.prog ops Q rest (a.put o.dst (.tuple #[v0, .bool bo])) w) : wpList Tryz.prog ops Q (o :: rest) a w :=
  wpList_lookup_own_ok w hg m x _ hop 38 164 keyU32 Tryz.underlying145 asHeld (zeroPart w) (.held noPart) [] rfl b n D hm hown _ _ hx (keyOf_id hid) (fun v ps hv => by
    have e : DataW.held v = DataW.held v0 := by
      have := congrArg Prod.fst (Option.some.inj hv)
      exact this.trans hat
    injection e with e
    subst e
    rw [hhas]
    exact hK)
section
variable {w w' : World} {g b : Nat} {lk : Int} {A : Ar.Arena} {O : Nat → Prop}
theorem ArAt.c0 (h : ArAt w g b lk A O) : w.cell? ⟨g, 0, none⟩ = some (.int .i32 lk) := h.row.cell 0
theorem ArAt.c2 (h : ArAt w g b lk A O) : w.cell? ⟨g, 2, none⟩ = some (.int .i64 1) := h.row.cell 2
theorem ArAt.c3 (h : ArAt w g b lk A O) : w.cell? ⟨g, 3, none⟩ = some (.int .i64 (A.room : Nat)) := h.row.cell 3
theorem ArAt.c4 (h : ArAt w g b lk A O) : w.cell? ⟨g, 4, none⟩ = some (.int .i64 (A.used : Nat)) := h.row.cell 4
theorem ArAt.c5 (h : ArAt w g b lk A O) : w.cell? ⟨g, 5, none⟩ = some (.int .i64 (A.peak : Nat)) := h.row.cell 5
theorem ArAt.c6 (h : ArAt w g b lk A O) : w.cell? ⟨g, 6, none⟩ = some (.map (some b)) := h.row.cell 6
/-- the lock turned -/
theorem ArAt.lock (h : ArAt w g b lk A O) (lk' : Int) : ArAt (w.setCell ⟨g, 0, none⟩ (.int .i32 lk')) g b lk' A O ∧ Touch O w (w.setCell ⟨g, 0, none⟩ (.int .i32 lk')) := by
  have t : Touch (fun k => k = g) w (w.setCell ⟨g, 0, none⟩ (.int .i32 lk')) := (Touch.refl (fun k => k = g) w).setCell (p := ⟨g, 0, none⟩) (fun _ => rfl) _
  have hr : Row (w.setCell ⟨g, 0, none⟩ (.int .i32 lk')) g 157 (arCells lk' A b) := h.row.setCell 0 _
  obtain ⟨D, hD, hM⟩ := h.map
  exact ⟨⟨hr, ⟨D, ownsMap_touch hD t (fun e => h.ne e.symm), hM.touch t (fun k hk e => hk.2.1 e) (fun _ h => h)⟩, h.og, h.ob, h.ne⟩, t.mono (fun k _ e => e ▸ h.og)⟩
/-- a cell of the struct turned -/
theorem ArAt.turn (h : ArAt w g b lk A O) (o : Nat) (v : Value) (A' : Ar.Arena) (hp : A'.puts = A.puts) (hi : A'.its = A.its) (hc : (arCells lk A b).set o v = arCells lk A' b) : ArAt (w.setCell ⟨g, o, none⟩ v) g b lk A' O ∧ Touch O w (w.setCell ⟨g, o, none⟩ v) := by
  have t : Touch (fun k => k = g) w (w.setCell ⟨g, o, none⟩ v) := (Touch.refl (fun k => k = g) w).setCell (p := ⟨g, o, none⟩) (fun _ => rfl) _
  have hr : Row (w.setCell ⟨g, o, none⟩ v) g 157 (arCells lk A' b) := by rw [← hc]; exact h.row.setCell o _
  obtain ⟨D, hD, hM⟩ := h.map
  exact ⟨⟨hr, ⟨D, by rw [hp]; exact ownsMap_touch hD t (fun e => h.ne e.symm), by rw [hi]; exact hM.touch t (fun k hk e => hk.2.1 e) (fun _ h => h)⟩, h.og, h.ob, h.ne⟩, t.mono (fun k _ e => e ▸ h.og)⟩
/-- the map turned -/
theorem ArAt.mapped (h : ArAt w g b lk A O) {n : Nat} {D : DataW Value} {its : List (Nat × Ar.It)} (hg : w.grownBy w' (some b)) (hD : w'.ownsMap Tryz.prog 38 asHeld b n D) (hM : MapOf w (fun k => O k ∧ k ≠ g ∧ k ≠ b) D its) : ArAt w' g b lk ⟨A.room, A.used, A.peak, n, its⟩ O ∧ Touch O w w' := by
  have t : Touch (fun k => k = b) w w' := (Touch.refl (fun k => k = b) w).grown hg (fun k e _ => (Option.some.inj e).symm)
  exact ⟨⟨h.row.touch t h.ne, ⟨D, hD, hM.touch t (fun k hk e => hk.2.2 e) (fun _ h => h)⟩, h.og, h.ob, h.ne⟩, t.mono (fun k _ e => e ▸ h.ob)⟩
theorem ArAt.look_none (h : ArAt w g b lk A O) {id : Nat} (hid : id < 4294967296) (hl : Ar.look A.its id = none) : ∃ D, w.ownsMap Tryz.prog 38 asHeld b A.puts D ∧ MapOf w (fun k => O k ∧ k ≠ g ∧ k ≠ b) D A.its ∧ Maps.has D (.int .u32 (id : Nat)) = false ∧ D.atKey (.int .u32 (id : Nat)) (.held noPart) = .held noPart := by
  obtain ⟨D, hD, hM⟩ := h.map
  have hh : Maps.has D (.int .u32 (id : Nat)) = false := by rw [(hM.2 id hid).1, hl]; rfl
  exact ⟨D, hD, hM, hh, atKey_of_not_has hh _⟩
theorem ArAt.look_some (h : ArAt w g b lk A O) {id : Nat} (hid : id < 4294967296) {x : Ar.It} (hl : Ar.look A.its id = some x) : ∃ D v, w.ownsMap Tryz.prog 38 asHeld b A.puts D ∧ MapOf w (fun k => O k ∧ k ≠ g ∧ k ≠ b) D A.its ∧ Maps.has D (.int .u32 (id : Nat)) = true ∧ D.atKey (.int .u32 (id : Nat)) (.held noPart) = .held v ∧ ItAt w (fun k => O k ∧ k ≠ g ∧ k ≠ b) x v := by
  obtain ⟨D, hD, hM⟩ := h.map
  obtain ⟨v, hv, ha⟩ := (hM.2 id hid).2 x hl
  exact ⟨D, v, hD, hM, by rw [(hM.2 id hid).1, hl]; rfl, ha, hv⟩
theorem there_any (h : ArAt w g b lk A O) : Calls Tryz.prog 65 #[.pointer (some ⟨g, 0, none⟩)] w fun e w' => e = .returned (.bool true) ∧ w = w' := by
  have c2 := h.c2
  clear h
  go_enter Tryz.func65, Tryz.ntmps65
  go_wp2
  go_ret
  exact ⟨rfl, rfl⟩
theorem there_nil (w : World) : Calls Tryz.prog 65 #[.pointer none] w fun e w' => e = .returned (.bool false) ∧ w = w' := by
  go_enter Tryz.func65, Tryz.ntmps65
  go_wp2
  go_ret
  exact ⟨rfl, rfl⟩
end
end Go.Proofs.YtnffigfafalocaaGreatDoor
