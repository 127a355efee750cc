/-
  Package disks by its own text: a disk in memory; ask, Len, Waits.
  Package disks by its own text: Len, Waits; slices.Clone of sectors and of bytes; of.
  Package disks by its own text: New, Sync.
  Package disks by its own text: Write.
  Package drydocklaw01 by its own text: a book is told of bytes.
  A book as one part: what it has been told of lies in blocks of its own.
-/
import Derived.Test.YtnffigfafalocaaGreatDoorRows
import Derived.Test.YtnffigfafalocaaGreatDoorK27
import Derived.Lib.SliceRun
import Derived.Deep.LoopGhost
import Derived.Laws.MakeOwn
import Derived.Laws.CopyOwn
import Derived.Deep.RegionHeld3
import Derived.Deep.RegionLawGrows
import Derived.Laws.OwnMore
namespace Go.Proofs.YtnffigfafalocaaGreatDoor
open Go Go.RowKit

theorem rowTouch {F : Nat → Prop} {w w' : World} {base e size n : Nat} {v : Value} {xs : List Value} (h : w.ownsRow base e size v n xs) (t : Touch F w w') (hF : ∀ b, InBlock v b → ¬ F b) : w'.ownsRow base e size v n xs := by
  obtain ⟨hl, h⟩ := h
  refine ⟨hl, ?_⟩
  rcases h with h | ⟨g, cap, cur, hv, hg, hh, r⟩
  · exact Or.inl h
  · have hb : g < w.heap.size := by
      by_cases hb : g < w.heap.size
      · exact hb
      · simp [Array.getElem?_eq_none (Nat.le_of_not_lt hb)] at hh
    exact Or.inr ⟨g, cap, cur, hv, hg, by rw [t.block g hb (hF g (by rw [hv]; rfl))]; exact hh, r⟩
theorem rowBlock {w : World} {base e size n : Nat} {v : Value} {xs : List Value} (h : w.ownsRow base e size v n xs) {k : Nat} (hk : InBlock v k) : base ≤ k ∧ k < w.heap.size := by
  obtain ⟨hl, h⟩ := h
  rcases h with ⟨rfl, _⟩ | ⟨g, cap, cur, rfl, hg, hh, r⟩
  · cases hk
  · have e : g = k := by simpa [InBlock, Value.ownBlock] using hk
    subst e
    refine ⟨hg, ?_⟩
    by_cases hb : g < w.heap.size
    · exact hb
    · simp [Array.getElem?_eq_none (Nat.le_of_not_lt hb)] at hh
end Go.Proofs.YtnffigfafalocaaGreatDoor
namespace Go.Proofs.YtnffigfafalocaaGreatDoor
open Go Go.RowKit

theorem rowSlice {w : World} {base e size n : Nat} {v : Value} {xs : List Value} (h : w.ownsRow base e size v n xs) : ∃ a c, v = .slice a n c ∧ n ≤ c ∧ c ≤ maxLen := by
  obtain ⟨_, h⟩ := h
  rcases h with ⟨rfl, rfl⟩ | ⟨g, cap, cur, rfl, _, _, h1, h2, _⟩
  · exact ⟨_, _, rfl, Nat.le_refl _, by unfold maxLen; omega⟩
  · exact ⟨_, _, rfl, h1, h2⟩

/-! ### the types of the elements -/
/-- what a type's zero and room are -/
structure TypeIs (t : TypeId) (i : TypeInfo) (z : Value) (size bytes : Nat) (cells : List Value) : Prop where
  info : Tryz.prog.info? t = some i
  zero : i.zero = some z
  size : i.size = size
  bytes : i.bytes = bytes
  cells : z.cells = cells.toArray
theorem type_is {t : TypeId} {size bytes : Nat} {cells : List Value} (h : (Tryz.prog.info? t).map (fun i => (i.zero.map (·.cells), i.size, i.bytes)) = some (some cells.toArray, size, bytes)) : ∃ i z, TypeIs t i z size bytes cells := by
  cases hi : Tryz.prog.info? t with
  | none => simp [hi] at h
  | some i =>
    rw [hi] at h
    simp only [Option.map_some, Option.some.injEq, Prod.mk.injEq] at h
    obtain ⟨h1, h2, h3⟩ := h
    cases hz : i.zero with
    | none => simp [hz] at h1
    | some z => exact ⟨i, z, hi, hz, h2, h3, by simpa [hz] using h1⟩
end Go.Proofs.YtnffigfafalocaaGreatDoor
namespace Go.Proofs.YtnffigfafalocaaGreatDoor
open Go Go.RowKit

end Go.Proofs.YtnffigfafalocaaGreatDoor
namespace Go.Proofs.YtnffigfafalocaaGreatDoor
open Go Go.RowKit
set_option linter.unusedSimpArgs false

/-- 'append(out, x)' of one struct inside a region: out is a row that may grow -/
theorem step_append_row {P : Program} {w : World} {ops : Array Oper} {o : Oper} {a : Act} {K : Act → World → Prop} {Q : Exit → Act → World → Prop} {E : Prop} (hgd : o.guard = none) (s x : Operand) (t : TypeId)
    (ho : o.op = .call { callee := .builtin .append, args := #[s, x], argTypes := #[t, t] })
    (e : TypeId) (i : TypeInfo) (z : Value) (size bytes : Nat) (ht : P.underlying t = some (.slice e)) (hi : P.info? e = some i) (hz : i.zero = some z) (hsize : i.size = size) (hby : i.bytes = bytes) (hzs : z.cells.size = size) (hsz : 0 < size)
    (v : Value) (n : Nat) (vs : List Value) (hown : w.ownsRow 0 e size v n vs) (hs : a.eval s = v) (g : Nat) (news : List Value) (hrd : Row w g e news) (hx : a.eval x = .slice (some ⟨g, 0, none⟩) 1 1) (hl : news.length = size) (h1 : ∀ u ∈ news, u.oneCell' = true)
    (h63 : n + 1 ≤ maxLen) (hbytes : (n + 1) * bytes ≤ 140737488355328)
    (h : ∀ a' c' w', w'.ownsRow 0 e size (.slice a' (n + 1) c') (n + 1) (vs ++ news) → Touch (InBlock v) w w' → (∀ k, InBlock (.slice a' (n + 1) c') k → InBlock v k ∨ w.heap.size ≤ k) → K (a.put o.dst (.slice a' (n + 1) c')) w') :
    if Region.wanted o (yielded ops a.tmps) = true then Oper.wp P o a w K Q else E := by
  have hnews : ∀ j u, news[j]? = some u → w.cell? ((⟨g, 0, none⟩ : Addr).add j) = some u := fun j u hj => by rw [add_off, Nat.zero_add, hrd.cell]; exact hj
  have hlow : ∀ {B : Nat} {w' : World} {v' : Value} {k : Nat} {l : List Value}, w'.ownsRow B e size v' k l → w'.ownsRow 0 e size v' k l := fun ⟨q1, q2⟩ => ⟨q1, q2.imp id (fun ⟨g, cap, cur, r1, _, r2⟩ => ⟨g, cap, cur, r1, Nat.zero_le _, r2⟩)⟩
  rcases hown.2 with ⟨rfl, h0⟩ | ⟨g1, cap, cur, rfl, _, hheap, hcap, hmax, hsz1, htk⟩
  · have hw : Region.wanted o (yielded ops a.tmps) = true := by simp [Region.wanted, hgd]
    rw [if_pos hw]
    refine wp_append_own w s x t ho w.heap.size e i z size bytes ht hi hz hsize hby hzs hsz _ n vs hs ⟨hown.1, Or.inl ⟨rfl, h0⟩⟩ ⟨g, 0, none⟩ 1 1 news hx (by omega) hnews h1 h63 hbytes (Nat.le_refl _) fun v' w' h2 h3 _ => ?_
    obtain ⟨a', c', rfl, _, _⟩ := rowSlice h2
    exact h a' c' w' (hlow h2) ((Touch.refl _ w).grown h3 (fun k hk _ => hk)) (fun k hk => Or.inr (rowBlock h2 hk).1)
  · by_cases hroom : n + 1 ≤ cap
    · have hw : Region.wanted o (yielded ops a.tmps) = true := by simp [Region.wanted, hgd]
      rw [if_pos hw]
      obtain ⟨w', hr, h2, h3⟩ := run_append_fits (P := P) w 0 t o.type e i size ht hi hsize g1 n cap vs hown ⟨g, 0, none⟩ 1 1 news (by omega) hnews h1 hroom
      unfold Oper.wp execOp
      simp only [ho, resolve, invoke, builtin, Sem.run_bind, Sem.run_pure, Result.andThen_ok, List.map_toArray, List.map_cons, List.map_nil, hs, hx, hr]
      exact h _ _ w' h2 ((Touch.refl _ w).grown h3 (fun k hk _ => hk)) (fun k hk => Or.inl hk)
    · refine step_append_grows hgd s x t ho e i z size bytes ht hi hz hsize hby hzs hsz (some ⟨g1, 0, none⟩) n cap vs hs (fun q => by cases q) hown.1 (fun b hb j u hj => ?_) ⟨g, 0, none⟩ 1 1 news hx (by omega) hnews h1 (by omega) h63 hbytes fun v' w' h2 h3 => ?_
      · cases hb
        rw [add_off, Nat.zero_add, (show Row w g1 e cur.toList by rw [Row, Array.toArray_toList]; exact hheap).cell]
        rw [← htk, List.getElem?_take] at hj
        split at hj
        · exact hj
        · cases hj
      · obtain ⟨a', c', rfl, _, _⟩ := rowSlice h2
        exact h a' c' w' (hlow h2) ((Touch.refl _ w).grown h3 (fun k hk _ => by cases hk)) (fun k hk => Or.inr (rowBlock h2 hk).1)

end Go.Proofs.YtnffigfafalocaaGreatDoor
namespace Go.Proofs.YtnffigfafalocaaGreatDoor
open Go Go.RowKit
set_option linter.unusedSimpArgs false

theorem heldInt_is : ∃ i z, TypeIs 244 i z 3 56 [nilSl, nilSl, .int .i64 0] := type_is (by kernel_rfl)
set_option maxRecDepth 100000 in
set_option maxHeartbeats 4000000 in
theorem keepInt_any (w : World) (g n : Nat) (vB vI vN vD : Value) (a : Option Addr) (len cap m : Nat) (cs : List Value) (hR : Row w g 71 (bookCells n vB vI vN vD)) (hown : w.ownsRow 0 244 3 vI m cs) (hne : ¬ InBlock vI g) (hm : m ≤ 100000) (hn : n ≤ 1000000) :
    Calls Tryz.prog 174 #[.pointer (some ⟨g, 0, none⟩), .slice a len cap] w fun e w' => e = .returned (.tuple #[]) ∧ ∃ v', w'.ownsRow 0 244 3 v' (m + 1) (cs ++ [.slice a len cap, nilSl, .int .i64 ((n + 1 : Nat) : Int)]) ∧
      Row w' g 71 (bookCells (n + 1) vB v' vN vD) ∧ Touch (fun k => k = g ∨ InBlock vI k) w w' ∧ ∀ k, InBlock v' k → InBlock vI k ∨ w.heap.size ≤ k := by
  obtain ⟨ab, cb, rfl, hcb, _⟩ := rowSlice hown
  obtain ⟨I, z, hI⟩ := heldInt_is
  have c0 : w.cell? ⟨g, 0, none⟩ = some (.int .i64 (n : Nat)) := hR.cell 0
  have c1 : w.cell? ⟨g, 2, none⟩ = some (.slice ab m cb) := hR.cell 2
  have f0 : w.frozen? ⟨g, 0, none⟩ = false := hR.soft 0
  have f1 : w.frozen? ⟨g, 2, none⟩ = false := hR.soft 2
  have hn1 : (n : Int) ≤ 1000000 := by omega
  have HR := Lib.hid hR
  have HO := Lib.hid hown
  have HNe := Lib.hid hne
  have HI := Lib.hid hI
  clear hR hown hne hI
  go_enter Tryz.func174, Tryz.ntmps174
  go_wp2_with fail
  obtain ⟨W1, hW1⟩ : ∃ W1, W1 = w.setCell ⟨g, 0, none⟩ (.int .i64 ((n : Int) + 1)) := ⟨_, rfl⟩
  have R1 : Row W1 g 71 (bookCells (n + 1) vB (.slice ab m cb) vN vD) := by
    rw [hW1]
    have := HR.out.setCell 0 (.int .i64 ((n : Int) + 1))
    exact this
  have t1 : Touch (One g) w W1 := by rw [hW1]; exact (Touch.refl (One g) w).setCell (p := ⟨g, 0, none⟩) (fun _ => rfl) _
  have hs1 : W1.heap.size = w.heap.size := by rw [hW1]; simp [World.setCell]
  rw [← hW1]
  have k0 : W1.cell? ⟨g, 0, none⟩ = some (.int .i64 ((n : Int) + 1)) := R1.cell 0
  have k1 : W1.cell? ⟨g, 2, none⟩ = some (.slice ab m cb) := R1.cell 2
  have q1 : W1.frozen? ⟨g, 2, none⟩ = false := R1.soft 2
  have hgs := R1.lt
  have hO1 := rowTouch HO.out t1 (fun k hk e => HNe.out (by have e2 : k = g := e; subst e2; exact hk))
  have HO1 := Lib.hid hO1
  have HR1 := Lib.hid R1
  have Ht1 := Lib.hid t1
  have Hs1 := Lib.hid hs1
  clear R1 t1 hs1 hW1 c0 c1 f0 f1 hO1
  have k0a : ∀ o : Obj, (W1.alloc o).cell? ⟨g, 0, none⟩ = some (.int .i64 ((n : Int) + 1)) := fun o => (cell_old W1 o hgs).trans k0
  have k1a : ∀ o : Obj, (W1.alloc o).cell? ⟨g, 2, none⟩ = some (.slice ab m cb) := fun o => (cell_old W1 o hgs).trans k1
  go_region_law ((refine step_append_row rfl _ _ _ rfl 244 I z 3 56 Tryz.underlying56 HI.out.info HI.out.zero HI.out.size HI.out.bytes (by rw [HI.out.cells]; rfl) (by decide) _ m cs (rowTouch HO1.out (((Touch.refl No W1).drew).alloc _) (fun _ _ f => f)) rfl W1.heap.size [.slice a len cap, .slice none 0 0, .int .i64 ((n : Int) + 1)] (Row.new W1.drew _ _) rfl rfl (by intro u hu; simp only [List.mem_cons, List.not_mem_nil, or_false] at hu; rcases hu with rfl | rfl | rfl <;> rfl) (by unfold maxLen; omega) (by omega) ?_; intro a' c' w' hown' ht' hin'; have k0' : w'.cell? ⟨g, 0, none⟩ = some (.int .i64 ((n : Int) + 1)) := ht'.cell HNe.out (k0a _); have k2 : w'.cell? ⟨g, 2, none⟩ = some (.slice ab m cb) := ht'.cell HNe.out (k1a _); have q2 : w'.frozen? ⟨g, 2, none⟩ = false := (ht'.frozen (lt_of_cell (k1a _)) HNe.out 2).trans ((frozen_old W1 _ hgs).trans q1)))
  all_goals
    go_wp2
    go_end0
    have hlow : ∀ k, InBlock (.slice a' (m + 1) c') k → InBlock (.slice ab m cb) k ∨ w.heap.size ≤ k := fun k hk => (hin' k hk).imp id (fun h => by
      have h2 : (W1.alloc (Obj.cells #[.slice a len cap, .slice none 0 0, .int .i64 ((n : Int) + 1)] 244)).heap.size ≤ k := h
      rw [size_alloc] at h2
      have := Hs1.out
      omega)
    have hgw : g < w.heap.size := HR.out.lt
    have tB : Touch (One g) w' (w'.setCell ⟨g, 2, none⟩ (.slice a' (m + 1) c')) := (Touch.refl (One g) w').setCell (p := ⟨g, 2, none⟩) (fun _ => rfl) _
    refine ⟨rfl, .slice a' (m + 1) c', rowTouch hown' tB (fun k hk e => ?_), ?_, ?_, hlow⟩
    · have e2 : k = g := e
      subst e2
      rcases hlow k hk with h | h
      · exact HNe.out h
      · omega
    · have h1 := ((HR1.out.touch (((Touch.refl No W1).alloc (Obj.cells #[.slice a len cap, .slice none 0 0, .int .i64 ((n : Int) + 1)] 244)).drew) id).touch ht' HNe.out).setCell 2 (.slice a' (m + 1) c')
      exact h1
    · refine (((Ht1.out.mono (fun k _ e => Or.inl e)).then ((Touch.refl No W1).alloc (Obj.cells #[.slice a len cap, .slice none 0 0, .int .i64 ((n : Int) + 1)] 244)).drew (fun _ _ f => f.elim)).then ht' (fun k _ hk => Or.inr hk)).then tB (fun k _ e => Or.inl e)
end Go.Proofs.YtnffigfafalocaaGreatDoor
namespace Go.Proofs.YtnffigfafalocaaGreatDoor
open Go Go.RowKit
set_option linter.unusedVariables false

def bookParts (g n : Nat) (vB vI vN vD : Value) (B I N D : List HE) : List Part :=
  Part.row g 71 (bookCells n vB vI vN vD) :: Part.arr 241 vB B.length (heNew B) :: Part.arr 244 vI I.length (heNew I) ::
    Part.arr 246 vN N.length (heNew N) :: Part.arr 239 vD D.length (heNew D) ::
    (B.map (Part.room 5) ++ (I.map (Part.room 3) ++ (N.map (Part.room 21) ++ D.map (Part.room 38))))
def Part.book (g n : Nat) (B I N D : List HE) : Part where
  P w O := (∃ vB vI vN vD, (I = [] → vI = nilSl) ∧ Al w (bookParts g n vB vI vN vD B I N D) O) ∧ ∀ k, O k → k < w.heap.size
  stable := fun {F w w' O} ⟨⟨vB, vI, vN, vD, h0, h⟩, hl⟩ t hF => ⟨⟨vB, vI, vN, vD, h0, Al.stable t h hF⟩, fun k hk => Nat.lt_of_lt_of_le (hl k hk) t.size⟩
  lt := fun {w O} h => h.2
theorem TurnsL.wrap {w w' : World} {A : Nat → Prop} {l : List Part} {p : Part} (h : TurnsL w A l w') (hp : ∀ O, Al w' l O → (∀ k, O k → k < w'.heap.size) → p.P w' O) : TurnsL w A [p] w' := by
  obtain ⟨t, O', h1, h2⟩ := h
  refine ⟨t, fun k => O' k ∧ k < w'.heap.size, ⟨fun k => O' k ∧ k < w'.heap.size, fun _ => False, hp _ h1.cut (fun k hk => hk.2), trivial, fun _ _ f => f, fun _ h => h, fun _ f => f.elim⟩, fun k hk => h2 k hk.1⟩
/-- one part for another -/
theorem Al.imp1 {w : World} {p q : Part} {l : List Part} {O : Nat → Prop} (h : Al w (p :: l) O) (hp : ∀ A, p.P w A → q.P w A) : Al w (q :: l) O := by
  obtain ⟨A, B, ha, hb, hd, h1, h2⟩ := h
  exact ⟨A, B, hp A ha, hb, hd, h1, h2⟩
/-- a new book -/
theorem book_new {w : World} {g : Nat} (h : Row w g 71 (bookCells 0 nilSl nilSl nilSl nilSl)) : (Part.book g 0 [] [] [] []).P w (fun k => k = g) := by
  have hN : ∀ (T : TypeId), (Part.arr T nilSl 0 []).P w (fun _ => False) := arr_nil w
  refine ⟨⟨nilSl, nilSl, nilSl, nilSl, fun _ => rfl, ?_⟩, fun k hk => by rw [hk]; exact h.lt⟩
  refine ⟨fun k => k = g, fun _ => False, ⟨h, rfl, fun k hk => by rw [hk]; exact h.lt⟩, ?_, fun _ _ f => f, fun _ h => h, fun _ f => f.elim⟩
  exact ⟨_, fun _ => False, hN _, ⟨_, fun _ => False, hN _, ⟨_, fun _ => False, hN _, ⟨_, fun _ => False, hN _, trivial, fun _ _ f => f, fun _ h => h, fun _ f => f⟩, fun _ _ f => f, fun _ h => h, fun _ f => f⟩, fun _ _ f => f, fun _ h => h, fun _ f => f⟩, fun _ _ f => f, fun _ h => h, fun _ f => f⟩
/-- a list joins those of its kind -/
theorem perm_in {α : Type} (l1 B R : List α) (x : α) : (l1 ++ (B ++ R) ++ [x]).Perm (l1 ++ ((B ++ [x]) ++ R)) := by
  rw [List.append_assoc l1]
  refine List.Perm.append_left l1 ?_
  rw [List.append_assoc, List.append_assoc]
  exact List.Perm.append_left B List.perm_append_comm
end Go.Proofs.YtnffigfafalocaaGreatDoor
