/-
  A book's lists, grown: what lies behind; append to a slice with its room. No program in sight.
  What the walks of a book's functions share. No program in sight.
  Package drydocklaw01 by its own text: a book's lists of bytes, filled with marks.
-/
import Derived.Test.YtnffigfafalocaaGreatDoorK27
import Derived.Test.YtnffigfafalocaaGreatDoorK28
import Derived.StillTailTactics
namespace Go.Proofs.YtnffigfafalocaaGreatDoor
open Go Go.RowKit
set_option linter.unusedVariables false

theorem rd_lt {w : World} {g o : Nat} {vs : List Value} (h : Rd w (some ⟨g, o, none⟩) vs) (hv : 0 < vs.length) : g < w.heap.size := by
  obtain ⟨b, o', e, hc⟩ := h 0 vs[0] (List.getElem?_eq_getElem hv)
  cases e
  exact lt_of_cell hc
theorem sl_own {w : World} {T : TypeId} {n cap : Nat} {vs : List Value} {O : Nat → Prop} {g o : Nat} (h : (Part.sl T (some ⟨g, o, none⟩) n cap vs).P w O) (hc : 0 < cap) : O g := by
  rcases h.2.2.2.2 with h | ⟨g', o', cs, e, _, _, hO, _⟩
  · omega
  · cases e; exact hO
/-- the first ones' middle cells are these -/
def heMid : List HE → List Value → List Value
  | [], _ => []
  | e :: B, [] => e.cells nilSl ++ heMid B []
  | e :: B, l :: ls => e.cells l ++ heMid B ls
theorem heMid_nil : ∀ B, heMid B [] = heNew B
  | [] => rfl
  | e :: B => by rw [heMid, heMid_nil B]; simp [heNew]
theorem heMid_set : ∀ (B : List HE) (ls : List Value) (l : Value), ls.length < B.length → (heMid B ls).set (ls.length * 3 + 1) l = heMid B (ls ++ [l])
  | [], _, _, h => absurd h (Nat.not_lt_zero _)
  | e :: B, [], l, _ => by simp [heMid, HE.cells]
  | e :: B, x :: ls, l, h => by
    have ih := heMid_set B ls l (by simpa using h)
    rw [heMid, List.cons_append, heMid, ← ih, List.length_cons, show (ls.length + 1) * 3 + 1 = (e.cells x).length + (ls.length * 3 + 1) by rw [e.cells_length]; omega, List.set_append_right _ _ (by omega)]
    congr 2
    omega
theorem heMid_at : ∀ (B : List HE) (ls : List Value) (i j : Nat) (hi : i < B.length), j < 3 → (heMid B ls)[i * 3 + j]? = (B[i].cells (ls.getD i nilSl))[j]?
  | [], _, _, _, hi, _ => absurd hi (Nat.not_lt_zero _)
  | e :: B, [], 0, j, _, hj => by rw [heMid, Nat.zero_mul, Nat.zero_add, List.getElem?_append_left (by rw [e.cells_length]; exact hj)]; rfl
  | e :: B, l :: ls, 0, j, _, hj => by rw [heMid, Nat.zero_mul, Nat.zero_add, List.getElem?_append_left (by rw [e.cells_length]; exact hj)]; rfl
  | e :: B, [], i + 1, j, hi, hj => by
    rw [heMid, List.getElem?_append_right (by rw [e.cells_length]; omega), e.cells_length, show (i + 1) * 3 + j - 3 = i * 3 + j by omega, heMid_at B [] i j (by simpa using hi) hj]
    simp
  | e :: B, l :: ls, i + 1, j, hi, hj => by
    rw [heMid, List.getElem?_append_right (by rw [e.cells_length]; omega), e.cells_length, show (i + 1) * 3 + j - 3 = i * 3 + j by omega, heMid_at B ls i j (by simpa using hi) hj]
    simp
theorem mid_at {w : World} {T : TypeId} {v : Value} {B : List HE} {ls : List Value} {O : Nat → Prop} (h : (Part.arr T v B.length (heMid B ls)).P w O) {i : Nat} (hi : i < B.length) :
    ∃ gb cb, v = .slice (some ⟨gb, 0, none⟩) B.length cb ∧ O gb ∧ w.cell? ⟨gb, i * 3, none⟩ = some (.slice B[i].a B[i].n B[i].c) ∧ w.cell? ⟨gb, i * 3 + 1, none⟩ = some (ls.getD i nilSl) ∧ w.cell? ⟨gb, i * 3 + 2, none⟩ = some (.int .i64 (B[i].k : Nat)) ∧ w.frozen? ⟨gb, i * 3 + 1, none⟩ = false := by
  obtain ⟨⟨hl, hh⟩, hin, _⟩ := h
  rcases hh with ⟨_, h0⟩ | ⟨gb, cb, cur, hv, _, hh, hn, hc, hs, ht⟩
  · omega
  · have hc : ∀ j, j < 3 → w.cell? ⟨gb, i * 3 + j, none⟩ = (B[i].cells (ls.getD i nilSl))[j]? := fun j hj => by
      rw [← heMid_at B ls i j hi hj, ← ht, List.getElem?_take, if_pos (by omega)]
      simp only [World.cell?, hh]
      simp
    exact ⟨gb, cb, hv, hin gb (by rw [hv]; rfl), hc 0 (by decide), hc 1 (by decide), hc 2 (by decide), (row_at hh).soft _⟩
/-- one of its cells, written anew -/
theorem arr_set {w : World} {T : TypeId} {gb m cb : Nat} {cs : List Value} {O : Nat → Prop} (h : (Part.arr T (.slice (some ⟨gb, 0, none⟩) m cb) m cs).P w O) {j : Nat} (hj : j < m * 3) (u : Value) :
    (Part.arr T (.slice (some ⟨gb, 0, none⟩) m cb) m (cs.set j u)).P (w.setCell ⟨gb, j, none⟩ u) O := by
  obtain ⟨⟨hl, hh⟩, hin, hlt⟩ := h
  refine ⟨⟨by rw [List.length_set]; exact hl, ?_⟩, hin, fun k hk => by have := hlt k hk; simpa [World.setCell] using this⟩
  rcases hh with ⟨hv, _⟩ | ⟨g, cp, cur, hv, hg, hh, hn, hc, hs, ht⟩
  · cases hv
  · cases hv
    refine Or.inr ⟨gb, cb, (cur.toList.set j u).toArray, rfl, hg, (row_at hh).setCell j u, hn, hc, by simp; exact hs, ?_⟩
    rw [List.toList_toArray, List.take_set, ht]
/-- grown: what was there, and the longer one -/
def Part.gr (T : TypeId) (mk : Nat → Value) (e : HE) (l : Value) : Part where
  P w O := (∃ a' c', l = .slice a' (e.n + 40) c' ∧ Rd w e.a (List.replicate e.n (mk e.k)) ∧ Rd w a' (List.replicate (e.n + 40) (mk e.k)) ∧ (∀ g o, e.a = some ⟨g, o, none⟩ → 0 < e.n → O g) ∧ ∀ g o, a' = some ⟨g, o, none⟩ → O g) ∧ ∀ k, O k → k < w.heap.size
  stable := fun {F w w' O} ⟨⟨a', c', h1, h2, h3, h4, h5⟩, hl⟩ t hF => ⟨⟨a', c', h1, by
    by_cases hn : 0 < e.n
    · exact h2.touch t (fun b o he _ => hF b (h4 b o he hn))
    · rw [show e.n = 0 by omega]; exact Rd.nil _ _, h3.touch t (fun b o he _ => hF b (h5 b o he)), h4, h5⟩, fun k hk => Nat.lt_of_lt_of_le (hl k hk) t.size⟩
  lt := fun {w O} h => h.2
/-- one cell more, in the room that there is -/
theorem sl_push {w : World} {T : TypeId} {a : Option Addr} {n cap : Nat} {vs : List Value} {O : Nat → Prop} (h : (Part.sl T a n cap vs).P w O) (hn : n < cap) (v : Value) : ∃ g o, a = some ⟨g, o, none⟩ ∧ O g ∧ w.frozen? ⟨g, o + n, none⟩ = false ∧ (w.cell? ⟨g, o + n, none⟩).isSome = true ∧
    (Part.sl T a (n + 1) cap (vs ++ [v])).P (w.setCell ⟨g, o + n, none⟩ v) O ∧ Touch O w (w.setCell ⟨g, o + n, none⟩ v) := by
  obtain ⟨h1, h2, h3, h4, h5⟩ := h
  rcases h5 with h5 | ⟨g, o, cs, rfl, hg, hc, hO, hv⟩
  · omega
  · have hR := row_at hg
    have hR' := hR.setCell (o + n) v
    refine ⟨g, o, rfl, hO, hR.soft _, ?_, ?_, (Touch.refl O w).setCell (p := ⟨g, o + n, none⟩) (fun _ => hO) v⟩
    · rw [hR.cell]; simp [Array.getElem?_eq_getElem (show o + n < cs.size by omega)]
    · refine ⟨by rw [List.length_append, h1]; rfl, by omega, h3, fun k hk => by have := h4 k hk; simpa [World.setCell] using this, Or.inr ⟨g, o, (cs.toList.set (o + n) v).toArray, rfl, hR', by simp; exact hc, hO, fun j u hj => ?_⟩⟩
      simp only [List.getElem?_toArray, List.getElem?_set]
      by_cases e : o + n = o + j
      · rw [if_pos e, if_pos (by simp; omega)]
        have : j = n := by omega
        subst this
        rw [List.getElem?_append_right (by omega), h1, Nat.sub_self] at hj
        exact hj
      · rw [if_neg e]
        rcases Nat.lt_or_ge j vs.length with hj2 | hj2
        · rw [List.getElem?_append_left hj2] at hj
          simpa using hv j u hj
        · rw [List.getElem?_append_right hj2] at hj
          have : j - vs.length ≠ 0 := by omega
          rw [List.getElem?_eq_none (by simp; omega)] at hj
          cases hj
/-- 'append(x, u)', one cell, x a slice with its room -/
theorem wpList_append_sl {P : Program} {w : World} {ops : Array Oper} {rest : List Oper} {o : Oper} {act : Act} {Q : Exit → Act → World → Prop} (hgd : o.guard = none) (s x : Operand) (t : TypeId)
    (ho : o.op = .call { callee := .builtin .append, args := #[s, x], argTypes := #[t, t] })
    (T : TypeId) (i : TypeInfo) (z : Value) (bytes : Nat) (ht : P.underlying t = some (.slice T)) (hi : P.info? T = some i) (hz : i.zero = some z) (hsize : i.size = 1) (hby : i.bytes = bytes) (hzs : z.cells.size = 1)
    (a : Option Addr) (n cap : Nat) (vs : List Value) (O : Nat → Prop) (u : Value) (hsl : (Part.sl T a n cap vs).P w O) (hs : act.eval s = .slice a n cap) (hx : act.eval x = .slice (some ⟨w.heap.size, 0, none⟩) 1 1) (hu : u.oneCell' = true)
    (b1 : n + 1 ≤ maxLen) (b2 : (n + 1) * bytes ≤ 140737488355328)
    (h : ∀ a' c' w' O', (Part.sl T a' (n + 1) c' (vs ++ [u])).P w' O' → Touch O w w' → ((a' = a ∧ O' = O) ∨ (Touch No w w' ∧ ∀ k, O' k → w.heap.size ≤ k)) → wpList P ops Q rest (act.put o.dst (.slice a' (n + 1) c')) w') :
    wpList P ops Q (o :: rest) act (w.alloc (.cells #[u] T)) := by
  obtain ⟨w1, hw1⟩ : ∃ w1, w1 = w.alloc (.cells #[u] T) := ⟨_, rfl⟩
  have t1 : Touch No w w1 := by rw [hw1]; exact (Touch.refl No w).alloc _
  have hc1 : ∀ j v, [u][j]? = some v → w1.cell? ((⟨w.heap.size, 0, none⟩ : Addr).add j) = some v := fun j v hj => by
    match j, hj with
    | 0, hj =>
      have : u = v := by simpa using hj
      subst this
      rw [hw1, add_off, cell_new]; rfl
  have h1c : ∀ v ∈ [u], v.oneCell' = true := fun v hv => by
    have : v = u := by simpa using hv
    rw [this]; exact hu
  have hsl1 := (Part.sl T a n cap vs).stable hsl t1 (fun _ _ f => f)
  have hrd := sl_rd hsl1
  obtain ⟨l1, l2, l3⟩ := sl_len hsl
  rw [← hw1]
  by_cases hr : n < cap
  · obtain ⟨g, of, rfl, hO, hfz, hcs, hp, htc⟩ := sl_push hsl1 hr u
    refine wpList_append_arg w1 hgd s x t ho T i z 1 bytes ht hi hz hsize hby hzs (by decide) g of n cap vs hs (by omega) (fun j v hj => ?_) ⟨w.heap.size, 0, none⟩ 1 1 [u] hx rfl hc1 h1c (fun _ j hj => ?_) b1 b2 (fun _ => ?_) (fun hlt => by omega)
    · obtain ⟨b, o', e, hc⟩ := hrd j v hj
      cases e; exact hc
    · have : j = 0 := by simpa using hj
      subst this
      rw [Nat.mul_one, Nat.add_zero]
      exact ⟨hcs, hfz⟩
    · rw [Nat.mul_one]
      exact h _ _ _ O hp ((t1.no : Touch O w w1).then htc (fun _ _ h => h)) (Or.inl ⟨rfl, rfl⟩)
  · refine wpList_append_grows w1 hgd s x t ho T i z 1 bytes ht hi hz hsize hby hzs (by decide) a n cap vs hs (fun e => ?_) (by omega) (fun b e j v hj => ?_) ⟨w.heap.size, 0, none⟩ 1 1 [u] hx rfl hc1 h1c (by omega) b1 b2 (fun v' w' hown hg => ?_)
    · rcases hsl.2.2.2.2 with h0 | ⟨g, of, cs, ha, _⟩
      · omega
      · rw [ha] at e; cases e
    · obtain ⟨b', o', e', hc⟩ := hrd j v hj
      rw [e] at e'; cases e'
      rw [add_off]; exact hc
    · have tg : Touch No w1 w' := (Touch.refl No w1).grown hg (fun k hk _ => by cases hk)
      have tw : Touch No w w' := t1.trans tg
      obtain ⟨a', c', rfl, hca, hcm⟩ := rowSlice hown
      have hown' : Own w' w1.heap.size T (.slice a' (n + 1) c') (vs ++ [u]) := by
        rw [Own, List.length_append, l1]; exact hown
      obtain ⟨_, O', hO', hge⟩ := born_sl (w := w) (w' := w') (cap := c') tw t1.size hown' hca (Nat.le_refl _)
      exact h a' c' w' O' hO' tw.no (Or.inr ⟨tw, hge⟩)
end Go.Proofs.YtnffigfafalocaaGreatDoor
namespace Go.Proofs.YtnffigfafalocaaGreatDoor
open Go Go.RowKit
set_option linter.unusedVariables false

theorem perm_mid {α : Type} (a b : α) (T : List α) (x : α) (D : List α) : (a :: b :: (T ++ x :: D)).Perm (x :: a :: b :: (T ++ D)) := by
  have h : (a :: b :: (T ++ x :: D)).Perm (a :: b :: x :: (T ++ D)) := (List.perm_middle.cons b).cons a
  exact h.trans (((List.Perm.swap x b _).cons a).trans (List.Perm.swap x a _))
/-- what the arr part says of the i-th element -/
theorem arr_at {w : World} {T : TypeId} {v : Value} {B : List HE} {O : Nat → Prop} (h : (Part.arr T v B.length (heNew B)).P w O) {i : Nat} (hi : i < B.length) :
    ∃ gb cb, v = .slice (some ⟨gb, 0, none⟩) B.length cb ∧ O gb ∧ w.cell? ⟨gb, i * 3, none⟩ = some (.slice B[i].a B[i].n B[i].c) ∧ w.cell? ⟨gb, i * 3 + 1, none⟩ = some nilSl ∧ w.cell? ⟨gb, i * 3 + 2, none⟩ = some (.int .i64 (B[i].k : Nat)) := by
  obtain ⟨⟨hl, hh⟩, hin, _⟩ := h
  rcases hh with ⟨_, h0⟩ | ⟨gb, cb, cur, hv, _, hh, hn, hc, hs, ht⟩
  · omega
  · have hc : ∀ j, j < 3 → w.cell? ⟨gb, i * 3 + j, none⟩ = (B[i].cells nilSl)[j]? := fun j hj => by
      have h1 : (heNew B)[i * 3 + j]? = (B[i].cells nilSl)[j]? := by
        have hd : B = B.take i ++ B[i] :: B.drop (i + 1) := by rw [← List.drop_eq_getElem_cons hi, List.take_append_drop]
        have h2 : heNew B = heNew (B.take i) ++ (B[i].cells nilSl ++ heNew (B.drop (i + 1))) := by
          have h3 : heNew (B.take i ++ B[i] :: B.drop (i + 1)) = heNew (B.take i) ++ (B[i].cells nilSl ++ heNew (B.drop (i + 1))) := by rw [heNew, List.flatMap_append, List.flatMap_cons]; rfl
          rw [← hd] at h3; exact h3
        rw [h2, List.getElem?_append_right (by rw [heNew_length, List.length_take]; omega), heNew_length, List.length_take, show i * 3 + j - min i B.length * 3 = j by omega, List.getElem?_append_left (by rw [HE.cells_length]; exact hj)]
      rw [← h1, ← ht, List.getElem?_take, if_pos (by omega)]
      simp only [World.cell?, hh]
      simp
    exact ⟨gb, cb, hv, hin gb (by rw [hv]; rfl), hc 0 (by decide), hc 1 (by decide), hc 2 (by decide)⟩
theorem TurnsL.comp {w w1 w2 : World} {O O' : Nat → Prop} {l : List Part} (t : Touch O w w1) (hin : ∀ k, O' k → O k ∨ w.heap.size ≤ k) (h : TurnsL w1 O' l w2) : TurnsL w O l w2 := by
  obtain ⟨t2, O2, h3, h4⟩ := h
  refine ⟨t.then t2 (fun i hi hO => (hin i hO).elim id (fun h => absurd hi (Nat.not_lt.2 h))), O2, h3, fun i hi => ?_⟩
  rcases h4 i hi with h | h
  · exact hin i h
  · exact Or.inr (Nat.le_trans t.size h)
theorem take_next {vs : List Value} {k : Nat} {x : Value} (h : vs.take k = List.replicate k x) (hk : k < vs.length) : (vs.set k x).take (k + 1) = List.replicate (k + 1) x := by
  rw [List.take_succ_eq_append_getElem (by rw [List.length_set]; exact hk), List.take_set_of_le (Nat.le_refl _), h, List.getElem_set_self, List.replicate_succ']
theorem perm_mid3 {α : Type} (a b : α) (T : List α) (x : α) (D : List α) : (a :: b :: (T ++ x :: D)).Perm (a :: b :: x :: (T ++ D)) := (List.perm_middle.cons b).cons a
theorem zip_snoc {α β γ : Type} (f : α → β → γ) {xs : List α} {ys : List β} (h : xs.length = ys.length) (a : α) (b : β) : List.zipWith f (xs ++ [a]) (ys ++ [b]) = List.zipWith f xs ys ++ [f a b] := by
  rw [List.zipWith_append h]; rfl
theorem zip_get {α β γ : Type} (f : α → β → γ) {xs : List α} {ys : List β} {i : Nat} {a : α} {b : β} (ha : xs[i]? = some a) (hb : ys[i]? = some b) : f a b ∈ List.zipWith f xs ys := by
  apply List.mem_of_getElem? (i := i)
  rw [List.getElem?_zipWith, ha, hb]
end Go.Proofs.YtnffigfafalocaaGreatDoor
namespace Go.Proofs.YtnffigfafalocaaGreatDoor
open Go Go.RowKit
set_option linter.unusedSimpArgs false

def mkB (k : Nat) : Value := .int .u8 ((k % 256 : Nat) : Int)
theorem markByte_any (w : World) (k : Nat) (hk : k ≤ 1000000) : Calls Tryz.prog 179 #[.int .i64 (k : Nat)] w fun e w' => e = .returned (mkB k) ∧ w' = w := by
  have hk' : (k : Int) ≤ 1000000 := by omega
  go_enter Tryz.func179, Tryz.ntmps179
  go_wp2
  go_ret
  exact ⟨rfl, rfl⟩
set_option maxRecDepth 100000 in
set_option maxHeartbeats 4000000 in
theorem fillByte_any (w : World) (g n : Nat) (vB vI vN vD : Value) (B : List HE) (O : Nat → Prop) (h : Al w (Part.row g 71 (bookCells n vB vI vN vD) :: Part.arr 241 vB B.length (heNew B) :: B.map (Part.room 5)) O) (hO : ∀ k, O k → k < w.heap.size) (hm : B.length ≤ 100000) (hk : ∀ e ∈ B, e.k ≤ 1000000) :
    Calls Tryz.prog 83 #[.pointer (some ⟨g, 0, none⟩)] w fun e w' => e = .returned (.tuple #[]) ∧ TurnsL w O (Part.row g 71 (bookCells n vB vI vN vD) :: Part.arr 241 vB B.length (heNew B) :: B.map (Part.full 5 mkB)) w' := by
  obtain ⟨m, hmB⟩ : ∃ m, B.length = m := ⟨_, rfl⟩
  have hm' : (m : Int) ≤ 100000 := by omega
  have H0 := Lib.hid h
  have HO := Lib.hid hO
  have HK := Lib.hid hk
  have HM := Lib.hid hmB
  clear h hO hk hmB
  go_enter Tryz.func83, Tryz.ntmps83
  go_wp2
  go_loopg [2] m (fun gk s2 wr => ∃ i : Nat, i + gk = m ∧ s2 = .int .i64 ((i : Nat) : Int) ∧ Hid (TurnsL w O (Part.row g 71 (bookCells n vB vI vN vD) :: Part.arr 241 vB B.length (heNew B) :: ((B.take i).map (Part.full 5 mkB) ++ (B.drop i).map (Part.room 5))) wr))
  case atStart =>
    exact ⟨0, by omega, rfl, TurnsL.same H0.out⟩
  case round =>
    obtain ⟨i, hi, rfl, hT⟩ := hrel
    obtain ⟨ht, O', hA, hin⟩ := hT.out
    obtain ⟨A1, hrow, hA1⟩ := hA.head
    obtain ⟨A2, harr, hA2⟩ := hA.tail.head
    obtain ⟨ab, cb, hvB, hcb, _⟩ := rowSlice harr.1
    have c1 : wr.cell? ⟨g, 1, none⟩ = some (.slice ab m cb) := by
      rw [hrow.1.cell 1, ← HM.out, ← hvB]; rfl
    cases gk with
    | zero =>
      obtain rfl : i = m := by omega
      have HT := hT
      clear hA hrow harr hin ht hT
      go_wp2
      go_end0
      refine ⟨rfl, ?_⟩
      have := HT.out
      rw [List.take_of_length_le (by rw [HM.out]; exact Nat.le_refl _), List.drop_of_length_le (by rw [HM.out]; exact Nat.le_refl _), List.map_nil, List.append_nil] at this
      exact this
    | succ gk =>
      obtain ⟨wo, rfl⟩ : ∃ wo : World, wo = wr := ⟨_, rfl⟩
      have hil : i < B.length := by rw [HM.out]; omega
      have hlt : (i : Int) < (m : Nat) := by omega
      obtain ⟨gb, cb2, hv2, hOb, k0, k1, k2⟩ := arr_at harr hil
      have hBd : B.drop i = B[i] :: B.drop (i + 1) := List.drop_eq_getElem_cons hil
      have hBt : B.take (i + 1) = B.take i ++ [B[i]] := List.take_succ_eq_append_getElem hil
      have hek : B[i].k ≤ 1000000 := HK.out _ (List.getElem_mem hil)
      obtain ⟨e, he⟩ : ∃ e, B[i] = e := ⟨_, rfl⟩
      rw [he] at k0 k2 hBd hBt hek
      clear he
      rw [hBd, List.map_cons] at hA
      have hA' := hA.perm (perm_mid _ _ _ _ _)
      obtain ⟨F, hF, hFO, hfr⟩ := Al.frame (l := [Part.room 5 e]) hA'
      obtain ⟨X, ⟨vs, hsl⟩, hX⟩ := hF.head
      obtain ⟨ea, en, ec, ek⟩ := e
      dsimp only at k0 k2 hek hsl
      replace k1 : wo.cell? ⟨gb, i * 3 + 1, none⟩ = some (.slice none 0 0) := k1
      have hab : ab = some ⟨gb, 0, none⟩ := by
        rw [hvB] at hv2; cases hv2; rfl
      subst hab
      obtain ⟨hvl, hnc, hcm⟩ := sl_len hsl
      have hen : (en : Int) ≤ 9223372036854775807 := by unfold maxLen at hcm; omega
      have hXs : ∀ k, X k → k < wo.heap.size := fun k hk => (Part.sl 5 ea en ec vs).lt hsl k hk
      have HA := Lib.hid hfr
      have HT := Lib.hid (And.intro ht hin)
      have HBt := Lib.hid hBt
      have HX := Lib.hid hX
      have HXs := Lib.hid hXs
      have Hsl := Lib.hid hsl
      have Hvl := Lib.hid hvl
      have HV := Lib.hid hvB
      clear hA hA' hrow harr hin ht hT hfr hF hFO hX hXs hBd hBt hvB hv2 hA1 hA2 hOb hsl hvl hnc hcm
      go_wp2
      obtain ⟨w1, hw1⟩ : ∃ w1, w1 = wo.alloc (.cells #[.slice ea en ec, .slice none 0 0, .int .i64 (ek : Nat)] 241) := ⟨_, rfl⟩
      have t1 : Touch No wo w1 := by rw [hw1]; exact (Touch.refl No wo).alloc _
      have b0 : w1.cell? ⟨wo.heap.size, 0, none⟩ = some (.slice ea en ec) := by rw [hw1, cell_new]; rfl
      have b2 : w1.cell? ⟨wo.heap.size, 2, none⟩ = some (.int .i64 (ek : Nat)) := by rw [hw1, cell_new]; rfl
      have T1 := Lib.hid t1
      have B0 := Lib.hid b0
      have B2 := Lib.hid b2
      rw [← hw1]
      obtain ⟨hb, Hhb⟩ : ∃ hb, Hid (hb = wo.heap.size) := ⟨_, rfl⟩
      rw [← Hhb.out] at B0 B2 ⊢
      clear hw1 t1 b0 b2 k0 k1 k2 c1
      go_loopg [4] en (fun g' s4 wr => ∃ k : Nat, k + g' = en ∧ s4 = .int .i64 ((k : Nat) : Int) ∧ Hid (∃ us, (Part.sl 5 ea en ec us).P wr X ∧ us.take k = List.replicate k (mkB ek) ∧ Touch X w1 wr))
      case atStart => exact ⟨0, by omega, rfl, ⟨vs, (Part.sl 5 ea en ec vs).stable Hsl.out T1.out (fun _ _ f => f), rfl, Touch.refl _ _⟩⟩
      case round =>
        obtain ⟨k, hk, rfl, hU⟩ := hrel
        obtain ⟨us, hus, htk, htX⟩ := hU.out
        have nh : ¬ X hb := fun h => by have := HXs.out hb h; have := Hhb.out; omega
        have b0 := htX.cell nh B0.out
        have b2 := htX.cell nh B2.out
        cases gk with
        | zero =>
          obtain rfl : k = en := by omega
          have hful : us = List.replicate k (mkB ek) := by rw [← htk, List.take_of_length_le (by rw [hus.1]; exact Nat.le_refl _)]
          have hT3 : TurnsL wo F [Part.full 5 mkB ⟨ea, k, ec, ek⟩] wr := by
            refine ⟨((T1.out.no : Touch F wo w1).then htX (fun k hk h => HX.out k h)), X, ⟨X, fun _ => False, ?_, trivial, fun _ _ f => f, fun _ h => h, fun _ f => f.elim⟩, fun k hk => Or.inl (HX.out k hk)⟩
            show (Part.sl 5 ea k ec (List.replicate k (mkB ek))).P wr X
            rw [← hful]; exact hus
          have hT4 := (TurnsL.comp HT.out.1 HT.out.2 (HA.out wr _ hT3)).perm (perm_mid _ _ _ _ _).symm
          have HN : Hid (TurnsL w O (Part.row g 71 (bookCells n vB vI vN vD) :: Part.arr 241 vB B.length (heNew B) :: ((B.take (i + 1)).map (Part.full 5 mkB) ++ (B.drop (i + 1)).map (Part.room 5))) wr) := by
            show TurnsL _ _ _ _
            rw [HBt.out, List.map_append, List.append_assoc]
            exact hT4
          clear hful hT3 hT4 hus htk htX hU nh
          go_wp2
          go_roundg gk
          case measure => omega
          case rel => exact ⟨i + 1, by omega, by go_num, HN⟩
        | succ g' =>
          have hkn : (k : Int) < (en : Nat) := by omega
          obtain ⟨gg, o, rfl, hXg, hfz, ⟨u, hcu⟩, hset, htset⟩ := sl_set hus (show k < en by omega) (mkB ek)
          have hkl : k < us.length := by rw [hus.1]; omega
          have HN : Hid (∃ us', (Part.sl 5 (some ⟨gg, o, none⟩) en ec us').P ((wr.setCell ⟨gg, o + k, none⟩ (mkB ek)).drew) X ∧ us'.take (k + 1) = List.replicate (k + 1) (mkB ek) ∧ Touch X w1 ((wr.setCell ⟨gg, o + k, none⟩ (mkB ek)).drew)) :=
            ⟨_, (Part.sl 5 (some ⟨gg, o, none⟩) en ec _).stable hset ((Touch.refl No _).drew) (fun _ _ f => f), take_next htk hkl, (htX.trans htset).drew⟩
          clear hus htk htX hset htset hU nh
          go_wp2_with fail
          go_still_tail 7, (by kernel_rfl)
          still_call (show Calls _ _ _ _ (fun e w' => e = .returned (.int .u8 ((ek % 256 : Nat) : Int)) ∧ w' = _) from markByte_any _ ek hek)
          repeat still_step
          refine wpStill_nil ?_
          go_wp2
          go_roundg g'
          case measure => omega
          case rel => exact ⟨k + 1, by omega, by go_num, HN⟩
end Go.Proofs.YtnffigfafalocaaGreatDoor
