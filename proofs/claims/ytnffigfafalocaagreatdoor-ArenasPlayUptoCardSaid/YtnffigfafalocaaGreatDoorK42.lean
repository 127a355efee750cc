/-
  Package drydocklaw01 by its own text: SameInts, SameNumbers, SameIds of lists that are alike.
  The plain mathematics of the reference's arena (chapter 24). No program in sight.
  Rows of structs (so many cells an element) that a call makes by append: as parts; append of a row that reads so. No program in sight.
-/
import Derived.Test.YtnffigfafalocaaGreatDoorK04
import Derived.Test.YtnffigfafalocaaGreatDoorK03
import Derived.Test.YtnffigfafalocaaGreatDoorK28
import Derived.Maps.AppendAt
namespace Go.Proofs.YtnffigfafalocaaGreatDoor
open Go Go.RowKit
set_option linter.unusedSimpArgs false

set_option maxHeartbeats 1000000 in
theorem same3I_any (w : World) (a b : Option Addr) (n c d : Nat) (xs : List Int) (hx : xs.length = n) (hn : (n : Int) ≤ 9223372036854775807) (ha : Rd w a (ints .i64 xs)) (hb : Rd w b (ints .i64 xs)) :
    Calls Tryz.prog 76 #[.slice a n c, .slice b n d] w fun e w' => e = .returned (.bool true) ∧ Touch No w w' := by
  have Hx := Lib.hid hx; clear hx
  have Ha := Lib.hid ha; clear ha
  have Hb := Lib.hid hb; clear hb
  go_enter Tryz.func76, Tryz.ntmps76
  go_wp2
  go_loopg [5] n (fun g s5 wr => ∃ k : Nat, k + g = n ∧ s5 = .int .i64 ((k : Nat) : Int) ∧ Hid (Touch No w wr))
  case atStart => exact ⟨0, by omega, rfl, Touch.refl _ _⟩
  case round =>
    obtain ⟨k, hkg, rfl, T⟩ := hrel
    cases gk with
    | zero =>
      obtain rfl : k = n := by omega
      go_wp2
      go_ret
      exact ⟨rfl, T.out⟩
    | succ g =>
      have hlt : k < n := by omega
      have hxl : k < xs.length := by have := Hx.out; omega
      obtain ⟨b1, o1, rfl, h1⟩ := (Ha.out.no T.out).int hxl
      obtain ⟨b2, o2, rfl, h2⟩ := (Hb.out.no T.out).int hxl
      clear hxl
      generalize xs.getD k 0 = x at *
      go_wp2_with fail
      go_quiet (fail)
      go_wp2
      go_roundg g
      case measure => omega
      case rel => exact ⟨k + 1, by omega, by go_num, T.out.drewN _⟩
set_option maxHeartbeats 1000000 in
theorem same3N_any (w : World) (a b : Option Addr) (n c d : Nat) (xs : List Int) (hx : xs.length = n) (hn : (n : Int) ≤ 9223372036854775807) (ha : Rd w a (ints .i32 xs)) (hb : Rd w b (ints .i32 xs)) :
    Calls Tryz.prog 77 #[.slice a n c, .slice b n d] w fun e w' => e = .returned (.bool true) ∧ Touch No w w' := by
  have Hx := Lib.hid hx; clear hx
  have Ha := Lib.hid ha; clear ha
  have Hb := Lib.hid hb; clear hb
  go_enter Tryz.func77, Tryz.ntmps77
  go_wp2
  go_loopg [5] n (fun g s5 wr => ∃ k : Nat, k + g = n ∧ s5 = .int .i64 ((k : Nat) : Int) ∧ Hid (Touch No w wr))
  case atStart => exact ⟨0, by omega, rfl, Touch.refl _ _⟩
  case round =>
    obtain ⟨k, hkg, rfl, T⟩ := hrel
    cases gk with
    | zero =>
      obtain rfl : k = n := by omega
      go_wp2
      go_ret
      exact ⟨rfl, T.out⟩
    | succ g =>
      have hlt : k < n := by omega
      have hxl : k < xs.length := by have := Hx.out; omega
      obtain ⟨b1, o1, rfl, h1⟩ := (Ha.out.no T.out).int hxl
      obtain ⟨b2, o2, rfl, h2⟩ := (Hb.out.no T.out).int hxl
      clear hxl
      generalize xs.getD k 0 = x at *
      go_wp2_with fail
      go_quiet (fail)
      go_wp2
      go_roundg g
      case measure => omega
      case rel => exact ⟨k + 1, by omega, by go_num, T.out.drewN _⟩
set_option maxHeartbeats 1000000 in
theorem same3D_any (w : World) (a b : Option Addr) (n c d : Nat) (xs : List Int) (hx : xs.length = n) (hn : (n : Int) ≤ 9223372036854775807) (ha : Rd w a (ints .u32 xs)) (hb : Rd w b (ints .u32 xs)) :
    Calls Tryz.prog 36 #[.slice a n c, .slice b n d] w fun e w' => e = .returned (.bool true) ∧ Touch No w w' := by
  have Hx := Lib.hid hx; clear hx
  have Ha := Lib.hid ha; clear ha
  have Hb := Lib.hid hb; clear hb
  go_enter Tryz.func36, Tryz.ntmps36
  go_wp2
  go_loopg [5] n (fun g s5 wr => ∃ k : Nat, k + g = n ∧ s5 = .int .i64 ((k : Nat) : Int) ∧ Hid (Touch No w wr))
  case atStart => exact ⟨0, by omega, rfl, Touch.refl _ _⟩
  case round =>
    obtain ⟨k, hkg, rfl, T⟩ := hrel
    cases gk with
    | zero =>
      obtain rfl : k = n := by omega
      go_wp2
      go_ret
      exact ⟨rfl, T.out⟩
    | succ g =>
      have hlt : k < n := by omega
      have hxl : k < xs.length := by have := Hx.out; omega
      obtain ⟨b1, o1, rfl, h1⟩ := (Ha.out.no T.out).int hxl
      obtain ⟨b2, o2, rfl, h2⟩ := (Hb.out.no T.out).int hxl
      clear hxl
      generalize xs.getD k 0 = x at *
      go_wp2_with fail
      go_quiet (fail)
      go_wp2
      go_roundg g
      case measure => omega
      case rel => exact ⟨k + 1, by omega, by go_num, T.out.drewN _⟩
end Go.Proofs.YtnffigfafalocaaGreatDoor
namespace Go.Proofs.YtnffigfafalocaaGreatDoor
open Go Go.RowKit
namespace Ar
/-- an item of the reference's list, and where its lists lie -/
structure REnt where
  id : Nat
  bytes : Nat
  s : List Int
  sa : Option Addr
  sc : Nat
  l : List Int
  la : Option Addr
  lc : Nat
  is : Bool
def REnt.it (e : REnt) : Nat × It := (e.id, ⟨e.bytes, if e.is then some (e.s, e.l) else none⟩)
def REnt.cells (e : REnt) : List Value := [.int .u32 (e.id : Nat), .int .i64 (e.bytes : Nat), .slice e.sa e.s.length e.sc, .slice e.la e.l.length e.lc, .bool e.is]
def place : List REnt → Nat → Nat
  | [], _ => 0
  | e :: r, id => if e.id < id then place r id + 1 else 0
def isAt (R : List REnt) (id : Nat) : Bool := match R[place R id]? with
  | some e => decide (e.id = id)
  | none => false
theorem place_le : ∀ (R : List REnt) (id : Nat), place R id ≤ R.length
  | [], _ => Nat.le_refl _
  | e :: r, id => by
    rw [place]
    split
    · have := place_le r id; simp; omega
    · exact Nat.zero_le _
theorem place_lt : ∀ (R : List REnt) (id i : Nat), i < place R id → ∃ e, R[i]? = some e ∧ e.id < id
  | [], _, i, h => by rw [place] at h; omega
  | e :: r, id, i, h => by
    rw [place] at h
    split at h
    · rename_i h1
      cases i with
      | zero => exact ⟨e, rfl, h1⟩
      | succ i =>
        obtain ⟨x, hx, hlt⟩ := place_lt r id i (by omega)
        exact ⟨x, hx, hlt⟩
    · omega
theorem place_at : ∀ (R : List REnt) (id : Nat) (e : REnt), R[place R id]? = some e → ¬ e.id < id
  | [], id, e, h => by simp at h
  | x :: r, id, e, h => by
    rw [place] at h
    split at h
    · exact place_at r id e h
    · rename_i h1
      simp at h
      rw [← h]; exact h1
theorem it_id (e : REnt) : e.it.1 = e.id := rfl
theorem up_cons {e : REnt} {r : List REnt} (h : Up ((e :: r).map REnt.it)) : (∀ x ∈ r, e.id < x.id) ∧ Up (r.map REnt.it) := by
  rw [List.map_cons] at h
  obtain ⟨h1, h2⟩ := List.pairwise_cons.1 h
  exact ⟨fun x hx => h1 x.it (List.mem_map_of_mem hx), h2⟩
theorem look_is : ∀ {R : List REnt} (id : Nat), Up (R.map REnt.it) → look (R.map REnt.it) id = if isAt R id then (R[place R id]?).map (fun e => e.it.2) else none
  | [], id, _ => rfl
  | e :: r, id, h => by
    obtain ⟨h1, h2⟩ := up_cons h
    rw [List.map_cons, show e.it = (e.id, e.it.2) from rfl, look]
    unfold isAt
    rw [place]
    by_cases h3 : e.id < id
    · rw [if_neg (by omega), if_pos h3, look_is id h2]
      rfl
    · rw [if_neg h3]
      by_cases h4 : e.id = id
      · rw [if_pos h4]; simp [h4]
      · rw [if_neg h4]
        simp [h4]
        exact look_none (fun p hp e2 => by
          obtain ⟨x, hx, rfl⟩ := List.mem_map.1 hp
          have := h1 x hx
          have : x.id = id := e2
          omega)
theorem isAt_get {R : List REnt} {id : Nat} (h : isAt R id = true) : ∃ e, R[place R id]? = some e ∧ e.id = id := by
  unfold isAt at h
  split at h
  · rename_i e he
    exact ⟨e, he, by simpa using h⟩
  · cases h
theorem put_new : ∀ {R : List REnt} (id : Nat) (x : It) (n : REnt), Up (R.map REnt.it) → isAt R id = false → n.it = (id, x) → (R.take (place R id) ++ n :: R.drop (place R id)).map REnt.it = put (R.map REnt.it) id x
  | [], id, x, n, _, _, hn => by simp [place, put, hn]
  | e :: r, id, x, n, h, hi, hn => by
    obtain ⟨h1, h2⟩ := up_cons h
    unfold isAt at hi
    rw [place] at hi ⊢
    rw [List.map_cons, show e.it = (e.id, e.it.2) from rfl, put]
    by_cases h3 : e.id < id
    · rw [if_pos h3] at hi ⊢
      rw [if_neg (by omega), if_neg (by omega), ← put_new id x n h2 hi hn]
      simp
      rfl
    · rw [if_neg h3] at hi ⊢
      have h4 : ¬ e.id = id := by simpa using hi
      rw [if_pos (by omega)]
      simp [hn]
      rfl
theorem put_there : ∀ {R : List REnt} (id : Nat) (x : It) (n : REnt), Up (R.map REnt.it) → isAt R id = true → n.it = (id, x) → (R.set (place R id) n).map REnt.it = put (R.map REnt.it) id x
  | [], id, x, n, _, hi, hn => by simp [isAt, place] at hi
  | e :: r, id, x, n, h, hi, hn => by
    obtain ⟨h1, h2⟩ := up_cons h
    unfold isAt at hi
    rw [place] at hi ⊢
    rw [List.map_cons, show e.it = (e.id, e.it.2) from rfl, put]
    by_cases h3 : e.id < id
    · rw [if_pos h3] at hi ⊢
      rw [if_neg (by omega), if_neg (by omega), ← put_there id x n h2 hi hn]
      simp
      rfl
    · rw [if_neg h3] at hi ⊢
      have h4 : e.id = id := by simpa using hi
      rw [if_neg (by omega), if_pos h4.symm]
      simp [hn]
theorem del_there : ∀ {R : List REnt} (id : Nat), Up (R.map REnt.it) → isAt R id = true → (R.take (place R id) ++ R.drop (place R id + 1)).map REnt.it = del (R.map REnt.it) id
  | [], id, _, hi => by simp [isAt, place] at hi
  | e :: r, id, h, hi => by
    obtain ⟨h1, h2⟩ := up_cons h
    unfold isAt at hi
    rw [place] at hi ⊢
    by_cases h3 : e.id < id
    · rw [if_pos h3] at hi ⊢
      rw [List.map_cons, del, List.filter_cons_of_pos (by rw [it_id]; simp; omega)]
      have := del_there id h2 hi
      rw [del] at this
      rw [← this]
      simp
    · rw [if_neg h3] at hi ⊢
      have h4 : e.id = id := by simpa using hi
      rw [List.map_cons, del, List.filter_cons_of_neg (by rw [it_id]; simp; omega), List.filter_eq_self.2 (fun p hp => by
        obtain ⟨x, hx, rfl⟩ := List.mem_map.1 hp
        have := h1 x hx
        rw [it_id]; simp; omega)]
      simp
end Ar
end Go.Proofs.YtnffigfafalocaaGreatDoor
namespace Go.Proofs.YtnffigfafalocaaGreatDoor
open Go Go.RowKit
set_option linter.unusedSimpArgs false
set_option linter.unusedVariables false
/-- a row of s cells an element -/
def Part.rows (T : TypeId) (s : Nat) (v : Value) (m : Nat) (cs : List Value) : Part where
  P w O := w.ownsRow 0 T s v m cs ∧ (∀ k, InBlock v k → O k) ∧ ∀ k, O k → k < w.heap.size
  stable := fun {F w w' O} ⟨h1, h2, h3⟩ t hF => by
    refine ⟨?_, h2, fun k hk => Nat.lt_of_lt_of_le (h3 k hk) t.size⟩
    obtain ⟨hl, hh⟩ := h1
    refine ⟨hl, hh.imp id ?_⟩
    rintro ⟨g, cap, cur, rfl, hg, hgt, q⟩
    exact ⟨g, cap, cur, rfl, hg, by rw [t.block g (Array.getElem?_eq_some_iff.1 hgt).1 (hF g (h2 g rfl))]; exact hgt, q⟩
  lt := fun {w O} h => h.2.2
/-- how it reads -/
theorem rows_cell {w : World} {T : TypeId} {s m : Nat} {v : Value} {cs : List Value} (h : w.ownsRow 0 T s v m cs) : ∃ a c, v = .slice a m c ∧ m ≤ c ∧ c ≤ maxLen ∧ Rd w a cs := by
  obtain ⟨hl, hh⟩ := h
  rcases hh with ⟨rfl, rfl⟩ | ⟨g, cap, cur, rfl, _, hg, hn, hm, hs, ht⟩
  · refine ⟨none, 0, rfl, Nat.le_refl _, Nat.zero_le _, fun i v hi => ?_⟩
    have : cs = [] := List.length_eq_zero_iff.1 (by rw [hl, Nat.zero_mul])
    rw [this] at hi; cases hi
  · refine ⟨_, cap, rfl, hn, hm, fun i v hi => ⟨g, 0, rfl, ?_⟩⟩
    have hi' : i < cs.length := by
      rcases Nat.lt_or_ge i cs.length with h | h
      · exact h
      · rw [List.getElem?_eq_none h] at hi; cases hi
    rw [← ht, List.getElem?_take_of_lt (by rw [← hl]; exact hi')] at hi
    rw [Nat.zero_add]
    simp only [World.cell?, hg]
    simpa using hi
section
variable {P : Program} {w : World}
/-- 'append(v, row...)', s cells each -/
theorem run_append_rows (base : Nat) (t ty e : TypeId) (i : TypeInfo) (z : Value) (s bytes : Nat) (ht : P.underlying t = some (.slice e)) (hi : P.info? e = some i) (hz : i.zero = some z) (hsize : i.size = s) (hby : i.bytes = bytes) (hzs : z.cells.size = s) (hs : 0 < s)
    (v : Value) (n : Nat) (vs : List Value) (hown : w.ownsRow base e s v n vs) (a : Option Addr) (m c : Nat) (us : List Value) (hl : us.length = m * s) (hr : Rd w a us) (h1 : ∀ u ∈ us, u.oneCell' = true)
    (h63 : n + m ≤ maxLen) (hbytes : (n + m) * bytes ≤ 140737488355328) (hbase : base ≤ w.heap.size) :
    ∃ v' w', (Builtin.append_ #[t, t] ty #[v, .slice a m c]).run P w = .ok v' w' ∧ w'.ownsRow base e s v' (n + m) (vs ++ us) ∧ Touch (InBlock v) w w' ∧ ∀ k, InBlock v' k → InBlock v k ∨ w.heap.size ≤ k := by
  cases a with
  | some ad =>
    have hnews : ∀ j u, us[j]? = some u → w.cell? (ad.add j) = some u := fun j u hj => by
      obtain ⟨b, o, e1, hc⟩ := hr j u hj
      cases e1
      unfold Addr.add
      split
      · rename_i h0; subst h0; exact hc
      · exact hc
    obtain ⟨v', w', h2, h3, h4, _, h5⟩ := run_append_own_at (P := P) w base t ty e i z s bytes ht hi hz hsize hby hzs hs v n vs hown ad m c us hl hnews h1 h63 hbytes hbase
    refine ⟨v', w', h2, h3, (Touch.refl _ w).grown h4 (fun k hk _ => hk), fun k hk => ?_⟩
    have hk' : v'.ownBlock = some k := hk
    rcases h5 with h5 | h5
    · exact Or.inl (by show v.ownBlock = some k; rw [← h5]; exact hk')
    · rw [h5] at hk'; cases hk'; exact Or.inr (Nat.le_refl _)
  | none =>
    have hus : us = [] := by
      cases us with
      | nil => rfl
      | cons u r => obtain ⟨b, o, e1, _⟩ := hr 0 u rfl; cases e1
    subst hus
    obtain rfl : m = 0 := by
      have h0 : m * s = 0 := hl.symm
      rcases Nat.mul_eq_zero.1 h0 with h | h
      · exact h
      · omega
    obtain ⟨b, cap, rfl, hcap, _⟩ : ∃ b cap, v = .slice b n cap ∧ n ≤ cap ∧ True := by
      rcases hown.2 with ⟨rfl, rfl⟩ | ⟨g, cap, cur, rfl, _, _, hc, _⟩
      · exact ⟨_, _, rfl, Nat.le_refl _, trivial⟩
      · exact ⟨_, _, rfl, hc, trivial⟩
    refine ⟨.slice b n cap, w, ?_, by rw [List.append_nil]; exact hown, Touch.refl _ _, fun k hk => Or.inl hk⟩
    cases b <;> simp [Builtin.append_, run_underlying ht, sizeOf, typeInfo, hi, Builtin.lenOf, hcap, Builtin.firstCells, storeCells]
theorem rowSlice' {w : World} {base e size n : Nat} {v : Value} {xs : List Value} (h : w.ownsRow base e size v n xs) : ∃ a c, v = .slice a n c := by
  rcases h.2 with ⟨rfl, rfl⟩ | ⟨g, cap, cur, rfl, _⟩
  · exact ⟨_, _, rfl⟩
  · exact ⟨_, _, rfl⟩
/-- .. where the walk comes to it in a guarded operation -/
theorem wp_append_rows {o : Oper} {ac : Act} {K : Act → World → Prop} {Q : Exit → Act → World → Prop} (s x : Operand) (t : TypeId) (ho : o.op = .call { callee := .builtin .append, args := #[s, x], argTypes := #[t, t] })
    (e : TypeId) (i : TypeInfo) (z : Value) (size bytes : Nat) (ht : P.underlying t = some (.slice e)) (hi : P.info? e = some i) (hz : i.zero = some z) (hsize : i.size = size) (hby : i.bytes = bytes) (hzs : z.cells.size = size) (hsz : 0 < size)
    (v : Value) (n : Nat) (vs : List Value) (hown : w.ownsRow 0 e size v n vs) (hs : ac.eval s = v) (ad : Option Addr) (m c : Nat) (us : List Value) (hx : ac.eval x = .slice ad m c) (hl : us.length = m * size) (hr : Rd w ad us) (h1 : ∀ u ∈ us, u.oneCell' = true)
    (h63 : n + m ≤ maxLen) (hbytes : (n + m) * bytes ≤ 140737488355328)
    (h : ∀ a' c' w', w'.ownsRow 0 e size (.slice a' (n + m) c') (n + m) (vs ++ us) → Touch (InBlock v) w w' → (∀ k, InBlock (.slice a' (n + m) c') k → InBlock v k ∨ w.heap.size ≤ k) → K (ac.put o.dst (.slice a' (n + m) c')) w') : o.wp P ac w K Q :=
  wp_append_run s x t t ho v _ hs hx (R := fun v' w' => w'.ownsRow 0 e size v' (n + m) (vs ++ us) ∧ Touch (InBlock v) w w' ∧ ∀ k, InBlock v' k → InBlock v k ∨ w.heap.size ≤ k) (run_append_rows 0 t _ e i z size bytes ht hi hz hsize hby hzs hsz v n vs hown ad m c us hl hr h1 h63 hbytes (Nat.zero_le _)) fun v' w' hh => by
    obtain ⟨a', c', rfl⟩ := rowSlice' hh.1
    exact h a' c' w' hh.1 hh.2.1 hh.2.2
end
end Go.Proofs.YtnffigfafalocaaGreatDoor
