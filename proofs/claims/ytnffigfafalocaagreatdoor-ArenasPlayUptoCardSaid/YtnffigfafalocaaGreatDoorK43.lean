/-
  Package drydockref24: an arena of the reference in memory, as a part; append of struct rows in a region.
  Package drydockref24 by its own text: New, find, Used, Peak, IDs.
-/
import Derived.Test.YtnffigfafalocaaGreatDoorK42
import Derived.Test.YtnffigfafalocaaGreatDoorK27
import Derived.Test.YtnffigfafalocaaGreatDoorK28
import Derived.Test.YtnffigfafalocaaGreatDoorK05
import Derived.Test.YtnffigfafalocaaGreatDoorK04
import Derived.Laws.OwnMore
namespace Go.Proofs.YtnffigfafalocaaGreatDoor
open Go Go.RowKit
set_option linter.unusedSimpArgs false
set_option linter.unusedVariables false

/-- 'append(v, row...)' of structs inside a region -/
theorem step_append_rows {P : Program} {w : World} {ops : Array Oper} {o : Oper} {a : Act} {K : Act → World → Prop} {Q : Exit → Act → World → Prop} {E : Prop} (hw : Region.wanted o (yielded ops a.tmps) = true) (s x : Operand) (t : TypeId) (ho : o.op = .call { callee := .builtin .append, args := #[s, x], argTypes := #[t, t] })
    (e : TypeId) (i : TypeInfo) (z : Value) (size bytes : Nat) (ht : P.underlying t = some (.slice e)) (hi : P.info? e = some i) (hz : i.zero = some z) (hsize : i.size = size) (hby : i.bytes = bytes) (hzs : z.cells.size = size) (hsz : 0 < size)
    (v : Value) (n : Nat) (vs : List Value) (hown : w.ownsRow 0 e size v n vs) (hs : a.eval s = v) (ad : Option Addr) (m c N : Nat) (us : List Value) (hx : a.eval x = .slice ad m c) (hl : us.length = m * size) (hr : Rd w ad us) (h1 : ∀ u ∈ us, u.oneCell' = true) (hN : n + m = N)
    (h63 : N ≤ maxLen) (hbytes : N * bytes ≤ 140737488355328)
    (h : ∀ a' c' w', w'.ownsRow 0 e size (.slice a' N c') N (vs ++ us) → Touch (InBlock v) w w' → (∀ k, InBlock (.slice a' N c') k → InBlock v k ∨ w.heap.size ≤ k) → K (a.put o.dst (.slice a' N c')) w') : if Region.wanted o (yielded ops a.tmps) = true then Oper.wp P o a w K Q else E := by
  subst hN
  rw [if_pos hw]
  exact wp_append_rows s x t ho e i z size bytes ht hi hz hsize hby hzs hsz v n vs hown hs ad m c us hx hl hr h1 h63 hbytes h

theorem ent_length (e : Ar.REnt) : e.cells.length = 5 := rfl
def entCells (R : List Ar.REnt) : List Value := R.flatMap Ar.REnt.cells
theorem entCells_length (R : List Ar.REnt) : (entCells R).length = R.length * 5 := flat_length ent_length R
theorem entCells_one (R : List Ar.REnt) : ∀ u ∈ entCells R, u.oneCell' = true := by
  intro u hu
  obtain ⟨e, _, he⟩ := List.mem_flatMap.1 hu
  simp only [Ar.REnt.cells, List.mem_cons, List.not_mem_nil, or_false] at he
  rcases he with rfl | rfl | rfl | rfl | rfl <;> rfl
theorem entCells_append (R S : List Ar.REnt) : entCells (R ++ S) = entCells R ++ entCells S := by simp [entCells]
theorem entCells_take (R : List Ar.REnt) (k : Nat) : (entCells R).take (k * 5) = entCells (R.take k) := by
  by_cases hk : k ≤ R.length
  · have h : entCells R = entCells (R.take k) ++ entCells (R.drop k) := by rw [← entCells_append, List.take_append_drop]
    have hl : (entCells (R.take k)).length = k * 5 := by rw [entCells_length, List.length_take, Nat.min_eq_left hk]
    rw [h, ← hl, List.take_left]
  · rw [List.take_of_length_le (by rw [entCells_length]; omega), List.take_of_length_le (by omega)]
theorem entCells_drop (R : List Ar.REnt) (k : Nat) : (entCells R).drop (k * 5) = entCells (R.drop k) := by
  by_cases hk : k ≤ R.length
  · have h : entCells R = entCells (R.take k) ++ entCells (R.drop k) := by rw [← entCells_append, List.take_append_drop]
    have hl : (entCells (R.take k)).length = k * 5 := by rw [entCells_length, List.length_take, Nat.min_eq_left hk]
    rw [h, ← hl, List.drop_left]
  · rw [List.drop_of_length_le (by rw [entCells_length]; omega), List.drop_of_length_le (by omega)]; rfl
/-- the lists of the items -/
def Part.lists (R : List Ar.REnt) : Part where
  P w O := (∀ e ∈ R, (Rd w e.sa (ints .i64 e.s) ∧ Rd w e.la (ints .i32 e.l)) ∧ (∀ g o, e.sa = some ⟨g, o, none⟩ → O g) ∧ ∀ g o, e.la = some ⟨g, o, none⟩ → O g) ∧ ∀ k, O k → k < w.heap.size
  stable := fun {F w w' O} ⟨h1, h2⟩ t hF => ⟨fun e he => ⟨⟨(h1 e he).1.1.touch t (fun b o e' _ => hF b ((h1 e he).2.1 b o e')), (h1 e he).1.2.touch t (fun b o e' _ => hF b ((h1 e he).2.2 b o e'))⟩, (h1 e he).2⟩, fun k hk => Nat.lt_of_lt_of_le (h2 k hk) t.size⟩
  lt := fun {w O} h => h.2
theorem lists_sub {w : World} {R S : List Ar.REnt} {O : Nat → Prop} (h : (Part.lists R).P w O) (hs : ∀ e ∈ S, e ∈ R ∨ ((Rd w e.sa (ints .i64 e.s) ∧ Rd w e.la (ints .i32 e.l)) ∧ (∀ g o, e.sa = some ⟨g, o, none⟩ → O g) ∧ ∀ g o, e.la = some ⟨g, o, none⟩ → O g)) : (Part.lists S).P w O :=
  ⟨fun e he => (hs e he).elim (fun h' => h.1 e h') id, h.2⟩
def refCells (room used peak : Nat) (v : Value) : List Value := [.int .i64 (room : Nat), .int .i64 (used : Nat), .int .i64 (peak : Nat), v]
def ref24Parts (g room used peak : Nat) (v : Value) (R : List Ar.REnt) : List Part :=
  [Part.row g 160 (refCells room used peak v), Part.rows 169 5 v R.length (entCells R), Part.lists R]
/-- an arena of the reference -/
def Part.ref24 (g room used peak : Nat) (R : List Ar.REnt) : Part where
  P w O := (∃ v, Al w (ref24Parts g room used peak v R) O) ∧ ∀ k, O k → k < w.heap.size
  stable := fun {F w w' O} ⟨⟨v, h⟩, hl⟩ t hF => ⟨⟨v, Al.stable t h hF⟩, fun k hk => Nat.lt_of_lt_of_le (hl k hk) t.size⟩
  lt := fun {w O} h => h.2
/-- what the walks ask of it -/
structure Ref24At (w : World) (g room used peak : Nat) (R : List Ar.REnt) (a : Option Addr) (c : Nat) : Prop where
  row : Row w g 160 (refCells room used peak (.slice a R.length c))
  rows : w.ownsRow 0 169 5 (.slice a R.length c) R.length (entCells R)
  ne : ¬ InBlock (.slice a R.length c) g
theorem Ref24At.touch {F : Nat → Prop} {w w' : World} {g room used peak : Nat} {R : List Ar.REnt} {a : Option Addr} {c : Nat} (h : Ref24At w g room used peak R a c) (t : Touch F w w') (hg : ¬ F g) (ha : ∀ b, InBlock (.slice a R.length c) b → ¬ F b) : Ref24At w' g room used peak R a c :=
  ⟨h.row.touch t hg, rowTouch h.rows t ha, h.ne⟩
theorem Ref24At.no {w w' : World} {g room used peak : Nat} {R : List Ar.REnt} {a : Option Addr} {c : Nat} (h : Ref24At w g room used peak R a c) (t : Touch No w w') : Ref24At w' g room used peak R a c :=
  h.touch t (fun f => f) (fun _ _ f => f)
theorem ref24_at {w : World} {g room used peak : Nat} {R : List Ar.REnt} {O : Nat → Prop} (h : (Part.ref24 g room used peak R).P w O) :
    ∃ a c A1 A2 A3, Ref24At w g room used peak R a c ∧ (Part.row g 160 (refCells room used peak (.slice a R.length c))).P w A1 ∧ (Part.rows 169 5 (.slice a R.length c) R.length (entCells R)).P w A2 ∧ (Part.lists R).P w A3 ∧ (∀ k, A1 k → ¬ A2 k) ∧ (∀ k, A1 k → ¬ A3 k) ∧ (∀ k, A2 k → ¬ A3 k) ∧ (∀ k, A1 k → O k) ∧ (∀ k, A2 k → O k) ∧ ∀ k, A3 k → O k := by
  obtain ⟨⟨v, A1, B1, h1, ⟨A2, B2, h2, ⟨A3, _, h3, _, _, h33, _⟩, hd2, h22, hB2⟩, hd1, h11, hB1⟩, _⟩ := h
  obtain ⟨a, c, rfl⟩ := rowSlice' h2.1
  exact ⟨a, c, A1, A2, A3, ⟨h1.1, h2.1, fun hg => hd1 g h1.2.1 (h22 g (h2.2.1 g hg))⟩, h1, h2, h3, fun k hk h => hd1 k hk (h22 k h), fun k hk h => hd1 k hk (hB2 k (h33 k h)), fun k hk h => hd2 k hk (h33 k h), h11, fun k hk => hB1 k (h22 k hk), fun k hk => hB1 k (hB2 k (h33 k hk))⟩
theorem ref24_of {w : World} {g room used peak : Nat} {R : List Ar.REnt} {v : Value} {A1 A2 A3 O : Nat → Prop} (h1 : (Part.row g 160 (refCells room used peak v)).P w A1) (h2 : (Part.rows 169 5 v R.length (entCells R)).P w A2) (h3 : (Part.lists R).P w A3)
    (d12 : ∀ k, A1 k → ¬ A2 k) (d13 : ∀ k, A1 k → ¬ A3 k) (d23 : ∀ k, A2 k → ¬ A3 k) (o1 : ∀ k, A1 k → O k) (o2 : ∀ k, A2 k → O k) (o3 : ∀ k, A3 k → O k) : (Part.ref24 g room used peak R).P w (fun k => A1 k ∨ A2 k ∨ A3 k) :=
  ⟨⟨v, A1, fun k => A2 k ∨ A3 k, h1, ⟨A2, A3, h2, ⟨A3, fun _ => False, h3, trivial, fun _ _ f => f, fun _ h => h, fun _ f => f.elim⟩, d23, fun k => Or.inl, fun k => Or.inr⟩, fun k hk h => h.elim (d12 k hk) (d13 k hk), fun k => Or.inl, fun k => Or.inr⟩, fun k hk => by
    rcases hk with hk | hk | hk
    · exact (Part.row _ _ _).lt h1 k hk
    · exact h2.2.2 k hk
    · exact h3.2 k hk⟩
/-- the item at i, its cells -/
theorem Ref24At.cell {w : World} {g room used peak : Nat} {R : List Ar.REnt} {a : Option Addr} {c : Nat} (h : Ref24At w g room used peak R a c) {i : Nat} {e : Ar.REnt} (hi : R[i]? = some e) {j : Nat} (hj : j < 5) : ∃ b, a = some ⟨b, 0, none⟩ ∧ InBlock (.slice a R.length c) b ∧ w.cell? ⟨b, i * 5 + j, none⟩ = e.cells[j]? := by
  have hlt : i < R.length := by
    rcases Nat.lt_or_ge i R.length with h | h
    · exact h
    · rw [List.getElem?_eq_none h] at hi; cases hi
  have hr := h.rows
  rcases hr.2 with ⟨_, h0⟩ | ⟨b, cap, cur, hv, _⟩
  · omega
  · cases hv
    refine ⟨b, rfl, rfl, ?_⟩
    rw [hr.cellAt (i * 5 + j) (by omega), entCells, flat_get ent_length R i j e hi hj]
theorem Ref24At.soft {w : World} {g room used peak : Nat} {R : List Ar.REnt} {b : Nat} {c : Nat} (h : Ref24At w g room used peak R (some ⟨b, 0, none⟩) c) (j : Nat) : w.frozen? ⟨b, j, none⟩ = false := h.rows.frozenAt j
/-- 's[l:]' of elements of so many cells -/
def cutAddrS (a : Option Addr) (cap l s : Nat) : Option Addr := if cap = l then a else a.map (·.add (l * s))
theorem run_cutS {P : Program} {t e : TypeId} {i : TypeInfo} {s : Nat} (ht : P.underlying t = some (.slice e)) (hi : P.info? e = some i) (hs : i.size = s) (a : Option Addr) (len cap l : Nat) (k : IntKind) (h1 : l ≤ len) (w : World) :
    (Instr.slice t (.slice a len cap) (some (.int k (l : Nat))) none none).run P w = .ok (.slice (cutAddrS a cap l s) (len - l) (cap - l)) w := by
  have e1 : ¬ ((l : Int) < 0) := by omega
  simp [Instr.slice, Instr.sliceBounds, Instr.sliceBound, asIntOf, run_underlying ht, sizeOf, typeInfo, hi, hs, cutAddrS, h1]
theorem run_headS {P : Program} {t e : TypeId} {i : TypeInfo} (ht : P.underlying t = some (.slice e)) (hi : P.info? e = some i) (a : Option Addr) (len cap h : Nat) (k' : IntKind) (h2 : h ≤ cap) (w : World) :
    (Instr.slice t (.slice a len cap) none (some (.int k' (h : Nat))) none).run P w = .ok (.slice a h cap) w := by
  simp [Instr.slice, Instr.sliceBounds, Instr.sliceBound, asIntOf, run_underlying ht, sizeOf, typeInfo, hi, h2, add_zero]
theorem Rd.cutS {w : World} {a : Option Addr} {vs : List Value} (h : Rd w a vs) {cap l s : Nat} (hcap : vs.length ≤ cap * s) : Rd w (cutAddrS a cap l s) (vs.drop (l * s)) := by
  intro i v hi
  rw [List.getElem?_drop] at hi
  obtain ⟨b, o, rfl, hc⟩ := h _ v hi
  have hlt : l * s + i < vs.length := by
    rcases Nat.lt_or_ge (l * s + i) vs.length with h | h
    · exact h
    · rw [List.getElem?_eq_none h] at hi; cases hi
  refine ⟨b, o + l * s, ?_, by rw [Nat.add_assoc]; exact hc⟩
  rw [cutAddrS, if_neg (fun e => by rw [e] at hcap; omega)]
  simp only [Option.map_some, Addr.add]
  split
  · rename_i h0; rw [h0]; rfl
  · rfl
theorem part24_is : ∃ i z, TypeIs 169 i z 5 72 [.int .u32 0, .int .i64 0, nilSl, nilSl, .bool false] := type_is (by kernel_rfl)
end Go.Proofs.YtnffigfafalocaaGreatDoor
namespace Go.Proofs.YtnffigfafalocaaGreatDoor
open Go Go.RowKit
set_option linter.unusedSimpArgs false
set_option linter.unusedVariables false

theorem refANew_bad (w : World) (z : Int) (hz : z < 0 ∨ 1048576 < z) : Calls Tryz.prog 18 #[.int .i64 z] w fun e w' => e = .returned (.tuple #[.pointer none, .int .i64 1]) ∧ w = w' := by
  by_cases h0 : z < 0
  · go_enter Tryz.func18, Tryz.ntmps18
    go_wp2
    go_ret2
    exact ⟨rfl, rfl⟩
  · have h1 : 1048576 < z := by omega
    go_enter Tryz.func18, Tryz.ntmps18
    go_wp2
    go_ret2
    exact ⟨rfl, rfl⟩
theorem refANew_in (w : World) (n : Nat) (hn : n ≤ 1048576) : Calls Tryz.prog 18 #[.int .i64 (n : Nat)] w fun e w' => ∃ g, e = .returned (.tuple #[.pointer (some ⟨g, 0, none⟩), .int .i64 0]) ∧ Born w (Part.ref24 g n 0 0 []) w' := by
  have hni : (n : Int) ≤ 1048576 := by omega
  have h0 : ¬ (n : Int) < 0 := by omega
  go_enter Tryz.func18, Tryz.ntmps18
  go_wp2
  go_ret2
  have hr := Row.new w 160 #[.int .i64 (n : Nat), .int .i64 0, .int .i64 0, .slice none 0 0]
  refine ⟨_, rfl, (Touch.refl No w).alloc _, _, ref24_of (A1 := fun k => k = w.heap.size) (A2 := fun _ => False) (A3 := fun _ => False) (O := fun k => k = w.heap.size) (v := .slice none 0 0) ⟨hr, rfl, fun k hk => by rw [hk]; exact hr.lt⟩ ⟨⟨rfl, Or.inl ⟨rfl, rfl⟩⟩, (fun k h => by cases h), fun _ (f : False) => f.elim⟩ ⟨(fun e h => by cases h), fun _ (f : False) => f.elim⟩ (fun _ _ (f : False) => f) (fun _ _ (f : False) => f) (fun _ (f : False) => f.elim) (fun _ h => h) (fun _ (f : False) => f.elim) (fun _ (f : False) => f.elim), fun k hk => ?_⟩
  rcases hk with hk | hk | hk
  · exact Nat.le_of_eq hk.symm
  · exact hk.elim
  · exact hk.elim
section
variable {w : World} {g room used peak : Nat} {R : List Ar.REnt} {a : Option Addr} {c : Nat}
theorem refUsed_any (h : Ref24At w g room used peak R a c) : Calls Tryz.prog 33 #[.pointer (some ⟨g, 0, none⟩)] w fun e w' => e = .returned (.int .i64 (used : Nat)) ∧ w = w' := by
  have k1 : w.cell? ⟨g, 1, none⟩ = some (.int .i64 (used : Nat)) := h.row.cell 1
  clear h
  go_enter Tryz.func33, Tryz.ntmps33
  go_wp2
  go_ret
  exact ⟨rfl, rfl⟩
theorem refPeak_any (h : Ref24At w g room used peak R a c) : Calls Tryz.prog 35 #[.pointer (some ⟨g, 0, none⟩)] w fun e w' => e = .returned (.int .i64 (peak : Nat)) ∧ w = w' := by
  have k1 : w.cell? ⟨g, 2, none⟩ = some (.int .i64 (peak : Nat)) := h.row.cell 2
  clear h
  go_enter Tryz.func35, Tryz.ntmps35
  go_wp2
  go_ret
  exact ⟨rfl, rfl⟩
set_option maxRecDepth 100000 in
set_option maxHeartbeats 2000000 in
theorem refFind_any (h : Ref24At w g room used peak R a c) (hn : R.length ≤ 100000) (hids : ∀ e ∈ R, e.id < 4294967296) (id : Nat) (hid : id < 4294967296) :
    Calls Tryz.prog 68 #[.pointer (some ⟨g, 0, none⟩), .int .u32 (id : Nat)] w fun e w' => e = .returned (.tuple #[.int .i64 (Ar.place R id : Nat), .bool (Ar.isAt R id)]) ∧ Touch No w w' := by
  have H := Lib.hid h
  obtain ⟨n, hn'⟩ : ∃ n, R.length = n := ⟨_, rfl⟩
  have k3 : w.cell? ⟨g, 3, none⟩ = some (.slice a n c) := by rw [← hn']; exact h.row.cell 3
  obtain ⟨p, hp⟩ : ∃ p, Ar.place R id = p := ⟨_, rfl⟩
  have hpn : p ≤ n := by rw [← hp, ← hn']; exact Ar.place_le R id
  have hn9 : (n : Int) ≤ 100000 := by omega
  obtain ⟨b, hb⟩ : ∃ b, Ar.isAt R id = b := ⟨_, rfl⟩
  have Hp := Lib.hid hp
  have Hn := Lib.hid hn'
  have Hb := Lib.hid hb
  have HI := Lib.hid hids
  rw [hp, hb]
  clear h hp hn hb hn' hids
  go_enter Tryz.func68, Tryz.ntmps68
  go_wp2
  go_loopg [6] p (fun g' s6 wr => ∃ k : Nat, k + g' = p ∧ s6 = .int .i64 ((k : Nat) : Int) ∧ Hid (wr = w))
  case atStart => exact ⟨0, by omega, rfl, rfl⟩
  case round =>
    obtain ⟨k, hkg, rfl, hwr⟩ := hrel
    have hww : w = wr := hwr.out.symm
    clear hwr
    subst hww
    cases gk with
    | zero =>
      obtain rfl : k = p := by omega
      by_cases hlt : k < n
      · obtain ⟨e, he⟩ : ∃ e, R[k]? = some e := ⟨_, List.getElem?_eq_getElem (by rw [Hn.out]; exact hlt)⟩
        obtain ⟨gb, hae, _, hcb⟩ := H.out.cell he (j := 0) (by decide)
        have hcb : w.cell? ⟨gb, k * 5, none⟩ = some (.int .u32 (e.id : Nat)) := hcb
        have hge := Ar.place_at R id e (by rw [Hp.out]; exact he)
        have hbe : b = decide (e.id = id) := by
          rw [← Hb.out, Ar.isAt, Hp.out, he]
        have hle : e.id < 4294967296 := HI.out e (List.mem_of_getElem? he)
        obtain ⟨y, hy⟩ : ∃ y, e.id = y := ⟨_, rfl⟩
        rw [hy] at hcb hge hbe hle
        subst hae
        have hlt' : (k : Int) < (n : Nat) := by omega
        have hge' : ¬ (y : Int) < (id : Nat) := by omega
        by_cases hyi : y = id
        · have hb1 : b = true := by rw [hbe]; simp [hyi]
          subst hb1
          have hyi' : ((y : Int) == (id : Int)) = true := by simp; omega
          clear he hy hbe hge hlt hyi
          go_wp2
          go_quiet (fail)
          go_wp2
          go_ret2
          exact ⟨rfl, (Touch.refl No w).drewN _⟩
        · have hb1 : b = false := by rw [hbe]; simp [hyi]
          subst hb1
          have hyi' : ((y : Int) == (id : Int)) = false := by simp; omega
          clear he hy hbe hge hlt hyi
          go_wp2
          go_quiet (fail)
          go_wp2
          go_ret2
          exact ⟨rfl, (Touch.refl No w).drewN _⟩
      · obtain rfl : k = n := by omega
        have hb1 : b = false := by
          rw [← Hb.out, Ar.isAt, Hp.out, List.getElem?_eq_none (by rw [Hn.out]; exact Nat.le_refl _)]
        subst hb1
        clear hlt
        go_wp2
        have hd : decide ((k : Int) < (k : Int)) = false := by simp
        go_quiet (fail)
        go_wp2
        go_ret2
        exact ⟨rfl, (Touch.refl No w).drewN _⟩
    | succ g' =>
      have hlt : (k : Int) < (n : Nat) := by omega
      obtain ⟨e, he, hei⟩ := Ar.place_lt R id k (by rw [Hp.out]; omega)
      obtain ⟨gb, hae, _, hcb⟩ := H.out.cell he (j := 0) (by decide)
      have hcb : w.cell? ⟨gb, k * 5, none⟩ = some (.int .u32 (e.id : Nat)) := hcb
      obtain ⟨y, hy⟩ : ∃ y, e.id = y := ⟨_, rfl⟩
      rw [hy] at hcb hei
      have hei' : (y : Int) < (id : Nat) := by omega
      subst hae
      clear he hy hei
      go_wp2
      go_roundg g'
      case measure => omega
      case rel => exact ⟨k + 1, by omega, by go_num, rfl⟩
set_option maxRecDepth 100000 in
set_option maxHeartbeats 2000000 in
theorem refIDs_any (h : Ref24At w g room used peak R a c) (hn : R.length ≤ 100000) :
    Calls Tryz.prog 37 #[.pointer (some ⟨g, 0, none⟩)] w fun e w' => ∃ a' c', e = .returned (.slice a' R.length c') ∧ Rd w' a' (ints .u32 (R.map fun e => (e.id : Int))) ∧ Touch No w w' := by
  obtain ⟨I, hi0, hi1, hi2, hi3⟩ := u32_info
  have HI := Lib.hid (And.intro hi0 (And.intro hi1 (And.intro hi2 hi3)))
  have H := Lib.hid h
  obtain ⟨n, hn'⟩ : ∃ n, R.length = n := ⟨_, rfl⟩
  have hn9 : (n : Int) ≤ 100000 := by omega
  have Hn := Lib.hid hn'
  rw [hn']
  clear h hn hn' hi0 hi1 hi2 hi3
  go_enter Tryz.func37, Tryz.ntmps37
  go_wp2
  go_loopg [3, 4] n (fun g' s3 s4 wr => ∃ (k : Nat) (v : Value), k + g' = n ∧ s4 = .int .i64 ((k : Nat) : Int) ∧ s3 = v ∧ Hid (Own wr w.heap.size 38 v (ints .u32 ((R.take k).map fun e => (e.id : Int)))) ∧ Hid (Touch No w wr))
  case atStart => exact ⟨0, _, by omega, rfl, rfl, Own.nil _ _ _, Touch.refl No w⟩
  case round =>
    obtain ⟨k, v, hkg, rfl, rfl, O, T⟩ := hrel
    have H1 := Lib.hid (H.out.no T.out)
    have k3 : wr.cell? ⟨g, 3, none⟩ = some (.slice a n c) := by rw [← Hn.out]; exact H1.out.row.cell 3
    cases gk with
    | zero =>
      obtain rfl : k = n := by omega
      have hO := O.out
      rw [List.take_of_length_le (by rw [Hn.out]; exact Nat.le_refl _)] at hO
      obtain ⟨a3, c3, rfl, _⟩ := hO.form' (n := k) (by simp [ints]; exact Hn.out)
      have HO := Lib.hid hO
      clear hO O
      go_wp2
      go_ret
      exact ⟨a3, c3, rfl, HO.out.rd, T.out⟩
    | succ g' =>
      have hlt : (k : Int) < (n : Nat) := by omega
      have hkl : k < R.length := by rw [Hn.out]; omega
      obtain ⟨e, he⟩ : ∃ e, R[k]? = some e := ⟨_, List.getElem?_eq_getElem hkl⟩
      have hlk : (ints .u32 ((R.take k).map fun e => (e.id : Int))).length = k := by simp [ints]; omega
      obtain ⟨al, cl, rfl, _⟩ := O.out.form' hlk
      obtain ⟨gb, hae, _, hcb⟩ := H1.out.cell he (j := 0) (by decide)
      have hcb : wr.cell? ⟨gb, k * 5, none⟩ = some (.int .u32 (e.id : Nat)) := hcb
      have HN : Hid (ints .u32 ((R.take (k + 1)).map fun e => (e.id : Int)) = ints .u32 ((R.take k).map fun e => (e.id : Int)) ++ [.int .u32 (e.id : Nat)]) := by
        show _ = _
        rw [List.take_succ_eq_append_getElem hkl, List.map_append, ints, List.map_append]
        have : R[k] = e := by rw [List.getElem?_eq_getElem hkl] at he; exact Option.some.inj he
        rw [this]; rfl
      obtain ⟨y, hy⟩ : ∃ y, e.id = y := ⟨_, rfl⟩
      rw [hy] at hcb HN
      have Hlk := Lib.hid hlk
      subst hae
      clear he hy hlk hkl
      go_wp2_with (at_builtin; refine wpList_append1 rfl _ _ _ rfl w.heap.size _ I _ 4 Tryz.underlying86 HI.out.1 HI.out.2.1 HI.out.2.2.1 HI.out.2.2.2 rfl _ _ _ O.out rfl rfl rfl (by rw [Hlk.out]; unfold maxLen; omega) (by rw [Hlk.out]; omega) T.out.size ?_; intro v' w3 hown3 ht3)
      go_roundg g'
      case measure => omega
      case rel => exact ⟨k + 1, v', by omega, by go_num, rfl, by rw [HN.out]; exact hown3, T.out.then ht3 (fun i hi e => absurd ((O.out.block e).1) (by omega))⟩
end
end Go.Proofs.YtnffigfafalocaaGreatDoor
