/-
  append of a slice that reads as a list (nil or not), and of so many zeros. No program in sight.
  Package nums by its own text: put, PutFour, four, GetFour.
-/
import Derived.Test.YtpmkegbgbldpnaaGreatDoorK01
import Derived.IntWalk
import Derived.Test.YtpmkegbgbldpnaaGreatDoorProg
import Derived.Test.YtpmkegbgbldpnaaGreatDoorK06
import Derived.Test.YtpmkegbgbldpnaaGreatDoorK03
import Derived.Deep.LoopGhost
import Derived.Laws.MakeOwn
import Derived.Laws.CopyOwn
import Derived.Laws.BitsAllLaws
namespace Go.Proofs.YtpmkegbgbldpnaaGreatDoor
open Go Go.RowKit
set_option linter.unusedSimpArgs false

theorem Own.rd {w : World} {base : Nat} {T : TypeId} {a : Option Addr} {n c : Nat} {vs : List Value} (h : Own w base T (.slice a n c) vs) : Rd w a vs := by
  obtain ⟨a', c', e, _, hr, _⟩ := h.form
  cases e; exact hr
section
variable {P : Program} {w : World}

/-- 'append(v, a...)', one cell each -/
theorem run_append_rd (base : Nat) (t ty e : TypeId) (i : TypeInfo) (z : Value) (bytes : Nat) (ht : P.underlying t = some (.slice e)) (hi : P.info? e = some i) (hz : i.zero = some z) (hsize : i.size = 1) (hby : i.bytes = bytes) (hzs : z.cells.size = 1)
    (v : Value) (vs : List Value) (hown : Own w base e v vs) (a : Option Addr) (m c : Nat) (us : List Value) (hl : us.length = m) (hr : Rd w a us) (h1 : ∀ u ∈ us, u.oneCell' = true)
    (h63 : vs.length + m ≤ maxLen) (hbytes : (vs.length + m) * bytes ≤ 140737488355328) (hbase : base ≤ w.heap.size) :
    ∃ v' w', (Builtin.append_ #[t, t] ty #[v, .slice a m c]).run P w = .ok v' w' ∧ Own w' base e v' (vs ++ us) ∧ Touch (InBlock v) w w' := by
  cases a with
  | some ad =>
    have hnews : ∀ j u, us[j]? = some u → w.cell? (ad.add j) = some u := fun j u hj => by
      obtain ⟨b, o, e1, hc⟩ := hr j u hj
      cases e1
      unfold Addr.add
      split
      · rename_i h0; subst h0; exact hc
      · exact hc
    obtain ⟨v', w', h2, h3, h4, _⟩ := run_append_own (P := P) w base t ty e i z 1 bytes ht hi hz hsize hby hzs (by decide) v vs.length vs hown ad m c us (by omega) hnews h1 h63 hbytes hbase
    refine ⟨v', w', h2, ?_, (Touch.refl _ w).grown h4 (fun k hk _ => hk)⟩
    rw [Own, List.length_append, hl]; exact h3
  | none =>
    have hus : us = [] := by
      cases us with
      | nil => rfl
      | cons u r => obtain ⟨b, o, e1, _⟩ := hr 0 u rfl; cases e1
    subst hus
    obtain rfl : m = 0 := by simpa using hl.symm
    obtain ⟨b, cap, rfl, hcap, _, _, _⟩ := hown.form
    refine ⟨.slice b vs.length cap, w, ?_, by rw [List.append_nil]; exact hown, Touch.refl _ _⟩
    cases b <;> simp [Builtin.append_, run_underlying ht, sizeOf, typeInfo, hi, Builtin.lenOf, hcap, Builtin.firstCells, storeCells]

theorem zeroCells_one (z : Value) (u : Value) (hzs : z.cells = #[u]) (n : Nat) : Builtin.zeroCells z.cells n = (List.replicate n u).toArray := by
  rw [hzs]
  apply Array.ext'
  unfold Builtin.zeroCells
  refine List.ext_getElem? (fun j => ?_)
  by_cases hj : j < n
  · simp [hj, List.getElem?_replicate, Nat.mod_one]
  · simp [hj, List.getElem?_replicate]
theorem run_zero {e : TypeId} {i : TypeInfo} {z : Value} (hi : P.info? e = some i) (hz : i.zero = some z) : (zeroValue e).run P w = .ok z w := by
  simp [zeroValue, typeInfo, hi, hz]

/-- 'append(v, make([]E, n)...)', one cell each -/
theorem run_append_zeros (base : Nat) (t t2 ty e : TypeId) (i : TypeInfo) (z u : Value) (bytes : Nat) (ht : P.underlying t = some (.slice e)) (ht2 : P.underlying t2 = some (.int .i64)) (hi : P.info? e = some i) (hz : i.zero = some z) (hsize : i.size = 1) (hby : i.bytes = bytes) (hzs : z.cells = #[u]) (hu : u.oneCell' = true)
    (v : Value) (vs : List Value) (hown : Own w base e v vs) (m : Nat)
    (h63 : vs.length + m ≤ maxLen) (hbytes : (vs.length + m) * bytes ≤ 140737488355328) (hbase : base ≤ w.heap.size) :
    ∃ v' w', (Builtin.append_ #[t, t2] ty #[v, .int .i64 (m : Nat)]).run P w = .ok v' w' ∧ Own w' base e v' (vs ++ List.replicate m u) ∧ Touch (InBlock v) w w' := by
  have hmm : (m : Int) ≤ 9223372036854775807 := by unfold maxLen at h63; omega
  have hwrap : IntKind.i64.wrap (m : Int) = (m : Int) := IntWalk.i64_in _ (by omega)
  have hneg : ¬ ((m : Int) < 0) := by omega
  have hw0 : IntKind.i64.wrap 0 = 0 := rfl
  have hmb : m * bytes ≤ 140737488355328 := Nat.le_trans (Nat.mul_le_mul_right _ (by omega)) hbytes
  have hbig : ¬ (281474976710656 < (m : Int) * (i.bytes : Int)) := by
    have h : m * i.bytes ≤ 140737488355328 := by rw [hby]; exact hmb
    have e2 : (m : Int) * (i.bytes : Int) = ((m * i.bytes : Nat) : Int) := by push_cast; rfl
    rw [e2]; omega
  have hzc := zeroCells_one z u hzs
  have grown : ∀ (old : Nat) (olds : List Value), olds = vs → old < vs.length + m →
      Own (w.drew.alloc (.cells (olds.toArray ++ (List.replicate m u).toArray ++ Builtin.zeroCells z.cells (grownCap w (vs.length + m) old e - (vs.length + m))) e)) base e
        (.slice (some ⟨w.heap.size, 0, none⟩) (vs.length + m) (grownCap w (vs.length + m) old e)) (vs ++ List.replicate m u) ∧
      Touch (InBlock v) w (w.drew.alloc (.cells (olds.toArray ++ (List.replicate m u).toArray ++ Builtin.zeroCells z.cells (grownCap w (vs.length + m) old e - (vs.length + m))) e)) := by
    intro old olds ho _
    subst ho
    have hge := grownCap_ge w (olds.length + m) old e
    have hcm : grownCap w (olds.length + m) old e ≤ maxLen := grownCap_le_maxLen w (olds.length + m) old e h63
    have hlen : (olds ++ List.replicate m u).length = olds.length + m := by simp
    refine ⟨⟨by rw [hlen]; omega, .inr ⟨w.heap.size, _, _, by rw [hlen], hbase, heap_alloc_new w.drew _, by rw [hlen]; exact hge, hcm, ?_, ?_⟩⟩, (Touch.refl _ w).drew.alloc _⟩
    · simp only [Array.size_append, List.size_toArray, size_zeroCells, hzs, List.length_replicate]
      show olds.length + m + (_ - (olds.length + m)) * 1 = _ * 1
      omega
    · rw [Nat.mul_one]
      simp only [Array.toList_append, List.append_assoc]
      rw [← List.append_assoc]
      exact List.take_left
  obtain ⟨b, cap, rfl, hcap, hrd, hb, hmax⟩ := hown.form
  by_cases hroom : vs.length + m ≤ cap
  · rcases hown.2 with ⟨h0, hvs⟩ | ⟨g, cap', cur, h0, hbg, hg, hnc, hcm, hcs, htake⟩
    · have hvs : vs.length = 0 := hvs
      have hb0 : b = none := by simp at h0; exact h0.1
      have hc0 : cap = 0 := by simp at h0; exact h0.2.2
      subst hb0 hc0
      obtain rfl : m = 0 := by omega
      refine ⟨.slice none vs.length 0, w, ?_, by simpa using hown, Touch.refl _ _⟩
      simp [Builtin.append_, run_underlying ht, run_underlying ht2, sizeOf, typeInfo, hi, asInt, asIntOf, hw0, hsize, hvs]
    · cases h0
      have hfit : vs.length * 1 + (List.replicate m u).length ≤ cur.size := by rw [hcs]; simp; omega
      have hst := run_storeCells_at P g (vs.length * 1) e (List.replicate m u) 0 cur w hg (by simpa using hfit) (fun x hx => by rw [List.eq_of_mem_replicate hx]; exact hu)
      simp only [Nat.add_zero] at hst
      refine ⟨.slice (some ⟨g, 0, none⟩) (vs.length + m) cap, w.setRow g (cur.toList.take (vs.length * 1) ++ List.replicate m u ++ cur.toList.drop (vs.length * 1 + (List.replicate m u).length)).toArray, ?_, ?_, ?_⟩
      · have hzr : ∀ wx : World, (zeroValue e).run P wx = .ok z wx := fun wx => run_zero hi hz
        have hadd : (⟨g, 0, none⟩ : Addr).add (vs.length * 1) = ⟨g, vs.length * 1, none⟩ := by unfold Addr.add; split <;> simp_all
        by_cases hm0 : m = 0
        · subst hm0
          have hst' : w.setRow g (cur.toList.take (vs.length * 1) ++ List.replicate 0 u ++ cur.toList.drop (vs.length * 1 + (List.replicate 0 u).length)).toArray = w := by
            have := hst
            simp only [List.replicate_zero, storeCells, Sem.run_pure, Result.ok.injEq, true_and] at this
            exact this.symm
          rw [hst']
          simp [Builtin.append_, run_underlying ht, run_underlying ht2, sizeOf, typeInfo, hi, asInt, asIntOf, hw0, hsize, hcap, storeCells]
        · simp [Builtin.append_, run_underlying ht, run_underlying ht2, sizeOf, typeInfo, hi, asInt, asIntOf, hwrap, hsize, hroom, hbig, hm0, hzr, hzc]
          rw [Nat.mul_one] at hadd hst
          rw [hadd, hst]
          simp
          intro h; exact absurd h hneg
      · refine ⟨by simp, .inr ⟨g, cap, _, by simp, hbg, setRow_heap w g cur _ e _ hg, by simpa using hroom, hcm, ?_, ?_⟩⟩
        · simp only [List.size_toArray, List.length_append, List.length_take, List.length_drop, Array.length_toList]
          omega
        · simp only [Nat.mul_one] at htake ⊢
          rw [htake]
          exact List.take_left
      · exact ⟨rfl, rfl, rfl, by simp [World.setRow], fun k _ hk => setRow_other w g k _ (fun e => hk (by simp [InBlock, Value.ownBlock, e]))⟩
  · have hg : cap < vs.length + m := by omega
    have hn : ¬ (vs.length + m ≤ cap) := hroom
    have h63' : ¬ (9223372036854775807 < ((vs.length : Int) + (m : Int))) := by unfold maxLen at h63; omega
    have h48' : ¬ (281474976710656 < Builtin.nextslicecap (vs.length + m) cap * i.bytes) := by
      have := growslice_fits (need := vs.length + m) (old := cap) (bytes := i.bytes) (by omega) (by rw [hby]; exact hbytes)
      omega
    have hm0 : m ≠ 0 := by omega
    have hzr : ∀ wx : World, (zeroValue e).run P wx = .ok z wx := fun wx => run_zero hi hz
    obtain ⟨g1, g2⟩ := grown cap vs rfl hg
    refine ⟨_, _, ?_, g1, g2⟩
    have hfo : (Builtin.firstCells 1 vs.length (.slice b vs.length cap)).run P w.drew = .ok vs.toArray w.drew := by
      cases b with
      | none =>
        have : vs = [] := by
          cases vs with
          | nil => rfl
          | cons x r => obtain ⟨b, o, e1, _⟩ := hrd 0 x rfl; cases e1
        subst this; rfl
      | some ad =>
        refine run_firstCells_some (P := P) w.drew 1 vs.length ad vs.length cap vs (by omega) (fun j x hj => ?_)
        obtain ⟨b', o', e1, hc⟩ := hrd j x hj
        cases e1
        unfold Addr.add
        split
        · rename_i h0; subst h0; exact hc
        · exact hc
    simp [Builtin.append_, run_underlying ht, run_underlying ht2, sizeOf, typeInfo, hi, asInt, asIntOf, hwrap, hsize, hn, h63', h48', hbig, hm0, hzr, hzc, Question.forced, hfo, newRow, grownCap]
    intro h; exact absurd h hneg

theorem wp_append_run {o : Oper} {a : Act} {K : Act → World → Prop} {Q : Exit → Act → World → Prop} (s x : Operand) (t t2 : TypeId) (ho : o.op = .call { callee := .builtin .append, args := #[s, x], argTypes := #[t, t2] }) (v u : Value) (hs : a.eval s = v) (hx : a.eval x = u)
    {R : Value → World → Prop} (hr : ∃ v' w', (Builtin.append_ #[t, t2] o.type #[v, u]).run P w = .ok v' w' ∧ R v' w') (h : ∀ v' w', R v' w' → K (a.put o.dst v') w') : o.wp P a w K Q := by
  obtain ⟨v', w', h1, h2⟩ := hr
  unfold Oper.wp execOp
  simp only [ho, resolve, invoke, builtin, Sem.run_bind, Sem.run_pure, Result.andThen_ok, List.map_toArray, List.map_cons, List.map_nil, hs, hx, h1]
  exact h v' w' h2

/-- 'append(v, a...)', one cell each, in a plain region and in one that draws its order -/
theorem wpList_append_rd {ops : Array Oper} {rest : List Oper} {o : Oper} {a : Act} {Q : Exit → Act → World → Prop} (hgd : o.guard = none) (s x : Operand) (t : TypeId) (ho : o.op = .call { callee := .builtin .append, args := #[s, x], argTypes := #[t, t] })
    (base : Nat) (e : TypeId) (i : TypeInfo) (z : Value) (bytes : Nat) (ht : P.underlying t = some (.slice e)) (hi : P.info? e = some i) (hz : i.zero = some z) (hsize : i.size = 1) (hby : i.bytes = bytes) (hzs : z.cells.size = 1)
    (v : Value) (vs : List Value) (hown : Own w base e v vs) (hs : a.eval s = v) (ad : Option Addr) (m c : Nat) (us : List Value) (hx : a.eval x = .slice ad m c) (hl : us.length = m) (hr : Rd w ad us) (h1 : ∀ u ∈ us, u.oneCell' = true)
    (h63 : vs.length + m ≤ maxLen) (hbytes : (vs.length + m) * bytes ≤ 140737488355328) (hbase : base ≤ w.heap.size)
    (h : ∀ v' w', Own w' base e v' (vs ++ us) → Touch (InBlock v) w w' → wpList P ops Q rest (a.put o.dst v') w') : wpList P ops Q (o :: rest) a w :=
  wpList_plain hgd fun _ hK => wp_append_run s x t t ho v _ hs hx (R := fun v' w' => Own w' base e v' (vs ++ us) ∧ Touch (InBlock v) w w') (run_append_rd base t _ e i z bytes ht hi hz hsize hby hzs v vs hown ad m c us hl hr h1 h63 hbytes hbase) fun v' w' hh => hK _ _ (h v' w' hh.1 hh.2)
theorem step_append_rd {ops : Array Oper} {o : Oper} {a : Act} {K : Act → World → Prop} {Q : Exit → Act → World → Prop} {E : Prop} (hw : Region.wanted o (yielded ops a.tmps) = true) (s x : Operand) (t : TypeId) (ho : o.op = .call { callee := .builtin .append, args := #[s, x], argTypes := #[t, t] })
    (base : Nat) (e : TypeId) (i : TypeInfo) (z : Value) (bytes : Nat) (ht : P.underlying t = some (.slice e)) (hi : P.info? e = some i) (hz : i.zero = some z) (hsize : i.size = 1) (hby : i.bytes = bytes) (hzs : z.cells.size = 1)
    (v : Value) (vs : List Value) (hown : Own w base e v vs) (hs : a.eval s = v) (ad : Option Addr) (m c : Nat) (us : List Value) (hx : a.eval x = .slice ad m c) (hl : us.length = m) (hr : Rd w ad us) (h1 : ∀ u ∈ us, u.oneCell' = true)
    (h63 : vs.length + m ≤ maxLen) (hbytes : (vs.length + m) * bytes ≤ 140737488355328) (hbase : base ≤ w.heap.size)
    (h : ∀ v' w', Own w' base e v' (vs ++ us) → Touch (InBlock v) w w' → K (a.put o.dst v') w') : if Region.wanted o (yielded ops a.tmps) = true then Oper.wp P o a w K Q else E := by
  rw [if_pos hw]
  exact wp_append_run s x t t ho v _ hs hx (R := fun v' w' => Own w' base e v' (vs ++ us) ∧ Touch (InBlock v) w w') (run_append_rd base t _ e i z bytes ht hi hz hsize hby hzs v vs hown ad m c us hl hr h1 h63 hbytes hbase) fun v' w' hh => h v' w' hh.1 hh.2
/-- the same, the outcome's form laid open -/
theorem step_append_rds {ops : Array Oper} {o : Oper} {a : Act} {K : Act → World → Prop} {Q : Exit → Act → World → Prop} {E : Prop} (hw : Region.wanted o (yielded ops a.tmps) = true) (s x : Operand) (t : TypeId) (ho : o.op = .call { callee := .builtin .append, args := #[s, x], argTypes := #[t, t] })
    (base : Nat) (e : TypeId) (i : TypeInfo) (z : Value) (bytes : Nat) (ht : P.underlying t = some (.slice e)) (hi : P.info? e = some i) (hz : i.zero = some z) (hsize : i.size = 1) (hby : i.bytes = bytes) (hzs : z.cells.size = 1)
    (v : Value) (vs : List Value) (hown : Own w base e v vs) (hs : a.eval s = v) (ad : Option Addr) (m c n' : Nat) (us : List Value) (hx : a.eval x = .slice ad m c) (hl : us.length = m) (hr : Rd w ad us) (h1 : ∀ u ∈ us, u.oneCell' = true) (hn : vs.length + m = n')
    (h63 : n' ≤ maxLen) (hbytes : n' * bytes ≤ 140737488355328) (hbase : base ≤ w.heap.size)
    (h : ∀ a' c' w', Own w' base e (.slice a' n' c') (vs ++ us) → Touch (InBlock v) w w' → K (a.put o.dst (.slice a' n' c')) w') : if Region.wanted o (yielded ops a.tmps) = true then Oper.wp P o a w K Q else E := by
  subst hn
  refine step_append_rd hw s x t ho base e i z bytes ht hi hz hsize hby hzs v vs hown hs ad m c us hx hl hr h1 h63 hbytes hbase fun v' w' ho ht => ?_
  obtain ⟨a', c', rfl, _⟩ := ho.form' (n := vs.length + m) (by simp [hl])
  exact h a' c' w' ho ht
/-- 'append(v, make([]E, n)...)', one cell each -/
theorem wpList_append_zeros {ops : Array Oper} {rest : List Oper} {o : Oper} {a : Act} {Q : Exit → Act → World → Prop} (hgd : o.guard = none) (s x : Operand) (t t2 : TypeId) (ho : o.op = .call { callee := .builtin .append, args := #[s, x], argTypes := #[t, t2] })
    (base : Nat) (e : TypeId) (i : TypeInfo) (z u : Value) (bytes : Nat) (ht : P.underlying t = some (.slice e)) (ht2 : P.underlying t2 = some (.int .i64)) (hi : P.info? e = some i) (hz : i.zero = some z) (hsize : i.size = 1) (hby : i.bytes = bytes) (hzs : z.cells = #[u]) (hu : u.oneCell' = true)
    (v : Value) (vs : List Value) (hown : Own w base e v vs) (hs : a.eval s = v) (m : Nat) (hx : a.eval x = .int .i64 (m : Nat))
    (h63 : vs.length + m ≤ maxLen) (hbytes : (vs.length + m) * bytes ≤ 140737488355328) (hbase : base ≤ w.heap.size)
    (h : ∀ v' w', Own w' base e v' (vs ++ List.replicate m u) → Touch (InBlock v) w w' → wpList P ops Q rest (a.put o.dst v') w') : wpList P ops Q (o :: rest) a w :=
  wpList_plain hgd fun _ hK => wp_append_run s x t t2 ho v _ hs hx (R := fun v' w' => Own w' base e v' (vs ++ List.replicate m u) ∧ Touch (InBlock v) w w') (run_append_zeros base t t2 _ e i z u bytes ht ht2 hi hz hsize hby hzs hu v vs hown m h63 hbytes hbase) fun v' w' hh => hK _ _ (h v' w' hh.1 hh.2)
end
end Go.Proofs.YtpmkegbgbldpnaaGreatDoor
namespace Go.Proofs.YtpmkegbgbldpnaaGreatDoor
open Go Go.RowKit
set_option linter.unusedSimpArgs false

/-- what a type's zero and room are (one cell) -/
theorem one_info {T : TypeId} {k : IntKind} {bytes : Nat} (h : (Tryz.prog.info? T).map (fun i => (i.zero, i.size, i.bytes)) = some (some (.int k 0), 1, bytes)) :
    ∃ i, Tryz.prog.info? T = some i ∧ i.zero = some (.int k 0) ∧ i.size = 1 ∧ i.bytes = bytes := by
  cases hi : Tryz.prog.info? T with
  | none => simp [hi] at h
  | some i =>
    rw [hi] at h
    simp only [Option.map_some, Option.some.injEq, Prod.mk.injEq] at h
    exact ⟨i, rfl, h.1, h.2.1, h.2.2⟩
theorem u8_info : ∃ i, Tryz.prog.info? 5 = some i ∧ i.zero = some (.int .u8 0) ∧ i.size = 1 ∧ i.bytes = 1 := one_info (by kernel_rfl)

theorem made_zeros (n : Nat) : madeCells #[Value.int .u8 0] n = (List.replicate n (Value.int .u8 0)).toArray := by
  apply Array.ext'
  refine List.ext_getElem? (fun j => ?_)
  unfold madeCells
  by_cases hj : j < n
  · simp [hj, List.getElem?_replicate, Nat.mod_one]
  · simp [hj, List.getElem?_replicate]

theorem rd_new (w : World) (T : TypeId) (vs : Array Value) (fr : Nat × Nat) : Rd (w.alloc (.cells vs T fr)) (some ⟨w.heap.size, 0, none⟩) vs.toList := by
  intro i v hi
  refine ⟨_, _, rfl, ?_⟩
  have hh := heap_alloc_new w (.cells vs T fr)
  simp only [World.cell?]; rw [hh, Nat.zero_add]
  simpa using hi
theorem four_cells {x : Nat} (h : x < 4294967296) : #[Value.int IntKind.u8 ((x : Int) % 256), Value.int IntKind.u8 ((x : Int) / 256 % 256), Value.int IntKind.u8 ((x : Int) / 65536 % 256), Value.int IntKind.u8 ((x : Int) / 16777216)].toList = nums .u8 (Rt.four x) := by
  have e0 : (x : Int) % 256 = ((x % 256 : Nat) : Int) := by omega
  have e1 : (x : Int) / 256 % 256 = ((x / 256 % 256 : Nat) : Int) := by omega
  have e2 : (x : Int) / 65536 % 256 = ((x / 65536 % 256 : Nat) : Int) := by omega
  have e3 : (x : Int) / 16777216 = ((x / 16777216 % 256 : Nat) : Int) := by omega
  rw [e0, e1, e2, e3]; rfl
/-- put: numbers behind bytes, in memory of their own -/
def PutPost (w : World) (xs : List Nat) (N : Nat) (e : Ending) (w' : World) : Prop :=
  ∃ a c, e = .returned (.slice a N c) ∧ Own w' w.heap.size 5 (.slice a N c) (nums .u8 xs) ∧ Touch No w w'

set_option maxRecDepth 100000 in
set_option maxHeartbeats 2000000 in
theorem put_any (w : World) (a : Option Addr) (n c : Nat) (b : List Nat) (hb : b.length = n) (hr : Rd w a (nums .u8 b)) (al : Option Addr) (m cl : Nat) (l : List Nat) (hl : l.length = m) (hrl : Rd w al (nums .u32 l)) (hl32 : ∀ x ∈ l, x < 4294967296) (hsz : (n : Int) + 4 * (m : Int) ≤ 100000000000000) (N : Nat) (hN : n + 4 * m = N) :
    Calls Tryz.prog 167 #[.slice a n c, .slice al m cl] w (PutPost w (b ++ l.flatMap Rt.four) N) := by
  have HN := Lib.hid hN
  clear hN
  obtain ⟨I, hi0, hi1, hi2, hi3⟩ := u8_info
  have Hb := Lib.hid hb
  have Hr := Lib.hid hr
  have Hl := Lib.hid hl
  have Hrl := Lib.hid hrl
  have Hl32 := Lib.hid hl32
  have hmk : ∀ wx : World, (Instr.makeSlice 22 (.int .i64 (n : Int)) (.int .i64 ((n : Int) + 4 * (m : Int)))).run Tryz.prog wx = .ok (.slice (some ⟨wx.heap.size, 0, none⟩) n (n + 4 * m)) (wx.alloc (.cells (List.replicate (n + 4 * m) (Value.int .u8 0)).toArray 5)) := fun wx => by
    have := run_make (P := Tryz.prog) wx 22 5 I (.int .u8 0) Tryz.underlying22 hi0 hi1 .i64 .i64 (n : Int) ((n : Int) + 4 * (m : Int)) (by omega) (by omega) (by rw [hi3]; omega) (by omega)
    rw [this, hi2, Int.toNat_natCast, show ((n : Int) + 4 * (m : Int)).toNat = n + 4 * m by omega, Nat.mul_one]
    show Result.ok _ (wx.alloc (.cells (madeCells #[Value.int .u8 0] _) _)) = _
    rw [made_zeros]
  have hmul : IntKind.i64.wrap (4 * (m : Int)) = 4 * (m : Int) := IntWalk.i64_in _ (by omega)
  have hadd : IntKind.i64.wrap ((n : Int) + 4 * (m : Int)) = (n : Int) + 4 * (m : Int) := IntWalk.i64_in _ (by omega)
  have Hi := Lib.hid (And.intro hi0 (And.intro hi1 (And.intro hi2 hi3)))
  clear hb hr hl hrl hl32 hi0 hi1 hi2 hi3
  go_enter Tryz.func167, Tryz.ntmps167
  go_wp2_with (refine wpList_copy_splice rfl _ _ _ _ rfl 5 Tryz.underlying22 (by kernel_rfl) (some ⟨w.heap.size, 0, none⟩) a n (n + 4 * m) n c ?hd ?hs w.heap.size 0 (List.replicate (n + 4 * m) (Value.int .u8 0)) 5 (heap_alloc_new w _) (nums .u8 b) ?c1 ?c2 ?c3 (nums_one _ _) w.heap.size w ?c4 (Nat.le_refl _) ?_)
  case hd => rfl
  case hs => rfl
  case c1 => rw [nums_length, Hb.out]; exact (Nat.min_self n).symm
  case c2 =>
    intro h0
    rw [nums_length] at h0
    obtain ⟨g0, o0, ea, _⟩ := Hr.out.num (i := 0) h0
    refine ⟨_, ea, fun j v hj => ?_⟩
    obtain ⟨g', o', e', hc⟩ := Hr.out j v hj
    rw [ea] at e'; cases e'
    rw [add_off]
    exact ((Touch.refl No w).alloc _).cell id hc
  case c3 => rw [nums_length, Hb.out, List.length_replicate]; omega
  case c4 => exact (Below.refl _ w).alloc (Nat.le_refl _) _
  intro w2 HG2 hB2
  have t2 : Touch No w w2 := (Touch.of_below hB2).mono (fun k hk f => absurd hk (Nat.not_lt.2 f))
  have o2 : Own w2 w.heap.size 5 (.slice (some ⟨w.heap.size, 0, none⟩) n (n + 4 * m)) (nums .u8 b) := by
    have hg := HG2.out
    have hl : (nums .u8 b).length = n := by rw [nums_length, Hb.out]
    refine ⟨by omega, .inr ⟨w.heap.size, n + 4 * m, _, by rw [hl], Nat.le_refl _, hg, by omega, by unfold maxLen; omega, ?_, ?_⟩⟩
    · rw [List.size_toArray]; simp only [Go.splice, List.take_zero, List.nil_append, Nat.zero_add, List.length_append, List.length_drop, List.length_replicate]; omega
    · rw [hl]; simp only [Go.splice, List.take_zero, List.nil_append, Nat.zero_add]
      rw [Nat.mul_one, ← hl]; exact List.take_left
  have O2 := Lib.hid o2
  have T2 := Lib.hid t2
  clear HG2 hB2 t2 o2 hmk hmul hadd
  go_wp2
  go_loopg [5, 22] m (fun g s5 s22 wr => ∃ (k : Nat) (v : Value), k + g = m ∧ s22 = .int .i64 ((k : Nat) : Int) ∧ s5 = v ∧ Hid (Own wr w.heap.size 5 v (nums .u8 (b ++ (l.take k).flatMap Rt.four))) ∧ Hid (Touch No w wr))
  case atStart => exact ⟨0, _, by omega, rfl, rfl, by rw [List.take_zero, List.flatMap_nil, List.append_nil]; exact O2.out, T2.out⟩
  case round =>
    obtain ⟨k, v, hkg, rfl, rfl, O, T⟩ := hrel
    cases gk with
    | zero =>
      obtain rfl : k = m := by omega
      have hO := O.out
      rw [List.take_of_length_le (by rw [Hl.out]; exact Nat.le_refl _)] at hO
      have HO := Lib.hid hO
      clear hO
      go_wp2
      go_ret
      have h4 : ∀ q : List Nat, (q.flatMap Rt.four).length = q.length * 4 := fun q => by
        induction q with
        | nil => rfl
        | cons y q ih => rw [List.flatMap_cons, List.length_append, ih, Rt.four_length, List.length_cons]; omega
      obtain ⟨a', c', rfl, _⟩ := HO.out.form' (n := N) (by rw [nums_length, List.length_append, h4, Hb.out, Hl.out, ← HN.out]; omega)
      exact ⟨a', c', rfl, HO.out, T.out⟩
    | succ g =>
      have hlt : (k : Int) < (m : Nat) := by omega
      have hkl : k < l.length := by rw [Hl.out]; omega
      obtain ⟨gl, ol, rfl, hcl⟩ := (Hrl.out.no T.out).num hkl
      have hx32 := Hl32.out (l.getD k 0) (by rw [List.getD_eq_getElem?_getD, List.getElem?_eq_getElem hkl]; exact List.getElem_mem hkl)
      have hnext : Hid (b ++ (l.take (k + 1)).flatMap Rt.four = (b ++ (l.take k).flatMap Rt.four) ++ Rt.four (l.getD k 0)) := by
        show _ = _
        rw [List.take_succ_eq_append_getElem hkl, List.flatMap_append, List.flatMap_cons, List.flatMap_nil, List.append_nil, List.append_assoc, List.getD_eq_getElem?_getD, List.getElem?_eq_getElem hkl]; rfl
      obtain ⟨x, hx⟩ : ∃ x, l.getD k 0 = x := ⟨_, rfl⟩
      rw [hx] at hcl hx32 hnext
      have Hkl := Lib.hid hkl
      clear hx hkl
      have hlen : (nums .u8 (b ++ (l.take k).flatMap Rt.four)).length = n + 4 * k := by
        have h4 : ∀ q : List Nat, (q.flatMap Rt.four).length = q.length * 4 := fun q => by
          induction q with
          | nil => rfl
          | cons y q ih => rw [List.flatMap_cons, List.length_append, ih, Rt.four_length, List.length_cons]; omega
        rw [nums_length, List.length_append, h4, Hb.out, List.length_take, Hl.out]; omega
      have Hlen := Lib.hid hlen
      have hwr := T.out.size
      clear hlen
      go_wp2_with (refine wpList_append_rd rfl _ _ _ rfl w.heap.size 5 I (.int .u8 0) 1 Tryz.underlying22 Hi.out.1 Hi.out.2.1 Hi.out.2.2.1 Hi.out.2.2.2 rfl _ (nums .u8 (b ++ (l.take k).flatMap Rt.four)) (O.out.touch ((Touch.refl No wr).alloc _) (fun _ _ _ f => f)) rfl (some ⟨wr.heap.size, 0, none⟩) 4 4 (nums .u8 (Rt.four x)) rfl rfl ?hrd (nums_one _ _) (by rw [Hlen.out]; unfold maxLen; omega) (by rw [Hlen.out]; omega) (by simp; omega) ?_)
      case hrd =>
        rw [← four_cells hx32]
        exact rd_new wr _ _ _
      intro v' w3 own3 t3
      have O3 := Lib.hid own3
      have T3 := Lib.hid t3
      clear own3 t3
      go_wp2
      go_roundg g
      case measure => omega
      case rel =>
        refine ⟨k + 1, _, by omega, by go_num, rfl, ?_, ?_⟩
        · show Own _ _ _ _ _
          rw [hnext.out, nums_append]
          exact O3.out
        · exact (T.out.alloc _).then T3.out (fun i hi e => by
            have := (O.out.block e).1
            omega)

/-- PutFour: a number behind bytes -/
theorem putFour_any (w : World) (a : Option Addr) (n c : Nat) (b : List Nat) (hb : b.length = n) (hr : Rd w a (nums .u8 b)) (x : Nat) (hx : x < 4294967296) (hsz : (n : Int) ≤ 99999999999996) (N : Nat) (hN : n + 4 = N) :
    Calls Tryz.prog 69 #[.slice a n c, .int .u32 (x : Nat)] w (PutPost w (b ++ Rt.four x) N) := by
  have h1 : ∀ y ∈ [x], y < 4294967296 := by
    intro y hy
    have e : y = x := by simpa using hy
    rw [e]; exact hx
  have hc := put_any (w.alloc (.cells #[.int .u32 (x : Nat)] 24)) a n c b hb (hr.no ((Touch.refl No w).alloc _)) (some ⟨w.heap.size, 0, none⟩) 1 1 [x] rfl (rd_new w 24 #[.int .u32 (x : Nat)] _) h1 (by omega) N (by omega)
  rw [show [x].flatMap Rt.four = Rt.four x by simp] at hc
  have Hc := Lib.hid hc
  clear hc hb hr
  go_enter Tryz.func69, Tryz.ntmps69
  go_wp2_with fail
  refine Hc.out.mono ?_
  rintro e w2 ⟨a', c', rfl, ho, t⟩
  have Ho := Lib.hid (ho.mono (base' := w.heap.size) (by simp))
  have Ht := Lib.hid t
  clear ho t
  go_wp2
  go_ret
  exact ⟨a', c', rfl, Ho.out, ((Touch.refl No w).alloc _).trans Ht.out⟩

/-! ### four, GetFour -/
theorem or_shift {a b k : Nat} (h : a < 2 ^ k) : a ||| b * 2 ^ k = a + b * 2 ^ k := by
  rw [Nat.or_comm, Nat.add_comm, Nat.mul_comm]
  exact (Nat.two_pow_add_eq_or_of_lt h b).symm
set_option maxHeartbeats 2000000 in
theorem four_any (w : World) (a : Option Addr) (n c : Nat) (b : List Nat) (hb : b.length = n) (hn : 4 ≤ n) (hr : Rd w a (nums .u8 b)) (hlt : ∀ x ∈ b, x < 256) :
    Calls Tryz.prog 247 #[.slice a n c] w fun e w' => e = .returned (.int .u32 (Rt.unfour b : Nat)) ∧ Touch No w w' := by
  have hb256 : ∀ i, b.getD i 0 < 256 := fun i => by
    rw [List.getD_eq_getElem?_getD]
    cases hq : b[i]? with
    | none => simp
    | some z => exact hlt z (List.mem_of_getElem? hq)
  obtain ⟨g, o, rfl, c0⟩ := hr.num (i := 0) (by omega)
  obtain ⟨g1, o1, e1, c1⟩ := hr.num (i := 1) (by omega)
  obtain ⟨g2, o2, e2, c2⟩ := hr.num (i := 2) (by omega)
  obtain ⟨g3, o3, e3, c3⟩ := hr.num (i := 3) (by omega)
  cases e1; cases e2; cases e3
  have h0 := hb256 0
  have h1 := hb256 1
  have h2 := hb256 2
  have h3 := hb256 3
  have hval : Hid (b.getD 0 0 + 256 * b.getD 1 0 + 65536 * b.getD 2 0 + 16777216 * b.getD 3 0 = Rt.unfour b) := rfl
  clear hb256 hlt
  generalize b.getD 0 0 = x0 at *
  generalize b.getD 1 0 = x1 at *
  generalize b.getD 2 0 = x2 at *
  generalize b.getD 3 0 = x3 at *
  rw [Nat.add_zero] at c0
  have hn4 : (4 : Int) ≤ (n : Nat) := by omega
  have Hr := Lib.hid hr
  clear hr hb
  go_enter Tryz.func247, Tryz.ntmps247
  go_wp2_with fail
  go_quiet (fail)
  go_wp2
  have e1 : (x1 : Int) * 256 = ((x1 * 256 : Nat) : Int) := by omega
  have e2 : (x2 : Int) * 65536 = ((x2 * 65536 : Nat) : Int) := by omega
  have e3 : (x3 : Int) * 16777216 = ((x3 * 16777216 : Nat) : Int) := by omega
  have o1 : x0 ||| x1 * 256 = x0 + x1 * 256 := or_shift (k := 8) (by omega)
  have o2 : (x0 + x1 * 256) ||| x2 * 65536 = x0 + x1 * 256 + x2 * 65536 := or_shift (k := 16) (by omega)
  have o3 : (x0 + x1 * 256 + x2 * 65536) ||| x3 * 16777216 = x0 + x1 * 256 + x2 * 65536 + x3 * 16777216 := or_shift (k := 24) (by omega)
  have s1 : bits BinOp.or .u32 (x0 : Int) ((x1 : Int) * 256) = ((x0 + x1 * 256 : Nat) : Int) := by
    rw [e1, u32_or_nat x0 (x1 * 256) (by omega) (by omega), o1]
  have s2 : bits BinOp.or .u32 ((x0 + x1 * 256 : Nat) : Int) ((x2 : Int) * 65536) = ((x0 + x1 * 256 + x2 * 65536 : Nat) : Int) := by
    rw [e2, u32_or_nat (x0 + x1 * 256) (x2 * 65536) (by omega) (by omega), o2]
  have s3 : bits BinOp.or .u32 ((x0 + x1 * 256 + x2 * 65536 : Nat) : Int) ((x3 : Int) * 16777216) = ((x0 + x1 * 256 + x2 * 65536 + x3 * 16777216 : Nat) : Int) := by
    rw [e3, u32_or_nat (x0 + x1 * 256 + x2 * 65536) (x3 * 16777216) (by omega) (by omega), o3]
  rw [s1, s2, s3]
  go_ret
  exact ⟨by
    show Ending.returned (.int .u32 _) = _
    rw [← hval.out]; congr 2; omega, (Touch.refl No w).drewN _⟩
def GetPost (w : World) (b : List Nat) (e : Ending) (w' : World) : Prop := e = .returned (.tuple #[.int .u32 (if b.length < 4 then 0 else Rt.unfour b : Nat), .int .i64 (if b.length < 4 then 5 else 0 : Nat)]) ∧ Touch No w w'
theorem getFour_any (w : World) (a : Option Addr) (n c : Nat) (b : List Nat) (hb : b.length = n) (hmax : (n : Int) ≤ 9223372036854775807) (hr : Rd w a (nums .u8 b)) (hlt : ∀ x ∈ b, x < 256) :
    Calls Tryz.prog 223 #[.slice a n c] w (GetPost w b) := by
  by_cases hn : n < 4
  · have hn' : (n : Int) < 4 := by omega
    have Fin : Hid (∀ wx, Touch No w wx → GetPost w b (.returned (.tuple #[.int .u32 0, .int .i64 5])) wx) := fun wx t => by
      refine ⟨?_, t⟩
      rw [if_pos (by omega), if_pos (by omega)]; rfl
    clear hn hb hr hlt
    go_enter Tryz.func223, Tryz.ntmps223
    go_wp2
    go_ret2
    exact Fin.out _ (Touch.refl _ _)
  · have hn' : ¬ (n : Int) < 4 := by omega
    have hc := four_any w a n c b hb (by omega) hr hlt
    have Hc := Lib.hid hc
    have Fin : Hid (∀ wx, Touch No w wx → GetPost w b (.returned (.tuple #[.int .u32 (Rt.unfour b : Nat), .int .i64 0])) wx) := fun wx t => by
      refine ⟨?_, t⟩
      rw [if_neg (by omega), if_neg (by omega)]; rfl
    clear hn hb hr hlt hc
    go_enter Tryz.func223, Tryz.ntmps223
    go_wp2_with fail
    refine Hc.out.mono ?_
    rintro e w2 ⟨rfl, t2⟩
    have T2 := Lib.hid t2
    clear t2
    go_wp2
    go_ret2
    exact Fin.out _ T2.out
end Go.Proofs.YtpmkegbgbldpnaaGreatDoor
