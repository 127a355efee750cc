/-
  append of a slice that reads as a list (nil or not), and of so many zeros. No program in sight.
-/
import Derived.Test.YtnjdcpbaippdlaaBase
import Derived.IntWalk
namespace Go.Proofs.Ytnjdcpbaippdlaa
open Go Go.RowKit
set_option linter.unusedSimpArgs false

theorem Own.rd {w : World} {base : Nat} {T : TypeId} {a : Option Addr} {n c : Nat} {vs : List Value} (h : Own w base T (.slice a n c) vs) : Rd w a vs := by
  obtain ⟨a', c', e, _, hr, _⟩ := h.form
  cases e; exact hr
section
variable {P : Program} {w : World}

/-- 'append(v, a...)', one cell each -/
theorem run_append_rd (base : Nat) (t ty e : TypeId) (i : TypeInfo) (z : Value) (bytes : Nat) (ht : P.underlying t = some (.slice e)) (hi : P.info? e = some i) (hz : i.zero = some z) (hsize : i.size = 1) (hby : i.bytes = bytes) (hzs : z.cells.size = 1)
    (v : Value) (vs : List Value) (hown : Own w base e v vs) (a : Option Addr) (m c : Nat) (us : List Value) (hl : us.length = m) (hr : Rd w a us) (h1 : ∀ u ∈ us, u.oneCell' = true)
    (h63 : vs.length + m ≤ maxLen) (hbytes : (vs.length + m) * bytes ≤ 140737488355328) (hbase : base ≤ w.heap.size) :
    ∃ v' w', (Builtin.append_ #[t, t] ty #[v, .slice a m c]).run P w = .ok v' w' ∧ Own w' base e v' (vs ++ us) ∧ Touch (InBlock v) w w' := by
  cases a with
  | some ad =>
    have hnews : ∀ j u, us[j]? = some u → w.cell? (ad.add j) = some u := fun j u hj => by
      obtain ⟨b, o, e1, hc⟩ := hr j u hj
      cases e1
      unfold Addr.add
      split
      · rename_i h0; subst h0; exact hc
      · exact hc
    obtain ⟨v', w', h2, h3, h4, _⟩ := run_append_own (P := P) w base t ty e i z 1 bytes ht hi hz hsize hby hzs (by decide) v vs.length vs hown ad m c us (by omega) hnews h1 h63 hbytes hbase
    refine ⟨v', w', h2, ?_, (Touch.refl _ w).grown h4 (fun k hk _ => hk)⟩
    rw [Own, List.length_append, hl]; exact h3
  | none =>
    have hus : us = [] := by
      cases us with
      | nil => rfl
      | cons u r => obtain ⟨b, o, e1, _⟩ := hr 0 u rfl; cases e1
    subst hus
    obtain rfl : m = 0 := by simpa using hl.symm
    obtain ⟨b, cap, rfl, hcap, _, _, _⟩ := hown.form
    refine ⟨.slice b vs.length cap, w, ?_, by rw [List.append_nil]; exact hown, Touch.refl _ _⟩
    cases b <;> simp [Builtin.append_, run_underlying ht, sizeOf, typeInfo, hi, Builtin.lenOf, hcap, Builtin.firstCells, storeCells]

theorem zeroCells_one (z : Value) (u : Value) (hzs : z.cells = #[u]) (n : Nat) : Builtin.zeroCells z.cells n = (List.replicate n u).toArray := by
  rw [hzs]
  apply Array.ext'
  unfold Builtin.zeroCells
  refine List.ext_getElem? (fun j => ?_)
  by_cases hj : j < n
  · simp [hj, List.getElem?_replicate, Nat.mod_one]
  · simp [hj, List.getElem?_replicate]
theorem run_zero {e : TypeId} {i : TypeInfo} {z : Value} (hi : P.info? e = some i) (hz : i.zero = some z) : (zeroValue e).run P w = .ok z w := by
  simp [zeroValue, typeInfo, hi, hz]

/-- 'append(v, make([]E, n)...)', one cell each -/
theorem run_append_zeros (base : Nat) (t t2 ty e : TypeId) (i : TypeInfo) (z u : Value) (bytes : Nat) (ht : P.underlying t = some (.slice e)) (ht2 : P.underlying t2 = some (.int .i64)) (hi : P.info? e = some i) (hz : i.zero = some z) (hsize : i.size = 1) (hby : i.bytes = bytes) (hzs : z.cells = #[u]) (hu : u.oneCell' = true)
    (v : Value) (vs : List Value) (hown : Own w base e v vs) (m : Nat)
    (h63 : vs.length + m ≤ maxLen) (hbytes : (vs.length + m) * bytes ≤ 140737488355328) (hbase : base ≤ w.heap.size) :
    ∃ v' w', (Builtin.append_ #[t, t2] ty #[v, .int .i64 (m : Nat)]).run P w = .ok v' w' ∧ Own w' base e v' (vs ++ List.replicate m u) ∧ Touch (InBlock v) w w' := by
  have hmm : (m : Int) ≤ 9223372036854775807 := by unfold maxLen at h63; omega
  have hwrap : IntKind.i64.wrap (m : Int) = (m : Int) := IntWalk.i64_in _ (by omega)
  have hneg : ¬ ((m : Int) < 0) := by omega
  have hw0 : IntKind.i64.wrap 0 = 0 := rfl
  have hmb : m * bytes ≤ 140737488355328 := Nat.le_trans (Nat.mul_le_mul_right _ (by omega)) hbytes
  have hbig : ¬ (281474976710656 < (m : Int) * (i.bytes : Int)) := by
    have h : m * i.bytes ≤ 140737488355328 := by rw [hby]; exact hmb
    have e2 : (m : Int) * (i.bytes : Int) = ((m * i.bytes : Nat) : Int) := by push_cast; rfl
    rw [e2]; omega
  have hzc := zeroCells_one z u hzs
  have grown : ∀ (old : Nat) (olds : List Value), olds = vs → old < vs.length + m →
      Own (w.drew.alloc (.cells (olds.toArray ++ (List.replicate m u).toArray ++ Builtin.zeroCells z.cells (grownCap w (vs.length + m) old e - (vs.length + m))) e)) base e
        (.slice (some ⟨w.heap.size, 0, none⟩) (vs.length + m) (grownCap w (vs.length + m) old e)) (vs ++ List.replicate m u) ∧
      Touch (InBlock v) w (w.drew.alloc (.cells (olds.toArray ++ (List.replicate m u).toArray ++ Builtin.zeroCells z.cells (grownCap w (vs.length + m) old e - (vs.length + m))) e)) := by
    intro old olds ho _
    subst ho
    have hge := grownCap_ge w (olds.length + m) old e
    have hcm : grownCap w (olds.length + m) old e ≤ maxLen := grownCap_le_maxLen w (olds.length + m) old e h63
    have hlen : (olds ++ List.replicate m u).length = olds.length + m := by simp
    refine ⟨⟨by rw [hlen]; omega, .inr ⟨w.heap.size, _, _, by rw [hlen], hbase, heap_alloc_new w.drew _, by rw [hlen]; exact hge, hcm, ?_, ?_⟩⟩, (Touch.refl _ w).drew.alloc _⟩
    · simp only [Array.size_append, List.size_toArray, size_zeroCells, hzs, List.length_replicate]
      show olds.length + m + (_ - (olds.length + m)) * 1 = _ * 1
      omega
    · rw [Nat.mul_one]
      simp only [Array.toList_append, List.append_assoc]
      rw [← List.append_assoc]
      exact List.take_left
  obtain ⟨b, cap, rfl, hcap, hrd, hb, hmax⟩ := hown.form
  by_cases hroom : vs.length + m ≤ cap
  · rcases hown.2 with ⟨h0, hvs⟩ | ⟨g, cap', cur, h0, hbg, hg, hnc, hcm, hcs, htake⟩
    · have hvs : vs.length = 0 := hvs
      have hb0 : b = none := by simp at h0; exact h0.1
      have hc0 : cap = 0 := by simp at h0; exact h0.2.2
      subst hb0 hc0
      obtain rfl : m = 0 := by omega
      refine ⟨.slice none vs.length 0, w, ?_, by simpa using hown, Touch.refl _ _⟩
      simp [Builtin.append_, run_underlying ht, run_underlying ht2, sizeOf, typeInfo, hi, asInt, asIntOf, hw0, hsize, hvs]
    · cases h0
      have hfit : vs.length * 1 + (List.replicate m u).length ≤ cur.size := by rw [hcs]; simp; omega
      have hst := run_storeCells_at P g (vs.length * 1) e (List.replicate m u) 0 cur w hg (by simpa using hfit) (fun x hx => by rw [List.eq_of_mem_replicate hx]; exact hu)
      simp only [Nat.add_zero] at hst
      refine ⟨.slice (some ⟨g, 0, none⟩) (vs.length + m) cap, w.setRow g (cur.toList.take (vs.length * 1) ++ List.replicate m u ++ cur.toList.drop (vs.length * 1 + (List.replicate m u).length)).toArray, ?_, ?_, ?_⟩
      · have hzr : ∀ wx : World, (zeroValue e).run P wx = .ok z wx := fun wx => run_zero hi hz
        have hadd : (⟨g, 0, none⟩ : Addr).add (vs.length * 1) = ⟨g, vs.length * 1, none⟩ := by unfold Addr.add; split <;> simp_all
        by_cases hm0 : m = 0
        · subst hm0
          have hst' : w.setRow g (cur.toList.take (vs.length * 1) ++ List.replicate 0 u ++ cur.toList.drop (vs.length * 1 + (List.replicate 0 u).length)).toArray = w := by
            have := hst
            simp only [List.replicate_zero, storeCells, Sem.run_pure, Result.ok.injEq, true_and] at this
            exact this.symm
          rw [hst']
          simp [Builtin.append_, run_underlying ht, run_underlying ht2, sizeOf, typeInfo, hi, asInt, asIntOf, hw0, hsize, hcap, storeCells]
        · simp [Builtin.append_, run_underlying ht, run_underlying ht2, sizeOf, typeInfo, hi, asInt, asIntOf, hwrap, hsize, hroom, hbig, hm0, hzr, hzc]
          rw [Nat.mul_one] at hadd hst
          rw [hadd, hst]
          simp
          intro h; exact absurd h hneg
      · refine ⟨by simp, .inr ⟨g, cap, _, by simp, hbg, setRow_heap w g cur _ e _ hg, by simpa using hroom, hcm, ?_, ?_⟩⟩
        · simp only [List.size_toArray, List.length_append, List.length_take, List.length_drop, Array.length_toList]
          omega
        · simp only [Nat.mul_one] at htake ⊢
          rw [htake]
          exact List.take_left
      · exact ⟨rfl, rfl, rfl, by simp [World.setRow], fun k _ hk => setRow_other w g k _ (fun e => hk (by simp [InBlock, Value.ownBlock, e]))⟩
  · have hg : cap < vs.length + m := by omega
    have hn : ¬ (vs.length + m ≤ cap) := hroom
    have h63' : ¬ (9223372036854775807 < ((vs.length : Int) + (m : Int))) := by unfold maxLen at h63; omega
    have h48' : ¬ (281474976710656 < Builtin.nextslicecap (vs.length + m) cap * i.bytes) := by
      have := growslice_fits (need := vs.length + m) (old := cap) (bytes := i.bytes) (by omega) (by rw [hby]; exact hbytes)
      omega
    have hm0 : m ≠ 0 := by omega
    have hzr : ∀ wx : World, (zeroValue e).run P wx = .ok z wx := fun wx => run_zero hi hz
    obtain ⟨g1, g2⟩ := grown cap vs rfl hg
    refine ⟨_, _, ?_, g1, g2⟩
    have hfo : (Builtin.firstCells 1 vs.length (.slice b vs.length cap)).run P w.drew = .ok vs.toArray w.drew := by
      cases b with
      | none =>
        have : vs = [] := by
          cases vs with
          | nil => rfl
          | cons x r => obtain ⟨b, o, e1, _⟩ := hrd 0 x rfl; cases e1
        subst this; rfl
      | some ad =>
        refine run_firstCells_some (P := P) w.drew 1 vs.length ad vs.length cap vs (by omega) (fun j x hj => ?_)
        obtain ⟨b', o', e1, hc⟩ := hrd j x hj
        cases e1
        unfold Addr.add
        split
        · rename_i h0; subst h0; exact hc
        · exact hc
    simp [Builtin.append_, run_underlying ht, run_underlying ht2, sizeOf, typeInfo, hi, asInt, asIntOf, hwrap, hsize, hn, h63', h48', hbig, hm0, hzr, hzc, Question.forced, hfo, newRow, grownCap]
    intro h; exact absurd h hneg

theorem wp_append_run {o : Oper} {a : Act} {K : Act → World → Prop} {Q : Exit → Act → World → Prop} (s x : Operand) (t t2 : TypeId) (ho : o.op = .call { callee := .builtin .append, args := #[s, x], argTypes := #[t, t2] }) (v u : Value) (hs : a.eval s = v) (hx : a.eval x = u)
    {R : Value → World → Prop} (hr : ∃ v' w', (Builtin.append_ #[t, t2] o.type #[v, u]).run P w = .ok v' w' ∧ R v' w') (h : ∀ v' w', R v' w' → K (a.put o.dst v') w') : o.wp P a w K Q := by
  obtain ⟨v', w', h1, h2⟩ := hr
  unfold Oper.wp execOp
  simp only [ho, resolve, invoke, builtin, Sem.run_bind, Sem.run_pure, Result.andThen_ok, List.map_toArray, List.map_cons, List.map_nil, hs, hx, h1]
  exact h v' w' h2

/-- 'append(v, a...)', one cell each, in a plain region and in one that draws its order -/
theorem wpList_append_rd {ops : Array Oper} {rest : List Oper} {o : Oper} {a : Act} {Q : Exit → Act → World → Prop} (hgd : o.guard = none) (s x : Operand) (t : TypeId) (ho : o.op = .call { callee := .builtin .append, args := #[s, x], argTypes := #[t, t] })
    (base : Nat) (e : TypeId) (i : TypeInfo) (z : Value) (bytes : Nat) (ht : P.underlying t = some (.slice e)) (hi : P.info? e = some i) (hz : i.zero = some z) (hsize : i.size = 1) (hby : i.bytes = bytes) (hzs : z.cells.size = 1)
    (v : Value) (vs : List Value) (hown : Own w base e v vs) (hs : a.eval s = v) (ad : Option Addr) (m c : Nat) (us : List Value) (hx : a.eval x = .slice ad m c) (hl : us.length = m) (hr : Rd w ad us) (h1 : ∀ u ∈ us, u.oneCell' = true)
    (h63 : vs.length + m ≤ maxLen) (hbytes : (vs.length + m) * bytes ≤ 140737488355328) (hbase : base ≤ w.heap.size)
    (h : ∀ v' w', Own w' base e v' (vs ++ us) → Touch (InBlock v) w w' → wpList P ops Q rest (a.put o.dst v') w') : wpList P ops Q (o :: rest) a w :=
  wpList_plain hgd fun _ hK => wp_append_run s x t t ho v _ hs hx (R := fun v' w' => Own w' base e v' (vs ++ us) ∧ Touch (InBlock v) w w') (run_append_rd base t _ e i z bytes ht hi hz hsize hby hzs v vs hown ad m c us hl hr h1 h63 hbytes hbase) fun v' w' hh => hK _ _ (h v' w' hh.1 hh.2)
theorem step_append_rd {ops : Array Oper} {o : Oper} {a : Act} {K : Act → World → Prop} {Q : Exit → Act → World → Prop} {E : Prop} (hw : Region.wanted o (yielded ops a.tmps) = true) (s x : Operand) (t : TypeId) (ho : o.op = .call { callee := .builtin .append, args := #[s, x], argTypes := #[t, t] })
    (base : Nat) (e : TypeId) (i : TypeInfo) (z : Value) (bytes : Nat) (ht : P.underlying t = some (.slice e)) (hi : P.info? e = some i) (hz : i.zero = some z) (hsize : i.size = 1) (hby : i.bytes = bytes) (hzs : z.cells.size = 1)
    (v : Value) (vs : List Value) (hown : Own w base e v vs) (hs : a.eval s = v) (ad : Option Addr) (m c : Nat) (us : List Value) (hx : a.eval x = .slice ad m c) (hl : us.length = m) (hr : Rd w ad us) (h1 : ∀ u ∈ us, u.oneCell' = true)
    (h63 : vs.length + m ≤ maxLen) (hbytes : (vs.length + m) * bytes ≤ 140737488355328) (hbase : base ≤ w.heap.size)
    (h : ∀ v' w', Own w' base e v' (vs ++ us) → Touch (InBlock v) w w' → K (a.put o.dst v') w') : if Region.wanted o (yielded ops a.tmps) = true then Oper.wp P o a w K Q else E := by
  rw [if_pos hw]
  exact wp_append_run s x t t ho v _ hs hx (R := fun v' w' => Own w' base e v' (vs ++ us) ∧ Touch (InBlock v) w w') (run_append_rd base t _ e i z bytes ht hi hz hsize hby hzs v vs hown ad m c us hl hr h1 h63 hbytes hbase) fun v' w' hh => h v' w' hh.1 hh.2
/-- the same, the outcome's form laid open -/
theorem step_append_rds {ops : Array Oper} {o : Oper} {a : Act} {K : Act → World → Prop} {Q : Exit → Act → World → Prop} {E : Prop} (hw : Region.wanted o (yielded ops a.tmps) = true) (s x : Operand) (t : TypeId) (ho : o.op = .call { callee := .builtin .append, args := #[s, x], argTypes := #[t, t] })
    (base : Nat) (e : TypeId) (i : TypeInfo) (z : Value) (bytes : Nat) (ht : P.underlying t = some (.slice e)) (hi : P.info? e = some i) (hz : i.zero = some z) (hsize : i.size = 1) (hby : i.bytes = bytes) (hzs : z.cells.size = 1)
    (v : Value) (vs : List Value) (hown : Own w base e v vs) (hs : a.eval s = v) (ad : Option Addr) (m c n' : Nat) (us : List Value) (hx : a.eval x = .slice ad m c) (hl : us.length = m) (hr : Rd w ad us) (h1 : ∀ u ∈ us, u.oneCell' = true) (hn : vs.length + m = n')
    (h63 : n' ≤ maxLen) (hbytes : n' * bytes ≤ 140737488355328) (hbase : base ≤ w.heap.size)
    (h : ∀ a' c' w', Own w' base e (.slice a' n' c') (vs ++ us) → Touch (InBlock v) w w' → K (a.put o.dst (.slice a' n' c')) w') : if Region.wanted o (yielded ops a.tmps) = true then Oper.wp P o a w K Q else E := by
  subst hn
  refine step_append_rd hw s x t ho base e i z bytes ht hi hz hsize hby hzs v vs hown hs ad m c us hx hl hr h1 h63 hbytes hbase fun v' w' ho ht => ?_
  obtain ⟨a', c', rfl, _⟩ := ho.form' (n := vs.length + m) (by simp [hl])
  exact h a' c' w' ho ht
/-- 'append(v, make([]E, n)...)', one cell each -/
theorem wpList_append_zeros {ops : Array Oper} {rest : List Oper} {o : Oper} {a : Act} {Q : Exit → Act → World → Prop} (hgd : o.guard = none) (s x : Operand) (t t2 : TypeId) (ho : o.op = .call { callee := .builtin .append, args := #[s, x], argTypes := #[t, t2] })
    (base : Nat) (e : TypeId) (i : TypeInfo) (z u : Value) (bytes : Nat) (ht : P.underlying t = some (.slice e)) (ht2 : P.underlying t2 = some (.int .i64)) (hi : P.info? e = some i) (hz : i.zero = some z) (hsize : i.size = 1) (hby : i.bytes = bytes) (hzs : z.cells = #[u]) (hu : u.oneCell' = true)
    (v : Value) (vs : List Value) (hown : Own w base e v vs) (hs : a.eval s = v) (m : Nat) (hx : a.eval x = .int .i64 (m : Nat))
    (h63 : vs.length + m ≤ maxLen) (hbytes : (vs.length + m) * bytes ≤ 140737488355328) (hbase : base ≤ w.heap.size)
    (h : ∀ v' w', Own w' base e v' (vs ++ List.replicate m u) → Touch (InBlock v) w w' → wpList P ops Q rest (a.put o.dst v') w') : wpList P ops Q (o :: rest) a w :=
  wpList_plain hgd fun _ hK => wp_append_run s x t t2 ho v _ hs hx (R := fun v' w' => Own w' base e v' (vs ++ List.replicate m u) ∧ Touch (InBlock v) w w') (run_append_zeros base t t2 _ e i z u bytes ht ht2 hi hz hsize hby hzs hu v vs hown m h63 hbytes hbase) fun v' w' hh => hK _ _ (h v' w' hh.1 hh.2)
end
end Go.Proofs.Ytnjdcpbaippdlaa
