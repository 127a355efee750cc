/-
  The plain mathematics of a disk of sectors, second part: a stretch of a piece.
  The plain mathematics of a disk of sectors, third part: the writes to a sector, turned one by one.
  Package disks by its own text: to.
  Whole arrays and structs loaded out of, and stored into, a stretch of cells. No program in sight.
  Package disks by its own text: Fail.
-/
import Derived.Test.YtpmkegbgbldpnaaGreatDoorK02
import Derived.Laws.Bits64b
import Derived.Laws.BitsAllLaws
import Derived.Test.YtpmkegbgbldpnaaGreatDoorK04
import Derived.Outline
import Derived.Deep.MidRow
import Derived.StillTailTactics
import Derived.Deep.RegionLaw
namespace Go.Proofs.YtpmkegbgbldpnaaGreatDoor
open Go Go.RowKit

theorem splice_get (l : List Value) (o : Nat) (vs : List Value) (h : o + vs.length ≤ l.length) (i : Nat) : (splice l o vs)[i]? = if i < o then l[i]? else if i < o + vs.length then vs[i - o]? else l[i]? := by
  have ht : (l.take o).length = o := by rw [List.length_take]; omega
  simp only [splice, List.append_assoc]
  by_cases h1 : i < o
  · rw [if_pos h1, List.getElem?_append_left (by rw [ht]; exact h1), List.getElem?_take_of_lt h1]
  · rw [if_neg h1, List.getElem?_append_right (by rw [ht]; omega), ht]
    by_cases h2 : i < o + vs.length
    · rw [if_pos h2, List.getElem?_append_left (by omega)]
    · rw [if_neg h2, List.getElem?_append_right (by omega), List.getElem?_drop]
      congr 1; omega
/-- a stretch of a piece of a row of equal pieces -/
theorem flat_part {α : Type} {f : α → List Value} {k : Nat} (hf : ∀ x, (f x).length = k) (l : List α) (n j : Nat) (x y : α) (cs r : List Value) (hx : l[n]? = some x) (hj : j + cs.length ≤ k) (hy : f y = splice (f x) j cs) : splice (l.flatMap f ++ r) (n * k + j) cs = (l.set n y).flatMap f ++ r := by
  have hn : n < l.length := by
    rcases Nat.lt_or_ge n l.length with h | h
    · exact h
    · rw [List.getElem?_eq_none h] at hx; cases hx
  have hlen : (l.flatMap f).length = l.length * k := flat_length hf l
  have hnk : n * k + k ≤ l.length * k := by have := Nat.mul_le_mul_right k hn; rw [Nat.succ_mul] at this; exact this
  have hlx := hf x
  have hly := hf y
  rw [← flat_set hf l n y r hn]
  refine List.ext_getElem? (fun i => ?_)
  rw [splice_get _ _ _ (by rw [List.length_append]; omega), splice_get _ _ _ (by rw [List.length_append]; omega), hly]
  by_cases h1 : i < n * k
  · rw [if_pos (by omega), if_pos h1]
  · by_cases h2 : i < n * k + k
    · rw [if_neg h1, if_pos h2, hy, splice_get _ _ _ (by omega)]
      have hg : (f x)[i - n * k]? = (l.flatMap f ++ r)[i]? := by
        rw [List.getElem?_append_left (by omega), ← flat_get hf l n (i - n * k) x hx (by omega)]
        congr 1; omega
      rw [hg]
      by_cases h3 : i < n * k + j
      · rw [if_pos h3, if_pos (by omega)]
      · by_cases h4 : i < n * k + j + cs.length
        · rw [if_neg h3, if_pos h4, if_neg (by omega), if_pos (by omega)]
          congr 1; omega
        · rw [if_neg h3, if_neg h4, if_neg (by omega), if_neg (by omega)]
    · rw [if_neg (by omega), if_neg (by omega), if_neg h1, if_neg h2]
/-- what a torn write leaves of a sector -/
theorem torn_cells (y : Dk.Wr) (s : Dk.Sec) (hy : y.b.length = 64) (hs : s.b.length = 64) : secCells (Dk.tornS y s) = splice (secCells s) 0 (nums .u8 (y.b.take 32)) := by
  have e : (Dk.tornS y s).b.length = 64 := by simp [Dk.tornS, hy, hs]
  rw [secCells, secCells, bytes_cells e, bytes_cells hs, splice, List.take_zero, List.nil_append, nums_length, List.length_take, hy]
  simp only [Dk.tornS, nums_append, Nat.zero_add]
  rw [List.drop_append_of_le_length (by rw [nums_length, hs]; decide), List.append_assoc]
  congr 1
  simp [nums]
/-- what a kept write leaves of a sector -/
theorem kept_cells (y : Dk.Wr) (s : Dk.Sec) (hy : y.b.length = 64) (hs : s.b.length = 64) : secCells ⟨y.b, s.bad⟩ = splice (secCells s) 0 (nums .u8 y.b) := by
  rw [secCells, secCells, bytes_cells hy, bytes_cells hs, splice, List.take_zero, List.nil_append, nums_length, hy, Nat.zero_add]
  rw [List.drop_append_of_le_length (by rw [nums_length, hs]; decide), List.drop_of_length_le (by rw [nums_length, hs]; decide), List.nil_append]
/-! ### bits -/
theorem shift_one (x j : Nat) : x / 2 ^ j % 2 = if x.testBit j then 1 else 0 := by
  rw [Nat.testBit_eq_decide_div_mod_eq]
  have := Nat.mod_two_eq_zero_or_one (x / 2 ^ j)
  rcases this with h | h <;> simp [h]
theorem bit_test (x j : Nat) (hx : x < 18446744073709551616) : (bits BinOp.and .u64 ((x : Int) / 2 ^ j) 1 == 1) = x.testBit j := by
  have e : ((x : Int) / 2 ^ j) = ((x / 2 ^ j : Nat) : Int) := by norm_cast
  have hl : x / 2 ^ j < 18446744073709551616 := Nat.lt_of_le_of_lt (Nat.div_le_self _ _) hx
  have h := bits_and_u64_nat (x / 2 ^ j) 1 hl (by decide)
  rw [e]
  rw [show ((1 : Nat) : Int) = 1 from rfl] at h
  rw [h, nat_mask1, shift_one]
  cases x.testBit j <;> rfl
theorem and_small {a b : Nat} (ha : a ≤ 1) (hb : b ≤ 1) : bits BinOp.and .i64 (a : Int) (b : Int) = ((a &&& b : Nat) : Int) := by
  rcases Nat.le_one_iff_eq_zero_or_eq_one.1 ha with rfl | rfl <;> rcases Nat.le_one_iff_eq_zero_or_eq_one.1 hb with rfl | rfl <;> decide
end Go.Proofs.YtpmkegbgbldpnaaGreatDoor
namespace Go.Proofs.YtpmkegbgbldpnaaGreatDoor
open Go Go.RowKit
namespace Dk
/-- each of these places turned -/
def turn (f : Wr → Wr) (l : List Wr) (is : List Nat) : List Wr := is.foldl (fun l i => l.modify i f) l
theorem turn_get (f : Wr → Wr) : ∀ (is : List Nat) (l : List Wr) (j : Nat), is.Nodup → (turn f l is)[j]? = if j ∈ is then l[j]?.map f else l[j]?
  | [], l, j, _ => by simp [turn]
  | i :: r, l, j, h => by
    have hi : i ∉ r := (List.nodup_cons.1 h).1
    show (turn f (l.modify i f) r)[j]? = _
    rw [turn_get f r _ j (List.nodup_cons.1 h).2, List.getElem?_modify]
    by_cases hj : j ∈ r
    · have : i ≠ j := fun e => hi (e ▸ hj)
      simp [hj, this]
    · by_cases e : i = j
      · subst e; simp [hj]
      · have e' : ¬ j = i := fun h => e h.symm
        simp [hj, e, e']
theorem turn_at (f : Wr → Wr) (l : List Wr) (is : List Nat) (k i : Nat) (h : is.Nodup) (hk : is[k]? = some i) : (turn f l (is.take k))[i]? = l[i]? := by
  rw [turn_get f _ l i (List.Nodup.sublist (List.take_sublist _ _) h), if_neg]
  intro hm
  obtain ⟨j, hj, e⟩ := List.mem_iff_getElem.1 hm
  have hj' := hj
  rw [List.length_take] at hj'
  rw [List.getElem_take] at e
  have hk' : k < is.length := by
    rcases Nat.lt_or_ge k is.length with h | h
    · exact h
    · rw [List.getElem?_eq_none h] at hk; cases hk
  have e2 : is[k] = i := by rw [List.getElem?_eq_getElem hk'] at hk; exact Option.some.inj hk
  have := (List.getElem_inj h).1 (e.trans e2.symm)
  omega
end Dk
end Go.Proofs.YtpmkegbgbldpnaaGreatDoor
namespace Go.Proofs.YtpmkegbgbldpnaaGreatDoor
open Go Go.RowKit

end Go.Proofs.YtpmkegbgbldpnaaGreatDoor
namespace Go.Proofs.YtpmkegbgbldpnaaGreatDoor
open Go Go.RowKit

section
variable {P : Program}
/-- a whole array or struct that stands at g from off on -/
theorem run_load_range {w : World} {g o n : Nat} {ty : TypeId} {vs : List Value} (hr : w.rangeAt g o vs) (hn : vs.length = n) {d : TypeDesc} (hu : P.underlying ty = some d) (hd : (match d with | .struct _ | .array _ _ => true | _ => false) = true)
    (hi : (P.info? ty).map (·.size) = some n) : (loadVar ty ⟨g, o, none⟩).run P w = .ok (.agg vs.toArray) w := by
  have hl : (loadCells ⟨g, o, none⟩ vs.length).run P w = .ok vs.toArray w :=
    run_loadCells_list (P := P) w ⟨g, o, none⟩ _ (fun j v hv => by rw [add_off]; exact hr j v hv)
  rw [hn] at hl
  cases hq : P.info? ty with
  | none => simp [hq] at hi
  | some i =>
    have hs : i.size = n := by simpa [hq] using hi
    have hagg : (isAgg ty).run P w = .ok true w := by
      unfold isAgg
      rw [Sem.run_bind, run_underlying hu w]
      cases d <;> simp_all
    simp [loadVar, Sem.run_bind, hagg, sizeOf, typeInfo, hq, hs, hl]
theorem wpList_load_range {ops : Array Oper} {rest : List Oper} {o : Oper} {a : Act} {w : World} {Q : Exit → Act → World → Prop} (hgd : o.guard = none) (ty : TypeId) (x : Operand) (hop : o.op = .load ty x) (n g off : Nat) (vs : List Value) (hr : w.rangeAt g off vs) (hn : vs.length = n)
    (hx : a.eval x = .pointer (some ⟨g, off, none⟩)) (d : TypeDesc) (hu : P.underlying ty = some d) (hd : (match d with | .struct _ | .array _ _ => true | _ => false) = true)
    (hi : (P.info? ty).map (·.size) = some n) (h : wpList P ops Q rest (a.put o.dst (.agg vs.toArray)) w) : wpList P ops Q (o :: rest) a w :=
  wpList_plain hgd fun _ hK => by
    unfold Oper.wp execOp
    simp only [hop, hx, Instr.loadAt, Instr.sureAddr, Sem.run_bind, Sem.run_pure, Result.andThen_ok, run_load_range hr hn hu hd hi]
    exact hK _ _ h
end
theorem Row.range {w : World} {g : Nat} {T : TypeId} {l : List Value} (h : Row w g T l) {o : Nat} {vs : List Value} (hv : ∀ j v, vs[j]? = some v → l[o + j]? = some v) : w.rangeAt g o vs := fun j v hj => by
  rw [h.cell]; exact hv j v hj
end Go.Proofs.YtpmkegbgbldpnaaGreatDoor
namespace Go.Proofs.YtpmkegbgbldpnaaGreatDoor
open Go Go.RowKit
set_option linter.unusedSimpArgs false

theorem splice_go (l : List Value) (o : Nat) (vs : List Value) : Go.splice l o vs = splice l o vs := by
  unfold Go.splice splice; first | rfl | simp | rw [List.append_assoc]
/-- a write that waits, in the row of those -/
theorem waits_at {w : World} {T : TypeId} {aw : Option Addr} {n cw : Nat} {xs : List Dk.Wr} (h : w.ownsRow 0 T 66 (.slice aw n cw) n (xs.flatMap wrCells)) {i : Nat} {y : Dk.Wr} (hn : xs.length = n) (hy : xs[i]? = some y) :
    ∃ gw, aw = some ⟨gw, 0, none⟩ ∧ w.rangeAt gw (i * 66) (wrCells y) := by
  have hi : i < n := by
    rcases Nat.lt_or_ge i xs.length with h | h
    · omega
    · rw [List.getElem?_eq_none h] at hy; cases hy
  obtain ⟨g, c, r, hv, _, hR, _⟩ := ownRow h (by intro e; cases e; omega)
  cases hv
  refine ⟨g, rfl, hR.range (fun j v hj => ?_)⟩
  have hj66 : j < 66 := by
    rcases Nat.lt_or_ge j (wrCells y).length with h | h
    · rw [wrCells_length] at h; exact h
    · rw [List.getElem?_eq_none h] at hj; cases hj
  rw [List.getElem?_append_left (by
    rw [flat_length wrCells_length, hn]
    have := Nat.mul_le_mul_right 66 hi
    omega), flat_get wrCells_length xs i j y hy hj66]
  exact hj

set_option maxRecDepth 100000 in
set_option maxHeartbeats 2000000 in
theorem fail_in (w : World) (d : Nat) (D : Dk.Disk) (O : Nat → Prop) (keep : Nat) (torn : Int) (hk : keep < 18446744073709551616) (h : DiskAt w d D O) (hw : D.waits.length ≤ 1000000) :
    Calls Tryz.prog 25 #[.pointer (some ⟨d, 0, none⟩), .int .u64 (keep : Nat), .int .i64 torn] w fun e w' => ∃ d', e = .returned (.tuple #[.pointer (some ⟨d', 0, none⟩), .int .i64 0]) ∧ w.heap.size ≤ d' ∧ DiskAt w' d' (Dk.fail D keep torn) (fun k => w.heap.size ≤ k) ∧ Touch No w w' := by
  have H := Lib.hid h
  have ok := h.ok
  obtain ⟨gs, gn, cs, cn, rs, rn, vw, Di, o1, o2, o3, o4⟩ := h
  obtain ⟨aw, cw, rfl, hcw1, hcw2⟩ := rowSlice Di.waits
  have e0 : askSays D.seen.length 0 = 0 := by
    have := ok.pos
    unfold askSays; rw [if_pos (by omega)]
  have hc0 := Di.c0
  have hc2 := Di.c2
  have HDi := Lib.hid Di
  have Hok := Lib.hid ok
  have Hk := Lib.hid hk
  have Hd := Lib.hid Di.lt
  clear Di ok hk o1 o2 o3 o4
  go_enter Tryz.func25, Tryz.ntmps25
  go_wp2_with fail
  refine (ask_any w d D O _ H.out).mono ?_
  rintro e w' ⟨rfl, rfl⟩
  rw [e0]
  go_wp2_with fail
  refine (clone_secs w gs cs D.sure rs HDi.out.sure (by rw [Hok.out.len]; exact Hok.out.top)).mono ?_
  rintro e w1 ⟨g', c', r', rfl, k1, k2, k3, k4, k5⟩
  have hc2' := k5.cell (id : No d → False) hc2
  have K1 := Lib.hid k1
  have K2 := Lib.hid k2
  have K3 := Lib.hid k3
  have K4 := Lib.hid k4
  have K5 := Lib.hid k5
  clear k1 k2 k3 k4 k5 hc2 hc0
  obtain ⟨m, Em⟩ : ∃ m, D.waits.length = m := ⟨_, rfl⟩
  obtain ⟨q, Eq⟩ : ∃ q, D.sure.length = q := ⟨_, rfl⟩
  have hq : q ≤ 16384 := by rw [← Eq, Hok.out.len]; exact Hok.out.top
  rw [Em] at hc2' hw hcw1
  rw [Eq]
  have HEm := Lib.hid Em
  have HEq := Lib.hid Eq
  clear Em Eq
  go_wp2
  go_loopg [28] m (fun g s28 wr => ∃ k : Nat, k + g = m ∧ s28 = .int .i64 ((k : Nat) : Int) ∧ Hid (Touch No w wr) ∧ Hid (Row wr g' 117 ((Dk.failed keep torn D.sure 0 (D.waits.take k)).flatMap secCells ++ r')))
  case atStart => exact ⟨0, by omega, rfl, K5.out, K2.out⟩
  case round =>
    obtain ⟨k, hkg, rfl, T, R⟩ := hrel
    cases gk with
    | zero =>
      obtain rfl : k = m := by omega
      have hfo := Dk.failed_ok (keep := keep) (torn := torn) (D.waits.take k) D.sure 0 Hok.out.sure (fun z hz => by rw [Hok.out.len]; exact Hok.out.waits z (List.mem_of_mem_take hz))
      rw [List.take_of_length_le (by rw [HEm.out]; exact Nat.le_refl _)] at hfo
      have hR := R.out
      rw [List.take_of_length_le (by rw [HEm.out]; exact Nat.le_refl _)] at hR
      have lq : (Dk.failed keep torn D.sure 0 D.waits).length = q := by rw [hfo.2, HEq.out]
      have hq1 : 1 ≤ q := by rw [← HEq.out, Hok.out.len]; exact Hok.out.pos
      have hof := of_is wr g' c' _ r' hR (by rw [lq]; exact hq1) (by rw [lq]; exact hq) (by rw [lq, ← HEq.out]; exact K3.out) K4.out hfo.1
      rw [lq] at hof
      have Hof := Lib.hid hof
      clear hof hfo hR lq
      go_wp2_with fail
      refine Hof.out.mono ?_
      rintro e w2 ⟨d', rfl, j1, j2, j3⟩
      have J1 := Lib.hid j1
      have J2 := Lib.hid j2
      have J3 := Lib.hid j3
      clear j1 j2 j3
      go_wp2
      go_ret2
      have hsz := T.out.size
      refine ⟨d', rfl, Nat.le_trans hsz J1.out, ?_, T.out.trans J3.out⟩
      obtain ⟨gs1, gn1, cs1, cn1, rs1, rn1, vw1, h1, q1, q2, q3, q4⟩ := J2.out
      have P : ∀ k, (k = g' ∨ wr.heap.size ≤ k) → w.heap.size ≤ k := fun k hk => by
        have := K1.out; omega
      exact ⟨gs1, gn1, cs1, cn1, rs1, rn1, vw1, h1, P _ q1, P _ q2, P _ q3, fun k hk => P _ (q4 k hk)⟩
    | succ g =>
      have hlt : (k : Int) < (m : Nat) := by omega
      obtain ⟨y, hy⟩ : ∃ y, D.waits[k]? = some y := ⟨_, List.getElem?_eq_getElem (by rw [HEm.out]; omega)⟩
      have hyo := Hok.out.waits y (List.mem_of_getElem? hy)
      obtain ⟨L, hL⟩ : ∃ L, L = Dk.failed keep torn D.sure 0 (D.waits.take k) := ⟨_, rfl⟩
      have hLo := Dk.failed_ok (keep := keep) (torn := torn) (D.waits.take k) D.sure 0 Hok.out.sure (fun z hz => by rw [Hok.out.len]; exact Hok.out.waits z (List.mem_of_mem_take hz))
      rw [← hL, HEq.out] at hLo
      have hstep : Dk.failed keep torn D.sure 0 (D.waits.take (k + 1)) = Dk.failStep keep torn L k y := by
        have hk' : k < D.waits.length := by rw [HEm.out]; omega
        have e1 : D.waits.take (k + 1) = D.waits.take k ++ [y] := by
          rw [List.take_add_one, hy]; rfl
        rw [e1, Dk.failed_snoc, ← hL]
        congr 1
        rw [List.length_take]; omega
      have hyn : y.n < q := by rw [← HEq.out, Hok.out.len]; exact hyo.n
      obtain ⟨gw, rfl, hyr⟩ := waits_at (rowTouch HDi.out.waits T.out (fun _ _ f => f)) rfl hy
      obtain ⟨WA, hWA⟩ : ∃ WA : Array Value, WA = (wrCells y).toArray := ⟨_, rfl⟩
      have hst : Sem.run Tryz.prog (storeCells ⟨wr.heap.size, 0, none⟩ WA.toList) (wr.alloc (.cells zWr 115)) = .ok () ((wr.alloc (.cells zWr 115)).setRow wr.heap.size WA) := by
        have hg := Row.new wr 115 zWr
        have hst := run_storeCells_at Tryz.prog wr.heap.size 0 115 WA.toList 0 zWr.toList.toArray _ hg (by simp [hWA, wrCells_length, zWr]) (fun v hv => wrCells_one y v (by simpa [hWA] using hv))
        simp only [Nat.add_zero] at hst
        rw [hst]
        congr 2
        simp [hWA, zWr, wrCells_length]
      have hrow1 : Row ((wr.alloc (.cells zWr 115)).setRow wr.heap.size WA) wr.heap.size 115 (wrCells y) := by
        have := (Row.new wr 115 zWr).setRow (wrCells y)
        rwa [← hWA] at this
      have tW : Touch No wr ((wr.alloc (.cells zWr 115)).setRow wr.heap.size WA) := ((Touch.refl No wr).alloc _).setRow (g := wr.heap.size) (fun h => absurd h (Nat.lt_irrefl _)) _
      obtain ⟨W1, hW1⟩ : ∃ W1, W1 = (wr.alloc (.cells zWr 115)).setRow wr.heap.size WA := ⟨_, rfl⟩
      rw [← hW1] at hst hrow1 tW
      have hcn : W1.cell? ⟨wr.heap.size, 0, none⟩ = some (.int .i64 (y.n : Nat)) := by rw [hrow1.cell]; exact wr_n y
      have hb0 : g' ≠ wr.heap.size := fun e => by
        have := R.out.lt; omega
      have hrowL := R.out.touch tW id
      rw [← hL] at hrowL
      clear hW1
      have hynI : (y.n : Int) < (q : Nat) := by omega
      have hz1 := zWr_zero
      have hz3 := zWr_size
      have hz5 := zWr_ne
      have hWs : WA.size = 66 := by rw [hWA]; exact wrCells_length y
      have hi67 : (Tryz.prog.info? 115).map (·.size) = some 66 := by kernel_rfl
      have Hy := Lib.hid hy
      have Hyo := Lib.hid hyo
      have HL := Lib.hid hL
      have HLo := Lib.hid hLo
      have Hstep := Lib.hid hstep
      have Hyr := Lib.hid hyr
      have HWA := Lib.hid hWA
      have Hrow1 := Lib.hid hrow1
      have HrowL := Lib.hid hrowL
      have TW := Lib.hid tW
      clear hy hyo hL hLo hstep hyr hWA hrow1 hrowL tW
      have hwalk : Hid (Below w.heap.size w W1.drew) := ((T.out.trans TW.out).drew.mono (G := No) (fun _ _ f => f)).below (Nat.le_refl _) (fun _ _ f => f)
      have hwg := K1.out
      by_cases ht : (k : Int) = torn
      · have hx : L[y.n]? = some (Dk.at_ L y.n) := Dk.at_get (by rw [HLo.out.2]; exact hyn)
        have hxo := HLo.out.1 _ (Dk.at_mem (l := L) (n := y.n) (by rw [HLo.out.2]; exact hyn))
        have hfin : Go.splice (L.flatMap secCells ++ r') (y.n * 65) (nums .u8 (y.b.take 32)) = (Dk.failStep keep torn L k y).flatMap secCells ++ r' := by
          have := flat_part secCells_length L y.n 0 _ (Dk.tornS y (Dk.at_ L y.n)) (nums .u8 (y.b.take 32)) r' hx (by rw [nums_length, List.length_take]; omega) (torn_cells y _ Hyo.out.b.len hxo.b.len)
          rw [Dk.failStep, if_pos ht]
          rw [Nat.add_zero] at this
          exact (splice_go _ _ _).trans this
        have Hfin := Lib.hid hfin
        clear hx hxo hfin
        subst ht
        go_wp2_with (refine wpList_load_range rfl _ _ rfl 66 gw (k * 66) (wrCells y) Hyr.out (wrCells_length y) rfl _ Tryz.underlying115 rfl hi67 ?_; rw [← HWA.out])
        have hsrc : Hid (∀ j v, (nums .u8 (y.b.take 32))[j]? = some v → W1.cell? ⟨wr.heap.size, 1 + j, none⟩ = some v) := fun j v hj => by
          have hj32 : j < 32 := by
            rcases Nat.lt_or_ge j (nums .u8 (y.b.take 32)).length with h | h
            · rw [nums_length, List.length_take] at h; omega
            · rw [List.getElem?_eq_none h] at hj; cases hj
          rw [Hrow1.out.cell, wrCells, bytes_cells Hyo.out.b.len, Nat.add_comm 1 j, List.getElem?_cons_succ, List.getElem?_append_left (by rw [nums_length, Hyo.out.b.len]; omega)]
          rw [nums, List.getElem?_map] at hj ⊢
          rwa [List.getElem?_take_of_lt hj32] at hj
        go_still_tail 6, (by kernel_rfl)
        refine wpList_copy_splice rfl _ _ _ _ rfl 5 Tryz.underlying22 (by kernel_rfl) (some ⟨g', y.n * 65, none⟩) (some ⟨wr.heap.size, 1, none⟩) 32 64 32 64 ?hd ?hs g' (y.n * 65) (L.flatMap secCells ++ r') 117 HrowL.out (nums .u8 (y.b.take 32)) ?c1 ?c2 ?c3 (nums_one _ _) w.heap.size w hwalk.out K1.out ?_
        case hd => rfl
        case hs => rfl
        case c1 => rw [nums_length, List.length_take, Hyo.out.b.len]; rfl
        case c2 => exact fun _ => ⟨rfl, _, rfl, fun j v hj => by rw [add_off]; exact hsrc.out j v hj⟩
        case c3 =>
          rw [nums_length, List.length_take, List.length_append, flat_length secCells_length, HLo.out.2]
          have := Nat.mul_le_mul_right 65 hyn
          omega
        intro w2 HG2 hB2
        have HB2 := Lib.hid hB2
        clear hB2
        rw [Hfin.out] at HG2
        go_wp2
        go_roundg g
        case measure => omega
        case rel =>
          refine ⟨k + 1, by omega, by go_num, (Touch.of_below HB2.out).mono (fun k hk f => absurd hk (Nat.not_lt.2 f)), ?_⟩
          show Row _ _ _ _
          rw [Hstep.out]
          exact HG2.out
      · have ht' : ((k : Int) == torn) = false := by simpa using ht
        have Ht := Lib.hid ht
        clear ht
        by_cases hbit : keep.testBit (k % 64) = true
        · have hb1 : (bits BinOp.and IntKind.u64 ((keep : Int) / 2 ^ (k % 64)) 1 == 1) = true := by rw [bit_test _ _ Hk.out]; exact hbit
          have hi65 : (Tryz.prog.info? 113).map (·.size) = some 64 := by kernel_rfl
          have lyb : (nums .u8 y.b).length = 64 := by rw [nums_length, Hyo.out.b.len]
          have hrg : Hid (W1.rangeAt wr.heap.size 1 (nums .u8 y.b)) := Hrow1.out.range (fun j v hj => by
            rw [wrCells, bytes_cells Hyo.out.b.len, Nat.add_comm 1 j, List.getElem?_cons_succ, List.getElem?_append_left (by
              rcases Nat.lt_or_ge j (nums .u8 y.b).length with h | h
              · exact h
              · rw [List.getElem?_eq_none h] at hj; cases hj)]
            exact hj)
          have Lyb := Lib.hid lyb
          clear lyb
          obtain ⟨s, hs⟩ : ∃ s, s = Dk.at_ L y.n := ⟨_, rfl⟩
          have hyL : y.n < L.length := by rw [HLo.out.2]; exact hyn
          have hx : L[y.n]? = some s := by rw [hs]; exact Dk.at_get hyL
          have hso : s.Ok := by rw [hs]; exact HLo.out.1 _ (Dk.at_mem hyL)
          have hfit : y.n * 65 + (nums .u8 y.b).length ≤ (L.flatMap secCells ++ r').length := by
            rw [Lyb.out, List.length_append, flat_length secCells_length, HLo.out.2]
            have := Nat.mul_le_mul_right 65 hyn
            omega
          have hsp : splice (L.flatMap secCells ++ r') (y.n * 65) (nums .u8 y.b) = (L.set y.n ⟨y.b, s.bad⟩).flatMap secCells ++ r' := by
            have := flat_part secCells_length L y.n 0 _ ⟨y.b, s.bad⟩ (nums .u8 y.b) r' hx (by rw [Lyb.out]; decide) (kept_cells y s Hyo.out.b.len hso.b.len)
            rw [Nat.add_zero] at this
            exact this
          have hx1 : (L.set y.n ⟨y.b, s.bad⟩)[y.n]? = some ⟨y.b, s.bad⟩ := List.getElem?_set_self hyL
          have hfin : ((L.set y.n ⟨y.b, s.bad⟩).flatMap secCells ++ r').set (y.n * 65 + 64) (.int .i64 ((s.bad &&& y.elder : Nat) : Int)) = (Dk.failStep keep torn L k y).flatMap secCells ++ r' := by
            rw [flat_cell secCells_length _ y.n 64 _ ⟨y.b, s.bad &&& y.elder⟩ _ r' hx1 (by decide) (by
              rw [secCells, secCells, List.set_append_right _ _ (by simp)]; simp), List.set_set, Dk.failStep, if_neg Ht.out, if_pos hbit, Dk.upd, Dk.keptS, ← hs]
          obtain ⟨W2, hW2⟩ : ∃ W2, W1.setRow g' (splice (L.flatMap secCells ++ r') (y.n * 65) (nums .u8 y.b)).toArray = W2 := ⟨_, rfl⟩
          have tW2 : Touch (One g') W1 W2 := by rw [← hW2]; exact Touch.setRow (F := One g') (Touch.refl _ W1) (fun _ => rfl) _
          have hrow2 : Row W2 g' 117 ((L.set y.n ⟨y.b, s.bad⟩).flatMap secCells ++ r') := by rw [← hsp, ← hW2]; exact HrowL.out.setRow _
          have hcb : W2.cell? ⟨g', y.n * 65 + 64, none⟩ = some (.int .i64 (s.bad : Nat)) := by
            rw [hrow2.cell, List.getElem?_append_left (by
              rw [flat_length secCells_length, List.length_set]
              have := Nat.mul_le_mul_right 65 hyL
              omega), flat_get secCells_length _ y.n 64 _ hx1 (by decide)]
            exact sec_bad _
          have hfb := hrow2.soft (y.n * 65 + 64)
          have hce : W2.cell? ⟨wr.heap.size, 65, none⟩ = some (.int .i64 (y.elder : Nat)) := tW2.cell (fun e => hb0 (show g' = wr.heap.size from e.symm)) (by rw [Hrow1.out.cell]; exact wr_elder y)
          have hand := and_small hso.bad Hyo.out.elder
          have HW2 := Lib.hid hW2
          have Hsp := Lib.hid hsp
          have Hfin := Lib.hid hfin
          have TW2 := Lib.hid tW2
          have Hrow2 := Lib.hid hrow2
          have Hfit := Lib.hid hfit
          clear hs hx hso hsp hx1 hfin hW2 tW2 hrow2 hfit
          go_wp2_with (first
            | (refine wpList_load_range rfl _ _ rfl 66 gw (k * 66) (wrCells y) Hyr.out (wrCells_length y) rfl _ Tryz.underlying115 rfl hi67 ?_; rw [← HWA.out])
            | (refine wpList_load_range rfl _ _ rfl 64 wr.heap.size 1 (nums .u8 y.b) hrg.out Lyb.out rfl _ Tryz.underlying113 rfl hi65 ?_)
            | (refine wpList_store_mid rfl _ _ _ rfl g' (y.n * 65) 117 (L.flatMap secCells ++ r') HrowL.out rfl (nums .u8 y.b) rfl (by rw [Lyb.out]; exact hi65) ?qc1 (nums_one _ _) ?_; rotate_left; rw [HW2.out]))
          case qc1 => exact Hfit.out
          go_still_tail 9, (by kernel_rfl)
          go_wp2
          go_roundg g
          case measure => omega
          case rel =>
            have T1 : Touch No w W2 := (T.out.trans TW.out).then TW2.out (fun i hi e => by
              have := K1.out
              have e' : i = g' := e
              omega)
            refine ⟨k + 1, by omega, by go_num, ?_, ?_⟩
            · exact (T1.drew.setCell (p := ⟨g', y.n * 65 + 64, none⟩) (fun hi => by have := K1.out; exact absurd hi (by show ¬ g' < _; omega)) _)
            · show Row _ _ _ _
              rw [Hstep.out, ← Hfin.out]
              exact Hrow2.out.setCell _ _
        · have hb1 : (bits BinOp.and IntKind.u64 ((keep : Int) / 2 ^ (k % 64)) 1 == 1) = false := by rw [bit_test _ _ Hk.out]; simpa using hbit
          go_wp2_with (refine wpList_load_range rfl _ _ rfl 66 gw (k * 66) (wrCells y) Hyr.out (wrCells_length y) rfl _ Tryz.underlying115 rfl hi67 ?_; rw [← HWA.out])
          go_roundg g
          case measure => omega
          case rel =>
            refine ⟨k + 1, by omega, by go_num, T.out.trans TW.out, ?_⟩
            have := HrowL.out
            show Row _ _ _ _
            rw [Hstep.out, Dk.failStep, if_neg Ht.out, if_neg hbit]
            exact this
end Go.Proofs.YtpmkegbgbldpnaaGreatDoor
