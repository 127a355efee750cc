/-
  Package disks by its own text: Write.
-/
import Derived.Test.YtnffigfafalocaaGreatDoorK03
import Derived.Laws.CopyOwn
import Derived.Deep.RegionHeld3
import Derived.Deep.RegionLawGrows
import Derived.Laws.OwnMore
namespace Go.Proofs.YtnffigfafalocaaGreatDoor
open Go Go.RowKit
set_option linter.unusedSimpArgs false

set_option maxHeartbeats 400000 in
/-- Write of what is no sector's, or of too many bytes -/
theorem write_bad (w : World) (d : Nat) (D : Dk.Disk) (O : Nat → Prop) (n : Int) (a : Option Addr) (l c : Nat) (h : DiskAt w d D O) (hb : ¬ (0 ≤ n ∧ n < D.seen.length) ∨ 64 < l) :
    Calls Tryz.prog 147 #[.pointer (some ⟨d, 0, none⟩), .int .i64 n, .slice a l c] w fun e w' => e = .returned (.int .i64 1) ∧ w = w' := by
  have H := Lib.hid h
  clear h
  by_cases e0 : 0 ≤ n ∧ n < D.seen.length
  · have e1 : askSays D.seen.length n = 0 := by unfold askSays; rw [if_pos e0]
    have e2 : (64 : Int) < (l : Nat) := by
      rcases hb with h | h
      · exact absurd e0 h
      · omega
    clear hb
    go_enter Tryz.func147, Tryz.ntmps147
    go_wp2_with (go_at_call 56; refine (ask_any _ _ _ _ _ H.out).mono ?_; rintro e w' ⟨rfl, rfl⟩; rw [e1])
    go_ret
    exact ⟨rfl, rfl⟩
  · have e1 : askSays D.seen.length n = 1 := by unfold askSays; rw [if_neg e0]
    clear hb e0
    go_enter Tryz.func147, Tryz.ntmps147
    go_wp2_with (go_at_call 56; refine (ask_any _ _ _ _ _ H.out).mono ?_; rintro e w' ⟨rfl, rfl⟩; rw [e1])
    go_ret
    exact ⟨rfl, rfl⟩

def zWr : Array Value := (wrCells ⟨0, Dk.noughts.b, 0⟩).toArray
def zPl : Array Value := #[.int .i64 0]
def zSec : Array Value := (secCells Dk.noughts).toArray
theorem zWr_zero (w : World) : (zeroValue 133).run Tryz.prog w = .ok (.agg zWr) w := by kernel_rfl
theorem zPl_zero (w : World) : (zeroValue 131).run Tryz.prog w = .ok (.agg zPl) w := by kernel_rfl
theorem zSec_zero (w : World) : (zeroValue 122).run Tryz.prog w = .ok (.agg zSec) w := by kernel_rfl
theorem zWr_size : zWr.size = 66 := by kernel_rfl
theorem zPl_size : zPl.size = 1 := by kernel_rfl
theorem zSec_size : zSec.size = 65 := by kernel_rfl
theorem zWr_ne : zWr ≠ #[] := fun h => by have := zWr_size; rw [h] at this; cases this
theorem zPl_ne : zPl ≠ #[] := fun h => by have := zPl_size; rw [h] at this; cases this
theorem zSec_ne : zSec ≠ #[] := fun h => by have := zSec_size; rw [h] at this; cases this

theorem fold_list : ∀ (cs : List Value) (k : Nat) (zs : Array Value), k + cs.length ≤ zs.size → ((cs.zipIdx k).foldl (fun (a : Array Value) x => a.setIfInBounds x.snd x.fst) zs).toList = zs.toList.take k ++ cs ++ zs.toList.drop (k + cs.length)
  | [], k, zs, h => by simp
  | c :: cs, k, zs, h => by
    have h' : k + (cs.length + 1) ≤ zs.size := h
    rw [List.zipIdx_cons, List.foldl_cons, fold_list cs (k + 1) _ (by simp; omega), Array.toList_setIfInBounds]
    have hk : k < zs.toList.length := by simp; omega
    have e1 : (zs.toList.set k c).take (k + 1) = zs.toList.take k ++ [c] := by
      rw [List.take_succ_eq_append_getElem (by simpa using hk), List.take_set_of_le (Nat.le_refl _)]
      simp
    have e2 : (zs.toList.set k c).drop (k + 1 + cs.length) = zs.toList.drop (k + (cs.length + 1)) := by
      rw [List.drop_set_of_lt (by omega)]; congr 1; omega
    rw [e1, e2]; simp
theorem fold_cells (cs : List Value) (zs : Array Value) (h : cs.length ≤ zs.size) : List.foldl (fun (a : Array Value) x => a.setIfInBounds x.snd x.fst) zs cs.zipIdx = (cs ++ zs.toList.drop cs.length).toArray := by
  apply Array.ext'
  have := fold_list cs 0 zs (by simpa using h)
  simpa using this
theorem Touch.setCells {F : Nat → Prop} {a : World} {g : Nat} (hg : g < a.heap.size → F g) : ∀ (vs : List Value) (o : Nat) (w : World), Touch F a w → Touch F a (w.setCells g o vs)
  | [], _, _, h => h
  | v :: r, o, w, h => by
    rw [World.setCells]
    exact Touch.setCells hg r (o + 1) _ (h.setCell (p := ⟨g, o, none⟩) hg v)
theorem Row.setCells {g : Nat} {T : TypeId} : ∀ (vs : List Value) (o : Nat) (w : World) (l : List Value), Row w g T l → o + vs.length ≤ l.length → Row (w.setCells g o vs) g T (splice l o vs)
  | [], o, w, l, h, _ => by simpa [splice, World.setCells] using h
  | v :: r, o, w, l, h, hl => by
    have hl' : o + (r.length + 1) ≤ l.length := hl
    rw [World.setCells]
    have ih := Row.setCells r (o + 1) _ (l.set o v) (h.setCell o v) (by rw [List.length_set]; omega)
    have e : splice (l.set o v) (o + 1) r = splice l o (v :: r) := by
      have hk : o < l.length := by omega
      have e1 : (l.set o v).take (o + 1) = l.take o ++ [v] := by
        rw [List.take_succ_eq_append_getElem (by simpa using hk), List.take_set_of_le (Nat.le_refl _)]
        simp
      have e2 : (l.set o v).drop (o + 1 + r.length) = l.drop (o + (r.length + 1)) := by
        rw [List.drop_set_of_lt (by omega)]; congr 1; omega
      rw [splice, splice, e1, e2]; simp
    rw [← e]; exact ih

/-- 'append(out, x)' of one struct inside a region: out is a row that may grow -/
theorem step_append_row {P : Program} {w : World} {ops : Array Oper} {o : Oper} {a : Act} {K : Act → World → Prop} {Q : Exit → Act → World → Prop} {E : Prop} (hgd : o.guard = none) (s x : Operand) (t : TypeId)
    (ho : o.op = .call { callee := .builtin .append, args := #[s, x], argTypes := #[t, t] })
    (e : TypeId) (i : TypeInfo) (z : Value) (size bytes : Nat) (ht : P.underlying t = some (.slice e)) (hi : P.info? e = some i) (hz : i.zero = some z) (hsize : i.size = size) (hby : i.bytes = bytes) (hzs : z.cells.size = size) (hsz : 0 < size)
    (v : Value) (n : Nat) (vs : List Value) (hown : w.ownsRow 0 e size v n vs) (hs : a.eval s = v) (g : Nat) (news : List Value) (hrd : Row w g e news) (hx : a.eval x = .slice (some ⟨g, 0, none⟩) 1 1) (hl : news.length = size) (h1 : ∀ u ∈ news, u.oneCell' = true)
    (h63 : n + 1 ≤ maxLen) (hbytes : (n + 1) * bytes ≤ 140737488355328)
    (h : ∀ a' c' w', w'.ownsRow 0 e size (.slice a' (n + 1) c') (n + 1) (vs ++ news) → Touch (InBlock v) w w' → (∀ k, InBlock (.slice a' (n + 1) c') k → InBlock v k ∨ w.heap.size ≤ k) → K (a.put o.dst (.slice a' (n + 1) c')) w') :
    if Region.wanted o (yielded ops a.tmps) = true then Oper.wp P o a w K Q else E := by
  have hnews : ∀ j u, news[j]? = some u → w.cell? ((⟨g, 0, none⟩ : Addr).add j) = some u := fun j u hj => by rw [add_off, Nat.zero_add, hrd.cell]; exact hj
  have hlow : ∀ {B : Nat} {w' : World} {v' : Value} {k : Nat} {l : List Value}, w'.ownsRow B e size v' k l → w'.ownsRow 0 e size v' k l := fun ⟨q1, q2⟩ => ⟨q1, q2.imp id (fun ⟨g, cap, cur, r1, _, r2⟩ => ⟨g, cap, cur, r1, Nat.zero_le _, r2⟩)⟩
  rcases hown.2 with ⟨rfl, h0⟩ | ⟨g1, cap, cur, rfl, _, hheap, hcap, hmax, hsz1, htk⟩
  · have hw : Region.wanted o (yielded ops a.tmps) = true := by simp [Region.wanted, hgd]
    rw [if_pos hw]
    refine wp_append_own w s x t ho w.heap.size e i z size bytes ht hi hz hsize hby hzs hsz _ n vs hs ⟨hown.1, Or.inl ⟨rfl, h0⟩⟩ ⟨g, 0, none⟩ 1 1 news hx (by omega) hnews h1 h63 hbytes (Nat.le_refl _) fun v' w' h2 h3 _ => ?_
    obtain ⟨a', c', rfl, _, _⟩ := rowSlice h2
    exact h a' c' w' (hlow h2) ((Touch.refl _ w).grown h3 (fun k hk _ => hk)) (fun k hk => Or.inr (rowBlock h2 hk).1)
  · by_cases hroom : n + 1 ≤ cap
    · have hw : Region.wanted o (yielded ops a.tmps) = true := by simp [Region.wanted, hgd]
      rw [if_pos hw]
      obtain ⟨w', hr, h2, h3⟩ := run_append_fits (P := P) w 0 t o.type e i size ht hi hsize g1 n cap vs hown ⟨g, 0, none⟩ 1 1 news (by omega) hnews h1 hroom
      unfold Oper.wp execOp
      simp only [ho, resolve, invoke, builtin, Sem.run_bind, Sem.run_pure, Result.andThen_ok, List.map_toArray, List.map_cons, List.map_nil, hs, hx, hr]
      exact h _ _ w' h2 ((Touch.refl _ w).grown h3 (fun k hk _ => hk)) (fun k hk => Or.inl hk)
    · refine step_append_grows hgd s x t ho e i z size bytes ht hi hz hsize hby hzs hsz (some ⟨g1, 0, none⟩) n cap vs hs (fun q => by cases q) hown.1 (fun b hb j u hj => ?_) ⟨g, 0, none⟩ 1 1 news hx (by omega) hnews h1 (by omega) h63 hbytes fun v' w' h2 h3 => ?_
      · cases hb
        rw [add_off, Nat.zero_add, (show Row w g1 e cur.toList by rw [Row, Array.toArray_toList]; exact hheap).cell]
        rw [← htk, List.getElem?_take] at hj
        split at hj
        · exact hj
        · cases hj
      · obtain ⟨a', c', rfl, _, _⟩ := rowSlice h2
        exact h a' c' w' (hlow h2) ((Touch.refl _ w).grown h3 (fun k hk _ => by cases hk)) (fun k hk => Or.inr (rowBlock h2 hk).1)

/-- a write as it is built: the sector's number, noughts -/
def wrA (n : Nat) : Array Value := (wrCells ⟨n, Dk.noughts.b, 0⟩).toArray
theorem wr_fold (n : Nat) : Array.foldl (fun cs x => cs.setIfInBounds x.snd x.fst) zWr (zPl.setIfInBounds 0 (Value.int IntKind.i64 (n : Int))).zipIdx 0 1 = wrA n := rfl
theorem wr_copied (n : Nat) (b : List Nat) (hl : b.length ≤ 64) : Go.splice (wrA n).toList 1 (nums .u8 b) = wrCells ⟨n, Dk.pad b, 0⟩ := by
  have e1 : (wrA n).toList = .int .i64 (n : Nat) :: (List.replicate 64 (.int .u8 0) ++ [.int .i64 0]) := rfl
  have hp : (Dk.pad b).length = 64 := by simp [Dk.pad]; omega
  rw [e1, wrCells, bytes_cells hp, Dk.pad, nums_append, Go.splice, nums_length]
  have e2 : nums .u8 (List.replicate (64 - b.length) 0) = List.replicate (64 - b.length) (.int .u8 0) := by simp [nums]
  rw [e2, Nat.add_comm 1, List.drop_succ_cons, List.drop_append_of_le_length (by simp; omega), List.drop_replicate]
  simp
theorem wr_store (n : Nat) (w : World) : Sem.run Tryz.prog (storeCells ⟨w.heap.size, 0, none⟩ (wrA n).toList) (w.alloc (.cells zWr 133)) = .ok () ((w.alloc (.cells zWr 133)).setRow w.heap.size (wrA n)) := by
  have hg := Row.new w 133 zWr
  have hst := run_storeCells_at Tryz.prog w.heap.size 0 133 (wrA n).toList 0 zWr.toList.toArray _ hg (by simp [wrA, wrCells_length, zWr]) (fun v hv => wrCells_one _ v hv)
  simp only [Nat.add_zero] at hst
  rw [hst]
  congr 2
set_option maxRecDepth 100000 in
set_option maxHeartbeats 2000000 in
theorem write_in (w : World) (d : Nat) (D : Dk.Disk) (O : Nat → Prop) (n : Nat) (a : Option Addr) (c : Nat) (b : List Nat) (h : DiskAt w d D O) (hn : n < D.seen.length) (hl : b.length ≤ 64) (hlt : ∀ x ∈ b, x < 256) (hr : Rd w a (nums .u8 b)) (hw : D.waits.length ≤ 1000000) :
    Calls Tryz.prog 147 #[.pointer (some ⟨d, 0, none⟩), .int .i64 (n : Nat), .slice a b.length c] w fun e w' => e = .returned (.int .i64 0) ∧ Touch O w w' ∧ DiskAt w' d (Dk.write D n b) (fun k => O k ∨ w.heap.size ≤ k) := by
  have H := Lib.hid h
  have e1 : askSays D.seen.length n = 0 := by unfold askSays; rw [if_pos (by omega)]
  have g1 : ¬ (64 : Int) < (b.length : Nat) := by omega
  have hz1 := zWr_zero
  have hz2 := zPl_zero
  have hz3 := zWr_size
  have hz4 := zPl_size
  have hz5 := zWr_ne
  have hz6 := zPl_ne
  have hfo := wr_fold n
  have hst := wr_store n
  have hrow : Row ((w.alloc (.cells zWr 133)).setRow w.heap.size (wrA n)) w.heap.size 133 (wrA n).toList := (Row.new w _ zWr).setRow (wrA n).toList
  have Hrow := Lib.hid hrow
  have Hr := Lib.hid hr
  have Hl := Lib.hid hl
  have hbl : Below w.heap.size w ((w.alloc (.cells zWr 133)).setRow w.heap.size (wrA n)) := below_setRow ((Below.refl _ w).alloc (Nat.le_refl _) _) (Nat.le_refl _) _
  have Hbl := Lib.hid hbl
  clear h hrow hr hl hbl
  go_enter Tryz.func147, Tryz.ntmps147
  go_wp2_with (first
    | (go_at_call 56; refine (ask_any _ _ _ _ _ H.out).mono ?_; rintro e w' ⟨rfl, rfl⟩; rw [e1])
    | (refine wpList_copy_splice rfl _ _ _ _ rfl 5 Tryz.underlying39 (by kernel_rfl) (some ⟨w.heap.size, 1, none⟩) a 64 64 b.length c ?hd ?hs w.heap.size 1 (wrA n).toList 133 Hrow.out (nums .u8 b) ?c1 ?c2 ?c3 (nums_one _ _) w.heap.size w Hbl.out (Nat.le_refl _) ?_; (case hd => rfl); (case hs => rfl)))
  case c1 => rw [nums_length]; exact (Nat.min_eq_left Hl.out).symm
  case c2 =>
    intro h0
    rw [nums_length] at h0
    obtain ⟨g0, o0, ea, _⟩ := Hr.out.num (i := 0) h0
    refine ⟨_, ea, fun j v hj => ?_⟩
    obtain ⟨g', o', e', hc⟩ := Hr.out j v hj
    rw [ea] at e'; cases e'
    rw [add_off]
    exact ((Touch.of_below Hbl.out).mono (G := No) (fun k hk f => absurd hk (Nat.not_lt.2 f))).cell id hc
  case c3 => have := Hl.out; rw [nums_length, wrA, List.toList_toArray, wrCells_length]; omega
  intro w2 HG2 hB2
  have t2 : Touch No w w2 := (Touch.of_below hB2).mono (fun k hk f => absurd hk (Nat.not_lt.2 f))
  have hcop : Row w2 w.heap.size 133 (wrCells ⟨n, Dk.pad b, 0⟩) := by
    have := HG2.out
    rw [wr_copied n b Hl.out] at this
    exact this
  obtain ⟨gs, gn, cs, cn, rs, rn, vw, Di, o1, o2, o3, o4⟩ := H.out
  have hp : (Dk.pad b).length = 64 := (Dk.pad_ok Hl.out hlt).len
  obtain ⟨BL, hBL⟩ : ∃ BL : List Value, BL = nums .u8 (Dk.pad b) := ⟨_, rfl⟩
  have lBL : BL.length = 64 := by rw [hBL, nums_length, hp]
  obtain ⟨SA, hSA⟩ : ∃ SA : Array Value, SA = (secCells ⟨Dk.pad b, 0⟩).toArray := ⟨_, rfl⟩
  have sSA : SA.size = 65 := by rw [hSA, List.size_toArray, secCells_length]
  have hfs : List.foldl (fun (cs : Array Value) x => cs.setIfInBounds x.snd x.fst) zSec BL.zipIdx = SA := by
    rw [fold_cells BL zSec (by rw [lBL, zSec_size]; decide), lBL, hBL, hSA, secCells, bytes_cells hp]
    congr 1
  have hrange : w2.rangeAt w.heap.size 1 BL := fun j v hj => by
    rw [hcop.cell, wrCells, bytes_cells hp, Nat.add_comm 1 j, List.getElem?_cons_succ, ← hBL]
    rw [List.getElem?_append_left (by
      by_cases hh : j < BL.length
      · exact hh
      · rw [List.getElem?_eq_none (by omega)] at hj; cases hj)]
    exact hj
  have hthere : w2.there gn (n * 65) 65 := fun j hj => by
    have hs := Di.seen.touch t2 id
    refine ⟨?_, hs.soft _⟩
    rw [hs.cell, List.getElem?_eq_getElem (by
      rw [List.length_append, flat_length secCells_length]
      have := Nat.mul_le_mul_right 65 hn
      omega)]
    rfl
  have hu65 := Tryz.underlying120
  have hi65 : (Tryz.prog.info? 120).map (·.size) = some BL.length := by rw [lBL]; kernel_rfl
  have hi69 : (Tryz.prog.info? 122).map (·.size) = some SA.size := by rw [sSA]; kernel_rfl
  have hstS : Sem.run Tryz.prog (storeCells ⟨gn, n * 65, none⟩ SA.toList) w2.drew = .ok () (w2.drew.setCells gn (n * 65) SA.toList) := by
    have := run_storeCells_cells (P := Tryz.prog) gn (n * 65) SA.toList 0 w2.drew (fun j hj => by
      rw [Nat.add_zero]
      exact (hthere j (by rw [← sSA]; simpa using hj)).1) (fun j hj => by
      rw [Nat.add_zero]
      exact (hthere j (by rw [← sSA]; simpa using hj)).2) (fun v hv => by rw [hSA] at hv; exact secCells_one _ v (by simpa using hv))
    simpa using this
  have edn : d ≠ gn := Di.ne.2.1
  have eBn : gn ≠ w.heap.size := Nat.ne_of_lt Di.seen.lt
  have tS : Touch (One gn) w2 (w2.drew.setCells gn (n * 65) SA.toList) := Touch.setCells (F := One gn) (g := gn) (fun _ => rfl) _ _ _ (Touch.refl (One gn) w2).drew
  have hc1' : (w2.drew.setCells gn (n * 65) SA.toList).cell? ⟨d, 1, none⟩ = some (.slice (some ⟨gn, 0, none⟩) D.seen.length cn) := tS.cell edn (t2.cell (id : No d → False) Di.c1)
  have hrange' : (w2.drew.setCells gn (n * 65) SA.toList).rangeAt w.heap.size 1 BL := fun j v hj => tS.cell (fun e => eBn e.symm) (hrange j v hj)
  have hone : SA.all (·.oneCell') = true := by rw [hSA, Array.all_eq_true_iff_forall_mem]; intro x hx; exact secCells_one _ x (by simpa using hx)
  have hc1 := t2.cell (id : No d → False) Di.c1
  have Hseen := Lib.hid (Di.seen.touch t2 id)
  have Hcop := Lib.hid hcop
  have HSA := Lib.hid hSA
  have HBL := Lib.hid hBL
  have HDi := Lib.hid Di
  have Ht2 := Lib.hid t2
  have hlcn := Di.lcn
  have Hpad : Hid ((Dk.pad b).length = 64) := hp
  have Ho4 := Lib.hid o4
  have hfit : n * 65 + 65 ≤ (D.seen.flatMap secCells ++ rn).length := by
    rw [List.length_append, flat_length secCells_length]
    have := Nat.mul_le_mul_right 65 hn
    omega
  have Hfit := Lib.hid hfit
  have hz7 := zSec_zero
  have hz8 := zSec_size
  have hz9 := zSec_ne
  have Hw := Lib.hid hw
  have Hlt := Lib.hid hlt
  clear HG2 hB2 t2 hcop Di hBL hSA hp o4 hfit hw hlt hst hfo hz1 hz2 hz3 hz4 hz5 hz6 Hbl Hrow Hr H
  have hn' : (n : Int) < (D.seen.length : Nat) := by omega
  obtain ⟨m, Hm⟩ : ∃ m, Hid (m = D.seen.length) := ⟨_, rfl⟩
  go_wp2_with fail
  go_region_held3 (fun w' => w'.cell? ⟨d, 1, none⟩ = some (.slice (some ⟨gn, 0, none⟩) D.seen.length cn) ∧ w'.rangeAt w.heap.size 1 BL) (first | exact ⟨hc1, hrange⟩ | exact ⟨hc1', hrange'⟩) (fail)
  clear hstS hrange' hc1' hfs hu65 hi65 hi69 hone hz7 hz8 hz9 hrange hthere hc1
  have TS := Lib.hid tS
  clear tS
  obtain ⟨w3, W3⟩ : ∃ w3, w2.drew.setCells gn (n * 65) SA.toList = w3 := ⟨_, rfl⟩
  rw [W3] at TS ⊢
  have HW3 := Lib.hid W3
  clear W3
  obtain ⟨aw, cw, rfl, hcw1, hcw2⟩ := rowSlice HDi.out.waits
  have T03 : Hid (Touch (One gn) w w3) := ((Touch.no (F := One gn) Ht2.out).then TS.out (fun _ _ e => e))
  have Hrow3 : Hid (Row w3 gn 122 (((D.seen.set n ⟨Dk.pad b, 0⟩).flatMap secCells) ++ rn)) := by
    have := Row.setCells SA.toList (n * 65) w2.drew _ (show Row w2.drew gn _ _ from Hseen.out) (by rw [Array.length_toList, sSA]; exact Hfit.out)
    rw [HW3.out, HSA.out] at this
    show Row _ _ _ _
    rw [← flat_set secCells_length D.seen n ⟨Dk.pad b, 0⟩ rn hn]
    exact this
  have hwl : Row w3 w.heap.size 133 (wrCells ⟨n, Dk.pad b, 0⟩) := Hcop.out.touch TS.out (fun e => eBn e.symm)
  have Hwl := Lib.hid hwl
  obtain ⟨WL, hWL⟩ : ∃ WL, WL = wrCells ⟨n, Dk.pad b, 0⟩ := ⟨_, rfl⟩
  have lWL : WL.length = 66 := by rw [hWL, wrCells_length]
  have hld : ∀ wx : World, wx.rangeAt w.heap.size 0 WL → Sem.run Tryz.prog (loadCells ⟨w.heap.size, 0, none⟩ 66) wx = .ok WL.toArray wx := fun wx hx => by
    have := run_loadCells_list (P := Tryz.prog) wx ⟨w.heap.size, 0, none⟩ WL (fun j v hv => by rw [add_off]; exact hx j v hv)
    rw [lWL] at this; exact this
  have hr3 : w3.rangeAt w.heap.size 0 WL := fun j v hj => by rw [hwl.cell, Nat.zero_add, ← hWL]; exact hj
  have HWL := Lib.hid hWL
  have hc2 : w3.cell? ⟨d, 2, none⟩ = some (.slice aw D.waits.length cw) := T03.out.cell edn HDi.out.c2
  have hc2a : ∀ o : Obj, (w3.alloc o).cell? ⟨d, 2, none⟩ = some (.slice aw D.waits.length cw) := fun o => by
    rw [cell_old _ _ (lt_of_cell hc2)]; exact hc2
  have hfw : ∀ Z : Array Value, Z.size = 66 → List.foldl (fun (cs : Array Value) x => cs.setIfInBounds x.snd x.fst) Z WL.zipIdx = WL.toArray := fun Z hZ => by
    rw [fold_cells WL Z (by omega), lWL, List.drop_of_length_le (by simp; omega), List.append_nil]
  have hz1 := zWr_zero
  have hz3 := zWr_size
  have hz5 := zWr_ne
  have hr4 : ((w3.alloc (Obj.cells WL.toArray 133)).drew).rangeAt w.heap.size 0 WL := fun j v hj => by
    show (w3.alloc _).cell? _ = _
    rw [cell_old _ _ hwl.lt]; exact hr3 j v hj
  have t4 : Touch No w3 ((w3.alloc (Obj.cells WL.toArray 133)).drew) := ((Touch.refl No w3).alloc _).drew
  have T4 := Lib.hid t4
  have hrow4 : Row ((w3.alloc (Obj.cells WL.toArray 133)).drew) w3.heap.size 133 WL := Row.new w3 _ WL.toArray
  have hgnw : ∀ k, InBlock (.slice aw D.waits.length cw) k → k ≠ d ∧ k ≠ gs ∧ k ≠ gn := HDi.out.wne
  have hown4 : ((w3.alloc (Obj.cells WL.toArray 133)).drew).ownsRow 0 133 66 (.slice aw D.waits.length cw) D.waits.length (D.waits.flatMap wrCells) := rowTouch (rowTouch HDi.out.waits T03.out (fun k hk e => (hgnw k hk).2.2 e)) t4 (fun _ _ f => f)
  have Hrow4 := Lib.hid hrow4
  have Hown4 := Lib.hid hown4
  obtain ⟨I, z, hI⟩ := wr_is
  have HI := Lib.hid hI
  have Hgnw := Lib.hid hgnw
  have WL1 : Hid (∀ u ∈ WL, u.oneCell' = true) := by intro u hu; rw [hWL] at hu; exact wrCells_one _ u hu
  have HwB : Hid (∀ k, InBlock (.slice aw D.waits.length cw) k → k < w.heap.size) := fun k hk => (rowBlock HDi.out.waits hk).2
  clear hwl hWL hI hown4 hrow4 t4 hgnw
  go_wp2
  refine wp_region_noPanic ?_
  refine wp_region_held_drew (S := fun w' => w'.rangeAt w.heap.size 0 WL) (by kernel_rfl) hr3 (fun hHeld => ?_)
  refine wpAnyH_take (i := 0) (v := .pointer (some ⟨d, 0, none⟩)) rfl (by kernel_rfl) (by kernel_rfl) (by kernel_rfl) (fun _ _ _ h => h) (Or.inl ⟨by rfl, fun wx _ => by go_simp⟩) (by assumption) ?_
  simp only [Act.put, List.setIfInBounds_toArray, List.set_cons_zero, List.set_cons_succ]
  refine wpAnyH_take (i := 1) (v := .pointer (some ⟨d, 0, none⟩)) rfl (by kernel_rfl) (by kernel_rfl) (by kernel_rfl) (fun _ _ _ h => h) (Or.inl ⟨by rfl, fun wx _ => by go_simp⟩) (by assumption) ?_
  simp only [Act.put, List.setIfInBounds_toArray, List.set_cons_zero, List.set_cons_succ]
  refine wpAnyH_take (i := 2) (v := .pointer (some ⟨d, 0, none⟩)) rfl (by kernel_rfl) (by kernel_rfl) (by kernel_rfl) (fun _ _ _ h => h) (Or.inl ⟨by rfl, fun wx _ => by go_simp⟩) (by assumption) ?_
  simp only [Act.put, List.setIfInBounds_toArray, List.set_cons_zero, List.set_cons_succ]
  refine wpAnyH_take (i := 3) (v := .pointer (some ⟨d, 2, none⟩)) rfl (by kernel_rfl) (by kernel_rfl) (by kernel_rfl) (fun _ _ _ h => h) (Or.inl ⟨by rfl, fun wx _ => by go_simp⟩) (by assumption) ?_
  simp only [Act.put, List.setIfInBounds_toArray, List.set_cons_zero, List.set_cons_succ]
  refine wpAnyH_take (i := 5) (v := .agg WL.toArray) rfl (by kernel_rfl) (by kernel_rfl) (by kernel_rfl) (fun _ _ _ h => h)
    (yieldsIf_load_mid (by rfl) _ _ rfl _ _ rfl WL _ (fun _ h => h) Tryz.underlying133 rfl (by rw [lWL]; kernel_rfl)) (by assumption) ?_
  simp only [Act.put, List.setIfInBounds_toArray, List.set_cons_zero, List.set_cons_succ]
  refine wpAnyH_ready (rs := [4, 6]) (by kernel_rfl) (by simp) (AllReadyH.cons rfl (fun K hK => ?_) (AllReadyH.cons rfl (fun K hK => ?_) AllReadyH.nil))
  · go_simp
    refine hK.out _ _ hr3 (fun hHeld => ?_)
    clear hK K
    try simp only [Act.put, List.setIfInBounds_toArray, List.set_cons_zero, List.set_cons_succ]
    refine wpAnyH_ready (rs := [6]) (by kernel_rfl) (by simp) (AllReadyH.cons rfl (fun K hK => ?_) AllReadyH.nil)
    go_simp
    refine hK.out _ _ hr4 (fun hHeld => ?_)
    clear hK K
    try simp only [Act.put, List.setIfInBounds_toArray, List.set_cons_zero, List.set_cons_succ]
    refine wpAnyH_ready (rs := [7]) (by kernel_rfl) (by simp) (AllReadyH.cons rfl (fun K hK => ?_) AllReadyH.nil)
    refine step_append_row rfl _ _ _ rfl 133 I z 66 80 Tryz.underlying124 HI.out.info HI.out.zero HI.out.size HI.out.bytes (by rw [HI.out.cells]; exact wrCells_length _) (by decide) _ D.waits.length (D.waits.flatMap wrCells) Hown4.out rfl w3.heap.size WL Hrow4.out rfl lWL WL1.out (by have := Hw.out; unfold maxLen; omega) (by have := Hw.out; omega) ?_
    intro a5 c5 w5 hown5 t5 hin5
    have hc5 : w5.cell? ⟨d, 2, none⟩ = some (.slice aw D.waits.length cw) := t5.cell (fun e => (Hgnw.out d e).1 rfl) (hc2a _)
    have hf5 : w5.frozen? ⟨d, 2, none⟩ = false := by
      rw [t5.frozen (lt_of_cell (hc2a _)) (fun e => (Hgnw.out d e).1 rfl) 2]
      exact (T4.out.frozen (lt_of_cell hc2) id 2).trans ((T03.out.frozen HDi.out.lt edn 2).trans (HDi.out.soft 2))
    have hr5 : w5.rangeAt w.heap.size 0 WL := fun j v hj => t5.cell (fun e => by have := HwB.out _ e; omega) (hr4 j v hj)
    have hr6 : ∀ v', (w5.setCell ⟨d, 2, none⟩ v').rangeAt w.heap.size 0 WL := fun v' j v hj => by
      rw [cell_set_ne (Or.inl (Nat.ne_of_lt HDi.out.lt))]; exact hr5 j v hj
    have Hown5 := Lib.hid hown5
    have Hin5 := Lib.hid hin5
    have T5 := Lib.hid t5
    clear hown5 t5 hin5
    refine hK.out _ _ hr5 (fun hHeld => ?_)
    clear hK K
    try simp only [Act.put, List.setIfInBounds_toArray, List.set_cons_zero, List.set_cons_succ]
    refine wpAnyH_take (i := 8) (v := .pointer (some ⟨d, 0, none⟩)) rfl (by kernel_rfl) (by kernel_rfl) (by kernel_rfl) (fun _ _ _ h => h) (Or.inl ⟨by rfl, fun wx _ => by go_simp⟩) (by assumption) ?_
    try simp only [Act.put, List.setIfInBounds_toArray, List.set_cons_zero, List.set_cons_succ]
    refine wpAnyH_take (i := 9) (v := .pointer (some ⟨d, 2, none⟩)) rfl (by kernel_rfl) (by kernel_rfl) (by kernel_rfl) (fun _ _ _ h => h) (Or.inl ⟨by rfl, fun wx _ => by go_simp⟩) (by assumption) ?_
    try simp only [Act.put, List.setIfInBounds_toArray, List.set_cons_zero, List.set_cons_succ]
    refine wpAnyH_ready (rs := [10]) (by kernel_rfl) (by simp) (AllReadyH.cons rfl (fun K hK => ?_) AllReadyH.nil)
    go_simp
    refine hK.out _ _ (hr6 _) (fun hHeld => ?_)
    refine wpAnyH_done (by kernel_rfl) ?_ _
    refine NoPanic.normal ?_
    go_wp2
    go_ret
    have s3 : w.heap.size ≤ w3.heap.size := T03.out.size
    have s4 := T4.out.size
    have nd : ¬ InBlock (.slice aw D.waits.length cw) d := fun e => (Hgnw.out d e).1 rfl
    have ns : ¬ InBlock (.slice aw D.waits.length cw) gs := fun e => (Hgnw.out gs e).2.1 rfl
    have nn : ¬ InBlock (.slice aw D.waits.length cw) gn := fun e => (Hgnw.out gn e).2.2 rfl
    have TO : Touch O w w5 := (((T03.out.mono (G := O) (fun k _ e => by rw [show k = gn from e]; exact o3)).then T4.out (fun _ _ f => f.elim)).then T5.out (fun k _ e => Ho4.out k e))
    have TD : Touch (One d) w5 (w5.setCell ⟨d, 2, none⟩ (.slice a5 (D.waits.length + 1) c5)) := (Touch.refl (One d) w5).setCell (p := ⟨d, 2, none⟩) (fun _ => rfl) _
    have IN : ∀ k, InBlock (.slice a5 (D.waits.length + 1) c5) k → (k ≠ d ∧ k ≠ gs ∧ k ≠ gn) ∧ (O k ∨ w.heap.size ≤ k) := fun k hk => by
      have q1 := HDi.out.lt
      have q2 := HDi.out.sure.lt
      have q3 := HDi.out.seen.lt
      rcases Hin5.out k hk with e | e
      · exact ⟨Hgnw.out k e, Or.inl (Ho4.out k e)⟩
      · exact ⟨⟨by omega, by omega, by omega⟩, Or.inr (by omega)⟩
    refine ⟨rfl, TO.then TD (fun k _ e => by rw [show k = d from e]; exact o1), gs, gn, cs, cn, rs, rn, .slice a5 (D.waits.length + 1) c5, ⟨Dk.write_ok HDi.out.ok hn Hl.out Hlt.out, ?_, ?_, cell_set hc5, fun o => ?_, ?_, ?_, HDi.out.lcs, ?_, HDi.out.mcs, HDi.out.mcn, ?_, HDi.out.ne, fun k hk => (IN k hk).1⟩, Or.inl o1, Or.inl o2, Or.inl o3, fun k hk => (IN k hk).2⟩
    · rw [cell_set_ne (Or.inr (by decide))]; exact T5.out.cell nd (T4.out.cell id (T03.out.cell edn HDi.out.c0))
    · rw [cell_set_ne (Or.inr (by decide))]
      show _ = some (Value.slice _ (D.seen.set n _).length _)
      rw [List.length_set]
      exact T5.out.cell nd (T4.out.cell id (T03.out.cell edn HDi.out.c1))
    · rw [World.frozen?_setCell, T5.out.frozen (lt_of_cell (hc2a _)) nd o]
      exact (T4.out.frozen (lt_of_cell hc2) id o).trans ((T03.out.frozen HDi.out.lt edn o).trans (HDi.out.soft o))
    · exact (((HDi.out.sure.touch T03.out HDi.out.ne.2.2).touch T4.out id).touch T5.out ns).touch TD (fun e => HDi.out.ne.1 e.symm)
    · exact ((Hrow3.out.touch T4.out id).touch T5.out nn).touch TD (fun e => edn e.symm)
    · show (D.seen.set n _).length ≤ cn
      rw [List.length_set]; exact hlcn
    · have hq := rowTouch Hown5.out TD (fun k hk e => (IN k hk).1.1 e)
      show World.ownsRow _ 0 _ 66 _ (D.waits ++ [(⟨n, Dk.pad b, 0⟩ : Dk.Wr)]).length ((D.waits ++ [(⟨n, Dk.pad b, 0⟩ : Dk.Wr)]).flatMap wrCells)
      rw [List.length_append, List.flatMap_append, List.flatMap_cons, List.flatMap_nil, List.append_nil, ← HWL.out]
      exact hq
  · go_simp
    refine hK.out _ _ hr4 (fun hHeld => ?_)
    clear hK K
    try simp only [Act.put, List.setIfInBounds_toArray, List.set_cons_zero, List.set_cons_succ]
    refine wpAnyH_ready (rs := [4]) (by kernel_rfl) (by simp) (AllReadyH.cons rfl (fun K hK => ?_) AllReadyH.nil)
    go_simp
    refine hK.out _ _ hr4 (fun hHeld => ?_)
    clear hK K
    try simp only [Act.put, List.setIfInBounds_toArray, List.set_cons_zero, List.set_cons_succ]
    refine wpAnyH_ready (rs := [7]) (by kernel_rfl) (by simp) (AllReadyH.cons rfl (fun K hK => ?_) AllReadyH.nil)
    refine step_append_row rfl _ _ _ rfl 133 I z 66 80 Tryz.underlying124 HI.out.info HI.out.zero HI.out.size HI.out.bytes (by rw [HI.out.cells]; exact wrCells_length _) (by decide) _ D.waits.length (D.waits.flatMap wrCells) Hown4.out rfl w3.heap.size WL Hrow4.out rfl lWL WL1.out (by have := Hw.out; unfold maxLen; omega) (by have := Hw.out; omega) ?_
    intro a5 c5 w5 hown5 t5 hin5
    have hc5 : w5.cell? ⟨d, 2, none⟩ = some (.slice aw D.waits.length cw) := t5.cell (fun e => (Hgnw.out d e).1 rfl) (hc2a _)
    have hf5 : w5.frozen? ⟨d, 2, none⟩ = false := by
      rw [t5.frozen (lt_of_cell (hc2a _)) (fun e => (Hgnw.out d e).1 rfl) 2]
      exact (T4.out.frozen (lt_of_cell hc2) id 2).trans ((T03.out.frozen HDi.out.lt edn 2).trans (HDi.out.soft 2))
    have hr5 : w5.rangeAt w.heap.size 0 WL := fun j v hj => t5.cell (fun e => by have := HwB.out _ e; omega) (hr4 j v hj)
    have hr6 : ∀ v', (w5.setCell ⟨d, 2, none⟩ v').rangeAt w.heap.size 0 WL := fun v' j v hj => by
      rw [cell_set_ne (Or.inl (Nat.ne_of_lt HDi.out.lt))]; exact hr5 j v hj
    have Hown5 := Lib.hid hown5
    have Hin5 := Lib.hid hin5
    have T5 := Lib.hid t5
    clear hown5 t5 hin5
    refine hK.out _ _ hr5 (fun hHeld => ?_)
    clear hK K
    try simp only [Act.put, List.setIfInBounds_toArray, List.set_cons_zero, List.set_cons_succ]
    refine wpAnyH_take (i := 8) (v := .pointer (some ⟨d, 0, none⟩)) rfl (by kernel_rfl) (by kernel_rfl) (by kernel_rfl) (fun _ _ _ h => h) (Or.inl ⟨by rfl, fun wx _ => by go_simp⟩) (by assumption) ?_
    try simp only [Act.put, List.setIfInBounds_toArray, List.set_cons_zero, List.set_cons_succ]
    refine wpAnyH_take (i := 9) (v := .pointer (some ⟨d, 2, none⟩)) rfl (by kernel_rfl) (by kernel_rfl) (by kernel_rfl) (fun _ _ _ h => h) (Or.inl ⟨by rfl, fun wx _ => by go_simp⟩) (by assumption) ?_
    try simp only [Act.put, List.setIfInBounds_toArray, List.set_cons_zero, List.set_cons_succ]
    refine wpAnyH_ready (rs := [10]) (by kernel_rfl) (by simp) (AllReadyH.cons rfl (fun K hK => ?_) AllReadyH.nil)
    go_simp
    refine hK.out _ _ (hr6 _) (fun hHeld => ?_)
    refine wpAnyH_done (by kernel_rfl) ?_ _
    refine NoPanic.normal ?_
    go_wp2
    go_ret
    have s3 : w.heap.size ≤ w3.heap.size := T03.out.size
    have s4 := T4.out.size
    have nd : ¬ InBlock (.slice aw D.waits.length cw) d := fun e => (Hgnw.out d e).1 rfl
    have ns : ¬ InBlock (.slice aw D.waits.length cw) gs := fun e => (Hgnw.out gs e).2.1 rfl
    have nn : ¬ InBlock (.slice aw D.waits.length cw) gn := fun e => (Hgnw.out gn e).2.2 rfl
    have TO : Touch O w w5 := (((T03.out.mono (G := O) (fun k _ e => by rw [show k = gn from e]; exact o3)).then T4.out (fun _ _ f => f.elim)).then T5.out (fun k _ e => Ho4.out k e))
    have TD : Touch (One d) w5 (w5.setCell ⟨d, 2, none⟩ (.slice a5 (D.waits.length + 1) c5)) := (Touch.refl (One d) w5).setCell (p := ⟨d, 2, none⟩) (fun _ => rfl) _
    have IN : ∀ k, InBlock (.slice a5 (D.waits.length + 1) c5) k → (k ≠ d ∧ k ≠ gs ∧ k ≠ gn) ∧ (O k ∨ w.heap.size ≤ k) := fun k hk => by
      have q1 := HDi.out.lt
      have q2 := HDi.out.sure.lt
      have q3 := HDi.out.seen.lt
      rcases Hin5.out k hk with e | e
      · exact ⟨Hgnw.out k e, Or.inl (Ho4.out k e)⟩
      · exact ⟨⟨by omega, by omega, by omega⟩, Or.inr (by omega)⟩
    refine ⟨rfl, TO.then TD (fun k _ e => by rw [show k = d from e]; exact o1), gs, gn, cs, cn, rs, rn, .slice a5 (D.waits.length + 1) c5, ⟨Dk.write_ok HDi.out.ok hn Hl.out Hlt.out, ?_, ?_, cell_set hc5, fun o => ?_, ?_, ?_, HDi.out.lcs, ?_, HDi.out.mcs, HDi.out.mcn, ?_, HDi.out.ne, fun k hk => (IN k hk).1⟩, Or.inl o1, Or.inl o2, Or.inl o3, fun k hk => (IN k hk).2⟩
    · rw [cell_set_ne (Or.inr (by decide))]; exact T5.out.cell nd (T4.out.cell id (T03.out.cell edn HDi.out.c0))
    · rw [cell_set_ne (Or.inr (by decide))]
      show _ = some (Value.slice _ (D.seen.set n _).length _)
      rw [List.length_set]
      exact T5.out.cell nd (T4.out.cell id (T03.out.cell edn HDi.out.c1))
    · rw [World.frozen?_setCell, T5.out.frozen (lt_of_cell (hc2a _)) nd o]
      exact (T4.out.frozen (lt_of_cell hc2) id o).trans ((T03.out.frozen HDi.out.lt edn o).trans (HDi.out.soft o))
    · exact (((HDi.out.sure.touch T03.out HDi.out.ne.2.2).touch T4.out id).touch T5.out ns).touch TD (fun e => HDi.out.ne.1 e.symm)
    · exact ((Hrow3.out.touch T4.out id).touch T5.out nn).touch TD (fun e => edn e.symm)
    · show (D.seen.set n _).length ≤ cn
      rw [List.length_set]; exact hlcn
    · have hq := rowTouch Hown5.out TD (fun k hk e => (IN k hk).1.1 e)
      show World.ownsRow _ 0 _ 66 _ (D.waits ++ [(⟨n, Dk.pad b, 0⟩ : Dk.Wr)]).length ((D.waits ++ [(⟨n, Dk.pad b, 0⟩ : Dk.Wr)]).flatMap wrCells)
      rw [List.length_append, List.flatMap_append, List.flatMap_cons, List.flatMap_nil, List.append_nil, ← HWL.out]
      exact hq
end Go.Proofs.YtnffigfafalocaaGreatDoor
