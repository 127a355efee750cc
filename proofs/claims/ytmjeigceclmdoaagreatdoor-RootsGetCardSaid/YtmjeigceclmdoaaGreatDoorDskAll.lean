/-
  The plain mathematics of a disk of sectors, second part: a stretch of a piece.
  The plain mathematics of a disk of sectors, third part: the writes to a sector, turned one by one.
  What is read of a sector. No program in sight.
  Package disks by its own text: what is no sector of the disk: Read, Bad, Rot.
  Package disks by its own text: Fail.
  Package disks by its own text: to.
  Package disks by its own text: Bad.
  Package disks by its own text: Rot.
  Package disks by its own text: the contracts once more, with the blocks that are a disk's own (Dsk).
  Package disks by its own text: Read.
  Package disks by its own text: one disk, made since a world.
  Package disks by its own text: Read, of a sector that may be bad.
-/
import Derived.Test.YtmjeigceclmdoaaGreatDoorDk
import Derived.Laws.Bits64b
import Derived.Laws.BitsAllLaws
import Derived.Test.YtmjeigceclmdoaaGreatDoorDisk
import Derived.Test.YtmjeigceclmdoaaGreatDoorDiskW
import Derived.Test.YtmjeigceclmdoaaGreatDoorRng
import Derived.StillTailTactics
import Derived.Deep.RegionLaw
import Derived.Outline
import Derived.Test.YtmjeigceclmdoaaGreatDoorDiskC
import Derived.Deep.MidRow
namespace Go.Proofs.YtmjeigceclmdoaaGreatDoor
open Go Go.RowKit

theorem splice_get (l : List Value) (o : Nat) (vs : List Value) (h : o + vs.length ≤ l.length) (i : Nat) : (splice l o vs)[i]? = if i < o then l[i]? else if i < o + vs.length then vs[i - o]? else l[i]? := by
  have ht : (l.take o).length = o := by rw [List.length_take]; omega
  simp only [splice, List.append_assoc]
  by_cases h1 : i < o
  · rw [if_pos h1, List.getElem?_append_left (by rw [ht]; exact h1), List.getElem?_take_of_lt h1]
  · rw [if_neg h1, List.getElem?_append_right (by rw [ht]; omega), ht]
    by_cases h2 : i < o + vs.length
    · rw [if_pos h2, List.getElem?_append_left (by omega)]
    · rw [if_neg h2, List.getElem?_append_right (by omega), List.getElem?_drop]
      congr 1; omega
/-- a stretch of a piece of a row of equal pieces -/
theorem flat_part {α : Type} {f : α → List Value} {k : Nat} (hf : ∀ x, (f x).length = k) (l : List α) (n j : Nat) (x y : α) (cs r : List Value) (hx : l[n]? = some x) (hj : j + cs.length ≤ k) (hy : f y = splice (f x) j cs) : splice (l.flatMap f ++ r) (n * k + j) cs = (l.set n y).flatMap f ++ r := by
  have hn : n < l.length := by
    rcases Nat.lt_or_ge n l.length with h | h
    · exact h
    · rw [List.getElem?_eq_none h] at hx; cases hx
  have hlen : (l.flatMap f).length = l.length * k := flat_length hf l
  have hnk : n * k + k ≤ l.length * k := by have := Nat.mul_le_mul_right k hn; rw [Nat.succ_mul] at this; exact this
  have hlx := hf x
  have hly := hf y
  rw [← flat_set hf l n y r hn]
  refine List.ext_getElem? (fun i => ?_)
  rw [splice_get _ _ _ (by rw [List.length_append]; omega), splice_get _ _ _ (by rw [List.length_append]; omega), hly]
  by_cases h1 : i < n * k
  · rw [if_pos (by omega), if_pos h1]
  · by_cases h2 : i < n * k + k
    · rw [if_neg h1, if_pos h2, hy, splice_get _ _ _ (by omega)]
      have hg : (f x)[i - n * k]? = (l.flatMap f ++ r)[i]? := by
        rw [List.getElem?_append_left (by omega), ← flat_get hf l n (i - n * k) x hx (by omega)]
        congr 1; omega
      rw [hg]
      by_cases h3 : i < n * k + j
      · rw [if_pos h3, if_pos (by omega)]
      · by_cases h4 : i < n * k + j + cs.length
        · rw [if_neg h3, if_pos h4, if_neg (by omega), if_pos (by omega)]
          congr 1; omega
        · rw [if_neg h3, if_neg h4, if_neg (by omega), if_neg (by omega)]
    · rw [if_neg (by omega), if_neg (by omega), if_neg h1, if_neg h2]
/-- what a torn write leaves of a sector -/
theorem torn_cells (y : Dk.Wr) (s : Dk.Sec) (hy : y.b.length = 64) (hs : s.b.length = 64) : secCells (Dk.tornS y s) = splice (secCells s) 0 (nums .u8 (y.b.take 32)) := by
  have e : (Dk.tornS y s).b.length = 64 := by simp [Dk.tornS, hy, hs]
  rw [secCells, secCells, bytes_cells e, bytes_cells hs, splice, List.take_zero, List.nil_append, nums_length, List.length_take, hy]
  simp only [Dk.tornS, nums_append, Nat.zero_add]
  rw [List.drop_append_of_le_length (by rw [nums_length, hs]; decide), List.append_assoc]
  congr 1
  simp [nums]
/-- what a kept write leaves of a sector -/
theorem kept_cells (y : Dk.Wr) (s : Dk.Sec) (hy : y.b.length = 64) (hs : s.b.length = 64) : secCells ⟨y.b, s.bad⟩ = splice (secCells s) 0 (nums .u8 y.b) := by
  rw [secCells, secCells, bytes_cells hy, bytes_cells hs, splice, List.take_zero, List.nil_append, nums_length, hy, Nat.zero_add]
  rw [List.drop_append_of_le_length (by rw [nums_length, hs]; decide), List.drop_of_length_le (by rw [nums_length, hs]; decide), List.nil_append]
/-! ### bits -/
theorem shift_one (x j : Nat) : x / 2 ^ j % 2 = if x.testBit j then 1 else 0 := by
  rw [Nat.testBit_eq_decide_div_mod_eq]
  have := Nat.mod_two_eq_zero_or_one (x / 2 ^ j)
  rcases this with h | h <;> simp [h]
theorem bit_test (x j : Nat) (hx : x < 18446744073709551616) : (bits BinOp.and .u64 ((x : Int) / 2 ^ j) 1 == 1) = x.testBit j := by
  have e : ((x : Int) / 2 ^ j) = ((x / 2 ^ j : Nat) : Int) := by norm_cast
  have hl : x / 2 ^ j < 18446744073709551616 := Nat.lt_of_le_of_lt (Nat.div_le_self _ _) hx
  have h := bits_and_u64_nat (x / 2 ^ j) 1 hl (by decide)
  rw [e]
  rw [show ((1 : Nat) : Int) = 1 from rfl] at h
  rw [h, nat_mask1, shift_one]
  cases x.testBit j <;> rfl
theorem and_small {a b : Nat} (ha : a ≤ 1) (hb : b ≤ 1) : bits BinOp.and .i64 (a : Int) (b : Int) = ((a &&& b : Nat) : Int) := by
  rcases Nat.le_one_iff_eq_zero_or_eq_one.1 ha with rfl | rfl <;> rcases Nat.le_one_iff_eq_zero_or_eq_one.1 hb with rfl | rfl <;> decide
end Go.Proofs.YtmjeigceclmdoaaGreatDoor
namespace Go.Proofs.YtmjeigceclmdoaaGreatDoor
open Go Go.RowKit
namespace Dk
/-- the write at i is to the sector n -/
def isTo (n : Nat) (l : List Wr) (i : Nat) : Bool := match l[i]? with | some y => y.n == n | none => false
/-- of the first k writes those to the sector n -/
def hits (n : Nat) (l : List Wr) (k : Nat) : List Nat := (List.range k).filter (isTo n l)
theorem hits_yes {n : Nat} {l : List Wr} {k : Nat} {y : Wr} (h : l[k]? = some y) (hn : y.n = n) : hits n l (k + 1) = hits n l k ++ [k] := by
  simp [hits, List.range_succ, List.filter_append, isTo, h, hn]
theorem hits_no {n : Nat} {l : List Wr} {k : Nat} {y : Wr} (h : l[k]? = some y) (hn : y.n ≠ n) : hits n l (k + 1) = hits n l k := by
  simp [hits, List.range_succ, List.filter_append, isTo, h, hn]
theorem hits_length (n : Nat) (l : List Wr) (k : Nat) : (hits n l k).length ≤ k := by
  have := List.length_filter_le (isTo n l) (List.range k)
  simpa [hits] using this
theorem hits_get {n : Nat} {l : List Wr} {k j i : Nat} (h : (hits n l k)[j]? = some i) : i < k ∧ ∃ y, l[i]? = some y ∧ y.n = n := by
  have hm := List.mem_of_getElem? h
  rw [hits, List.mem_filter] at hm
  refine ⟨by simpa using hm.1, ?_⟩
  have h2 := hm.2
  unfold isTo at h2
  cases hy : l[i]? with
  | none => simp [hy] at h2
  | some y => exact ⟨y, rfl, by simpa [hy] using h2⟩
theorem hits_nodup (n : Nat) (l : List Wr) (k : Nat) : (hits n l k).Nodup := List.Nodup.sublist List.filter_sublist List.nodup_range

/-- each of these places turned -/
def turn (f : Wr → Wr) (l : List Wr) (is : List Nat) : List Wr := is.foldl (fun l i => l.modify i f) l
theorem turn_snoc (f : Wr → Wr) (l : List Wr) (is : List Nat) (i : Nat) : turn f l (is ++ [i]) = (turn f l is).modify i f := by simp [turn]
theorem turn_length (f : Wr → Wr) : ∀ (is : List Nat) (l : List Wr), (turn f l is).length = l.length
  | [], l => rfl
  | i :: r, l => by
    show (turn f (l.modify i f) r).length = _
    rw [turn_length f r, List.length_modify]
theorem turn_get (f : Wr → Wr) : ∀ (is : List Nat) (l : List Wr) (j : Nat), is.Nodup → (turn f l is)[j]? = if j ∈ is then l[j]?.map f else l[j]?
  | [], l, j, _ => by simp [turn]
  | i :: r, l, j, h => by
    have hi : i ∉ r := (List.nodup_cons.1 h).1
    show (turn f (l.modify i f) r)[j]? = _
    rw [turn_get f r _ j (List.nodup_cons.1 h).2, List.getElem?_modify]
    by_cases hj : j ∈ r
    · have : i ≠ j := fun e => hi (e ▸ hj)
      simp [hj, this]
    · by_cases e : i = j
      · subst e; simp [hj]
      · have e' : ¬ j = i := fun h => e h.symm
        simp [hj, e, e']
theorem turn_all (f : Wr → Wr) (n : Nat) (l : List Wr) : turn f l (hits n l l.length) = l.map (fun y => if y.n = n then f y else y) := by
  refine List.ext_getElem? (fun j => ?_)
  rw [turn_get f _ l j (hits_nodup n l _), List.getElem?_map]
  cases hy : l[j]? with
  | none => simp
  | some y =>
    have hj : j < l.length := by
      rcases Nat.lt_or_ge j l.length with h | h
      · exact h
      · rw [List.getElem?_eq_none h] at hy; cases hy
    by_cases hn : y.n = n
    · have : j ∈ hits n l l.length := List.mem_filter.2 ⟨List.mem_range.2 hj, by unfold isTo; rw [hy]; simpa using hn⟩
      simp [this, hn]
    · have : j ∉ hits n l l.length := fun hm => by
        have h2 := (List.mem_filter.1 hm).2
        unfold isTo at h2; rw [hy] at h2; exact hn (by simpa using h2)
      simp [this, hn]
theorem turn_at (f : Wr → Wr) (l : List Wr) (is : List Nat) (k i : Nat) (h : is.Nodup) (hk : is[k]? = some i) : (turn f l (is.take k))[i]? = l[i]? := by
  rw [turn_get f _ l i (List.Nodup.sublist (List.take_sublist _ _) h), if_neg]
  intro hm
  obtain ⟨j, hj, e⟩ := List.mem_iff_getElem.1 hm
  have hj' := hj
  rw [List.length_take] at hj'
  rw [List.getElem_take] at e
  have hk' : k < is.length := by
    rcases Nat.lt_or_ge k is.length with h | h
    · exact h
    · rw [List.getElem?_eq_none h] at hk; cases hk
  have e2 : is[k] = i := by rw [List.getElem?_eq_getElem hk'] at hk; exact Option.some.inj hk
  have := (List.getElem_inj h).1 (e.trans e2.symm)
  omega
end Dk
end Go.Proofs.YtmjeigceclmdoaaGreatDoor
namespace Go.Proofs.YtmjeigceclmdoaaGreatDoor
open Go Go.RowKit
namespace Dk
def bytesOf (s : Sec) : List Nat := if s.bad = 1 then [] else s.b
def errOf (s : Sec) : Nat := if s.bad = 1 then 12 else 0
theorem bytes_le {s : Sec} (h : s.Ok) : (bytesOf s).length ≤ 64 := by
  unfold bytesOf; split
  · simp
  · rw [h.b.len]; exact Nat.le_refl _
end Dk
end Go.Proofs.YtmjeigceclmdoaaGreatDoor
namespace Go.Proofs.YtmjeigceclmdoaaGreatDoor
open Go Go.RowKit

set_option maxHeartbeats 400000 in
theorem read_out (w : World) (d : Nat) (D : Dk.Disk) (O : Nat → Prop) (n : Int) (h : DiskAt w d D O) (hb : ¬ (0 ≤ n ∧ n < D.seen.length)) :
    Calls Tryz.prog 63 #[.pointer (some ⟨d, 0, none⟩), .int .i64 n] w fun e w' => e = .returned (.tuple #[.slice none 0 0, .int .i64 1]) ∧ w = w' := by
  have H := Lib.hid h
  have e1 : askSays D.seen.length n = 1 := by unfold askSays; rw [if_neg hb]
  clear h hb
  go_enter Tryz.func63, Tryz.ntmps63
  go_wp2_with (go_at_call 151; refine (ask_any _ _ _ _ _ H.out).mono ?_; rintro e w' ⟨rfl, rfl⟩; rw [e1])
  go_ret2
  exact ⟨rfl, rfl⟩
set_option maxHeartbeats 400000 in
theorem bad_out (w : World) (d : Nat) (D : Dk.Disk) (O : Nat → Prop) (n : Int) (h : DiskAt w d D O) (hb : ¬ (0 ≤ n ∧ n < D.seen.length)) :
    Calls Tryz.prog 57 #[.pointer (some ⟨d, 0, none⟩), .int .i64 n] w fun e w' => e = .returned (.int .i64 1) ∧ w = w' := by
  have H := Lib.hid h
  have e1 : askSays D.seen.length n = 1 := by unfold askSays; rw [if_neg hb]
  clear h hb
  go_enter Tryz.func57, Tryz.ntmps57
  go_wp2_with (go_at_call 151; refine (ask_any _ _ _ _ _ H.out).mono ?_; rintro e w' ⟨rfl, rfl⟩; rw [e1])
  go_ret
  exact ⟨rfl, rfl⟩
set_option maxRecDepth 100000 in
set_option maxHeartbeats 400000 in
theorem rot_out (w : World) (d : Nat) (D : Dk.Disk) (O : Nat → Prop) (n p x : Int) (h : DiskAt w d D O) (hb : ¬ (0 ≤ n ∧ n < D.seen.length)) :
    Calls Tryz.prog 55 #[.pointer (some ⟨d, 0, none⟩), .int .i64 n, .int .i64 p, .int .u8 x] w fun e w' => e = .returned (.int .i64 1) ∧ w = w' := by
  have H := Lib.hid h
  have e1 : askSays D.seen.length n = 1 := by unfold askSays; rw [if_neg hb]
  clear h hb
  go_enter Tryz.func55, Tryz.ntmps55
  go_wp2_with (go_at_call 151; refine (ask_any _ _ _ _ _ H.out).mono ?_; rintro e w' ⟨rfl, rfl⟩; rw [e1])
  go_ret
  exact ⟨rfl, rfl⟩
set_option maxRecDepth 100000 in
set_option maxHeartbeats 400000 in
theorem rot_bad (w : World) (d : Nat) (D : Dk.Disk) (O : Nat → Prop) (n p x : Int) (h : DiskAt w d D O) (hn : 0 ≤ n ∧ n < D.seen.length) (hp : p < 0 ∨ 64 ≤ p) :
    Calls Tryz.prog 55 #[.pointer (some ⟨d, 0, none⟩), .int .i64 n, .int .i64 p, .int .u8 x] w fun e w' => e = .returned (.int .i64 1) ∧ w = w' := by
  have H := Lib.hid h
  have e1 : askSays D.seen.length n = 0 := by unfold askSays; rw [if_pos hn]
  clear h hn
  by_cases h0 : p < 0
  · clear hp
    go_enter Tryz.func55, Tryz.ntmps55
    go_wp2_with (go_at_call 151; refine (ask_any _ _ _ _ _ H.out).mono ?_; rintro e w' ⟨rfl, rfl⟩; rw [e1])
    go_ret
    exact ⟨rfl, rfl⟩
  · have h1 : (64 : Int) ≤ p := by omega
    clear hp
    go_enter Tryz.func55, Tryz.ntmps55
    go_wp2_with (go_at_call 151; refine (ask_any _ _ _ _ _ H.out).mono ?_; rintro e w' ⟨rfl, rfl⟩; rw [e1])
    go_ret
    exact ⟨rfl, rfl⟩
end Go.Proofs.YtmjeigceclmdoaaGreatDoor
namespace Go.Proofs.YtmjeigceclmdoaaGreatDoor
open Go Go.RowKit
set_option linter.unusedSimpArgs false

theorem splice_go (l : List Value) (o : Nat) (vs : List Value) : Go.splice l o vs = splice l o vs := by
  unfold Go.splice splice; first | rfl | simp | rw [List.append_assoc]
/-- a write that waits, in the row of those -/
theorem waits_at {w : World} {T : TypeId} {aw : Option Addr} {n cw : Nat} {xs : List Dk.Wr} (h : w.ownsRow 0 T 66 (.slice aw n cw) n (xs.flatMap wrCells)) {i : Nat} {y : Dk.Wr} (hn : xs.length = n) (hy : xs[i]? = some y) :
    ∃ gw, aw = some ⟨gw, 0, none⟩ ∧ w.rangeAt gw (i * 66) (wrCells y) := by
  have hi : i < n := by
    rcases Nat.lt_or_ge i xs.length with h | h
    · omega
    · rw [List.getElem?_eq_none h] at hy; cases hy
  obtain ⟨g, c, r, hv, _, hR, _⟩ := ownRow h (by intro e; cases e; omega)
  cases hv
  refine ⟨g, rfl, hR.range (fun j v hj => ?_)⟩
  have hj66 : j < 66 := by
    rcases Nat.lt_or_ge j (wrCells y).length with h | h
    · rw [wrCells_length] at h; exact h
    · rw [List.getElem?_eq_none h] at hj; cases hj
  rw [List.getElem?_append_left (by
    rw [flat_length wrCells_length, hn]
    have := Nat.mul_le_mul_right 66 hi
    omega), flat_get wrCells_length xs i j y hy hj66]
  exact hj

set_option maxRecDepth 100000 in
set_option maxHeartbeats 2000000 in
theorem fail_in (w : World) (d : Nat) (D : Dk.Disk) (O : Nat → Prop) (keep : Nat) (torn : Int) (hk : keep < 18446744073709551616) (h : DiskAt w d D O) (hw : D.waits.length ≤ 1000000) :
    Calls Tryz.prog 53 #[.pointer (some ⟨d, 0, none⟩), .int .u64 (keep : Nat), .int .i64 torn] w fun e w' => ∃ d', e = .returned (.tuple #[.pointer (some ⟨d', 0, none⟩), .int .i64 0]) ∧ w.heap.size ≤ d' ∧ DiskAt w' d' (Dk.fail D keep torn) (fun k => w.heap.size ≤ k) ∧ Touch No w w' := by
  have H := Lib.hid h
  have ok := h.ok
  obtain ⟨gs, gn, cs, cn, rs, rn, vw, Di, o1, o2, o3, o4⟩ := h
  obtain ⟨aw, cw, rfl, hcw1, hcw2⟩ := rowSlice Di.waits
  have e0 : askSays D.seen.length 0 = 0 := by
    have := ok.pos
    unfold askSays; rw [if_pos (by omega)]
  have hc0 := Di.c0
  have hc2 := Di.c2
  have HDi := Lib.hid Di
  have Hok := Lib.hid ok
  have Hk := Lib.hid hk
  have Hd := Lib.hid Di.lt
  clear Di ok hk o1 o2 o3 o4
  go_enter Tryz.func53, Tryz.ntmps53
  go_wp2_with fail
  refine (ask_any w d D O _ H.out).mono ?_
  rintro e w' ⟨rfl, rfl⟩
  rw [e0]
  go_wp2_with fail
  refine (clone_secs w gs cs D.sure rs HDi.out.sure (by rw [Hok.out.len]; exact Hok.out.top)).mono ?_
  rintro e w1 ⟨g', c', r', rfl, k1, k2, k3, k4, k5⟩
  have hc2' := k5.cell (id : No d → False) hc2
  have K1 := Lib.hid k1
  have K2 := Lib.hid k2
  have K3 := Lib.hid k3
  have K4 := Lib.hid k4
  have K5 := Lib.hid k5
  clear k1 k2 k3 k4 k5 hc2 hc0
  obtain ⟨m, Em⟩ : ∃ m, D.waits.length = m := ⟨_, rfl⟩
  obtain ⟨q, Eq⟩ : ∃ q, D.sure.length = q := ⟨_, rfl⟩
  have hq : q ≤ 16384 := by rw [← Eq, Hok.out.len]; exact Hok.out.top
  rw [Em] at hc2' hw hcw1
  rw [Eq]
  have HEm := Lib.hid Em
  have HEq := Lib.hid Eq
  clear Em Eq
  go_wp2
  go_loopg [28] m (fun g s28 wr => ∃ k : Nat, k + g = m ∧ s28 = .int .i64 ((k : Nat) : Int) ∧ Hid (Touch No w wr) ∧ Hid (Row wr g' 167 ((Dk.failed keep torn D.sure 0 (D.waits.take k)).flatMap secCells ++ r')))
  case atStart => exact ⟨0, by omega, rfl, K5.out, K2.out⟩
  case round =>
    obtain ⟨k, hkg, rfl, T, R⟩ := hrel
    cases gk with
    | zero =>
      obtain rfl : k = m := by omega
      have hfo := Dk.failed_ok (keep := keep) (torn := torn) (D.waits.take k) D.sure 0 Hok.out.sure (fun z hz => by rw [Hok.out.len]; exact Hok.out.waits z (List.mem_of_mem_take hz))
      rw [List.take_of_length_le (by rw [HEm.out]; exact Nat.le_refl _)] at hfo
      have hR := R.out
      rw [List.take_of_length_le (by rw [HEm.out]; exact Nat.le_refl _)] at hR
      have lq : (Dk.failed keep torn D.sure 0 D.waits).length = q := by rw [hfo.2, HEq.out]
      have hq1 : 1 ≤ q := by rw [← HEq.out, Hok.out.len]; exact Hok.out.pos
      have hof := of_is wr g' c' _ r' hR (by rw [lq]; exact hq1) (by rw [lq]; exact hq) (by rw [lq, ← HEq.out]; exact K3.out) K4.out hfo.1
      rw [lq] at hof
      have Hof := Lib.hid hof
      clear hof hfo hR lq
      go_wp2_with fail
      refine Hof.out.mono ?_
      rintro e w2 ⟨d', rfl, j1, j2, j3⟩
      have J1 := Lib.hid j1
      have J2 := Lib.hid j2
      have J3 := Lib.hid j3
      clear j1 j2 j3
      go_wp2
      go_ret2
      have hsz := T.out.size
      refine ⟨d', rfl, Nat.le_trans hsz J1.out, ?_, T.out.trans J3.out⟩
      obtain ⟨gs1, gn1, cs1, cn1, rs1, rn1, vw1, h1, q1, q2, q3, q4⟩ := J2.out
      have P : ∀ k, (k = g' ∨ wr.heap.size ≤ k) → w.heap.size ≤ k := fun k hk => by
        have := K1.out; omega
      exact ⟨gs1, gn1, cs1, cn1, rs1, rn1, vw1, h1, P _ q1, P _ q2, P _ q3, fun k hk => P _ (q4 k hk)⟩
    | succ g =>
      have hlt : (k : Int) < (m : Nat) := by omega
      obtain ⟨y, hy⟩ : ∃ y, D.waits[k]? = some y := ⟨_, List.getElem?_eq_getElem (by rw [HEm.out]; omega)⟩
      have hyo := Hok.out.waits y (List.mem_of_getElem? hy)
      obtain ⟨L, hL⟩ : ∃ L, L = Dk.failed keep torn D.sure 0 (D.waits.take k) := ⟨_, rfl⟩
      have hLo := Dk.failed_ok (keep := keep) (torn := torn) (D.waits.take k) D.sure 0 Hok.out.sure (fun z hz => by rw [Hok.out.len]; exact Hok.out.waits z (List.mem_of_mem_take hz))
      rw [← hL, HEq.out] at hLo
      have hstep : Dk.failed keep torn D.sure 0 (D.waits.take (k + 1)) = Dk.failStep keep torn L k y := by
        have hk' : k < D.waits.length := by rw [HEm.out]; omega
        have e1 : D.waits.take (k + 1) = D.waits.take k ++ [y] := by
          rw [List.take_add_one, hy]; rfl
        rw [e1, Dk.failed_snoc, ← hL]
        congr 1
        rw [List.length_take]; omega
      have hyn : y.n < q := by rw [← HEq.out, Hok.out.len]; exact hyo.n
      obtain ⟨gw, rfl, hyr⟩ := waits_at (rowTouch HDi.out.waits T.out (fun _ _ f => f)) rfl hy
      obtain ⟨WA, hWA⟩ : ∃ WA : Array Value, WA = (wrCells y).toArray := ⟨_, rfl⟩
      have hst : Sem.run Tryz.prog (storeCells ⟨wr.heap.size, 0, none⟩ WA.toList) (wr.alloc (.cells zWr 165)) = .ok () ((wr.alloc (.cells zWr 165)).setRow wr.heap.size WA) := by
        have hg := Row.new wr 165 zWr
        have hst := run_storeCells_at Tryz.prog wr.heap.size 0 165 WA.toList 0 zWr.toList.toArray _ hg (by simp [hWA, wrCells_length, zWr]) (fun v hv => wrCells_one y v (by simpa [hWA] using hv))
        simp only [Nat.add_zero] at hst
        rw [hst]
        congr 2
        simp [hWA, zWr, wrCells_length]
      have hrow1 : Row ((wr.alloc (.cells zWr 165)).setRow wr.heap.size WA) wr.heap.size 165 (wrCells y) := by
        have := (Row.new wr 165 zWr).setRow (wrCells y)
        rwa [← hWA] at this
      have tW : Touch No wr ((wr.alloc (.cells zWr 165)).setRow wr.heap.size WA) := ((Touch.refl No wr).alloc _).setRow (g := wr.heap.size) (fun h => absurd h (Nat.lt_irrefl _)) _
      obtain ⟨W1, hW1⟩ : ∃ W1, W1 = (wr.alloc (.cells zWr 165)).setRow wr.heap.size WA := ⟨_, rfl⟩
      rw [← hW1] at hst hrow1 tW
      have hcn : W1.cell? ⟨wr.heap.size, 0, none⟩ = some (.int .i64 (y.n : Nat)) := by rw [hrow1.cell]; exact wr_n y
      have hb0 : g' ≠ wr.heap.size := fun e => by
        have := R.out.lt; omega
      have hrowL := R.out.touch tW id
      rw [← hL] at hrowL
      clear hW1
      have hynI : (y.n : Int) < (q : Nat) := by omega
      have hz1 := zWr_zero
      have hz3 := zWr_size
      have hz5 := zWr_ne
      have hWs : WA.size = 66 := by rw [hWA]; exact wrCells_length y
      have hi67 : (Tryz.prog.info? 165).map (·.size) = some 66 := by kernel_rfl
      have Hy := Lib.hid hy
      have Hyo := Lib.hid hyo
      have HL := Lib.hid hL
      have HLo := Lib.hid hLo
      have Hstep := Lib.hid hstep
      have Hyr := Lib.hid hyr
      have HWA := Lib.hid hWA
      have Hrow1 := Lib.hid hrow1
      have HrowL := Lib.hid hrowL
      have TW := Lib.hid tW
      clear hy hyo hL hLo hstep hyr hWA hrow1 hrowL tW
      have hwalk : Hid (Below w.heap.size w W1.drew) := ((T.out.trans TW.out).drew.mono (G := No) (fun _ _ f => f)).below (Nat.le_refl _) (fun _ _ f => f)
      have hwg := K1.out
      by_cases ht : (k : Int) = torn
      · have hx : L[y.n]? = some (Dk.at_ L y.n) := Dk.at_get (by rw [HLo.out.2]; exact hyn)
        have hxo := HLo.out.1 _ (Dk.at_mem (l := L) (n := y.n) (by rw [HLo.out.2]; exact hyn))
        have hfin : Go.splice (L.flatMap secCells ++ r') (y.n * 65) (nums .u8 (y.b.take 32)) = (Dk.failStep keep torn L k y).flatMap secCells ++ r' := by
          have := flat_part secCells_length L y.n 0 _ (Dk.tornS y (Dk.at_ L y.n)) (nums .u8 (y.b.take 32)) r' hx (by rw [nums_length, List.length_take]; omega) (torn_cells y _ Hyo.out.b.len hxo.b.len)
          rw [Dk.failStep, if_pos ht]
          rw [Nat.add_zero] at this
          exact (splice_go _ _ _).trans this
        have Hfin := Lib.hid hfin
        clear hx hxo hfin
        subst ht
        go_wp2_with (refine wpList_load_range rfl _ _ rfl 66 gw (k * 66) (wrCells y) Hyr.out (wrCells_length y) rfl _ Tryz.underlying165 rfl hi67 ?_; rw [← HWA.out])
        have hsrc : Hid (∀ j v, (nums .u8 (y.b.take 32))[j]? = some v → W1.cell? ⟨wr.heap.size, 1 + j, none⟩ = some v) := fun j v hj => by
          have hj32 : j < 32 := by
            rcases Nat.lt_or_ge j (nums .u8 (y.b.take 32)).length with h | h
            · rw [nums_length, List.length_take] at h; omega
            · rw [List.getElem?_eq_none h] at hj; cases hj
          rw [Hrow1.out.cell, wrCells, bytes_cells Hyo.out.b.len, Nat.add_comm 1 j, List.getElem?_cons_succ, List.getElem?_append_left (by rw [nums_length, Hyo.out.b.len]; omega)]
          rw [nums, List.getElem?_map] at hj ⊢
          rwa [List.getElem?_take_of_lt hj32] at hj
        go_still_tail 6, (by kernel_rfl)
        refine wpList_copy_splice rfl _ _ _ _ rfl 5 Tryz.underlying22 (by kernel_rfl) (some ⟨g', y.n * 65, none⟩) (some ⟨wr.heap.size, 1, none⟩) 32 64 32 64 ?hd ?hs g' (y.n * 65) (L.flatMap secCells ++ r') 167 HrowL.out (nums .u8 (y.b.take 32)) ?c1 ?c2 ?c3 (nums_one _ _) w.heap.size w hwalk.out K1.out ?_
        case hd => rfl
        case hs => rfl
        case c1 => rw [nums_length, List.length_take, Hyo.out.b.len]; rfl
        case c2 => exact fun _ => ⟨rfl, _, rfl, fun j v hj => by rw [add_off]; exact hsrc.out j v hj⟩
        case c3 =>
          rw [nums_length, List.length_take, List.length_append, flat_length secCells_length, HLo.out.2]
          have := Nat.mul_le_mul_right 65 hyn
          omega
        intro w2 HG2 hB2
        have HB2 := Lib.hid hB2
        clear hB2
        rw [Hfin.out] at HG2
        go_wp2
        go_roundg g
        case measure => omega
        case rel =>
          refine ⟨k + 1, by omega, by go_num, (Touch.of_below HB2.out).mono (fun k hk f => absurd hk (Nat.not_lt.2 f)), ?_⟩
          show Row _ _ _ _
          rw [Hstep.out]
          exact HG2.out
      · have ht' : ((k : Int) == torn) = false := by simpa using ht
        have Ht := Lib.hid ht
        clear ht
        by_cases hbit : keep.testBit (k % 64) = true
        · have hb1 : (bits BinOp.and IntKind.u64 ((keep : Int) / 2 ^ (k % 64)) 1 == 1) = true := by rw [bit_test _ _ Hk.out]; exact hbit
          have hi65 : (Tryz.prog.info? 163).map (·.size) = some 64 := by kernel_rfl
          have lyb : (nums .u8 y.b).length = 64 := by rw [nums_length, Hyo.out.b.len]
          have hrg : Hid (W1.rangeAt wr.heap.size 1 (nums .u8 y.b)) := Hrow1.out.range (fun j v hj => by
            rw [wrCells, bytes_cells Hyo.out.b.len, Nat.add_comm 1 j, List.getElem?_cons_succ, List.getElem?_append_left (by
              rcases Nat.lt_or_ge j (nums .u8 y.b).length with h | h
              · exact h
              · rw [List.getElem?_eq_none h] at hj; cases hj)]
            exact hj)
          have Lyb := Lib.hid lyb
          clear lyb
          obtain ⟨s, hs⟩ : ∃ s, s = Dk.at_ L y.n := ⟨_, rfl⟩
          have hyL : y.n < L.length := by rw [HLo.out.2]; exact hyn
          have hx : L[y.n]? = some s := by rw [hs]; exact Dk.at_get hyL
          have hso : s.Ok := by rw [hs]; exact HLo.out.1 _ (Dk.at_mem hyL)
          have hfit : y.n * 65 + (nums .u8 y.b).length ≤ (L.flatMap secCells ++ r').length := by
            rw [Lyb.out, List.length_append, flat_length secCells_length, HLo.out.2]
            have := Nat.mul_le_mul_right 65 hyn
            omega
          have hsp : splice (L.flatMap secCells ++ r') (y.n * 65) (nums .u8 y.b) = (L.set y.n ⟨y.b, s.bad⟩).flatMap secCells ++ r' := by
            have := flat_part secCells_length L y.n 0 _ ⟨y.b, s.bad⟩ (nums .u8 y.b) r' hx (by rw [Lyb.out]; decide) (kept_cells y s Hyo.out.b.len hso.b.len)
            rw [Nat.add_zero] at this
            exact this
          have hx1 : (L.set y.n ⟨y.b, s.bad⟩)[y.n]? = some ⟨y.b, s.bad⟩ := List.getElem?_set_self hyL
          have hfin : ((L.set y.n ⟨y.b, s.bad⟩).flatMap secCells ++ r').set (y.n * 65 + 64) (.int .i64 ((s.bad &&& y.elder : Nat) : Int)) = (Dk.failStep keep torn L k y).flatMap secCells ++ r' := by
            rw [flat_cell secCells_length _ y.n 64 _ ⟨y.b, s.bad &&& y.elder⟩ _ r' hx1 (by decide) (by
              rw [secCells, secCells, List.set_append_right _ _ (by simp)]; simp), List.set_set, Dk.failStep, if_neg Ht.out, if_pos hbit, Dk.upd, Dk.keptS, ← hs]
          obtain ⟨W2, hW2⟩ : ∃ W2, W1.setRow g' (splice (L.flatMap secCells ++ r') (y.n * 65) (nums .u8 y.b)).toArray = W2 := ⟨_, rfl⟩
          have tW2 : Touch (One g') W1 W2 := by rw [← hW2]; exact Touch.setRow (F := One g') (Touch.refl _ W1) (fun _ => rfl) _
          have hrow2 : Row W2 g' 167 ((L.set y.n ⟨y.b, s.bad⟩).flatMap secCells ++ r') := by rw [← hsp, ← hW2]; exact HrowL.out.setRow _
          have hcb : W2.cell? ⟨g', y.n * 65 + 64, none⟩ = some (.int .i64 (s.bad : Nat)) := by
            rw [hrow2.cell, List.getElem?_append_left (by
              rw [flat_length secCells_length, List.length_set]
              have := Nat.mul_le_mul_right 65 hyL
              omega), flat_get secCells_length _ y.n 64 _ hx1 (by decide)]
            exact sec_bad _
          have hfb := hrow2.soft (y.n * 65 + 64)
          have hce : W2.cell? ⟨wr.heap.size, 65, none⟩ = some (.int .i64 (y.elder : Nat)) := tW2.cell (fun e => hb0 (show g' = wr.heap.size from e.symm)) (by rw [Hrow1.out.cell]; exact wr_elder y)
          have hand := and_small hso.bad Hyo.out.elder
          have HW2 := Lib.hid hW2
          have Hsp := Lib.hid hsp
          have Hfin := Lib.hid hfin
          have TW2 := Lib.hid tW2
          have Hrow2 := Lib.hid hrow2
          have Hfit := Lib.hid hfit
          clear hs hx hso hsp hx1 hfin hW2 tW2 hrow2 hfit
          go_wp2_with (first
            | (refine wpList_load_range rfl _ _ rfl 66 gw (k * 66) (wrCells y) Hyr.out (wrCells_length y) rfl _ Tryz.underlying165 rfl hi67 ?_; rw [← HWA.out])
            | (refine wpList_load_range rfl _ _ rfl 64 wr.heap.size 1 (nums .u8 y.b) hrg.out Lyb.out rfl _ Tryz.underlying163 rfl hi65 ?_)
            | (refine wpList_store_mid rfl _ _ _ rfl g' (y.n * 65) 167 (L.flatMap secCells ++ r') HrowL.out rfl (nums .u8 y.b) rfl (by rw [Lyb.out]; exact hi65) ?qc1 (nums_one _ _) ?_; rotate_left; rw [HW2.out]))
          case qc1 => exact Hfit.out
          go_still_tail 9, (by kernel_rfl)
          go_wp2
          go_roundg g
          case measure => omega
          case rel =>
            have T1 : Touch No w W2 := (T.out.trans TW.out).then TW2.out (fun i hi e => by
              have := K1.out
              have e' : i = g' := e
              omega)
            refine ⟨k + 1, by omega, by go_num, ?_, ?_⟩
            · exact (T1.drew.setCell (p := ⟨g', y.n * 65 + 64, none⟩) (fun hi => by have := K1.out; exact absurd hi (by show ¬ g' < _; omega)) _)
            · show Row _ _ _ _
              rw [Hstep.out, ← Hfin.out]
              exact Hrow2.out.setCell _ _
        · have hb1 : (bits BinOp.and IntKind.u64 ((keep : Int) / 2 ^ (k % 64)) 1 == 1) = false := by rw [bit_test _ _ Hk.out]; simpa using hbit
          go_wp2_with (refine wpList_load_range rfl _ _ rfl 66 gw (k * 66) (wrCells y) Hyr.out (wrCells_length y) rfl _ Tryz.underlying165 rfl hi67 ?_; rw [← HWA.out])
          go_roundg g
          case measure => omega
          case rel =>
            refine ⟨k + 1, by omega, by go_num, T.out.trans TW.out, ?_⟩
            have := HrowL.out
            show Row _ _ _ _
            rw [Hstep.out, Dk.failStep, if_neg Ht.out, if_neg hbit]
            exact this
end Go.Proofs.YtmjeigceclmdoaaGreatDoor
namespace Go.Proofs.YtmjeigceclmdoaaGreatDoor
open Go Go.RowKit

theorem ptr_is : ∃ i z, TypeIs 177 i z 1 8 [.pointer none] := type_is (by kernel_rfl)
/-- pointers to these pieces of a row -/
def ptrs (g k : Nat) (is : List Nat) : List Value := is.map (fun i => .pointer (some ⟨g, i * k, none⟩))
theorem ptrs_snoc (g k : Nat) (is : List Nat) (i : Nat) : ptrs g k (is ++ [i]) = ptrs g k is ++ [.pointer (some ⟨g, i * k, none⟩)] := by simp [ptrs]

set_option maxHeartbeats 2000000 in
theorem to_in (w : World) (d n : Nat) (ws : List Dk.Wr) (m : Nat) (aw : Option Addr) (cw gw : Nat) (hm : ws.length = m) (hc2 : w.cell? ⟨d, 2, none⟩ = some (.slice aw m cw)) (hcw : m ≤ cw) (hmm : m ≤ 1000000)
    (hws : ∀ i y, ws[i]? = some y → aw = some ⟨gw, 0, none⟩ ∧ w.cell? ⟨gw, i * 66, none⟩ = some (.int .i64 (y.n : Nat))) :
    Calls Tryz.prog 153 #[.pointer (some ⟨d, 0, none⟩), .int .i64 (n : Nat)] w fun e w' => ∃ v, e = .returned v ∧ Own w' w.heap.size 177 v (ptrs gw 66 (Dk.hits n ws m)) ∧ Touch No w w' := by
  have Hm := Lib.hid hm
  have Hws := Lib.hid hws
  clear hm hws
  obtain ⟨I, z, hI⟩ := ptr_is
  have HI := Lib.hid hI
  clear hI
  go_enter Tryz.func153, Tryz.ntmps153
  go_wp2
  go_loopg [4, 11] m (fun g s4 s11 wr => ∃ (k : Nat) (v : Value), k + g = m ∧ s4 = v ∧ s11 = .int .i64 ((k : Nat) : Int) ∧ Hid (Own wr w.heap.size 177 v (ptrs gw 66 (Dk.hits n ws k))) ∧ Hid (Touch No w wr))
  case atStart => exact ⟨0, _, by omega, rfl, rfl, Own.nil _ _ _, Touch.refl _ _⟩
  case round =>
    obtain ⟨k, v, hkg, rfl, rfl, O, T⟩ := hrel
    cases gk with
    | zero =>
      obtain rfl : k = m := by omega
      go_wp2
      go_ret
      exact ⟨_, rfl, O.out, T.out⟩
    | succ g =>
      have hlt : (k : Int) < (m : Nat) := by omega
      obtain ⟨y, hy⟩ : ∃ y, ws[k]? = some y := ⟨_, List.getElem?_eq_getElem (by rw [Hm.out]; omega)⟩
      obtain ⟨rfl, hcy⟩ := Hws.out k y hy
      have Hy := Lib.hid hy
      clear hy
      have hc2r := T.out.cell (id : No d → False) hc2
      have hcyr := T.out.cell (id : No gw → False) hcy
      have Hc2 := Lib.hid hc2
      clear hc2 hcy
      by_cases hn : y.n = n
      · have hnb : ((y.n : Int) == (n : Nat)) = true := by simp [hn]
        have Hn := Lib.hid hn
        clear hn
        have hl : (ptrs gw 66 (Dk.hits n ws k)).length ≤ k := by rw [ptrs, List.length_map]; exact Dk.hits_length _ _ _
        have Hl := Lib.hid hl
        clear hl
        go_wp2_with (at_builtin; refine wpList_append1 rfl _ _ _ rfl w.heap.size 177 I z 8 Tryz.underlying175 HI.out.info HI.out.zero HI.out.size HI.out.bytes (by rw [HI.out.cells]; rfl) _ _ (.pointer (some ⟨gw, k * 66, none⟩)) O.out rfl rfl rfl (by have := Hl.out; unfold maxLen; omega) (by have := Hl.out; omega) T.out.size ?_; intro v' w3 hown3 ht3)
        have O3 := Lib.hid hown3
        have T3 := Lib.hid ht3
        clear hown3 ht3
        go_wp2
        go_roundg g
        case measure => omega
        case rel =>
          refine ⟨k + 1, _, by omega, rfl, by go_num, ?_, ?_⟩
          · show Own _ _ _ _ _
            rw [Dk.hits_yes Hy.out Hn.out, ptrs_snoc]
            exact O3.out
          · exact T.out.then T3.out (fun i hi e => by
              have := (O.out.block e).1
              omega)
      · have hnb : ((y.n : Int) == (n : Nat)) = false := by simp; omega
        have Hn := Lib.hid hn
        clear hn
        go_wp2
        go_roundg g
        case measure => omega
        case rel =>
          refine ⟨k + 1, _, by omega, rfl, by go_num, ?_, T.out⟩
          show Own _ _ _ _ _
          rw [Dk.hits_no Hy.out Hn.out]
          exact O.out
end Go.Proofs.YtmjeigceclmdoaaGreatDoor
namespace Go.Proofs.YtmjeigceclmdoaaGreatDoor
open Go Go.RowKit
set_option linter.unusedSimpArgs false

/-- one cell of a write that waits -/
theorem rows_get {w : World} {T : TypeId} {gw m cw : Nat} {l : List Dk.Wr} (h : w.ownsRow 0 T 66 (.slice (some ⟨gw, 0, none⟩) m cw) m (l.flatMap wrCells)) (hl : l.length = m) {i j : Nat} {y : Dk.Wr} (hy : l[i]? = some y) (hj : j < 66) :
    w.cell? ⟨gw, i * 66 + j, none⟩ = (wrCells y)[j]? ∧ w.frozen? ⟨gw, i * 66 + j, none⟩ = false := by
  have hi : i < m := by
    rcases Nat.lt_or_ge i l.length with h | h
    · omega
    · rw [List.getElem?_eq_none h] at hy; cases hy
  obtain ⟨g, c, r, hv, _, hR, _⟩ := ownRow h (by intro e; cases e)
  cases hv
  refine ⟨?_, hR.soft _⟩
  rw [hR.cell, List.getElem?_append_left (by
    rw [flat_length wrCells_length, hl]
    have := Nat.mul_le_mul_right 66 hi
    omega), flat_get wrCells_length l i j y hy hj]
theorem rows_set {w : World} {T : TypeId} {gw m cw : Nat} {l : List Dk.Wr} (h : w.ownsRow 0 T 66 (.slice (some ⟨gw, 0, none⟩) m cw) m (l.flatMap wrCells)) (hl : l.length = m) {i j : Nat} {y y' : Dk.Wr} {v : Value} (hy : l[i]? = some y) (hj : j < 66) (he : wrCells y' = (wrCells y).set j v) :
    (w.setCell ⟨gw, i * 66 + j, none⟩ v).ownsRow 0 T 66 (.slice (some ⟨gw, 0, none⟩) m cw) m ((l.set i y').flatMap wrCells) := by
  have hi : i < m := by
    rcases Nat.lt_or_ge i l.length with h | h
    · omega
    · rw [List.getElem?_eq_none h] at hy; cases hy
  obtain ⟨h0, h⟩ := h
  rcases h with ⟨h, _⟩ | ⟨g, cap, cur, hv, hg, hh, hn, hc, hs, ht⟩
  · cases h
  cases hv
  refine ⟨by rw [flat_length wrCells_length, List.length_set, hl], Or.inr ⟨gw, cw, cur.setIfInBounds (i * 66 + j) v, rfl, hg, ?_, hn, hc, by simpa using hs, ?_⟩⟩
  · have hR : Row w gw T cur.toList := by rw [Row, Array.toArray_toList]; exact hh
    have := hR.setCell (i * 66 + j) v
    rw [Row] at this
    rw [this]
    congr 2
    apply Array.ext'; simp
  · rw [Array.toList_setIfInBounds, List.take_set]
    rw [ht]
    have := flat_cell wrCells_length l i j y y' v [] hy hj he
    simpa using this

/-- the cells of a sector that is bad -/
theorem bad_cells (s : Dk.Sec) : secCells (Dk.badS s) = (secCells s).set 64 (.int .i64 1) := by
  rw [secCells, secCells, List.set_append_right _ _ (by simp)]; simp [Dk.badS]
theorem badW_cells (y : Dk.Wr) : wrCells ⟨y.n, y.b, 1⟩ = (wrCells y).set 65 (.int .i64 1) := by
  rw [wrCells, wrCells, List.set_cons_succ, List.set_append_right _ _ (by simp)]; simp
def badF (y : Dk.Wr) : Dk.Wr := ⟨y.n, y.b, 1⟩
/-- one cell of a sector in its row -/
theorem sec_put {w : World} {g : Nat} {T : TypeId} {l : List Dk.Sec} {r : List Value} (h : Row w g T (l.flatMap secCells ++ r)) {n j : Nat} (hn : n < l.length) (hj : j < 65) (f : Dk.Sec → Dk.Sec) {v : Value} (he : secCells (f (Dk.at_ l n)) = (secCells (Dk.at_ l n)).set j v) :
    Row (w.setCell ⟨g, n * 65 + j, none⟩ v) g T ((Dk.upd l n f).flatMap secCells ++ r) := by
  rw [Dk.upd, ← flat_cell secCells_length l n j _ _ v r (Dk.at_get hn) hj he]
  exact h.setCell _ _
theorem modify_set {α : Type} {l : List α} {i : Nat} {y : α} (f : α → α) (h : l[i]? = some y) : l.modify i f = l.set i (f y) := by
  refine List.ext_getElem? (fun j => ?_)
  rw [List.getElem?_modify, List.getElem?_set]
  by_cases e : i = j
  · subst e
    have hi : i < l.length := by
      rcases Nat.lt_or_ge i l.length with h' | h'
      · exact h'
      · rw [List.getElem?_eq_none h'] at h; cases h
    rw [h]; simp [hi]
  · simp [e]

theorem waits_base {w : World} {T : TypeId} {aw : Option Addr} {m cw : Nat} {l : List Dk.Wr} (h : w.ownsRow 0 T 66 (.slice aw m cw) m (l.flatMap wrCells)) (hl : l.length = m) :
    ∃ gw, ∀ (i : Nat) (y : Dk.Wr), l[i]? = some y → aw = some ⟨gw, 0, none⟩ := by
  cases aw with
  | none => 
    refine ⟨0, fun i y hy => ?_⟩
    obtain ⟨g, c, r, hv, _⟩ := ownRow h (by
      intro e; cases e
      have : l = [] := List.eq_nil_of_length_eq_zero hl
      rw [this] at hy; cases hy)
    cases hv
  | some a =>
    obtain ⟨g, c, r, hv, _⟩ := ownRow h (by intro e; cases e)
    cases hv
    exact ⟨g, fun _ _ _ => rfl⟩

set_option maxRecDepth 100000 in
set_option maxHeartbeats 2000000 in
theorem bad_in (w : World) (d : Nat) (D : Dk.Disk) (O : Nat → Prop) (n : Nat) (h : DiskAt w d D O) (hn : n < D.seen.length) (hw : D.waits.length ≤ 1000000) :
    Calls Tryz.prog 57 #[.pointer (some ⟨d, 0, none⟩), .int .i64 (n : Nat)] w fun e w' => e = .returned (.int .i64 0) ∧ Touch O w w' ∧ DiskAt w' d (Dk.bad D n) O := by
  have H := Lib.hid h
  have ok := h.ok
  have e1 : askSays D.seen.length n = 0 := by unfold askSays; rw [if_pos (by omega)]
  obtain ⟨gs, gn, cs, cn, rs, rn, vw, Di, o1, o2, o3, o4⟩ := h
  obtain ⟨aw, cw, rfl, hcw1, hcw2⟩ := rowSlice Di.waits
  have Hok := Lib.hid ok
  have HDi := Lib.hid Di
  have hn1 : (n : Int) < (D.seen.length : Nat) := by omega
  have hns : n < D.sure.length := by rw [ok.len]; exact hn
  have hn2 : (n : Int) < (D.sure.length : Nat) := by omega
  have hcb : w.cell? ⟨gn, n * 65 + 64, none⟩ = some (.int .i64 ((Dk.at_ D.seen n).bad : Nat)) := by
    have := Row.cell Di.seen (n * 65 + 64)
    rw [this, List.getElem?_append_left (by
      rw [flat_length secCells_length]
      have := Nat.mul_le_mul_right 65 hn
      omega), flat_get secCells_length _ n 64 _ (Dk.at_get hn) (by decide)]
    exact sec_bad _
  have hcs : w.cell? ⟨gs, n * 65 + 64, none⟩ = some (.int .i64 ((Dk.at_ D.sure n).bad : Nat)) := by
    have := Row.cell Di.sure (n * 65 + 64)
    rw [this, List.getElem?_append_left (by
      rw [flat_length secCells_length]
      have := Nat.mul_le_mul_right 65 hns
      omega), flat_get secCells_length _ n 64 _ (Dk.at_get hns) (by decide)]
    exact sec_bad _
  have hfb := Di.seen.soft (n * 65 + 64)
  have hfs := Di.sure.soft (n * 65 + 64)
  have hc0 := Di.c0
  have hc1 := Di.c1
  have hlcn := Di.lcn
  have hlcs := Di.lcs
  obtain ⟨w2, hw2⟩ : ∃ w2, w2 = (w.setCell ⟨gn, n * 65 + 64, none⟩ (.int .i64 1)).setCell ⟨gs, n * 65 + 64, none⟩ (.int .i64 1) := ⟨_, rfl⟩
  have Hw2 := Lib.hid hw2
  have Ho4 := Lib.hid o4
  have e1n : d ≠ gs := Di.ne.1
  have e2n : d ≠ gn := Di.ne.2.1
  have e3n : gs ≠ gn := Di.ne.2.2
  clear hw2 Di ok o4
  go_enter Tryz.func57, Tryz.ntmps57
  go_wp2_with fail
  refine (ask_any w d D O _ H.out).mono ?_
  rintro e w' ⟨rfl, rfl⟩
  rw [e1]
  go_wp2_with fail
  have A1 : ∀ (v : Value), (w.setCell ⟨gn, n * 65 + 64, none⟩ v).cell? ⟨d, 1, none⟩ = some (.slice (some ⟨gn, 0, none⟩) D.seen.length cn) := fun v => (cell_set_ne (Or.inl (Ne.symm e2n))).trans hc1
  have A0 : ∀ (v : Value), (w.setCell ⟨gn, n * 65 + 64, none⟩ v).cell? ⟨d, 0, none⟩ = some (.slice (some ⟨gs, 0, none⟩) D.sure.length cs) := fun v => (cell_set_ne (Or.inl (Ne.symm e2n))).trans hc0
  have k1 : ∀ (v : Value), (w.setCell ⟨gn, n * 65 + 64, none⟩ v).drew.cell? ⟨d, 1, none⟩ = some (.slice (some ⟨gn, 0, none⟩) D.seen.length cn) := A1
  have k0 : ∀ (v : Value), (w.setCell ⟨gn, n * 65 + 64, none⟩ v).drew.cell? ⟨d, 0, none⟩ = some (.slice (some ⟨gs, 0, none⟩) D.sure.length cs) := A0
  have ks : ∀ (v : Value), (w.setCell ⟨gn, n * 65 + 64, none⟩ v).cell? ⟨gs, n * 65 + 64, none⟩ = some (.int .i64 ((Dk.at_ D.sure n).bad : Nat)) := fun v => (cell_set_ne (Or.inl (Ne.symm e3n))).trans hcs
  have q1 : ∀ (v v' : Value), ((w.setCell ⟨gn, n * 65 + 64, none⟩ v).setCell ⟨gs, n * 65 + 64, none⟩ v').drew.cell? ⟨d, 1, none⟩ = some (.slice (some ⟨gn, 0, none⟩) D.seen.length cn) := fun v v' => (cell_set_ne (Or.inl (Ne.symm e1n))).trans (A1 v)
  have q0 : ∀ (v v' : Value), ((w.setCell ⟨gn, n * 65 + 64, none⟩ v).setCell ⟨gs, n * 65 + 64, none⟩ v').drew.cell? ⟨d, 0, none⟩ = some (.slice (some ⟨gs, 0, none⟩) D.sure.length cs) := fun v v' => (cell_set_ne (Or.inl (Ne.symm e1n))).trans (A0 v)
  go_region_held3 (fun w' => w'.cell? ⟨d, 1, none⟩ = some (.slice (some ⟨gn, 0, none⟩) D.seen.length cn) ∧ w'.cell? ⟨d, 0, none⟩ = some (.slice (some ⟨gs, 0, none⟩) D.sure.length cs)) (first | exact ⟨hc1, hc0⟩ | exact ⟨k1 _, k0 _⟩ | exact ⟨q1 _ _, q0 _ _⟩) (fail)
  go_wp2_with fail
  obtain ⟨W, hW⟩ : ∃ W, W = ((w.setCell ⟨gn, n * 65 + 64, none⟩ (.int .i64 1)).setCell ⟨gs, n * 65 + 64, none⟩ (.int .i64 1)).drew := ⟨_, rfl⟩
  have tW : Touch O w W := by
    rw [hW]
    exact (((Touch.refl O w).setCell (p := ⟨gn, n * 65 + 64, none⟩) (fun _ => o3) _).setCell (p := ⟨gs, n * 65 + 64, none⟩) (fun _ => o2) _).drew
  have tW' : Touch (fun k => k = gn ∨ k = gs) w W := by
    rw [hW]
    exact (((Touch.refl _ w).setCell (p := ⟨gn, n * 65 + 64, none⟩) (fun _ => Or.inl rfl) _).setCell (p := ⟨gs, n * 65 + 64, none⟩) (fun _ => Or.inr rfl) _).drew
  have hseen : Row W gn 167 ((Dk.upd D.seen n Dk.badS).flatMap secCells ++ rn) := by
    have := sec_put HDi.out.seen hn (by decide : 64 < 65) Dk.badS (bad_cells _)
    rw [hW]
    exact Row.touch (F := One gs) this ((Touch.refl (One gs) _).setCell (p := ⟨gs, n * 65 + 64, none⟩) (fun _ => rfl) _).drew (fun e => e3n e.symm)
  have hsure : Row W gs 167 ((Dk.upd D.sure n Dk.badS).flatMap secCells ++ rs) := by
    have h0 : Row (w.setCell ⟨gn, n * 65 + 64, none⟩ (.int .i64 1)) gs 167 (D.sure.flatMap secCells ++ rs) := HDi.out.sure.touch (F := One gn) ((Touch.refl (One gn) _).setCell (p := ⟨gn, n * 65 + 64, none⟩) (fun _ => rfl) _) e3n
    have := sec_put h0 hns (by decide : 64 < 65) Dk.badS (bad_cells _)
    rw [hW]
    exact this
  have hWd := tW'.cell (fun e => by rcases e with e | e; exact e2n e; exact e1n e) HDi.out.c2
  have hWw := rowTouch HDi.out.waits tW' (fun k hk e => by
    have := HDi.out.wne k hk
    rcases e with e | e
    · exact this.2.2 e
    · exact this.2.1 e)
  rw [← hW]
  obtain ⟨gw, hgw⟩ := waits_base hWw rfl
  have Hgw := Lib.hid hgw
  have Hseen := Lib.hid hseen
  have Hsure := Lib.hid hsure
  have TW := Lib.hid tW
  have TW' := Lib.hid tW'
  have HWw := Lib.hid hWw
  clear hgw hseen hsure tW tW' hWw A1 A0 k1 k0 ks q1 q0 hW hcb hcs hfb hfs hc0 hc1
  refine (to_in W d n D.waits D.waits.length aw cw gw rfl hWd hcw1 hw (fun i y hy => ⟨Hgw.out i y hy, by
    obtain rfl := Hgw.out i y hy
    have := (rows_get HWw.out rfl hy (by decide : 0 < 66)).1
    rw [Nat.add_zero] at this
    rw [this]; exact wr_n y⟩)).mono ?_
  rintro e w3 ⟨v, rfl, j1, j2⟩
  obtain ⟨q, hq⟩ : ∃ q, (Dk.hits n D.waits D.waits.length).length = q := ⟨_, rfl⟩
  obtain ⟨av, cv, rfl, hcv, _, _, hqm⟩ := j1.form' (n := q) (by rw [ptrs, List.length_map]; exact hq)
  have hq2 : q ≤ D.waits.length := by rw [← hq]; exact Dk.hits_length _ _ _
  have J1 := Lib.hid j1
  have J2 := Lib.hid j2
  have Hq := Lib.hid hq
  have Hwd := Lib.hid hWd
  clear j1 j2 hq hqm hWd
  go_wp2
  go_loopg [32] q (fun g s32 wr => ∃ k : Nat, k + g = q ∧ s32 = .int .i64 ((k : Nat) : Int) ∧ Hid (Touch (InBlock (.slice aw D.waits.length cw)) w3 wr) ∧ Hid (wr.ownsRow 0 165 66 (.slice aw D.waits.length cw) D.waits.length ((Dk.turn badF D.waits ((Dk.hits n D.waits D.waits.length).take k)).flatMap wrCells)))
  case atStart => exact ⟨0, by omega, rfl, Touch.refl _ _, by
    rw [List.take_zero]
    exact rowTouch HWw.out J2.out (fun _ _ f => f)⟩
  case round =>
    obtain ⟨k, hkg, rfl, T, R⟩ := hrel
    cases gk with
    | zero =>
      obtain rfl : k = q := by omega
      go_wp2
      go_ret
      have hR := R.out
      rw [List.take_of_length_le (by rw [Hq.out]; exact Nat.le_refl _), Dk.turn_all] at hR
      have nd : ∀ x, (x = d ∨ x = gs ∨ x = gn) → ¬ InBlock (.slice aw D.waits.length cw) x := fun x hx hk => by
        have := HDi.out.wne x hk
        rcases hx with e | e | e
        · exact this.1 e
        · exact this.2.1 e
        · exact this.2.2 e
      have tf : Touch (fun k => k = gn ∨ k = gs ∨ InBlock (.slice aw D.waits.length cw) k) w wr := (((TW'.out.mono (fun _ _ e => by rcases e with e | e; exact Or.inl e; exact Or.inr (Or.inl e))).then J2.out (fun _ _ f => f.elim)).then T.out (fun _ _ e => Or.inr (Or.inr e)))
      have c : ∀ o v, w.cell? ⟨d, o, none⟩ = some v → wr.cell? ⟨d, o, none⟩ = some v := fun o v hc => tf.cell (fun e => by
        rcases e with e | e | e
        · exact e2n e
        · exact e1n e
        · exact nd d (Or.inl rfl) e) hc
      refine ⟨rfl, (TW.out.then J2.out (fun _ _ f => f.elim)).then T.out (fun k _ e => Ho4.out k e), gs, gn, cs, cn, rs, rn, .slice aw D.waits.length cw, ⟨Dk.bad_ok Hok.out hn, ?_, ?_, c 2 _ HDi.out.c2, fun o => ?_, ?_, ?_, ?_, ?_, HDi.out.mcs, HDi.out.mcn, ?_, HDi.out.ne, HDi.out.wne⟩, o1, o2, o3, Ho4.out⟩
      · show _ = some (Value.slice _ (Dk.upd D.sure n Dk.badS).length _)
        rw [Dk.upd_length]; exact c 0 _ HDi.out.c0
      · show _ = some (Value.slice _ (Dk.upd D.seen n Dk.badS).length _)
        rw [Dk.upd_length]; exact c 1 _ HDi.out.c1
      · rw [tf.frozen HDi.out.lt (fun e => by
          rcases e with e | e | e
          · exact e2n e
          · exact e1n e
          · exact nd d (Or.inl rfl) e) o]
        exact HDi.out.soft o
      · exact (Hsure.out.touch J2.out id).touch T.out (nd _ (Or.inr (Or.inl rfl)))
      · exact (Hseen.out.touch J2.out id).touch T.out (nd _ (Or.inr (Or.inr rfl)))
      · show (Dk.upd D.sure n Dk.badS).length ≤ cs
        rw [Dk.upd_length]; exact hlcs
      · show (Dk.upd D.seen n Dk.badS).length ≤ cn
        rw [Dk.upd_length]; exact hlcn
      · show World.ownsRow _ 0 _ 66 _ (D.waits.map (Dk.badW n)).length ((D.waits.map (Dk.badW n)).flatMap wrCells)
        rw [List.length_map]
        exact hR
    | succ g =>
      have hlt : (k : Int) < (q : Nat) := by omega
      obtain ⟨i, hi⟩ : ∃ i, (Dk.hits n D.waits D.waits.length)[k]? = some i := ⟨_, List.getElem?_eq_getElem (by rw [Hq.out]; omega)⟩
      obtain ⟨him, y, hy, hyn⟩ := Dk.hits_get hi
      obtain rfl := Hgw.out i y hy
      have hown := (J1.out.touch T.out (fun b hb _ e => by
        have h1 := (rowBlock HWw.out e).2
        omega)).form
      obtain ⟨av', cv', hv', _, hrd, _⟩ := hown
      have hpi : (ptrs gw 66 (Dk.hits n D.waits D.waits.length))[k]? = some (.pointer (some ⟨gw, i * 66, none⟩)) := by rw [ptrs, List.getElem?_map, hi]; rfl
      obtain ⟨bv, ov, hav, hcl⟩ := hrd k _ hpi
      obtain rfl : av = some ⟨bv, ov, none⟩ := by cases hv'; exact hav
      clear hv' hrd hpi hav
      have hyt : (Dk.turn badF D.waits ((Dk.hits n D.waits D.waits.length).take k))[i]? = some y := (Dk.turn_at badF D.waits _ k i (Dk.hits_nodup _ _ _) hi).trans hy
      have hg := rows_get R.out (Dk.turn_length _ _ _) hyt (by decide : 65 < 66)
      have hce : wr.cell? ⟨gw, i * 66 + 65, none⟩ = some (.int .i64 (y.elder : Nat)) := hg.1.trans (wr_elder y)
      have hfe := hg.2
      have hset := rows_set R.out (Dk.turn_length _ _ _) hyt (by decide : 65 < 66) (badW_cells y)
      have hnext : (Dk.turn badF D.waits ((Dk.hits n D.waits D.waits.length).take k)).set i ⟨y.n, y.b, 1⟩ = Dk.turn badF D.waits ((Dk.hits n D.waits D.waits.length).take (k + 1)) := by
        have e1 : (Dk.hits n D.waits D.waits.length).take (k + 1) = (Dk.hits n D.waits D.waits.length).take k ++ [i] := by
          rw [List.take_add_one, hi]; rfl
        rw [e1, Dk.turn_snoc, modify_set badF hyt]
        rfl
      rw [hnext] at hset
      have Hset := Lib.hid hset
      clear hset hnext hg hyt hi hy hyn him
      go_wp2
      go_roundg g
      case measure => omega
      case rel => exact ⟨k + 1, by omega, by go_num, T.out.setCell (p := ⟨gw, i * 66 + 65, none⟩) (fun _ => rfl) _, Hset.out⟩
end Go.Proofs.YtmjeigceclmdoaaGreatDoor
namespace Go.Proofs.YtmjeigceclmdoaaGreatDoor
open Go Go.RowKit
set_option linter.unusedSimpArgs false

theorem map_set_cells {b : List Nat} {p v : Nat} (hl : b.length = 64) : (List.range 64).map (fun j => Value.int .u8 (((b.set p v).getD j 0 : Nat) : Int)) = ((List.range 64).map (fun j => Value.int .u8 ((b.getD j 0 : Nat) : Int))).set p (.int .u8 (v : Nat)) := by
  rw [bytes_cells (by rw [List.length_set]; exact hl), bytes_cells hl, nums, nums, List.map_set]
theorem turnS_cells (p x : Nat) (s : Dk.Sec) (hp : p < 64) (hl : s.b.length = 64) : secCells (Dk.turnS p x s) = (secCells s).set p (.int .u8 ((s.b.getD p 0 ^^^ x : Nat) : Int)) := by
  rw [secCells, secCells, List.set_append_left _ _ (by simp; omega), Dk.turnS, Dk.turnB, map_set_cells hl]
theorem turnW_cells (p x : Nat) (y : Dk.Wr) (hp : p < 64) (hl : y.b.length = 64) : wrCells ⟨y.n, Dk.turnB y.b p x, y.elder⟩ = (wrCells y).set (1 + p) (.int .u8 ((y.b.getD p 0 ^^^ x : Nat) : Int)) := by
  rw [wrCells, wrCells, Nat.add_comm 1 p, List.set_cons_succ, List.set_append_left _ _ (by simp; omega), Dk.turnB, map_set_cells hl]
def rotF (p x : Nat) (y : Dk.Wr) : Dk.Wr := ⟨y.n, Dk.turnB y.b p x, y.elder⟩
theorem byte_lt {b : List Nat} (h : Dk.Bytes b) (p : Nat) : b.getD p 0 < 256 := by
  rw [List.getD_eq_getElem?_getD]
  cases hq : b[p]? with
  | none => simp
  | some z => exact h.lt z (List.mem_of_getElem? hq)

set_option maxRecDepth 100000 in
set_option maxHeartbeats 2000000 in
theorem rot_in (w : World) (d : Nat) (D : Dk.Disk) (O : Nat → Prop) (n p x : Nat) (h : DiskAt w d D O) (hn : n < D.seen.length) (hp : p < 64) (hx : x < 256) (hw : D.waits.length ≤ 1000000) :
    Calls Tryz.prog 55 #[.pointer (some ⟨d, 0, none⟩), .int .i64 (n : Nat), .int .i64 (p : Nat), .int .u8 (x : Nat)] w fun e w' => e = .returned (.int .i64 0) ∧ Touch O w w' ∧ DiskAt w' d (Dk.rot D n p x) O := by
  have H := Lib.hid h
  have ok := h.ok
  have e1 : askSays D.seen.length n = 0 := by unfold askSays; rw [if_pos (by omega)]
  obtain ⟨gs, gn, cs, cn, rs, rn, vw, Di, o1, o2, o3, o4⟩ := h
  obtain ⟨aw, cw, rfl, hcw1, hcw2⟩ := rowSlice Di.waits
  have Hok := Lib.hid ok
  have HDi := Lib.hid Di
  have hn1 : (n : Int) < (D.seen.length : Nat) := by omega
  have hns : n < D.sure.length := by rw [ok.len]; exact hn
  have hn2 : (n : Int) < (D.sure.length : Nat) := by omega
  have hcb : w.cell? ⟨gn, n * 65 + p, none⟩ = some (.int .u8 ((Dk.at_ D.seen n).b.getD p 0 : Nat)) := by
    have := Row.cell Di.seen (n * 65 + p)
    rw [this, List.getElem?_append_left (by
      rw [flat_length secCells_length]
      have := Nat.mul_le_mul_right 65 hn
      omega), flat_get secCells_length _ n p _ (Dk.at_get hn) (by omega)]
    exact sec_cell _ hp
  have hcs : w.cell? ⟨gs, n * 65 + p, none⟩ = some (.int .u8 ((Dk.at_ D.sure n).b.getD p 0 : Nat)) := by
    have := Row.cell Di.sure (n * 65 + p)
    rw [this, List.getElem?_append_left (by
      rw [flat_length secCells_length]
      have := Nat.mul_le_mul_right 65 hns
      omega), flat_get secCells_length _ n p _ (Dk.at_get hns) (by omega)]
    exact sec_cell _ hp
  have hfb := Di.seen.soft (n * 65 + p)
  have hfs := Di.sure.soft (n * 65 + p)
  have hc0 := Di.c0
  have hc1 := Di.c1
  have hlcn := Di.lcn
  have hlcs := Di.lcs
  have okS := (ok.sure _ (Dk.at_mem hns)).b
  have okN := (ok.seen _ (Dk.at_mem hn)).b
  have hp1 : (p : Int) < 64 := by omega
  have hp2 : ¬ (64 : Int) ≤ (p : Nat) := by omega
  obtain ⟨xn, hxn⟩ : ∃ xn, (Dk.at_ D.seen n).b.getD p 0 ^^^ x = xn := ⟨_, rfl⟩
  obtain ⟨xs, hxs⟩ : ∃ xs, (Dk.at_ D.sure n).b.getD p 0 ^^^ x = xs := ⟨_, rfl⟩
  obtain ⟨yn, hyn⟩ : ∃ yn, (Dk.at_ D.seen n).b.getD p 0 = yn := ⟨_, rfl⟩
  obtain ⟨ys, hys⟩ : ∃ ys, (Dk.at_ D.sure n).b.getD p 0 = ys := ⟨_, rfl⟩
  have bn : bits BinOp.xor .u8 (yn : Int) (x : Int) = (xn : Nat) := by rw [← hxn, hyn]; exact u8_xor_nat _ _ (by rw [← hyn]; exact byte_lt okN p) hx
  have bs : bits BinOp.xor .u8 (ys : Int) (x : Int) = (xs : Nat) := by rw [← hxs, hys]; exact u8_xor_nat _ _ (by rw [← hys]; exact byte_lt okS p) hx
  rw [hyn] at hcb
  rw [hys] at hcs
  have cellS := turnS_cells p x (Dk.at_ D.sure n) hp okS.len
  have cellN := turnS_cells p x (Dk.at_ D.seen n) hp okN.len
  rw [hxn] at cellN
  rw [hxs] at cellS
  have HcS := Lib.hid cellS
  have HcN := Lib.hid cellN
  clear cellS cellN hxn hxs hyn hys okS okN
  have Ho4 := Lib.hid o4
  have e1n : d ≠ gs := Di.ne.1
  have e2n : d ≠ gn := Di.ne.2.1
  have e3n : gs ≠ gn := Di.ne.2.2
  clear Di ok o4
  go_enter Tryz.func55, Tryz.ntmps55
  go_wp2_with fail
  refine (ask_any w d D O _ H.out).mono ?_
  rintro e w' ⟨rfl, rfl⟩
  rw [e1]
  go_wp2_with fail
  go_still_tail 15, (by kernel_rfl)
  go_wp2
  obtain ⟨W1, hW1⟩ : ∃ W1, W1 = (w.setCell ⟨gn, n * 65 + p, none⟩ (.int .u8 (xn : Nat))).drew := ⟨_, rfl⟩
  rw [← hW1]
  have t1 : Touch (One gn) w W1 := by
    rw [hW1]; exact ((Touch.refl (One gn) w).setCell (p := ⟨gn, n * 65 + p, none⟩) (fun _ => rfl) _).drew
  have hseen1 : Row W1 gn 167 ((Dk.upd D.seen n (Dk.turnS p x)).flatMap secCells ++ rn) := by
    rw [hW1]; exact sec_put HDi.out.seen hn (by omega) (Dk.turnS p x) HcN.out
  have hsure1 : Row W1 gs 167 (D.sure.flatMap secCells ++ rs) := HDi.out.sure.touch t1 e3n
  have hc0' := t1.cell e2n hc0
  have hcs' := t1.cell e3n hcs
  have hfs' := hsure1.soft (n * 65 + p)
  have T1 := Lib.hid t1
  have Hseen1 := Lib.hid hseen1
  have Hsure1 := Lib.hid hsure1
  clear t1 hseen1 hsure1 hW1 hc0 hcs hfs hcb hfb hc1
  go_still_tail 15, (by kernel_rfl)
  go_wp2_with fail
  obtain ⟨W, hW⟩ : ∃ W, W = (W1.setCell ⟨gs, n * 65 + p, none⟩ (.int .u8 (xs : Nat))).drew := ⟨_, rfl⟩
  have t2 : Touch (One gs) W1 W := by
    rw [hW]; exact ((Touch.refl (One gs) W1).setCell (p := ⟨gs, n * 65 + p, none⟩) (fun _ => rfl) _).drew
  have tW : Touch O w W := (T1.out.mono (G := O) (fun _ _ e => by rw [show _ = gn from e]; exact o3)).then t2 (fun _ _ e => by rw [show _ = gs from e]; exact o2)
  have tW' : Touch (fun k => k = gn ∨ k = gs) w W := (T1.out.mono (G := fun k => k = gn ∨ k = gs) (fun _ _ e => Or.inl e)).then t2 (fun _ _ e => Or.inr e)
  have hseen : Row W gn 167 ((Dk.upd D.seen n (Dk.turnS p x)).flatMap secCells ++ rn) := Hseen1.out.touch t2 (fun e => e3n e.symm)
  have hsure : Row W gs 167 ((Dk.upd D.sure n (Dk.turnS p x)).flatMap secCells ++ rs) := by
    rw [hW]; exact sec_put Hsure1.out hns (by omega) (Dk.turnS p x) HcS.out
  have hWd := tW'.cell (fun e => by rcases e with e | e; exact e2n e; exact e1n e) HDi.out.c2
  have hWw := rowTouch HDi.out.waits tW' (fun k hk e => by
    have := HDi.out.wne k hk
    rcases e with e | e
    · exact this.2.2 e
    · exact this.2.1 e)
  rw [← hW]
  obtain ⟨gw, hgw⟩ := waits_base hWw rfl
  have Hgw := Lib.hid hgw
  have Hseen := Lib.hid hseen
  have Hsure := Lib.hid hsure
  have TW := Lib.hid tW
  have TW' := Lib.hid tW'
  have HWw := Lib.hid hWw
  have hx' : (x : Int) < 256 := by omega
  clear hgw hseen hsure tW tW' hWw hW t2 hc0' hcs' hfs' bn bs
  refine (to_in W d n D.waits D.waits.length aw cw gw rfl hWd hcw1 hw (fun i y hy => ⟨Hgw.out i y hy, by
    obtain rfl := Hgw.out i y hy
    have := (rows_get HWw.out rfl hy (by decide : 0 < 66)).1
    rw [Nat.add_zero] at this
    rw [this]; exact wr_n y⟩)).mono ?_
  rintro e w3 ⟨v, rfl, j1, j2⟩
  obtain ⟨q, hq⟩ : ∃ q, (Dk.hits n D.waits D.waits.length).length = q := ⟨_, rfl⟩
  obtain ⟨av, cv, rfl, hcv, _, _, hqm⟩ := j1.form' (n := q) (by rw [ptrs, List.length_map]; exact hq)
  have hq2 : q ≤ D.waits.length := by rw [← hq]; exact Dk.hits_length _ _ _
  have J1 := Lib.hid j1
  have J2 := Lib.hid j2
  have Hq := Lib.hid hq
  have Hwd := Lib.hid hWd
  clear j1 j2 hq hqm hWd
  go_wp2
  go_loopg [62] q (fun g s32 wr => ∃ k : Nat, k + g = q ∧ s32 = .int .i64 ((k : Nat) : Int) ∧ Hid (Touch (InBlock (.slice aw D.waits.length cw)) w3 wr) ∧ Hid (wr.ownsRow 0 165 66 (.slice aw D.waits.length cw) D.waits.length ((Dk.turn (rotF p x) D.waits ((Dk.hits n D.waits D.waits.length).take k)).flatMap wrCells)))
  case atStart => exact ⟨0, by omega, rfl, Touch.refl _ _, by
    rw [List.take_zero]
    exact rowTouch HWw.out J2.out (fun _ _ f => f)⟩
  case round =>
    obtain ⟨k, hkg, rfl, T, R⟩ := hrel
    cases gk with
    | zero =>
      obtain rfl : k = q := by omega
      go_wp2
      go_ret
      have hR := R.out
      rw [List.take_of_length_le (by rw [Hq.out]; exact Nat.le_refl _), Dk.turn_all] at hR
      have nd : ∀ x, (x = d ∨ x = gs ∨ x = gn) → ¬ InBlock (.slice aw D.waits.length cw) x := fun x hx hk => by
        have := HDi.out.wne x hk
        rcases hx with e | e | e
        · exact this.1 e
        · exact this.2.1 e
        · exact this.2.2 e
      have tf : Touch (fun k => k = gn ∨ k = gs ∨ InBlock (.slice aw D.waits.length cw) k) w wr := (((TW'.out.mono (fun _ _ e => by rcases e with e | e; exact Or.inl e; exact Or.inr (Or.inl e))).then J2.out (fun _ _ f => f.elim)).then T.out (fun _ _ e => Or.inr (Or.inr e)))
      have c : ∀ o v, w.cell? ⟨d, o, none⟩ = some v → wr.cell? ⟨d, o, none⟩ = some v := fun o v hc => tf.cell (fun e => by
        rcases e with e | e | e
        · exact e2n e
        · exact e1n e
        · exact nd d (Or.inl rfl) e) hc
      refine ⟨rfl, (TW.out.then J2.out (fun _ _ f => f.elim)).then T.out (fun k _ e => Ho4.out k e), gs, gn, cs, cn, rs, rn, .slice aw D.waits.length cw, ⟨Dk.rot_ok Hok.out hn hx, ?_, ?_, c 2 _ HDi.out.c2, fun o => ?_, ?_, ?_, ?_, ?_, HDi.out.mcs, HDi.out.mcn, ?_, HDi.out.ne, HDi.out.wne⟩, o1, o2, o3, Ho4.out⟩
      · show _ = some (Value.slice _ (Dk.upd D.sure n (Dk.turnS p x)).length _)
        rw [Dk.upd_length]; exact c 0 _ HDi.out.c0
      · show _ = some (Value.slice _ (Dk.upd D.seen n (Dk.turnS p x)).length _)
        rw [Dk.upd_length]; exact c 1 _ HDi.out.c1
      · rw [tf.frozen HDi.out.lt (fun e => by
          rcases e with e | e | e
          · exact e2n e
          · exact e1n e
          · exact nd d (Or.inl rfl) e) o]
        exact HDi.out.soft o
      · exact (Hsure.out.touch J2.out id).touch T.out (nd _ (Or.inr (Or.inl rfl)))
      · exact (Hseen.out.touch J2.out id).touch T.out (nd _ (Or.inr (Or.inr rfl)))
      · show (Dk.upd D.sure n (Dk.turnS p x)).length ≤ cs
        rw [Dk.upd_length]; exact hlcs
      · show (Dk.upd D.seen n (Dk.turnS p x)).length ≤ cn
        rw [Dk.upd_length]; exact hlcn
      · show World.ownsRow _ 0 _ 66 _ (D.waits.map (Dk.turnW n p x)).length ((D.waits.map (Dk.turnW n p x)).flatMap wrCells)
        rw [List.length_map]
        exact hR
    | succ g =>
      have hlt : (k : Int) < (q : Nat) := by omega
      obtain ⟨i, hi⟩ : ∃ i, (Dk.hits n D.waits D.waits.length)[k]? = some i := ⟨_, List.getElem?_eq_getElem (by rw [Hq.out]; omega)⟩
      obtain ⟨him, y, hy, hyn⟩ := Dk.hits_get hi
      obtain rfl := Hgw.out i y hy
      have hown := (J1.out.touch T.out (fun b hb _ e => by
        have h1 := (rowBlock HWw.out e).2
        omega)).form
      obtain ⟨av', cv', hv', _, hrd, _⟩ := hown
      have hpi : (ptrs gw 66 (Dk.hits n D.waits D.waits.length))[k]? = some (.pointer (some ⟨gw, i * 66, none⟩)) := by rw [ptrs, List.getElem?_map, hi]; rfl
      obtain ⟨bv, ov, hav, hcl⟩ := hrd k _ hpi
      obtain rfl : av = some ⟨bv, ov, none⟩ := by cases hv'; exact hav
      clear hv' hrd hpi hav
      have hyt : (Dk.turn (rotF p x) D.waits ((Dk.hits n D.waits D.waits.length).take k))[i]? = some y := (Dk.turn_at (rotF p x) D.waits _ k i (Dk.hits_nodup _ _ _) hi).trans hy
      have hg := rows_get R.out (Dk.turn_length _ _ _) hyt (show 1 + p < 66 by omega)
      have hyb := (Hok.out.waits y (List.mem_of_getElem? hy)).b
      obtain ⟨z, hz⟩ : ∃ z, y.b.getD p 0 = z := ⟨_, rfl⟩
      obtain ⟨zx, hzx⟩ : ∃ zx, y.b.getD p 0 ^^^ x = zx := ⟨_, rfl⟩
      have hce : wr.cell? ⟨gw, i * 66 + (1 + p), none⟩ = some (.int .u8 (z : Nat)) := by rw [← hz]; exact hg.1.trans (wr_cell y hp)
      have hce2 : wr.cell? ⟨gw, i * 66 + 1 + p, none⟩ = some (.int .u8 (z : Nat)) := by rw [Nat.add_assoc]; exact hce
      have hfe := hg.2
      have hfe2 : wr.frozen? ⟨gw, i * 66 + 1 + p, none⟩ = false := by rw [Nat.add_assoc]; exact hg.2
      have hset := rows_set R.out (Dk.turn_length _ _ _) hyt (show 1 + p < 66 by omega) (turnW_cells p x y hp hyb.len)
      have bz : bits BinOp.xor .u8 (z : Int) (x : Int) = (zx : Nat) := by rw [← hzx, ← hz]; exact u8_xor_nat _ _ (byte_lt hyb p) hx
      rw [hzx] at hset
      have hnext : (Dk.turn (rotF p x) D.waits ((Dk.hits n D.waits D.waits.length).take k)).set i ⟨y.n, Dk.turnB y.b p x, y.elder⟩ = Dk.turn (rotF p x) D.waits ((Dk.hits n D.waits D.waits.length).take (k + 1)) := by
        have e1 : (Dk.hits n D.waits D.waits.length).take (k + 1) = (Dk.hits n D.waits D.waits.length).take k ++ [i] := by
          rw [List.take_add_one, hi]; rfl
        rw [e1, Dk.turn_snoc, modify_set (rotF p x) hyt]
        rfl
      rw [hnext] at hset
      have Hset := Lib.hid hset
      clear hset hnext hg hyt hi hy hyn him hyb hz hzx
      have TT := T.out.setCell (p := ⟨gw, i * 66 + (1 + p), none⟩) (fun _ => rfl) (.int .u8 (zx : Nat))
      have HTT := Lib.hid TT
      clear TT
      go_wp2
      go_still_tail 11, (by kernel_rfl)
      go_wp2
      go_roundg g
      case measure => omega
      case rel =>
        refine ⟨k + 1, by omega, by go_num, ?_, ?_⟩
        · show Touch _ _ _
          rw [Nat.add_assoc]
          exact HTT.out.drew
        · rw [Nat.add_assoc]
          exact Hset.out
end Go.Proofs.YtmjeigceclmdoaaGreatDoor
namespace Go.Proofs.YtmjeigceclmdoaaGreatDoor
open Go Go.RowKit

/-- a disk in blocks of its own: O, all from B on -/
structure Dsk (w : World) (d : Nat) (D : Dk.Disk) (B : Nat) (O : Nat → Prop) : Prop where
  on : DiskAt w d D O
  lt : ∀ k, O k → k < w.heap.size
  ge : ∀ k, O k → B ≤ k

theorem DiskAt.tight {w : World} {d : Nat} {D : Dk.Disk} {O : Nat → Prop} (h : DiskAt w d D O) : DiskAt w d D (fun k => O k ∧ k < w.heap.size) := by
  obtain ⟨gs, gn, cs, cn, rs, rn, vw, h, o1, o2, o3, o4⟩ := h
  exact ⟨gs, gn, cs, cn, rs, rn, vw, h, ⟨o1, h.lt⟩, ⟨o2, h.sure.lt⟩, ⟨o3, h.seen.lt⟩, fun k hk => ⟨o4 k hk, (rowBlock h.waits hk).2⟩⟩
theorem DiskAt.mono {w : World} {d : Nat} {D : Dk.Disk} {O O' : Nat → Prop} (h : DiskAt w d D O) (hO : ∀ k, O k → O' k) : DiskAt w d D O' := by
  obtain ⟨gs, gn, cs, cn, rs, rn, vw, h, o1, o2, o3, o4⟩ := h
  exact ⟨gs, gn, cs, cn, rs, rn, vw, h, hO _ o1, hO _ o2, hO _ o3, fun k hk => hO _ (o4 k hk)⟩
theorem Dsk.ok {w : World} {d : Nat} {D : Dk.Disk} {B : Nat} {O : Nat → Prop} (h : Dsk w d D B O) : Dk.Ok D := h.on.ok
theorem Dsk.touch {F : Nat → Prop} {w w' : World} {d : Nat} {D : Dk.Disk} {B : Nat} {O : Nat → Prop} (h : Dsk w d D B O) (t : Touch F w w') (hF : ∀ k, O k → ¬ F k) : Dsk w' d D B O :=
  ⟨h.on.touch t (fun k _ hk => hF k hk), fun k hk => Nat.lt_of_lt_of_le (h.lt k hk) t.size, h.ge⟩
theorem Dsk.no {w w' : World} {d : Nat} {D : Dk.Disk} {B : Nat} {O : Nat → Prop} (h : Dsk w d D B O) (t : Touch No w w') : Dsk w' d D B O := h.touch t (fun _ _ f => f)
theorem Dsk.base {w : World} {d : Nat} {D : Dk.Disk} {B B' : Nat} {O : Nat → Prop} (h : Dsk w d D B O) (hB : B' ≤ B) : Dsk w d D B' O := ⟨h.on, h.lt, fun k hk => Nat.le_trans hB (h.ge k hk)⟩

/-- what a call of a disk's leaves: the disk, in its blocks or new ones -/
def After (w : World) (d : Nat) (D : Dk.Disk) (B : Nat) (O : Nat → Prop) (w' : World) : Prop :=
  Touch O w w' ∧ ∃ O', Dsk w' d D B O' ∧ ∀ k, O' k → O k ∨ w.heap.size ≤ k
/-- a new disk -/
def Made (w : World) (d : Nat) (D : Dk.Disk) (w' : World) : Prop := Touch No w w' ∧ ∃ O', Dsk w' d D w.heap.size O'

theorem after_of {w w' : World} {d : Nat} {D D' : Dk.Disk} {B : Nat} {O : Nat → Prop} (h : Dsk w d D B O) (hB : B ≤ w.heap.size) (t : Touch O w w') (h' : DiskAt w' d D' (fun k => O k ∨ w.heap.size ≤ k)) : After w d D' B O w' :=
  ⟨t, _, ⟨h'.tight, fun _ hk => hk.2, fun k hk => by
    rcases hk.1 with e | e
    · exact h.ge k e
    · omega⟩, fun _ hk => hk.1⟩
theorem made_of {w w' : World} {d : Nat} {D' : Dk.Disk} (t : Touch No w w') (h' : DiskAt w' d D' (fun k => w.heap.size ≤ k)) : Made w d D' w' :=
  ⟨t, _, h'.tight, fun _ hk => hk.2, fun _ hk => hk.1⟩

theorem new_k (w : World) (n : Nat) (h1 : 1 ≤ n) (hn : n ≤ 16384) :
    Calls Tryz.prog 47 #[.int .i64 (n : Nat)] w fun e w' => ∃ d, e = .returned (.tuple #[.pointer (some ⟨d, 0, none⟩), .int .i64 0]) ∧ Made w d (Dk.new n) w' :=
  (new_is w n h1 hn).mono fun _ _ ⟨d, he, _, h, t⟩ => ⟨d, he, made_of t h⟩
theorem write_k (w : World) (d : Nat) (D : Dk.Disk) (B : Nat) (O : Nat → Prop) (n : Nat) (a : Option Addr) (l c : Nat) (b : List Nat) (hB : B ≤ w.heap.size) (h : Dsk w d D B O) (hn : n < D.seen.length) (hl : b.length = l) (hl64 : l ≤ 64) (hlt : ∀ x ∈ b, x < 256) (hr : Rd w a (nums .u8 b)) (hw : D.waits.length ≤ 1000000) :
    Calls Tryz.prog 49 #[.pointer (some ⟨d, 0, none⟩), .int .i64 (n : Nat), .slice a l c] w fun e w' => e = .returned (.int .i64 0) ∧ After w d (Dk.write D n b) B O w' := by
  subst hl
  exact (write_in w d D O n a c b h.on hn hl64 hlt hr hw).mono fun _ _ ⟨he, t, h'⟩ => ⟨he, after_of h hB t h'⟩
theorem sync_k (w : World) (d : Nat) (D : Dk.Disk) (B : Nat) (O : Nat → Prop) (hB : B ≤ w.heap.size) (h : Dsk w d D B O) :
    Calls Tryz.prog 51 #[.pointer (some ⟨d, 0, none⟩)] w fun e w' => e = .returned (.int .i64 0) ∧ After w d (Dk.sync D) B O w' :=
  (sync_in w d D O h.on).mono fun _ _ ⟨he, t, h'⟩ => ⟨he, after_of h hB t h'⟩
theorem bad_k (w : World) (d : Nat) (D : Dk.Disk) (B : Nat) (O : Nat → Prop) (n : Nat) (hB : B ≤ w.heap.size) (h : Dsk w d D B O) (hn : n < D.seen.length) (hw : D.waits.length ≤ 1000000) :
    Calls Tryz.prog 57 #[.pointer (some ⟨d, 0, none⟩), .int .i64 (n : Nat)] w fun e w' => e = .returned (.int .i64 0) ∧ After w d (Dk.bad D n) B O w' :=
  (bad_in w d D O n h.on hn hw).mono fun _ _ ⟨he, t, h'⟩ => ⟨he, after_of h hB t (h'.mono fun _ hk => Or.inl hk)⟩
theorem rot_k (w : World) (d : Nat) (D : Dk.Disk) (B : Nat) (O : Nat → Prop) (n p x : Nat) (hB : B ≤ w.heap.size) (h : Dsk w d D B O) (hn : n < D.seen.length) (hp : p < 64) (hx : x < 256) (hw : D.waits.length ≤ 1000000) :
    Calls Tryz.prog 55 #[.pointer (some ⟨d, 0, none⟩), .int .i64 (n : Nat), .int .i64 (p : Nat), .int .u8 (x : Nat)] w fun e w' => e = .returned (.int .i64 0) ∧ After w d (Dk.rot D n p x) B O w' :=
  (rot_in w d D O n p x h.on hn hp hx hw).mono fun _ _ ⟨he, t, h'⟩ => ⟨he, after_of h hB t (h'.mono fun _ hk => Or.inl hk)⟩
theorem fail_k (w : World) (d : Nat) (D : Dk.Disk) (B : Nat) (O : Nat → Prop) (keep : Nat) (torn : Int) (hk : keep < 18446744073709551616) (h : Dsk w d D B O) (hw : D.waits.length ≤ 1000000) :
    Calls Tryz.prog 53 #[.pointer (some ⟨d, 0, none⟩), .int .u64 (keep : Nat), .int .i64 torn] w fun e w' => ∃ d', e = .returned (.tuple #[.pointer (some ⟨d', 0, none⟩), .int .i64 0]) ∧ Made w d' (Dk.fail D keep torn) w' :=
  (fail_in w d D O keep torn hk h.on hw).mono fun _ _ ⟨d', he, _, h', t⟩ => ⟨d', he, made_of t h'⟩

theorem rd_one (w : World) (T : TypeId) (x : Nat) (fr : Nat × Nat) : Rd (w.alloc (.cells #[.int .u8 (x : Nat)] T fr)) (some ⟨w.heap.size, 0, none⟩) (nums .u8 [x]) := by
  intro i v hi
  match i, hi with
  | 0, hi =>
    have : Value.int .u8 (x : Nat) = v := by simpa [nums] using hi
    subst this
    exact ⟨_, _, rfl, by
      have hh := heap_alloc_new w (.cells #[.int .u8 (x : Nat)] T fr)
      simp only [World.cell?]; rw [hh]; rfl⟩
end Go.Proofs.YtmjeigceclmdoaaGreatDoor
namespace Go.Proofs.YtmjeigceclmdoaaGreatDoor
open Go Go.RowKit

theorem byte_is : ∃ i z, TypeIs 5 i z 1 1 [.int .u8 0] := type_is (by kernel_rfl)

set_option maxHeartbeats 2000000 in
theorem clone_bytes (w : World) (g o n c : Nat) (xs : List Nat) (hr : w.rangeAt g o (nums .u8 xs)) (hl : xs.length = n) (hn : n ≤ 16384) :
    Calls Tryz.prog 156 #[.slice (some ⟨g, o, none⟩) n c] w fun e w' => ∃ g' c', e = .returned (.slice (some ⟨g', 0, none⟩) n c') ∧ w.heap.size ≤ g' ∧ Rd w' (some ⟨g', 0, none⟩) (nums .u8 xs) ∧ n ≤ c' ∧ c' ≤ maxLen ∧ Touch No w w' := by
  have hq := fun (w : World) (a : Option Addr) (n c n' c' : Nat) => Lib.run_eql_slice_nil (P := Tryz.prog) w 22 5 a n c n' c' Tryz.underlying22
  obtain ⟨I, z, hI⟩ := byte_is
  have HI := Lib.hid hI
  have H := Lib.hid hr
  have Hl := Lib.hid hl
  have Hn := Lib.hid hn
  clear hr hn hl hI
  go_enter Tryz.func156, Tryz.ntmps156
  go_wp2_with (at_builtin; refine wpList_append_own _ rfl _ _ 22 rfl w.heap.size 5 I z 1 1 Tryz.underlying22 HI.out.info HI.out.zero HI.out.size HI.out.bytes (by rw [HI.out.cells]; rfl) (by decide) _ _ _ rfl (World.ownsRow_made w #[] 0 (Nat.le_refl _) (Nat.zero_le _) (by simp)) ⟨g, o, none⟩ n c (nums .u8 xs) rfl ?qc1 ?qc2 ?qc3 ?qc4 ?qc5 ?qc6 ?_)
  case qc1 => rw [nums_length, Hl.out, Nat.mul_one]
  case qc2 =>
    intro j u hj
    rw [Addr.add_lit]
    exact Lib.cell?_alloc_some _ (H.out j u hj)
  case qc3 => exact nums_one _ _
  case qc4 => have := Hn.out; unfold maxLen; omega
  case qc5 => have := Hn.out; omega
  case qc6 => simp
  intro v' w1 hown hgrow hnil
  have Ho := Lib.hid hown
  have Hg := Lib.hid hgrow
  have Hx := Lib.hid hnil
  clear hown hgrow hnil
  go_wp2
  go_ret
  obtain ⟨g', c', r', rfl, h1, h2, h3, h4⟩ := ownRow Ho.out Hx.out
  refine ⟨g', c', by simp, h1, fun j u hj => ⟨g', 0, rfl, ?_⟩, by simpa using h3, h4, ?_⟩
  · rw [Nat.zero_add, h2.cell]
    have hh : j < (nums .u8 xs).length := by
      by_cases hh : j < (nums .u8 xs).length
      · exact hh
      · rw [List.getElem?_eq_none (by omega)] at hj; cases hj
    rw [List.getElem?_append_left (by simpa using hh)]
    simpa using hj
  · exact ((Touch.refl No w).alloc _).grown Hg.out (by intro k hk hlt; simp [Value.ownBlock] at hk; omega)

set_option maxHeartbeats 400000 in
theorem clip_bytes (w : World) (a : Option Addr) (n c : Nat) (h : n ≤ c) : Calls Tryz.prog 155 #[.slice a n c] w fun e w' => e = .returned (.slice a n n) ∧ w = w' := by
  have hnc : (n : Int) ≤ (c : Int) := by omega
  have h0 : (0 : Int) ≤ (n : Int) := Int.natCast_nonneg _
  go_enter Tryz.func155, Tryz.ntmps155
  go_wp2
  go_ret
  exact ⟨rfl, rfl⟩

/-- what Read answers -/
theorem sec_at (w : World) (gn : Nat) (l : List Dk.Sec) (r : List Value) (hr : Row w gn 167 (l.flatMap secCells ++ r)) (n : Nat) (hn : n < l.length) (j : Nat) (hj : j < 65) : w.cell? ⟨gn, n * 65 + j, none⟩ = (secCells (Dk.at_ l n))[j]? := by
  rw [hr.cell, List.getElem?_append_left (by
    rw [flat_length secCells_length]
    have := Nat.mul_le_mul_right 65 hn
    omega)]
  exact flat_get secCells_length l n j _ (Dk.at_get hn) hj

set_option maxHeartbeats 2000000 in
theorem read_in (w : World) (d : Nat) (D : Dk.Disk) (O : Nat → Prop) (n : Nat) (h : DiskAt w d D O) (hn : n < D.seen.length) (hb : (Dk.at_ D.seen n).bad = 0) :
    Calls Tryz.prog 63 #[.pointer (some ⟨d, 0, none⟩), .int .i64 (n : Nat)] w fun e w' => ∃ g, e = .returned (.tuple #[.slice (some ⟨g, 0, none⟩) 64 64, .int .i64 0]) ∧ w.heap.size ≤ g ∧ Rd w' (some ⟨g, 0, none⟩) (nums .u8 (Dk.at_ D.seen n).b) ∧ Touch No w w' := by
  have H := Lib.hid h
  have e1 : askSays D.seen.length n = 0 := by unfold askSays; rw [if_pos (by omega)]
  have hok := (h.ok.seen _ (Dk.at_mem hn)).b.len
  obtain ⟨gs, gn, cs, cn, rs, rn, vw, Di, _⟩ := h
  have hc1 := Di.c1
  have hlcn := Di.lcn
  have hn' : (n : Int) < (D.seen.length : Nat) := by omega
  have hcb : w.cell? ⟨gn, n * 65 + 64, none⟩ = some (.int .i64 0) := by
    rw [sec_at w gn D.seen rn Di.seen n hn 64 (by decide), sec_bad, hb]; rfl
  have hra : Hid (w.rangeAt gn (n * 65) (nums .u8 (Dk.at_ D.seen n).b)) := fun j v hj => by
    have hj64 : j < 64 := by
      by_cases hh : j < (nums .u8 (Dk.at_ D.seen n).b).length
      · rw [nums_length, hok] at hh; exact hh
      · rw [List.getElem?_eq_none (by omega)] at hj; cases hj
    rw [sec_at w gn D.seen rn Di.seen n hn j (by omega), secCells, bytes_cells hok, List.getElem?_append_left (by rw [nums_length, hok]; exact hj64)]
    exact hj
  have Hok := Lib.hid hok
  clear Di hok hb
  go_enter Tryz.func63, Tryz.ntmps63
  go_wp2_with (first
    | (go_at_call 151; refine (ask_any _ _ _ _ _ H.out).mono ?_; rintro e w' ⟨rfl, rfl⟩; rw [e1])
    | (go_at_call 156; refine (clone_bytes _ gn (n * 65) 64 64 (Dk.at_ D.seen n).b hra.out Hok.out (by decide)).mono ?_; rintro e w1 ⟨g', c', rfl, k1, k2, k3, k4, k5⟩; have K1 := Lib.hid k1; have K2 := Lib.hid k2; have K3 := Lib.hid k3; have K5 := Lib.hid k5; clear k1 k2 k3 k4 k5)
    | (go_at_call 155; refine (clip_bytes _ _ _ _ K3.out).mono ?_; rintro e w2 ⟨rfl, rfl⟩))
  go_ret2
  exact ⟨g', rfl, K1.out, K2.out, K5.out⟩
set_option maxHeartbeats 2000000 in
theorem read_lost (w : World) (d : Nat) (D : Dk.Disk) (O : Nat → Prop) (n : Nat) (h : DiskAt w d D O) (hn : n < D.seen.length) (hb : (Dk.at_ D.seen n).bad = 1) :
    Calls Tryz.prog 63 #[.pointer (some ⟨d, 0, none⟩), .int .i64 (n : Nat)] w fun e w' => e = .returned (.tuple #[.slice none 0 0, .int .i64 12]) ∧ w = w' := by
  have H := Lib.hid h
  have e1 : askSays D.seen.length n = 0 := by unfold askSays; rw [if_pos (by omega)]
  obtain ⟨gs, gn, cs, cn, rs, rn, vw, Di, _⟩ := h
  have hc1 := Di.c1
  have hlcn := Di.lcn
  have hn' : (n : Int) < (D.seen.length : Nat) := by omega
  have hcb : w.cell? ⟨gn, n * 65 + 64, none⟩ = some (.int .i64 1) := by
    rw [sec_at w gn D.seen rn Di.seen n hn 64 (by decide), sec_bad, hb]; rfl
  clear Di hb
  go_enter Tryz.func63, Tryz.ntmps63
  go_wp2_with (go_at_call 151; refine (ask_any _ _ _ _ _ H.out).mono ?_; rintro e w' ⟨rfl, rfl⟩; rw [e1])
  go_ret2
  exact ⟨rfl, rfl⟩
end Go.Proofs.YtmjeigceclmdoaaGreatDoor
namespace Go.Proofs.YtmjeigceclmdoaaGreatDoor
open Go Go.RowKit

def LawPost (w : World) (e : Ending) (w' : World) : Prop := e = .returned (.bool true) ∧ Touch No w w'
/-- one disk, made since w0 -/
def St (w0 wi : World) (d : Nat) (D : Dk.Disk) : Prop := ∃ O, Dsk wi d D w0.heap.size O ∧ Touch (fun k => w0.heap.size ≤ k) w0 wi
theorem St.no {w0 wi w' : World} {d : Nat} {D : Dk.Disk} (h : St w0 wi d D) (t : Touch No wi w') : St w0 w' d D := by
  obtain ⟨O, h, t0⟩ := h
  exact ⟨O, h.no t, t0.then t (fun _ _ f => f.elim)⟩
theorem St.end {w0 wi : World} {d : Nat} {D : Dk.Disk} (h : St w0 wi d D) : Touch No w0 wi := by
  obtain ⟨O, h, t0⟩ := h
  exact t0.mono (fun k hk h => absurd hk (Nat.not_lt.2 h))
theorem St.alloc {w0 wi : World} {d : Nat} {D : Dk.Disk} (h : St w0 wi d D) (o : Obj) : St w0 (wi.alloc o) d D := h.no ((Touch.refl No wi).alloc o)
theorem St.made {w0 wi w' : World} {d : Nat} {D : Dk.Disk} (t : Touch No w0 wi) (h : Made wi d D w') : St w0 w' d D := by
  obtain ⟨t', O, h⟩ := h
  exact ⟨O, h.base t.size, (t.trans t').mono (fun _ _ f => f.elim)⟩
theorem St.after {w0 wi w' : World} {d : Nat} {D D' : Dk.Disk} {O : Nat → Prop} (h : Dsk wi d D w0.heap.size O) (t : Touch (fun k => w0.heap.size ≤ k) w0 wi) (h' : After wi d D' w0.heap.size O w') : St w0 w' d D' := by
  obtain ⟨t', O', h', _⟩ := h'
  exact ⟨O', h', t.then t' (fun k _ hk => h.ge k hk)⟩
theorem St.write {w0 wi : World} {d : Nat} {D : Dk.Disk} (h : St w0 wi d D) (n : Nat) (a : Option Addr) (l c : Nat) (b : List Nat) (hn : n < D.seen.length) (hl : b.length = l) (hl64 : l ≤ 64) (hlt : ∀ x ∈ b, x < 256) (hr : Rd wi a (nums .u8 b)) (hw : D.waits.length ≤ 1000000) :
    Calls Tryz.prog 49 #[.pointer (some ⟨d, 0, none⟩), .int .i64 (n : Nat), .slice a l c] wi fun e w' => e = .returned (.int .i64 0) ∧ St w0 w' d (Dk.write D n b) := by
  obtain ⟨O, h, t⟩ := h
  exact (write_k wi d D w0.heap.size O n a l c b t.size h hn hl hl64 hlt hr hw).mono fun _ _ ⟨he, h'⟩ => ⟨he, St.after h t h'⟩
theorem St.write_bad {w0 wi : World} {d : Nat} {D : Dk.Disk} (h : St w0 wi d D) (n : Int) (a : Option Addr) (l c : Nat) (hb : ¬ (0 ≤ n ∧ n < D.seen.length) ∨ 64 < l) :
    Calls Tryz.prog 49 #[.pointer (some ⟨d, 0, none⟩), .int .i64 n, .slice a l c] wi fun e w' => e = .returned (.int .i64 1) ∧ wi = w' := by
  obtain ⟨O, h, t⟩ := h
  exact Proofs.YtmjeigceclmdoaaGreatDoor.write_bad wi d D O n a l c h.on hb
theorem St.sync {w0 wi : World} {d : Nat} {D : Dk.Disk} (h : St w0 wi d D) :
    Calls Tryz.prog 51 #[.pointer (some ⟨d, 0, none⟩)] wi fun e w' => e = .returned (.int .i64 0) ∧ St w0 w' d (Dk.sync D) := by
  obtain ⟨O, h, t⟩ := h
  exact (sync_k wi d D w0.heap.size O t.size h).mono fun _ _ ⟨he, h'⟩ => ⟨he, St.after h t h'⟩
theorem St.bad {w0 wi : World} {d : Nat} {D : Dk.Disk} (h : St w0 wi d D) (n : Nat) (hn : n < D.seen.length) (hw : D.waits.length ≤ 1000000) :
    Calls Tryz.prog 57 #[.pointer (some ⟨d, 0, none⟩), .int .i64 (n : Nat)] wi fun e w' => e = .returned (.int .i64 0) ∧ St w0 w' d (Dk.bad D n) := by
  obtain ⟨O, h, t⟩ := h
  exact (bad_k wi d D w0.heap.size O n t.size h hn hw).mono fun _ _ ⟨he, h'⟩ => ⟨he, St.after h t h'⟩
theorem St.rot {w0 wi : World} {d : Nat} {D : Dk.Disk} (h : St w0 wi d D) (n p x : Nat) (hn : n < D.seen.length) (hp : p < 64) (hx : x < 256) (hw : D.waits.length ≤ 1000000) :
    Calls Tryz.prog 55 #[.pointer (some ⟨d, 0, none⟩), .int .i64 (n : Nat), .int .i64 (p : Nat), .int .u8 (x : Nat)] wi fun e w' => e = .returned (.int .i64 0) ∧ St w0 w' d (Dk.rot D n p x) := by
  obtain ⟨O, h, t⟩ := h
  exact (rot_k wi d D w0.heap.size O n p x t.size h hn hp hx hw).mono fun _ _ ⟨he, h'⟩ => ⟨he, St.after h t h'⟩
theorem St.waits {w0 wi : World} {d : Nat} {D : Dk.Disk} (h : St w0 wi d D) (n : Nat) (hn : D.waits.length = n) :
    Calls Tryz.prog 61 #[.pointer (some ⟨d, 0, none⟩)] wi fun e w' => e = .returned (.int .i64 (n : Nat)) ∧ wi = w' := by
  obtain ⟨O, h, t⟩ := h
  subst hn
  exact waits_in wi d D O h.on
theorem St.len {w0 wi : World} {d : Nat} {D : Dk.Disk} (h : St w0 wi d D) :
    Calls Tryz.prog 59 #[.pointer (some ⟨d, 0, none⟩)] wi fun e w' => e = .returned (.int .i64 (D.seen.length : Nat)) ∧ wi = w' := by
  obtain ⟨O, h, t⟩ := h
  exact len_in wi d D O h.on
theorem St.lost {w0 wi : World} {d : Nat} {D : Dk.Disk} (h : St w0 wi d D) (n : Nat) (hn : n < D.seen.length) (hb : (Dk.at_ D.seen n).bad = 1) :
    Calls Tryz.prog 63 #[.pointer (some ⟨d, 0, none⟩), .int .i64 (n : Nat)] wi fun e w' => e = .returned (.tuple #[.slice none 0 0, .int .i64 12]) ∧ wi = w' := by
  obtain ⟨O, h, t⟩ := h
  exact read_lost wi d D O n h.on hn hb
end Go.Proofs.YtmjeigceclmdoaaGreatDoor
namespace Go.Proofs.YtmjeigceclmdoaaGreatDoor
open Go Go.RowKit

theorem St.ok {w0 wi : World} {d : Nat} {D : Dk.Disk} (h : St w0 wi d D) : Dk.Ok D := by obtain ⟨O, hO, _⟩ := h; exact hO.ok
theorem DiskAt.read_any {wi : World} {d : Nat} {D : Dk.Disk} {O : Nat → Prop} (h : DiskAt wi d D O) (n : Nat) (hn : n < D.seen.length) :
    Calls Tryz.prog 63 #[.pointer (some ⟨d, 0, none⟩), .int .i64 (n : Nat)] wi fun e w' => ∃ a l r, e = .returned (.tuple #[.slice a l l, .int .i64 (r : Nat)]) ∧ Rd w' a (nums .u8 (Dk.bytesOf (Dk.at_ D.seen n))) ∧ (Dk.bytesOf (Dk.at_ D.seen n)).length = l ∧ r = Dk.errOf (Dk.at_ D.seen n) ∧ Touch No wi w' := by
  by_cases hb : (Dk.at_ D.seen n).bad = 1
  · rw [Dk.bytesOf, Dk.errOf, if_pos hb, if_pos hb]
    exact (read_lost wi d D O n h hn hb).mono fun _ _ ⟨he, e⟩ => ⟨none, 0, 12, he, Rd.nil _ _, rfl, rfl, e ▸ Touch.refl _ _⟩
  · rw [Dk.bytesOf, Dk.errOf, if_neg hb, if_neg hb]
    have hok := h.ok.seen _ (Dk.at_mem hn)
    exact (read_in wi d D O n h hn (by have := hok.bad; omega)).mono fun _ _ ⟨g, he, _, hr, t⟩ => ⟨some ⟨g, 0, none⟩, 64, 0, he, hr, hok.b.len, rfl, t⟩
theorem St.read_any {w0 wi : World} {d : Nat} {D : Dk.Disk} (h : St w0 wi d D) (n : Nat) (hn : n < D.seen.length) :
    Calls Tryz.prog 63 #[.pointer (some ⟨d, 0, none⟩), .int .i64 (n : Nat)] wi fun e w' => ∃ a l r, e = .returned (.tuple #[.slice a l l, .int .i64 (r : Nat)]) ∧ Rd w' a (nums .u8 (Dk.bytesOf (Dk.at_ D.seen n))) ∧ (Dk.bytesOf (Dk.at_ D.seen n)).length = l ∧ r = Dk.errOf (Dk.at_ D.seen n) ∧ Touch No wi w' := by
  obtain ⟨O, h, t⟩ := h
  exact h.on.read_any n hn
theorem St.read {w0 wi : World} {d : Nat} {D : Dk.Disk} (h : St w0 wi d D) (n : Nat) (b : List Nat) (hn : n < D.seen.length) (hb : (Dk.at_ D.seen n).bad = 0) (he : (Dk.at_ D.seen n).b = b) :
    Calls Tryz.prog 63 #[.pointer (some ⟨d, 0, none⟩), .int .i64 (n : Nat)] wi fun e w' => ∃ g, e = .returned (.tuple #[.slice (some ⟨g, 0, none⟩) 64 64, .int .i64 0]) ∧ Rd w' (some ⟨g, 0, none⟩) (nums .u8 b) ∧ Touch No wi w' := by
  obtain ⟨O, h, t⟩ := h
  subst he
  exact (read_in wi d D O n h.on hn hb).mono fun _ _ ⟨g, he, _, hr, t⟩ => ⟨g, he, hr, t⟩

end Go.Proofs.YtmjeigceclmdoaaGreatDoor
