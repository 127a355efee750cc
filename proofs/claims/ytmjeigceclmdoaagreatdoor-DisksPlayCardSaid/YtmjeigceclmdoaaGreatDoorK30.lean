/-
  Package nums by its own text: as (both), and what a list that is filled from its first one on holds.
-/
import Derived.Test.YtmjeigceclmdoaaGreatDoorK26
import Derived.Test.YtmjeigceclmdoaaGreatDoorK29
import Derived.Test.YtmjeigceclmdoaaGreatDoorK02
namespace Go.Proofs.YtmjeigceclmdoaaGreatDoor
open Go Go.RowKit
set_option linter.unusedSimpArgs false

theorem own_of_row {w : World} {B base : Nat} {T : TypeId} {vs : List Value} (h : Row w B T vs) (hb : base ≤ B) {n : Nat} (hn : vs.length = n) (hl : n ≤ maxLen) : Own w base T (.slice (some ⟨B, 0, none⟩) n n) vs := by
  subst hn
  exact ⟨by omega, .inr ⟨B, vs.length, vs.toArray, rfl, hb, h, Nat.le_refl _, hl, by simp, by simp⟩⟩
theorem Own.head {w : World} {base : Nat} {T : TypeId} {a : Option Addr} {n c : Nat} {vs : List Value} (h : Own w base T (.slice a n c) vs) {k : Nat} (hk : k ≤ n) : Own w base T (.slice a k c) (vs.take k) := by
  obtain ⟨a', c', e, _⟩ := h.form
  have hn : vs.length = n := by cases e; rfl
  have hkl : (vs.take k).length = k := by rw [List.length_take]; omega
  obtain ⟨hl, h⟩ := h
  refine ⟨by omega, ?_⟩
  rcases h with ⟨h1, h0⟩ | ⟨g, cap, cur, hv, hg, hh, h1, h2, h3, h4⟩
  · left
    simp only [Value.slice.injEq] at h1
    obtain ⟨rfl, h2, rfl⟩ := h1
    have : k = 0 := by omega
    subst this
    exact ⟨rfl, by simp⟩
  · right
    simp only [Value.slice.injEq] at hv
    obtain ⟨rfl, h5, rfl⟩ := hv
    refine ⟨g, c, cur, by rw [hkl], hg, hh, by omega, h2, h3, ?_⟩
    rw [hkl, Nat.mul_one]
    rw [Nat.mul_one] at h4
    rw [← h4, List.take_take, Nat.min_eq_left (by omega)]
theorem Own.room {w : World} {base : Nat} {T : TypeId} {a : Option Addr} {n c : Nat} {vs : List Value} (h : Own w base T (.slice a n c) vs) : n ≤ c ∧ (c : Int) ≤ 9223372036854775807 ∧ vs.length = n := by
  obtain ⟨a', c', e, h1, _⟩ := h.form
  have hn : vs.length = n := by cases e; rfl
  have hc : vs.length ≤ c := by cases e; exact h1
  refine ⟨by omega, ?_, hn⟩
  rcases h.2 with ⟨h1, _⟩ | ⟨g, cap, cur, hv, _, _, _, h2, _⟩
  · cases h1; decide
  · cases hv; unfold maxLen at h2; omega
theorem made_fill (v : Value) (n : Nat) : madeCells #[v] n = (List.replicate n v).toArray := by
  apply Array.ext'
  refine List.ext_getElem? (fun j => ?_)
  unfold madeCells
  by_cases hj : j < n
  · simp [hj, List.getElem?_replicate, Nat.mod_one]
  · simp [hj, List.getElem?_replicate]

/-- a list, as far as it is filled -/
def fill (vs : List Value) (z : Value) (k : Nat) : List Value := vs.take k ++ List.replicate (vs.length - k) z
theorem fill_zero (vs : List Value) (z : Value) : fill vs z 0 = List.replicate vs.length z := by simp [fill]
theorem fill_all (vs : List Value) (z : Value) {k : Nat} (hk : vs.length = k) : fill vs z k = vs := by subst hk; simp [fill]
theorem fill_get {vs : List Value} {z : Value} {k : Nat} (hk : k < vs.length) : (fill vs z k)[k]? = some z := by
  have h1 : (vs.take k).length = k := by rw [List.length_take]; omega
  rw [fill, List.getElem?_append_right (by omega), h1, Nat.sub_self, List.getElem?_replicate]
  simp; omega
theorem fill_next {vs : List Value} {z v : Value} {k : Nat} (hv : vs[k]? = some v) : (fill vs z k).set k v = fill vs z (k + 1) := by
  have hk : k < vs.length := by
    rcases Nat.lt_or_ge k vs.length with h | h
    · exact h
    · rw [List.getElem?_eq_none h] at hv; cases hv
  have h1 : (vs.take k).length = k := by rw [List.length_take]; omega
  rw [fill, fill, List.set_append_right _ _ (by omega), h1, Nat.sub_self, show vs.length - k = (vs.length - (k + 1)) + 1 by omega, List.replicate_succ, List.set_cons_zero]
  rw [List.getElem?_eq_getElem hk] at hv
  cases hv
  rw [List.take_succ_eq_append_getElem hk, List.append_assoc]; rfl

def AsPost (w : World) (T : TypeId) (vs : List Value) (N : Nat) (e : Ending) (w' : World) : Prop :=
  ∃ a c, e = .returned (.slice a N c) ∧ Own w' w.heap.size T (.slice a N c) vs ∧ Touch No w w'

theorem u32_info : ∃ i, Tryz.prog.info? 23 = some i ∧ i.zero = some (.int .u32 0) ∧ i.size = 1 ∧ i.bytes = 4 := one_info (by kernel_rfl)
theorem i32_info : ∃ i, Tryz.prog.info? 21 = some i ∧ i.zero = some (.int .i32 0) ∧ i.size = 1 ∧ i.bytes = 4 := one_info (by kernel_rfl)

theorem turnU_any (w : World) (z : Int) : Calls Tryz.prog 89 #[.int .i32 z] w fun e w' => e = .returned (.int .u32 (Nm.u z : Nat)) ∧ w = w' := by
  go_enter Tryz.func89, Tryz.ntmps89
  go_wp2
  go_ret
  exact ⟨by
    show Ending.returned (.int .u32 (z % 4294967296)) = _
    rw [show z % 4294967296 = ((Nm.u z : Nat) : Int) by unfold Nm.u; omega], rfl⟩

theorem ints_get {k : IntKind} {zs : List Int} {i : Nat} (h : i < zs.length) : (ints k zs)[i]? = some (.int k (zs.getD i 0)) := by
  simp [ints, List.getElem?_map, List.getElem?_eq_getElem h, List.getD_eq_getElem?_getD]
theorem Rd.int {w : World} {k : IntKind} {a : Option Addr} {zs : List Int} (h : Rd w a (ints k zs)) {i : Nat} (hi : i < zs.length) :
    ∃ b o, a = some ⟨b, o, none⟩ ∧ w.cell? ⟨b, o + i, none⟩ = some (.int k (zs.getD i 0)) := h i _ (ints_get hi)
theorem ints_one (k : IntKind) (xs : List Int) : ∀ v ∈ ints k xs, v.oneCell' = true := by
  intro v hv
  obtain ⟨x, _, rfl⟩ := List.mem_map.1 hv
  rfl

set_option maxRecDepth 100000 in
set_option maxHeartbeats 2000000 in
theorem asU_any (w : World) (a : Option Addr) (n c : Nat) (zs : List Int) (hz : zs.length = n) (hr : Rd w a (ints .i32 zs)) (hn : (n : Int) ≤ 1000000000000) :
    Calls Tryz.prog 88 #[.slice a n c, .func (.func 89) #[] #[]] w (AsPost w 23 (nums .u32 (zs.map Nm.u)) n) := by
  obtain ⟨I, hi0, hi1, hi2, hi3⟩ := u32_info
  have hmk : ∀ wx : World, (Instr.makeSlice 67 (.int .i64 (n : Int)) (.int .i64 (n : Int))).run Tryz.prog wx = .ok (.slice (some ⟨wx.heap.size, 0, none⟩) n n) (wx.alloc (.cells (List.replicate n (Value.int .u32 0)).toArray 23)) := fun wx => by
    have := run_make (P := Tryz.prog) wx 67 23 I (.int .u32 0) Tryz.underlying67 hi0 hi1 .i64 .i64 (n : Int) (n : Int) (by omega) (by omega) (by rw [hi3]; omega) (by omega)
    rw [this, hi2, Int.toNat_natCast, Nat.mul_one]
    show Result.ok _ (wx.alloc (.cells (madeCells #[Value.int .u32 0] _) _)) = _
    rw [made_fill]
  have Hz := Lib.hid hz
  have Hr := Lib.hid hr
  have hl : (nums .u32 (zs.map Nm.u)).length = n := by rw [nums_length, List.length_map]; exact hz
  have hrow : Row (w.alloc (.cells (List.replicate n (Value.int .u32 0)).toArray 23)) w.heap.size 23 (fill (nums .u32 (zs.map Nm.u)) (.int .u32 0) 0) := by
    rw [fill_zero, hl]; exact Row.new w 23 (List.replicate n (Value.int .u32 0)).toArray
  have Hrow := Lib.hid hrow
  have Hl := Lib.hid hl
  clear hz hr hi0 hi1 hi2 hi3 hl hrow
  go_enter Tryz.func88, Tryz.ntmps88
  go_wp2
  go_loopg [13] n (fun g s13 wr => ∃ k : Nat, k + g = n ∧ s13 = .int .i64 ((k : Nat) : Int) ∧ Hid (Row wr w.heap.size 23 (fill (nums .u32 (zs.map Nm.u)) (.int .u32 0) k)) ∧ Hid (Touch No w wr))
  case atStart => exact ⟨0, by omega, rfl, Hrow.out, (Touch.refl No w).alloc _⟩
  case round =>
    obtain ⟨k, hkg, rfl, R, T⟩ := hrel
    clear hmk Hrow
    cases gk with
    | zero =>
      obtain rfl : k = n := by omega
      have hO : Own wr w.heap.size 23 (.slice (some ⟨w.heap.size, 0, none⟩) k k) (nums .u32 (zs.map Nm.u)) := by
        have := R.out
        rw [fill_all _ _ Hl.out] at this
        exact own_of_row this (Nat.le_refl _) Hl.out (by unfold maxLen; omega)
      have HO := Lib.hid hO
      clear hO
      go_wp2
      go_ret
      exact ⟨_, _, rfl, HO.out, T.out⟩
    | succ g =>
      have hlt : (k : Int) < (n : Nat) := by omega
      have hkz : k < zs.length := by rw [Hz.out]; omega
      obtain ⟨gb, ob, rfl, hcb⟩ := (Hr.out.no T.out).int hkz
      have hv : (nums .u32 (zs.map Nm.u))[k]? = some (.int .u32 (Nm.u (zs.getD k 0) : Nat)) := by
        rw [nums_get (by rw [List.length_map]; exact hkz)]
        congr 2
        rw [List.getD_eq_getElem?_getD, List.getElem?_map, List.getElem?_eq_getElem hkz, List.getD_eq_getElem?_getD, List.getElem?_eq_getElem hkz]; rfl
      have hcell : wr.cell? ⟨w.heap.size, k, none⟩ = some (.int .u32 0) := by rw [R.out.cell]; exact fill_get (by rw [Hl.out]; omega)
      have hsoft := R.out.soft k
      have hrn := R.out.setCell k (.int .u32 (Nm.u (zs.getD k 0) : Nat))
      rw [fill_next hv] at hrn
      have HRn := Lib.hid hrn
      clear hrn hv
      generalize zs.getD k 0 = z at *
      go_wp2_with fail
      refine (turnU_any _ _).mono ?_
      rintro e w' ⟨rfl, rfl⟩
      go_wp2
      go_roundg g
      case measure => omega
      case rel => exact ⟨k + 1, by omega, by go_num, HRn.out, T.out.setCell (p := ⟨w.heap.size, k, none⟩) (fun h => absurd h (Nat.lt_irrefl _)) _⟩

set_option maxHeartbeats 1000000 in
theorem turnI_any (w : World) (a : Option Addr) (n c : Nat) (b : List Nat) (hb : b.length = n) (hn : 4 ≤ n) (hr : Rd w a (nums .u8 b)) (hlt : ∀ x ∈ b, x < 256) :
    Calls Tryz.prog 141 #[.slice a n c] w fun e w' => e = .returned (.int .i32 (Nm.i (Rt.unfour b))) ∧ Touch No w w' := by
  have Hc := Lib.hid (four_any w a n c b hb hn hr hlt)
  have h32 := Rt.unfour_lt hlt
  clear hb hr hlt
  generalize Rt.unfour b = m at *
  go_enter Tryz.func141, Tryz.ntmps141
  go_wp2_with fail
  refine Hc.out.mono ?_
  rintro e w' ⟨rfl, t⟩
  have T := Lib.hid t
  clear t
  go_wp2
  go_ret
  exact ⟨by
    show Ending.returned (.int .i32 (wrap32 (m : Int))) = _
    rw [show wrap32 (m : Int) = Nm.i m by unfold wrap32 Nm.i; split <;> omega], T.out⟩

/-- a slice of pieces, each of four bytes, at g from o on -/
def pieces (g o m : Nat) : List Value := (List.range m).map fun k => .slice (some ⟨g, o + 4 * k, none⟩) 4 4
theorem pieces_length (g o m : Nat) : (pieces g o m).length = m := by simp [pieces]
theorem pieces_get {g o m k : Nat} (h : k < m) : (pieces g o m)[k]? = some (.slice (some ⟨g, o + 4 * k, none⟩) 4 4) := by
  rw [pieces, List.getElem?_map, List.getElem?_range h]; rfl
theorem pieces_one (g o m : Nat) : ∀ v ∈ pieces g o m, v.oneCell' = true := by
  intro v hv
  obtain ⟨x, _, rfl⟩ := List.mem_map.1 hv
  rfl

set_option maxRecDepth 100000 in
set_option maxHeartbeats 2000000 in
theorem asI_any (w : World) (a : Option Addr) (n c : Nat) (g0 o0 : Nat) (b : List Nat) (hr : Rd w a (pieces g0 o0 n)) (hb : 4 * n ≤ b.length) (hrb : 0 < n → Rd w (some ⟨g0, o0, none⟩) (nums .u8 b)) (hlt : ∀ x ∈ b, x < 256) (hn : (n : Int) ≤ 1000000000000) :
    Calls Tryz.prog 140 #[.slice a n c, .func (.func 141) #[] #[]] w (AsPost w 21 (ints .i32 ((List.range n).map fun k => Nm.i (Rt.unfour (b.drop (4 * k))))) n) := by
  obtain ⟨I, hi0, hi1, hi2, hi3⟩ := i32_info
  have hmk : ∀ wx : World, (Instr.makeSlice 24 (.int .i64 (n : Int)) (.int .i64 (n : Int))).run Tryz.prog wx = .ok (.slice (some ⟨wx.heap.size, 0, none⟩) n n) (wx.alloc (.cells (List.replicate n (Value.int .i32 0)).toArray 21)) := fun wx => by
    have := run_make (P := Tryz.prog) wx 24 21 I (.int .i32 0) Tryz.underlying24 hi0 hi1 .i64 .i64 (n : Int) (n : Int) (by omega) (by omega) (by rw [hi3]; omega) (by omega)
    rw [this, hi2, Int.toNat_natCast, Nat.mul_one]
    show Result.ok _ (wx.alloc (.cells (madeCells #[Value.int .i32 0] _) _)) = _
    rw [made_fill]
  obtain ⟨L, hL⟩ : ∃ L, L = (List.range n).map fun k => Nm.i (Rt.unfour (b.drop (4 * k))) := ⟨_, rfl⟩
  rw [← hL]
  have hLk : Hid (∀ k, k < n → (ints .i32 L)[k]? = some (.int .i32 (Nm.i (Rt.unfour (b.drop (4 * k)))))) := fun k hk => by
    rw [hL, ints, List.getElem?_map, List.getElem?_map, List.getElem?_range hk]; rfl
  have hl : (ints .i32 L).length = n := by rw [ints_length, hL]; simp
  have Hr := Lib.hid hr
  have Hb := Lib.hid hb
  have Hrb := Lib.hid hrb
  have Hlt := Lib.hid hlt
  have hrow : Row (w.alloc (.cells (List.replicate n (Value.int .i32 0)).toArray 21)) w.heap.size 21 (fill (ints .i32 L) (.int .i32 0) 0) := by
    rw [fill_zero, hl]; exact Row.new w 21 (List.replicate n (Value.int .i32 0)).toArray
  have Hrow := Lib.hid hrow
  have Hl := Lib.hid hl
  clear hr hb hrb hlt hi0 hi1 hi2 hi3 hl hrow hL
  go_enter Tryz.func140, Tryz.ntmps140
  go_wp2
  go_loopg [13] n (fun g s13 wr => ∃ k : Nat, k + g = n ∧ s13 = .int .i64 ((k : Nat) : Int) ∧ Hid (Row wr w.heap.size 21 (fill (ints .i32 L) (.int .i32 0) k)) ∧ Hid (Touch No w wr))
  case atStart => exact ⟨0, by omega, rfl, Hrow.out, (Touch.refl No w).alloc _⟩
  case round =>
    obtain ⟨k, hkg, rfl, R, T⟩ := hrel
    clear hmk Hrow
    cases gk with
    | zero =>
      obtain rfl : k = n := by omega
      have hO : Own wr w.heap.size 21 (.slice (some ⟨w.heap.size, 0, none⟩) k k) (ints .i32 L) := by
        have := R.out
        rw [fill_all _ _ Hl.out] at this
        exact own_of_row this (Nat.le_refl _) Hl.out (by unfold maxLen; omega)
      have HO := Lib.hid hO
      clear hO
      go_wp2
      go_ret
      exact ⟨_, _, rfl, HO.out, T.out⟩
    | succ g =>
      have hlt : (k : Int) < (n : Nat) := by omega
      have hkn : k < n := by omega
      obtain ⟨gb, ob, rfl, hcb⟩ := (Hr.out.no T.out) k _ (pieces_get hkn)
      have hv := hLk.out k hkn
      have hcell : wr.cell? ⟨w.heap.size, k, none⟩ = some (.int .i32 0) := by rw [R.out.cell]; exact fill_get (by rw [Hl.out]; omega)
      have hsoft := R.out.soft k
      have hrn := R.out.setCell k (.int .i32 (Nm.i (Rt.unfour (b.drop (4 * k)))))
      rw [fill_next hv] at hrn
      have hg0 : w.heap.size < wr.heap.size := lt_of_cell hcell
      have hpiece : Hid (Calls Tryz.prog 141 #[.slice (some ⟨g0, o0 + 4 * k, none⟩) 4 4] wr fun e w' => e = .returned (.int .i32 (Nm.i (Rt.unfour (b.drop (4 * k))))) ∧ Touch No wr w') := by
        have h4 : ((b.drop (4 * k)).take 4).length = 4 := by rw [List.length_take, List.length_drop]; have := Hb.out; omega
        have hu : Rt.unfour ((b.drop (4 * k)).take 4) = Rt.unfour (b.drop (4 * k)) := by
          simp [Rt.unfour, List.getD_eq_getElem?_getD, List.getElem?_take]
        have := turnI_any wr (some ⟨g0, o0 + 4 * k, none⟩) 4 4 ((b.drop (4 * k)).take 4) h4 (Nat.le_refl _) (fun j v hj => by
          refine ⟨g0, o0 + 4 * k, rfl, ?_⟩
          have hj4 : j < 4 := by
            rcases Nat.lt_or_ge j 4 with h | h
            · exact h
            · rw [List.getElem?_eq_none (by rw [nums_length, h4]; exact h)] at hj; cases hj
          have e : (nums .u8 b)[4 * k + j]? = some v := by
            rw [← hj, nums, nums, List.getElem?_map, List.getElem?_map, List.getElem?_take_of_lt hj4, List.getElem?_drop]
          obtain ⟨b', o', e', hc⟩ := (Hrb.out (by omega)).no T.out _ v e
          cases e'
          rw [Nat.add_assoc]; exact hc) (fun x hx => Hlt.out x (List.mem_of_mem_drop (List.mem_of_mem_take hx)))
        rw [hu] at this
        exact this
      clear hrn
      generalize Nm.i (Rt.unfour (b.drop (4 * k))) = z at *
      have hstep : Hid (∀ w', Touch No wr w' → w'.cell? ⟨w.heap.size, k, none⟩ = some (.int .i32 0) ∧ w'.frozen? ⟨w.heap.size, k, none⟩ = false ∧ Row (w'.setCell ⟨w.heap.size, k, none⟩ (.int .i32 z)) w.heap.size 21 (fill (ints .i32 L) (.int .i32 0) (k + 1))) := fun w' t => by
        have R' := R.out.touch t id
        refine ⟨t.cell id hcell, R'.soft k, ?_⟩
        have := R'.setCell k (.int .i32 z)
        rw [fill_next hv] at this
        exact this
      clear hv hcell hsoft
      go_wp2_with fail
      refine hpiece.out.mono ?_
      rintro e w2 ⟨rfl, t2⟩
      obtain ⟨hcell, hsoft, hrow⟩ := hstep.out _ t2
      have HRow := Lib.hid hrow
      have T2 := Lib.hid (T.out.trans t2)
      clear hrow t2 hpiece hstep
      go_wp2
      go_roundg g
      case measure => omega
      case rel => exact ⟨k + 1, by omega, by go_num, HRow.out, T2.out.setCell (p := ⟨w.heap.size, k, none⟩) (fun h => absurd h (Nat.lt_irrefl _)) _⟩
end Go.Proofs.YtmjeigceclmdoaaGreatDoor
