/-
  Package roots by its own text: nought, Get.
  Package disks by its own text: one disk, made since a world.
  Package disks by its own text: Read, of a sector that may be bad.
-/
import Derived.Test.YtnffigfafalocaaGreatDoorK09
import Derived.Deep.RegionHeld3
import Derived.Laws.BytesArg
import Derived.Test.YtnffigfafalocaaGreatDoorK06
namespace Go.Proofs.YtnffigfafalocaaGreatDoor
open Go Go.RowKit
set_option linter.unusedSimpArgs false

set_option maxHeartbeats 1000000 in
theorem nought_any (w : World) (a : Option Addr) (n c : Nat) (b : List Nat) (hb : b.length = n) (hmax : (n : Int) ≤ 9223372036854775807) (hr : Rd w a (nums .u8 b)) :
    Calls Tryz.prog 219 #[.slice a n c] w fun e w' => e = .returned (.bool (Rt.nought b)) ∧ w = w' := by
  have Hb := Lib.hid hb
  have Hr := Lib.hid hr
  clear hb hr
  go_enter Tryz.func219, Tryz.ntmps219
  go_wp2
  go_loopg [7] n (fun g s7 wr => ∃ k : Nat, k + g = n ∧ s7 = .int .i64 ((k : Nat) : Int) ∧ Hid (Rt.nought (b.take k) = true) ∧ Hid (wr = w))
  case atStart => exact ⟨0, by omega, rfl, rfl, rfl⟩
  case round =>
    obtain ⟨k, hkg, rfl, Hn, hwr⟩ := hrel
    have hww : w = wr := hwr.out.symm
    clear hwr
    subst hww
    cases gk with
    | zero =>
      obtain rfl : k = n := by omega
      have hf : Hid (Rt.nought b = true) := by
        have := Hn.out
        rwa [List.take_of_length_le (by rw [Hb.out]; exact Nat.le_refl _)] at this
      go_wp2
      go_ret
      exact ⟨ret_bool hf.out.symm, rfl⟩
    | succ g =>
      have hlt : (k : Int) < (n : Nat) := by omega
      have hkb : k < b.length := by rw [Hb.out]; omega
      obtain ⟨gb, ob, rfl, hcb⟩ := Hr.out.num hkb
      have hge : b.getD k 0 = b[k] := by rw [List.getD_eq_getElem?_getD, List.getElem?_eq_getElem hkb]; rfl
      have hnext : Hid (b.getD k 0 = 0 → Rt.nought (b.take (k + 1)) = true) := fun h0 => by
        rw [List.take_succ_eq_append_getElem hkb, Rt.nought, List.all_append]
        have := Hn.out
        rw [Rt.nought] at this
        rw [this, ← hge, h0]; rfl
      have hnot : Hid (b.getD k 0 ≠ 0 → Rt.nought b = false) := fun h0 => by
        rw [Rt.nought, List.all_eq_false]
        exact ⟨b[k], List.getElem_mem hkb, by rw [← hge]; simpa using h0⟩
      obtain ⟨x, hx⟩ : ∃ x, b.getD k 0 = x := ⟨_, rfl⟩
      rw [hx] at hcb hnext hnot
      clear hx hkb hge
      by_cases h0 : x = 0
      · subst h0
        go_wp2
        go_roundg g
        case measure => omega
        case rel => exact ⟨k + 1, by omega, by go_num, hnext.out (by first | rfl | trivial), rfl⟩
      · have hne : ((x : Int) != 0) = true := by simp; omega
        have H0 := Lib.hid h0
        clear h0
        go_wp2
        go_ret
        exact ⟨ret_bool (hnot.out H0.out).symm, rfl⟩

theorem str_of (b : List Nat) (h : ∀ x ∈ b, x < 256) : strOfNums (b.map fun (x : Nat) => (x : Int)) = ⟨#[82, 79, 79, 84]⟩ ↔ b = Rt.mark := by
  constructor
  · intro he
    have h1 : (b.map fun (x : Nat) => UInt8.ofNat x) = [82, 79, 79, 84] := by
      have := congrArg (fun s : ByteArray => s.data.toList) he
      simpa [strOfNums, Function.comp_def] using this
    have h2 : (b.map fun (x : Nat) => (UInt8.ofNat x).toNat) = [82, 79, 79, 84] := by
      have := congrArg (List.map UInt8.toNat) h1
      rw [List.map_map] at this
      exact this
    have h3 : (b.map fun (x : Nat) => (UInt8.ofNat x).toNat) = b := by
      conv => rhs; rw [← List.map_id b]
      refine List.map_congr_left (fun x hx => ?_)
      rw [UInt8.toNat_ofNat']
      exact Nat.mod_eq_of_lt (h x hx)
    rw [← h3, h2]; rfl
  · rintro rfl; rfl
theorem add_off' (g o j : Nat) (h : j ≠ 0) : (⟨g, o, none⟩ : Addr).add j = ⟨g, o + j, none⟩ := by unfold Addr.add; split <;> simp_all
/-- the numbers that are got, as far as they are -/
def gotL (b : List Nat) (k : Nat) : List Nat := (List.range k).map (fun j => Rt.unfour (b.drop (4 + 4 * j))) ++ List.replicate (4 - k) 0
theorem gotL_length {b : List Nat} {k : Nat} (h : k ≤ 4) : (gotL b k).length = 4 := by simp [gotL]; omega
theorem gotL_next {b : List Nat} {k : Nat} (h : k < 4) : (nums .u32 (gotL b k)).set k (.int .u32 (Rt.unfour (b.drop (4 + 4 * k)) : Nat)) = nums .u32 (gotL b (k + 1)) := by
  rw [nums, nums, ← List.map_set (f := fun (x : Nat) => Value.int .u32 (x : Int)) (a := Rt.unfour (b.drop (4 + 4 * k)))]
  congr 1
  rw [gotL, gotL, List.set_append_right _ _ (by simp), List.range_succ, List.map_append, List.append_assoc]
  congr 1
  simp only [List.length_map, List.length_range, Nat.sub_self]
  rw [show 4 - k = (4 - (k + 1)) + 1 by omega, List.replicate_succ]
  rfl
theorem unfour_take (b : List Nat) : Rt.unfour (b.take 4) = Rt.unfour b := by
  have h : ∀ j, j < 4 → (b.take 4).getD j 0 = b.getD j 0 := fun j hj => by
    rw [List.getD_eq_getElem?_getD, List.getD_eq_getElem?_getD, List.getElem?_take_of_lt hj]
  unfold Rt.unfour
  rw [h 0 (by decide), h 1 (by decide), h 2 (by decide), h 3 (by decide)]
def zL4 : Array Value := (List.replicate 4 (Value.int .u32 0)).toArray
theorem zL4_zero (w : World) : (zeroValue 376).run Tryz.prog w = .ok (.agg zL4) w := by kernel_rfl
theorem zL4_size : zL4.size = 4 := by kernel_rfl
theorem zL4_ne : zL4 ≠ #[] := fun h => by have := zL4_size; rw [h] at this; cases this
def RootPost (w : World) (r : Rt.Root) (er : Nat) (e : Ending) (w' : World) : Prop :=
  e = .returned (.tuple #[.agg #[.int .u32 (r.epoch : Nat), .int .u32 (r.first : Nat), .int .u32 (r.bytes : Nat)], .int .i64 (er : Nat)]) ∧ Touch No w w'

theorem getFour_ok (w : World) (a : Option Addr) (n c : Nat) (b : List Nat) (v : Nat) (hb : b.length = n) (h4 : 4 ≤ n) (hmax : (n : Int) ≤ 9223372036854775807) (hr : Rd w a (nums .u8 b)) (hlt : ∀ x ∈ b, x < 256) (hv : Rt.unfour b = v) :
    Calls Tryz.prog 225 #[.slice a n c] w fun e w' => e = .returned (.tuple #[.int .u32 (v : Nat), .int .i64 0]) ∧ Touch No w w' := by
  subst hv
  refine (getFour_any w a n c b hb hmax hr hlt).mono fun e w' ⟨he, t⟩ => ⟨?_, t⟩
  rw [if_neg (by omega), if_neg (by omega)] at he
  exact he
set_option maxRecDepth 100000 in
set_option maxHeartbeats 4000000 in
theorem rootGet_any (w : World) (a : Option Addr) (n c : Nat) (b : List Nat) (hb : b.length = n) (hc : n ≤ c) (hmax : (c : Int) ≤ 9223372036854775807) (hr : Rd w a (nums .u8 b)) (hlt : ∀ x ∈ b, x < 256) :
    Calls Tryz.prog 220 #[.slice a n c] w (RootPost w (Rt.rootOf b) (Rt.errOf b)) := by
  have Form : Hid (¬ (b.length = 64 ∧ b.take 4 = Rt.mark ∧ Rt.nought (b.drop 20) = true) → Rt.errOf b = 4 ∧ Rt.rootOf b = ⟨0, 0, 0⟩) := fun h => by
    have h1 : Rt.errOf b = 4 := by rw [Rt.errOf, if_neg h]
    exact ⟨h1, by rw [Rt.rootOf, h1, if_neg (by decide)]⟩
  have Hb := Lib.hid hb
  have Hr := Lib.hid hr
  have Hlt := Lib.hid hlt
  by_cases h64 : n = 64
  · subst h64
    obtain ⟨g, o, rfl, _⟩ := hr.num (i := 0) (by omega)
    have hc64 : (64 : Int) ≤ (c : Nat) := by omega
    have hc20 : ¬ c = 20 := by omega
    have hc16 : (16 : Int) ≤ (c : Nat) := by omega
    have r4 : Hid (Rd w (some ⟨g, o, none⟩) (nums .u8 (b.take 4))) := by
      have := hr.take 4
      show Rd _ _ _
      rw [nums, List.map_take]; exact this
    have r20 : Hid (Rd w (some ⟨g, o + 20, none⟩) (nums .u8 (b.drop 20))) := by
      have := hr.cut (cap := c) (l := 20) (by rw [nums_length]; omega)
      rw [cutAddr, if_neg hc20, Option.map_some, add_off' g o 20 (by decide)] at this
      show Rd _ _ _
      rw [nums, List.map_drop]; exact this
    have l4 : (b.take 4).length = 4 := by rw [List.length_take]; omega
    have l20 : Hid ((b.drop 20).length = 44) := by show _ = _; rw [List.length_drop]; omega
    have hm4 : ∀ x ∈ b.take 4, x < 256 := fun x hx => hlt x (List.mem_of_mem_take hx)
    have hcv : ∀ wx : World, Touch No w wx → (convert 39 9 (.slice (some ⟨g, o, none⟩) 4 c)).run Tryz.prog wx = .ok (.string (strOfNums ((b.take 4).map fun (x : Nat) => (x : Int)))) wx := fun wx t =>
      run_convert_bytes_arg wx 39 5 Tryz.underlying39 Tryz.underlying5 g o 4 c _ (by rw [List.length_map]; exact l4) (fun i hi => by
        obtain ⟨g', o', e', hcell⟩ := (r4.out.no t).num (i := i) (by omega)
        cases e'
        rw [hcell]
        congr 2
        rw [List.getD_eq_getElem?_getD, List.getD_eq_getElem?_getD, List.getElem?_map, List.getElem?_eq_getElem (show i < (b.take 4).length by omega)]; rfl) 9 Tryz.underlying9
    have Hso := str_of (b.take 4) hm4
    obtain ⟨S, hS⟩ : ∃ S, S = strOfNums ((b.take 4).map fun (x : Nat) => (x : Int)) := ⟨_, rfl⟩
    rw [← hS] at Hso hcv
    have HSo := Lib.hid Hso
    clear Hso hS hm4 l4
    have hcv1 : ∀ ob : Obj, (convert 39 9 (.slice (some ⟨g, o, none⟩) 4 c)).run Tryz.prog (w.alloc ob) = .ok (.string S) (w.alloc ob) := fun ob => hcv _ ((Touch.refl No w).alloc ob)
    clear hcv
    by_cases hmk : b.take 4 = Rt.mark
    · obtain rfl : S = ⟨#[82, 79, 79, 84]⟩ := HSo.out.2 hmk
      have Hmk := Lib.hid hmk
      clear hmk HSo
      cases hno : Rt.nought (b.drop 20) with
      | false =>
        have hF := Form.out (fun h => by rw [hno] at h; exact absurd h.2.2 (by decide))
        rw [hF.1, hF.2]
        have Hno := Lib.hid hno
        clear hF hno hb hr hlt
        go_enter Tryz.func220, Tryz.ntmps220
        go_wp2_with fail
        refine (nought_any _ _ 44 (c - 20) _ l20.out (by decide) (r20.out.no ((Touch.refl No w).alloc _))).mono ?_
        rintro e w' ⟨rfl, rfl⟩
        rw [Hno.out]
        go_wp2
        exact bodyPost_ret (v := .tuple #[.agg #[.int .u32 0, .int .u32 0, .int .u32 0], .int .i64 4]) (by simp [results, Tryz.results220, go_sem]) rfl ⟨rfl, (Touch.refl No w).alloc _⟩
      | true =>
        have Hno := Lib.hid hno
        clear hno hb hr hlt
        go_enter Tryz.func220, Tryz.ntmps220
        go_wp2_with fail
        refine (nought_any _ _ 44 (c - 20) _ l20.out (by decide) (r20.out.no ((Touch.refl No w).alloc _))).mono ?_
        rintro e w' ⟨rfl, rfl⟩
        rw [Hno.out]
        have hz1 := zL4_zero
        have hz3 := zL4_size
        have hz5 := zL4_ne
        go_wp2
        obtain ⟨R, hR⟩ : ∃ R, R = w.heap.size := ⟨_, rfl⟩
        obtain ⟨W, hW⟩ : ∃ W, W = (w.alloc (.cells #[.int .u32 0, .int .u32 0, .int .u32 0] 116)).alloc (.cells zL4 376) := ⟨_, rfl⟩
        have tW : Touch No w W := by rw [hW]; exact ((Touch.refl No w).alloc _).alloc _
        have hrL : Row W (w.heap.size + 1) 376 (nums .u32 (gotL b 0)) := by
          rw [hW, ← size_alloc w (.cells #[.int .u32 0, .int .u32 0, .int .u32 0] 116)]; exact Row.new _ _ zL4
        have hrR : ∀ j, j < 3 → W.cell? ⟨R, j, none⟩ = some (.int .u32 0) ∧ W.frozen? ⟨R, j, none⟩ = false := fun j hj => by
          rw [hW, hR]
          have hrow := (Row.new w 116 #[.int .u32 0, .int .u32 0, .int .u32 0]).touch (F := No) ((Touch.refl No _).alloc (.cells zL4 376)) id
          refine ⟨?_, hrow.soft j⟩
          rw [hrow.cell]
          match j, hj with
          | 0, _ => rfl
          | 1, _ => rfl
          | 2, _ => rfl
        rw [← hW, ← hR]
        have HR := Lib.hid hrR
        have HL := Lib.hid hrL
        have HT := Lib.hid tW
        have HRR := Lib.hid hR
        have hLn : R ≠ R + 1 := by omega
        rw [← hR] at HL
        clear hR hW tW hrL hrR hz1 hz3 hz5
        have hgw : Hid (g < w.heap.size) := by
          obtain ⟨g', o', e', hc'⟩ := Hr.out.num (i := 0) (by rw [Hb.out]; decide)
          cases e'; exact lt_of_cell hc'
        go_loopg [22] 4 (fun g' s22 wr => ∃ k : Nat, k + g' = 4 ∧ s22 = .int .i64 ((k : Nat) : Int) ∧ Hid (Row wr (R + 1) 376 (nums .u32 (gotL b k))) ∧ Hid (Touch (One (R + 1)) W wr))
        case atStart => exact ⟨0, rfl, rfl, HL.out, Touch.refl _ _⟩
        case round =>
          obtain ⟨k, hkg, rfl, L, T⟩ := hrel
          cases gk with
          | zero =>
            obtain rfl : k = 4 := by omega
            have hcl : ∀ j, j < 4 → wr.cell? ⟨R + 1, j, none⟩ = some (.int .u32 (Rt.unfour (b.drop (4 + 4 * j)) : Nat)) := fun j hj => by
              rw [L.out.cell, nums_get (by rw [gotL_length (by decide)]; exact hj)]
              congr 3
              match j, hj with
              | 0, _ => rfl
              | 1, _ => rfl
              | 2, _ => rfl
              | 3, _ => rfl
            have hrc : ∀ j, j < 3 → wr.cell? ⟨R, j, none⟩ = some (.int .u32 0) ∧ wr.frozen? ⟨R, j, none⟩ = false := fun j hj => by
              have h1 := HR.out j hj
              exact ⟨T.out.cell (fun e => hLn e) h1.1, (T.out.frozen (lt_of_cell h1.1) (fun e => hLn e) j).trans h1.2⟩
            obtain ⟨e0, he0⟩ : ∃ e0, Rt.unfour (b.drop 4) = e0 := ⟨_, rfl⟩
            obtain ⟨e1, he1⟩ : ∃ e1, Rt.unfour (b.drop 8) = e1 := ⟨_, rfl⟩
            obtain ⟨e2, he2⟩ : ∃ e2, Rt.unfour (b.drop 12) = e2 := ⟨_, rfl⟩
            obtain ⟨e3, he3⟩ : ∃ e3, Rt.unfour (b.drop 16) = e3 := ⟨_, rfl⟩
            obtain ⟨sm, hsm⟩ : ∃ sm, Rt.of (b.take 16) = sm := ⟨_, rfl⟩
            have k0 : wr.cell? ⟨R + 1, 0, none⟩ = some (.int .u32 (e0 : Nat)) := by rw [← he0]; exact hcl 0 (by decide)
            have k1 : wr.cell? ⟨R + 1, 1, none⟩ = some (.int .u32 (e1 : Nat)) := by rw [← he1]; exact hcl 1 (by decide)
            have k2 : wr.cell? ⟨R + 1, 2, none⟩ = some (.int .u32 (e2 : Nat)) := by rw [← he2]; exact hcl 2 (by decide)
            have k3 : wr.cell? ⟨R + 1, 3, none⟩ = some (.int .u32 (e3 : Nat)) := by rw [← he3]; exact hcl 3 (by decide)
            have TW := Lib.hid (HT.out.then T.out (fun i hi e => by
              have h2 : i = R + 1 := e
              have h3 := HRR.out
              omega))
            have h16 : Hid ((b.take 16).length = 16) := by show _ = _; rw [List.length_take, Hb.out]; rfl
            have Hr16 : Hid (Rd wr (some ⟨g, o, none⟩) (nums .u8 (b.take 16))) := by
              have := (Hr.out.no TW.out).take 16
              show Rd _ _ _
              rw [nums, List.map_take]; exact this
            have CO := Lib.hid (of_any wr.drew (some ⟨g, o, none⟩) 16 c (b.take 16) h16.out (by decide) (Hr16.out.no (Touch.refl No wr).drew) (fun x hx => Hlt.out x (List.mem_of_mem_take hx)))
            have HE : Hid ((if sm = e3 then 0 else 11) = Rt.errOf b) := by
              show _ = _
              have hp : b.length = 64 ∧ b.take 4 = Rt.mark ∧ Rt.nought (b.drop 20) = true := ⟨Hb.out, Hmk.out, Hno.out⟩
              rw [Rt.errOf, if_pos hp, hsm, unfour_take, he3]
            have HRo : Hid (Rt.rootOf b = if Rt.errOf b = 0 then ⟨e0, e1, e2⟩ else ⟨0, 0, 0⟩) := by
              show _ = _
              rw [Rt.rootOf, unfour_take, unfour_take, unfour_take, he0, he1, he2]
            have Hkeep : Hid (∀ wx, Touch No wr.drew wx → wx.cell? ⟨R + 1, 0, none⟩ = some (.int .u32 (e0 : Nat)) ∧ wx.cell? ⟨R + 1, 1, none⟩ = some (.int .u32 (e1 : Nat)) ∧ wx.cell? ⟨R + 1, 2, none⟩ = some (.int .u32 (e2 : Nat)) ∧ wx.cell? ⟨R + 1, 3, none⟩ = some (.int .u32 (e3 : Nat))) := fun wx t => ⟨t.cell (id : No _ → False) k0, t.cell (id : No _ → False) k1, t.cell (id : No _ → False) k2, t.cell (id : No _ → False) k3⟩
            have Hroot : Hid (∀ wx, Touch No wr.drew wx → ∀ j, j < 3 → wx.cell? ⟨R, j, none⟩ = some (.int .u32 0) ∧ wx.frozen? ⟨R, j, none⟩ = false) := fun wx t j hj => by
              have h1 := hrc j hj
              exact ⟨t.cell (id : No _ → False) h1.1, (t.frozen (lt_of_cell (w := wr.drew) h1.1) id j).trans h1.2⟩
            have kk : wr.drew.cell? ⟨R + 1, 3, none⟩ = some (.int .u32 (e3 : Nat)) := k3
            rw [hsm] at CO
            clear hcl hrc he0 he1 he2 he3 hsm k0 k1 k2 L T HR HL
            by_cases heq : sm = e3
            · subst heq
              have HE0 : Hid (Rt.errOf b = 0) := by show _ = _; rw [← HE.out, if_pos rfl]
              go_wp2_with fail
              go_region_held3 (fun w' => w'.cell? ⟨R + 1, 3, none⟩ = some (.int .u32 (sm : Nat))) (first | exact k3 | exact kk | exact (Hkeep.out _ t9).2.2.2) ((go_at_call 214; refine (CO.out).mono ?_; rintro e w9 ⟨rfl, t9⟩))
              have q := Hkeep.out _ t9
              have q0 := q.1
              have q1 := q.2.1
              have q2 := q.2.2.1
              have r0 := (Hroot.out _ t9 0 (by decide)).1
              have r1 := (Hroot.out _ t9 1 (by decide)).1
              have r2 := (Hroot.out _ t9 2 (by decide)).1
              have s0 := (Hroot.out _ t9 0 (by decide)).2
              have s1 := (Hroot.out _ t9 1 (by decide)).2
              have s2 := (Hroot.out _ t9 2 (by decide)).2
              have T9 := Lib.hid t9
              clear q t9 k3 kk
              go_wp2
              have Fin : Rt.rootOf b = ⟨e0, e1, e2⟩ ∧ Rt.errOf b = 0 := ⟨by rw [HRo.out, if_pos HE0.out], HE0.out⟩
              rw [Fin.1, Fin.2]
              have tf : ∀ v0 v1 v2 : Value, Touch No w (((w9.setCell ⟨R, 0, none⟩ v0).setCell ⟨R, 1, none⟩ v1).setCell ⟨R, 2, none⟩ v2) := fun v0 v1 v2 => by
                have hn : ∀ o' : Nat, (⟨R, o', none⟩ : Addr).block < w.heap.size → No (⟨R, o', none⟩ : Addr).block := fun o' h => absurd (show R < w.heap.size from h) (by have := HRR.out; omega)
                exact ((((TW.out.drew).trans T9.out).setCell (p := ⟨R, 0, none⟩) (hn 0) v0).setCell (p := ⟨R, 1, none⟩) (hn 1) v1).setCell (p := ⟨R, 2, none⟩) (hn 2) v2
              exact bodyPost_ret (v := .tuple #[.agg #[.int .u32 (e0 : Nat), .int .u32 (e1 : Nat), .int .u32 (e2 : Nat)], .int .i64 0]) (by simp [results, Tryz.results220, go_sem, r0, r1, r2]) rfl ⟨rfl, tf _ _ _⟩
            · have HE1 : Hid (Rt.errOf b = 11) := by show _ = _; rw [← HE.out, if_neg heq]
              have hneq : ((sm : Int) != (e3 : Int)) = true := by simp; omega
              clear heq
              go_wp2_with fail
              go_region_held3 (fun w' => w'.cell? ⟨R + 1, 3, none⟩ = some (.int .u32 (e3 : Nat))) (first | exact k3 | exact kk | exact (Hkeep.out _ t9).2.2.2) ((go_at_call 214; refine (CO.out).mono ?_; rintro e w9 ⟨rfl, t9⟩))
              have r0 := (Hroot.out _ t9 0 (by decide)).1
              have r1 := (Hroot.out _ t9 1 (by decide)).1
              have r2 := (Hroot.out _ t9 2 (by decide)).1
              have s0 := (Hroot.out _ t9 0 (by decide)).2
              have s1 := (Hroot.out _ t9 1 (by decide)).2
              have s2 := (Hroot.out _ t9 2 (by decide)).2
              have T9 := Lib.hid t9
              clear t9 k3 kk
              go_wp2
              have Fin : Rt.rootOf b = ⟨0, 0, 0⟩ ∧ Rt.errOf b = 11 := ⟨by rw [HRo.out, if_neg (by rw [HE1.out]; decide)], HE1.out⟩
              rw [Fin.1, Fin.2]
              have tf : ∀ v0 v1 v2 : Value, Touch No w (((w9.setCell ⟨R, 0, none⟩ v0).setCell ⟨R, 1, none⟩ v1).setCell ⟨R, 2, none⟩ v2) := fun v0 v1 v2 => by
                have hn : ∀ o' : Nat, (⟨R, o', none⟩ : Addr).block < w.heap.size → No (⟨R, o', none⟩ : Addr).block := fun o' h => absurd (show R < w.heap.size from h) (by have := HRR.out; omega)
                exact ((((TW.out.drew).trans T9.out).setCell (p := ⟨R, 0, none⟩) (hn 0) v0).setCell (p := ⟨R, 1, none⟩) (hn 1) v1).setCell (p := ⟨R, 2, none⟩) (hn 2) v2
              exact bodyPost_ret (v := .tuple #[.agg #[.int .u32 0, .int .u32 0, .int .u32 0], .int .i64 11]) (by simp [results, Tryz.results220, go_sem, r0, r1, r2]) rfl ⟨rfl, tf _ _ _⟩
          | succ g' =>
          have hk : k = 0 ∨ k = 1 ∨ k = 2 ∨ k = 3 := by omega
          have hc4 : ¬ c = 4 ∧ ¬ c = 8 ∧ ¬ c = 12 ∧ ¬ c = 16 := by omega
          obtain ⟨hc4a, hc4b, hc4c, hc4d⟩ := hc4
          rcases hk with rfl | rfl | rfl | rfl
          · have rk : Hid (Rd wr (some ⟨g, o + 4, none⟩) (nums .u8 (b.drop 4))) := by
              have := ((Hr.out.no HT.out).touch T.out (fun b' o' e' hlt' e2 => by
                cases e'
                have h1 := hgw.out
                have h2 : g = R + 1 := e2
                have h3 := HRR.out
                omega)).cut (cap := c) (l := 4) (by rw [nums_length, Hb.out]; exact hc)
              rw [cutAddr, if_neg (by omega), Option.map_some, add_off' g o 4 (by decide)] at this
              show Rd _ _ _
              rw [nums, List.map_drop]; exact this
            have lk : Hid ((b.drop 4).length = 60) := by show _ = _; rw [List.length_drop, Hb.out]
            have hcell : wr.cell? ⟨R + 1, 0, none⟩ = some (.int .u32 (((gotL b 0).getD 0 0 : Nat) : Int)) := by
              rw [L.out.cell]; exact nums_get (by rw [gotL_length (by decide)]; decide)
            have hsoft := L.out.soft 0
            obtain ⟨v, hv⟩ : ∃ v, Rt.unfour (b.drop 4) = v := ⟨_, rfl⟩
            have hrn := L.out.setCell 0 (.int .u32 (v : Nat))
            rw [← hv, gotL_next (k := 0) (by decide)] at hrn
            have Hrn := Lib.hid hrn
            have Hv := Lib.hid hv
            have Hce := Lib.hid hcell
            have Hso := Lib.hid hsoft
            clear hrn hv hcell hsoft
            go_wp2_with fail
            refine (getFour_ok wr _ 60 (c - 4) (b.drop 4) v lk.out (by decide) (by decide) rk.out (fun x hx => Hlt.out x (List.mem_of_mem_drop hx)) Hv.out).mono ?_
            rintro e w3 ⟨rfl, t3⟩
            have c3 := t3.cell (id : No (R + 1) → False) Hce.out
            have f3 := (t3.frozen (lt_of_cell Hce.out) id 0).trans Hso.out
            have TT := Lib.hid ((T.out.then t3 (fun _ _ f => f.elim)).setCell (p := ⟨R + 1, 0, none⟩) (fun _ => rfl) (.int .u32 (v : Nat)))
            have LL : Hid (Row (w3.setCell ⟨R + 1, 0, none⟩ (.int .u32 (v : Nat))) (R + 1) 376 (nums .u32 (gotL b (0 + 1)))) := by
              have h1 := (L.out.touch t3 id).setCell 0 (.int .u32 (v : Nat))
              show Row _ _ _ _
              rw [← gotL_next (k := 0) (by decide), Hv.out]; exact h1
            clear t3
            go_wp2
            go_roundg g'
            case measure => omega
            case rel => exact ⟨0 + 1, by omega, by go_num, LL.out, TT.out⟩
          · have rk : Hid (Rd wr (some ⟨g, o + 8, none⟩) (nums .u8 (b.drop 8))) := by
              have := ((Hr.out.no HT.out).touch T.out (fun b' o' e' hlt' e2 => by
                cases e'
                have h1 := hgw.out
                have h2 : g = R + 1 := e2
                have h3 := HRR.out
                omega)).cut (cap := c) (l := 8) (by rw [nums_length, Hb.out]; exact hc)
              rw [cutAddr, if_neg (by omega), Option.map_some, add_off' g o 8 (by decide)] at this
              show Rd _ _ _
              rw [nums, List.map_drop]; exact this
            have lk : Hid ((b.drop 8).length = 56) := by show _ = _; rw [List.length_drop, Hb.out]
            have hcell : wr.cell? ⟨R + 1, 1, none⟩ = some (.int .u32 (((gotL b 1).getD 1 0 : Nat) : Int)) := by
              rw [L.out.cell]; exact nums_get (by rw [gotL_length (by decide)]; decide)
            have hsoft := L.out.soft 1
            obtain ⟨v, hv⟩ : ∃ v, Rt.unfour (b.drop 8) = v := ⟨_, rfl⟩
            have hrn := L.out.setCell 1 (.int .u32 (v : Nat))
            rw [← hv, gotL_next (k := 1) (by decide)] at hrn
            have Hrn := Lib.hid hrn
            have Hv := Lib.hid hv
            have Hce := Lib.hid hcell
            have Hso := Lib.hid hsoft
            clear hrn hv hcell hsoft
            go_wp2_with fail
            refine (getFour_ok wr _ 56 (c - 8) (b.drop 8) v lk.out (by decide) (by decide) rk.out (fun x hx => Hlt.out x (List.mem_of_mem_drop hx)) Hv.out).mono ?_
            rintro e w3 ⟨rfl, t3⟩
            have c3 := t3.cell (id : No (R + 1) → False) Hce.out
            have f3 := (t3.frozen (lt_of_cell Hce.out) id 1).trans Hso.out
            have TT := Lib.hid ((T.out.then t3 (fun _ _ f => f.elim)).setCell (p := ⟨R + 1, 1, none⟩) (fun _ => rfl) (.int .u32 (v : Nat)))
            have LL : Hid (Row (w3.setCell ⟨R + 1, 1, none⟩ (.int .u32 (v : Nat))) (R + 1) 376 (nums .u32 (gotL b (1 + 1)))) := by
              have h1 := (L.out.touch t3 id).setCell 1 (.int .u32 (v : Nat))
              show Row _ _ _ _
              rw [← gotL_next (k := 1) (by decide), Hv.out]; exact h1
            clear t3
            go_wp2
            go_roundg g'
            case measure => omega
            case rel => exact ⟨1 + 1, by omega, by go_num, LL.out, TT.out⟩
          · have rk : Hid (Rd wr (some ⟨g, o + 12, none⟩) (nums .u8 (b.drop 12))) := by
              have := ((Hr.out.no HT.out).touch T.out (fun b' o' e' hlt' e2 => by
                cases e'
                have h1 := hgw.out
                have h2 : g = R + 1 := e2
                have h3 := HRR.out
                omega)).cut (cap := c) (l := 12) (by rw [nums_length, Hb.out]; exact hc)
              rw [cutAddr, if_neg (by omega), Option.map_some, add_off' g o 12 (by decide)] at this
              show Rd _ _ _
              rw [nums, List.map_drop]; exact this
            have lk : Hid ((b.drop 12).length = 52) := by show _ = _; rw [List.length_drop, Hb.out]
            have hcell : wr.cell? ⟨R + 1, 2, none⟩ = some (.int .u32 (((gotL b 2).getD 2 0 : Nat) : Int)) := by
              rw [L.out.cell]; exact nums_get (by rw [gotL_length (by decide)]; decide)
            have hsoft := L.out.soft 2
            obtain ⟨v, hv⟩ : ∃ v, Rt.unfour (b.drop 12) = v := ⟨_, rfl⟩
            have hrn := L.out.setCell 2 (.int .u32 (v : Nat))
            rw [← hv, gotL_next (k := 2) (by decide)] at hrn
            have Hrn := Lib.hid hrn
            have Hv := Lib.hid hv
            have Hce := Lib.hid hcell
            have Hso := Lib.hid hsoft
            clear hrn hv hcell hsoft
            go_wp2_with fail
            refine (getFour_ok wr _ 52 (c - 12) (b.drop 12) v lk.out (by decide) (by decide) rk.out (fun x hx => Hlt.out x (List.mem_of_mem_drop hx)) Hv.out).mono ?_
            rintro e w3 ⟨rfl, t3⟩
            have c3 := t3.cell (id : No (R + 1) → False) Hce.out
            have f3 := (t3.frozen (lt_of_cell Hce.out) id 2).trans Hso.out
            have TT := Lib.hid ((T.out.then t3 (fun _ _ f => f.elim)).setCell (p := ⟨R + 1, 2, none⟩) (fun _ => rfl) (.int .u32 (v : Nat)))
            have LL : Hid (Row (w3.setCell ⟨R + 1, 2, none⟩ (.int .u32 (v : Nat))) (R + 1) 376 (nums .u32 (gotL b (2 + 1)))) := by
              have h1 := (L.out.touch t3 id).setCell 2 (.int .u32 (v : Nat))
              show Row _ _ _ _
              rw [← gotL_next (k := 2) (by decide), Hv.out]; exact h1
            clear t3
            go_wp2
            go_roundg g'
            case measure => omega
            case rel => exact ⟨2 + 1, by omega, by go_num, LL.out, TT.out⟩
          · have rk : Hid (Rd wr (some ⟨g, o + 16, none⟩) (nums .u8 (b.drop 16))) := by
              have := ((Hr.out.no HT.out).touch T.out (fun b' o' e' hlt' e2 => by
                cases e'
                have h1 := hgw.out
                have h2 : g = R + 1 := e2
                have h3 := HRR.out
                omega)).cut (cap := c) (l := 16) (by rw [nums_length, Hb.out]; exact hc)
              rw [cutAddr, if_neg (by omega), Option.map_some, add_off' g o 16 (by decide)] at this
              show Rd _ _ _
              rw [nums, List.map_drop]; exact this
            have lk : Hid ((b.drop 16).length = 48) := by show _ = _; rw [List.length_drop, Hb.out]
            have hcell : wr.cell? ⟨R + 1, 3, none⟩ = some (.int .u32 (((gotL b 3).getD 3 0 : Nat) : Int)) := by
              rw [L.out.cell]; exact nums_get (by rw [gotL_length (by decide)]; decide)
            have hsoft := L.out.soft 3
            obtain ⟨v, hv⟩ : ∃ v, Rt.unfour (b.drop 16) = v := ⟨_, rfl⟩
            have hrn := L.out.setCell 3 (.int .u32 (v : Nat))
            rw [← hv, gotL_next (k := 3) (by decide)] at hrn
            have Hrn := Lib.hid hrn
            have Hv := Lib.hid hv
            have Hce := Lib.hid hcell
            have Hso := Lib.hid hsoft
            clear hrn hv hcell hsoft
            go_wp2_with fail
            refine (getFour_ok wr _ 48 (c - 16) (b.drop 16) v lk.out (by decide) (by decide) rk.out (fun x hx => Hlt.out x (List.mem_of_mem_drop hx)) Hv.out).mono ?_
            rintro e w3 ⟨rfl, t3⟩
            have c3 := t3.cell (id : No (R + 1) → False) Hce.out
            have f3 := (t3.frozen (lt_of_cell Hce.out) id 3).trans Hso.out
            have TT := Lib.hid ((T.out.then t3 (fun _ _ f => f.elim)).setCell (p := ⟨R + 1, 3, none⟩) (fun _ => rfl) (.int .u32 (v : Nat)))
            have LL : Hid (Row (w3.setCell ⟨R + 1, 3, none⟩ (.int .u32 (v : Nat))) (R + 1) 376 (nums .u32 (gotL b (3 + 1)))) := by
              have h1 := (L.out.touch t3 id).setCell 3 (.int .u32 (v : Nat))
              show Row _ _ _ _
              rw [← gotL_next (k := 3) (by decide), Hv.out]; exact h1
            clear t3
            go_wp2
            go_roundg g'
            case measure => omega
            case rel => exact ⟨3 + 1, by omega, by go_num, LL.out, TT.out⟩
    · have hF := Form.out (fun h => hmk h.2.1)
      rw [hF.1, hF.2]
      have hne : ¬ S.toList = [82, 79, 79, 84] := fun h => hmk (HSo.out.1 (by
        rw [Go.ByteArray.toList_eq] at h
        cases S with
        | mk d => cases d; simp at h; rw [h]))
      clear hF hb hr hlt HSo hmk
      go_enter Tryz.func220, Tryz.ntmps220
      go_wp2_with fail
      exact bodyPost_ret (v := .tuple #[.agg #[.int .u32 0, .int .u32 0, .int .u32 0], .int .i64 4]) (by simp [results, Tryz.results220, go_sem]) rfl ⟨rfl, (Touch.refl No w).alloc _⟩
  · have hne : ((n : Int) != 64) = true := by simp; omega
    have hF := Form.out (fun h => h64 (by rw [← Hb.out]; exact h.1))
    rw [hF.1, hF.2]
    clear hF h64 hb hr hlt
    go_enter Tryz.func220, Tryz.ntmps220
    go_wp2
    exact bodyPost_ret (v := .tuple #[.agg #[.int .u32 0, .int .u32 0, .int .u32 0], .int .i64 4]) (by simp [results, Tryz.results220, go_sem]) rfl ⟨rfl, (Touch.refl No w).alloc _⟩
end Go.Proofs.YtnffigfafalocaaGreatDoor
namespace Go.Proofs.YtnffigfafalocaaGreatDoor
open Go Go.RowKit

def LawPost (w : World) (e : Ending) (w' : World) : Prop := e = .returned (.bool true) ∧ Touch No w w'
end Go.Proofs.YtnffigfafalocaaGreatDoor
namespace Go.Proofs.YtnffigfafalocaaGreatDoor
open Go Go.RowKit

theorem DiskAt.read_any {wi : World} {d : Nat} {D : Dk.Disk} {O : Nat → Prop} (h : DiskAt wi d D O) (n : Nat) (hn : n < D.seen.length) :
    Calls Tryz.prog 218 #[.pointer (some ⟨d, 0, none⟩), .int .i64 (n : Nat)] wi fun e w' => ∃ a l r, e = .returned (.tuple #[.slice a l l, .int .i64 (r : Nat)]) ∧ Rd w' a (nums .u8 (Dk.bytesOf (Dk.at_ D.seen n))) ∧ (Dk.bytesOf (Dk.at_ D.seen n)).length = l ∧ r = Dk.errOf (Dk.at_ D.seen n) ∧ Touch No wi w' := by
  by_cases hb : (Dk.at_ D.seen n).bad = 1
  · rw [Dk.bytesOf, Dk.errOf, if_pos hb, if_pos hb]
    exact (read_lost wi d D O n h hn hb).mono fun _ _ ⟨he, e⟩ => ⟨none, 0, 12, he, Rd.nil _ _, rfl, rfl, e ▸ Touch.refl _ _⟩
  · rw [Dk.bytesOf, Dk.errOf, if_neg hb, if_neg hb]
    have hok := h.ok.seen _ (Dk.at_mem hn)
    exact (read_in wi d D O n h hn (by have := hok.bad; omega)).mono fun _ _ ⟨g, he, _, hr, t⟩ => ⟨some ⟨g, 0, none⟩, 64, 0, he, hr, hok.b.len, rfl, t⟩
end Go.Proofs.YtnffigfafalocaaGreatDoor
