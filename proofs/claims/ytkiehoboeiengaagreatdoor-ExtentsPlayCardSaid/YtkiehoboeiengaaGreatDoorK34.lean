/-
  Package sums by its own text: table, On, Of.
-/
import Derived.Test.YtkiehoboeiengaaGreatDoorK18
import Derived.Test.YtkiehoboeiengaaGreatDoorK06
namespace Go.Proofs.YtkiehoboeiengaaGreatDoor
open Go Go.RowKit
set_option linter.unusedSimpArgs false

def zTab : Array Value := (List.replicate 256 (Value.int .u32 0)).toArray
theorem zTab_zero (w : World) : (zeroValue 299).run Tryz.prog w = .ok (.agg zTab) w := by kernel_rfl
theorem zTab_size : zTab.size = 256 := by kernel_rfl
theorem zTab_ne : zTab ≠ #[] := fun h => by have := zTab_size; rw [h] at this; cases this
/-- the table, as far as it is made -/
def tabList (k : Nat) : List Nat := (List.range k).map Rt.tab ++ List.replicate (256 - k) 0
theorem tabList_length {k : Nat} (h : k ≤ 256) : (tabList k).length = 256 := by simp [tabList]; omega
theorem tabList_next {k : Nat} (h : k < 256) : (nums .u32 (tabList k)).set k (.int .u32 (Rt.tab k : Nat)) = nums .u32 (tabList (k + 1)) := by
  rw [nums, nums, ← List.map_set (f := fun (x : Nat) => Value.int .u32 (x : Int)) (a := Rt.tab k)]
  congr 1
  rw [tabList, tabList, List.set_append_right _ _ (by simp), List.range_succ, List.map_append, List.append_assoc]
  congr 1
  simp only [List.length_map, List.length_range, Nat.sub_self]
  rw [show 256 - k = (256 - (k + 1)) + 1 by omega, List.replicate_succ]
  rfl
theorem half_one {r : Nat} (h : r < 4294967296) (h1 : r % 2 = 1) : bits BinOp.and .u32 (r : Int) 1 = 1 ∧ bits BinOp.xor .u32 ((r : Int) / 2) 3988292384 = (Rt.half1 r : Nat) := by
  constructor
  · have := u32_and_nat r 1 h (by decide)
    rw [nat_mask1, h1] at this
    exact this
  · have := u32_xor_nat (r / 2) 3988292384 (by omega) (by decide)
    rw [Rt.half1, if_pos h1, ← this]
    congr 1
theorem half_nil {r : Nat} (h : r < 4294967296) (h1 : r % 2 = 0) : bits BinOp.and .u32 (r : Int) 1 = 0 ∧ bits BinOp.xor .u32 ((r : Int) / 2) 0 = (Rt.half1 r : Nat) := by
  constructor
  · have := u32_and_nat r 1 h (by decide)
    rw [nat_mask1, h1] at this
    exact this
  · have := u32_xor_nat (r / 2) 0 (by omega) (by decide)
    rw [Nat.xor_zero] at this
    rw [Rt.half1, if_neg (by omega), ← this]
    congr 1

def tabV : List Value := nums .u32 (tabList 256)
set_option maxRecDepth 100000 in
set_option maxHeartbeats 4000000 in
theorem table_is (w : World) : Calls Tryz.prog 215 #[] w fun e w' => e = .returned (.agg tabV.toArray) ∧ Touch No w w' := by
  have hz1 := zTab_zero
  have hz3 := zTab_size
  have hz5 := zTab_ne
  go_enter Tryz.func215, Tryz.ntmps215
  go_wp2
  obtain ⟨B, hB⟩ : ∃ B, B = w.heap.size := ⟨_, rfl⟩
  obtain ⟨W, hW⟩ : ∃ W, W = w.alloc (.cells zTab 299) := ⟨_, rfl⟩
  have hrow : Row W B 299 (nums .u32 (tabList 0)) := by
    rw [hW, hB]; exact Row.new w _ zTab
  have tW : Touch No w W := by rw [hW]; exact (Touch.refl No w).alloc _
  have hBw : w.heap.size ≤ B := by omega
  rw [← hW, ← hB]
  have HB := Lib.hid hBw
  have HR := Lib.hid hrow
  have HT := Lib.hid tW
  clear hW hB hBw hrow tW
  go_loopg [3] 256 (fun g s3 wr => ∃ k : Nat, k + g = 256 ∧ s3 = .int .u32 ((k : Nat) : Int) ∧ Hid (Row wr B 299 (nums .u32 (tabList k))) ∧ Hid (Touch No w wr))
  case atStart => exact ⟨0, rfl, rfl, HR.out, HT.out⟩
  case round =>
    clear HR HT
    obtain ⟨k, hkg, rfl, R, T⟩ := hrel
    cases gk with
    | zero =>
      obtain rfl : k = 256 := by omega
      have hra : wr.rangeAt B 0 tabV := R.out.range (fun j v hj => by rw [Nat.zero_add]; exact hj)
      have HRa := Lib.hid hra
      clear hra
      have hi106 : (Tryz.prog.info? 299).map (·.size) = some 256 := by kernel_rfl
      have htl : Hid (tabV.length = 256) := by show (nums .u32 (tabList 256)).length = 256; rw [nums_length]; exact tabList_length (Nat.le_refl _)
      have hsame : Hid (wr.setRow B (splice tabV 0 tabV).toArray = wr) := by
        show _ = _
        have e : splice tabV 0 tabV = tabV := by
          rw [splice, List.take_zero, List.nil_append, Nat.zero_add, List.drop_of_length_le (Nat.le_refl _), List.append_nil]
        rw [e]
        have hst := run_storeCells_at Tryz.prog B 0 299 [] 0 tabV.toArray wr R.out (by simp) (by simp)
        simp [storeCells] at hst
        exact hst.symm
      go_wp2_with (first
        | (refine wpList_load_range rfl _ _ rfl 256 B 0 tabV HRa.out htl.out rfl _ Tryz.underlying299 rfl hi106 ?_)
        | (refine wpList_store_mid rfl _ _ _ rfl B 0 299 tabV R.out rfl tabV rfl (by rw [htl.out]; exact hi106) ?_ (nums_one _ _) ?_; rotate_left; rw [hsame.out]))
      have hld := run_load_range (P := Tryz.prog) HRa.out htl.out Tryz.underlying299 rfl hi106
      exact bodyPost_ret (v := .agg tabV.toArray) (by
        unfold results
        rw [Tryz.results215]
        simp [asAddr, hld]) rfl ⟨rfl, T.out⟩
    | succ g =>
      have hlt : (k : Int) < 256 := by omega
      go_wp2
      obtain ⟨wo, rfl⟩ : ∃ wo : World, wo = wr := ⟨_, rfl⟩
      go_loopg [2, 7] 8 (fun g' s2 s7 wr' => ∃ i : Nat, i + g' = 8 ∧ s7 = .int .i64 ((i : Nat) : Int) ∧ s2 = .int .u32 ((Rt.halves i k : Nat) : Int) ∧ Hid (wr' = wo))
      case atStart => exact ⟨0, rfl, rfl, rfl, rfl⟩
      case round =>
        obtain ⟨i, hig, rfl, rfl, hwr⟩ := hrel
        have hww : wo = wr := hwr.out.symm
        clear hwr
        subst hww
        cases gk with
        | zero =>
          obtain rfl : i = 8 := by omega
          have hcell : wo.cell? ⟨B, k, none⟩ = some (.int .u32 (((tabList k).getD k 0 : Nat) : Int)) := by
            rw [R.out.cell]; exact nums_get (by rw [tabList_length (by omega)]; omega)
          have hsoft := R.out.soft k
          have hrn := R.out.setCell k (.int .u32 (Rt.tab k : Nat))
          rw [tabList_next (by omega)] at hrn
          have HRn := Lib.hid hrn
          have htab : Hid (Rt.halves 8 k = Rt.tab k) := rfl
          have hj1 : IntKind.u32.wrap ((k : Int) + 1) = ((k + 1 : Nat) : Int) := by rw [IntKind.wrap_u32]; omega
          rw [htab.out]
          clear hrn
          go_wp2
          go_roundg g
          case measure => omega
          case rel => exact ⟨k + 1, by omega, by first | rfl | go_num, HRn.out, T.out.setCell (p := ⟨B, k, none⟩) (fun h => absurd (show B < w.heap.size from h) (Nat.not_lt.2 HB.out)) _⟩
        | succ g' =>
          have hlt' : (i : Int) < 8 := by omega
          have hr32 := Rt.halves_lt i (r := k) (by omega)
          have hnext : Hid (Rt.halves (i + 1) k = Rt.half1 (Rt.halves i k)) := Rt.halves_succ i k
          generalize Rt.halves i k = r at *
          have hm1 : IntKind.u32.wrap (-1) = 4294967295 := by rfl
          have hm2 : bits BinOp.and .u32 3988292384 4294967295 = 3988292384 := by decide
          have hm3 : bits BinOp.and .u32 3988292384 0 = 0 := by decide
          rcases Nat.mod_two_eq_zero_or_one r with h1 | h1
          · obtain ⟨ha, hx⟩ := half_nil hr32 h1
            obtain ⟨q, hq⟩ : ∃ q, Rt.half1 r = q := ⟨_, rfl⟩
            rw [hq] at hnext hx
            clear hq h1
            go_wp2
            go_roundg g'
            case measure => omega
            case rel => exact ⟨i + 1, by omega, by go_num, by rw [hnext.out], rfl⟩
          · obtain ⟨ha, hx⟩ := half_one hr32 h1
            obtain ⟨q, hq⟩ : ∃ q, Rt.half1 r = q := ⟨_, rfl⟩
            rw [hq] at hnext hx
            clear hq h1
            go_wp2
            go_roundg g'
            case measure => omega
            case rel => exact ⟨i + 1, by omega, by go_num, by rw [hnext.out], rfl⟩

theorem xor8 {r c : Nat} (_hr : r < 4294967296) (hc : c < 256) : bits BinOp.xor .u8 ((r : Int) % 256) (c : Int) = ((r % 256 ^^^ c : Nat) : Int) := by
  have := u8_xor_nat (r % 256) c (by omega) hc
  rw [← this]; congr 1
theorem xor32 {a r : Nat} (ha : a < 4294967296) (hr : r < 4294967296) : bits BinOp.xor .u32 (a : Int) ((r : Int) / 256) = ((a ^^^ r / 256 : Nat) : Int) := by
  have := u32_xor_nat a (r / 256) ha (by omega)
  rw [← this]; congr 1
theorem xor_neg {s : Nat} (h : s < 4294967296) : bits BinOp.xor .u32 IntKind.u32.max (s : Int) = ((Rt.neg s : Nat) : Int) := by
  have e : (4294967295 : Nat) ^^^ s = 4294967295 - s := by
    have h1 : (BitVec.allOnes 32 ^^^ BitVec.ofNat 32 s).toNat = (~~~ BitVec.ofNat 32 s).toNat := by rw [BitVec.allOnes_xor]
    rw [BitVec.toNat_xor, BitVec.toNat_not, BitVec.toNat_allOnes, BitVec.toNat_ofNat, Nat.mod_eq_of_lt (by omega)] at h1
    exact h1
  have := u32_xor_nat 4294967295 s (by decide) h
  rw [e] at this
  exact this
theorem tabV_get {i : Nat} (h : i < 256) : tabV[i]? = some (.int .u32 (Rt.tab i : Nat)) := by
  have e : tabList 256 = (List.range 256).map Rt.tab := by rw [tabList]; simp
  rw [tabV, e, nums, List.getElem?_map, List.getElem?_map, List.getElem?_range h]; rfl

set_option maxRecDepth 100000 in
set_option maxHeartbeats 4000000 in
theorem on_any (w : World) (sum : Nat) (hs : sum < 4294967296) (a : Option Addr) (n c : Nat) (b : List Nat) (hb : b.length = n) (hmax : (n : Int) ≤ 9223372036854775807) (hr : Rd w a (nums .u8 b)) (hlt : ∀ x ∈ b, x < 256) :
    Calls Tryz.prog 150 #[.int .u32 (sum : Nat), .slice a n c] w fun e w' => e = .returned (.int .u32 (Rt.on sum b : Nat)) ∧ Touch No w w' := by
  have Hb := Lib.hid hb
  have Hr := Lib.hid hr
  have Hlt := Lib.hid hlt
  have hz1 := zTab_zero
  have hz3 := zTab_size
  have hz5 := zTab_ne
  have hi106 : (Tryz.prog.info? 299).map (·.size) = some 256 := by kernel_rfl
  have htl : Hid (tabV.length = 256) := by show (nums .u32 (tabList 256)).length = 256; rw [nums_length]; exact tabList_length (Nat.le_refl _)
  have hztl : Hid (zTab.toList.length = 256) := by show _ = _; rw [Array.length_toList]; exact zTab_size
  have hneg := xor_neg hs
  obtain ⟨ns, hns⟩ : ∃ ns, ns = Rt.neg sum := ⟨_, rfl⟩
  rw [← hns] at hneg
  have hn32 : ns < 4294967296 := by rw [hns]; exact Rt.neg_lt _
  have Hns := Lib.hid hns
  clear hns
  clear hb hr hlt
  go_enter Tryz.func150, Tryz.ntmps150
  go_wp2_with fail
  refine (table_is w).mono ?_
  rintro e w1 ⟨rfl, t1⟩
  have hrow0 := Row.new w1 299 zTab
  have Hrow0 := Lib.hid hrow0
  have T1 := Lib.hid t1
  clear t1 hrow0
  go_wp2_with (refine wpList_store_mid rfl _ _ _ rfl w1.heap.size 0 299 zTab.toList Hrow0.out rfl tabV rfl (by rw [htl.out]; exact hi106) ?qc (nums_one _ _) ?_)
  case qc => rw [htl.out, hztl.out]; decide
  obtain ⟨B, hB⟩ : ∃ B, B = w1.heap.size := ⟨_, rfl⟩
  obtain ⟨W, hW⟩ : ∃ W, W = (w1.alloc (.cells zTab 299)).setRow w1.heap.size (splice zTab.toList 0 tabV).toArray := ⟨_, rfl⟩
  have hsp : splice zTab.toList 0 tabV = tabV := by
    rw [splice, List.take_zero, List.nil_append, Nat.zero_add, List.drop_of_length_le (by rw [htl.out, hztl.out]; decide), List.append_nil]
  have hrow : Row W B 299 tabV := by
    rw [hW, hB, hsp]; exact (Row.new w1 299 zTab).setRow tabV
  have tW : Touch No w W := by
    rw [hW]
    exact (T1.out.alloc _).setRow (g := w1.heap.size) (fun h => absurd (Nat.lt_of_lt_of_le h T1.out.size) (Nat.lt_irrefl _)) _
  rw [← hW, ← hB]
  have HR := Lib.hid hrow
  have TW := Lib.hid tW
  clear hB hW hsp hrow tW Hrow0
  go_loopg [6, 14] n (fun g s6 s14 wr => ∃ (k : Nat) (r : Nat), k + g = n ∧ s14 = .int .i64 ((k : Nat) : Int) ∧ s6 = .int .u32 ((r : Nat) : Int) ∧ r < 4294967296 ∧ Hid (r = Rt.run ns (b.take k)) ∧ Hid (wr = W))
  case atStart => exact ⟨0, ns, by omega, rfl, rfl, hn32, rfl, rfl⟩
  case round =>
    obtain ⟨k, r, hkg, rfl, rfl, hr32, hr, hwr⟩ := hrel
    have hww : W = wr := hwr.out.symm
    clear hwr
    subst hww
    cases gk with
    | zero =>
      obtain rfl : k = n := by omega
      have hx := xor_neg hr32
      have hfin : Hid (Rt.neg r = Rt.on sum b) := by
        show _ = _
        rw [hr.out, Hns.out, List.take_of_length_le (by rw [Hb.out]; exact Nat.le_refl _)]; rfl
      obtain ⟨q, hq⟩ : ∃ q, Rt.neg r = q := ⟨_, rfl⟩
      rw [hq] at hx hfin
      clear hq
      go_wp2
      go_ret
      exact ⟨by rw [← hfin.out]; rfl, TW.out⟩
    | succ g =>
      have hlt : (k : Int) < (n : Nat) := by omega
      have hkb : k < b.length := by rw [Hb.out]; omega
      obtain ⟨gb, ob, rfl, hcb⟩ := (Hr.out.no TW.out).num hkb
      have hc256 := Hlt.out (b.getD k 0) (by rw [List.getD_eq_getElem?_getD, List.getElem?_eq_getElem hkb]; exact List.getElem_mem hkb)
      have hnext : Hid (Rt.run ns (b.take (k + 1)) = Rt.step r (b.getD k 0)) := by
        show _ = _
        rw [List.take_succ_eq_append_getElem hkb, Rt.run_append, ← hr.out, List.getD_eq_getElem?_getD, List.getElem?_eq_getElem hkb]; rfl
      obtain ⟨x, hx⟩ : ∃ x, b.getD k 0 = x := ⟨_, rfl⟩
      rw [hx] at hcb hc256 hnext
      have h8 := xor8 hr32 hc256
      have hi256 : r % 256 ^^^ x < 256 := Rt.idx_lt hc256
      have hcell : W.cell? ⟨B, r % 256 ^^^ x, none⟩ = some (.int .u32 (Rt.tab (r % 256 ^^^ x) : Nat)) := by rw [HR.out.cell]; exact tabV_get hi256
      have htl32 := Rt.tab_lt hi256
      have h32 := xor32 htl32 hr32
      have hst32 := Rt.step_lt hr32 hc256
      have hstep : Hid (Rt.tab (r % 256 ^^^ x) ^^^ r / 256 = Rt.step r x) := rfl
      clear hx hkb
      obtain ⟨y, hy⟩ : ∃ y, Rt.step r x = y := ⟨_, rfl⟩
      rw [hy] at hnext hst32 hstep
      rw [hstep.out] at h32
      clear hy
      generalize Rt.tab (r % 256 ^^^ x) = tt at *
      generalize r % 256 ^^^ x = i at *
      go_wp2
      go_roundg g
      case measure => omega
      case rel => exact ⟨k + 1, y, by omega, by go_num, rfl, hst32, hnext.out.symm, rfl⟩

/-- Of: the sum of bytes -/
theorem of_any (w : World) (a : Option Addr) (n c : Nat) (b : List Nat) (hb : b.length = n) (hmax : (n : Int) ≤ 9223372036854775807) (hr : Rd w a (nums .u8 b)) (hlt : ∀ x ∈ b, x < 256) :
    Calls Tryz.prog 151 #[.slice a n c] w fun e w' => e = .returned (.int .u32 (Rt.of b : Nat)) ∧ Touch No w w' := by
  have Hc := Lib.hid (on_any w 0 (by decide) a n c b hb hmax hr hlt)
  have hv : Hid (Rt.on 0 b = Rt.of b) := rfl
  clear hb hr hlt
  go_enter Tryz.func151, Tryz.ntmps151
  go_wp2_with fail
  refine Hc.out.mono ?_
  rintro e w2 ⟨rfl, t2⟩
  have T2 := Lib.hid t2
  clear t2
  go_wp2
  go_ret
  exact ⟨rfl, T2.out⟩
end Go.Proofs.YtkiehoboeiengaaGreatDoor
