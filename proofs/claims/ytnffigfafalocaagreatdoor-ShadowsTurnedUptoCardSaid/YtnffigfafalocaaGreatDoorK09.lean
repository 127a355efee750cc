/-
  Package sums by its own text: table, On, Of.
  Package roots by its own text: Put, nought.
-/
import Derived.Test.YtnffigfafalocaaGreatDoorK08
import Derived.Test.YtnffigfafalocaaGreatDoorK05
namespace Go.Proofs.YtnffigfafalocaaGreatDoor
open Go Go.RowKit
set_option linter.unusedSimpArgs false

def zTab : Array Value := (List.replicate 256 (Value.int .u32 0)).toArray
theorem zTab_zero (w : World) : (zeroValue 373).run Tryz.prog w = .ok (.agg zTab) w := by kernel_rfl
theorem zTab_size : zTab.size = 256 := by kernel_rfl
theorem zTab_ne : zTab ≠ #[] := fun h => by have := zTab_size; rw [h] at this; cases this
/-- the table, as far as it is made -/
def tabList (k : Nat) : List Nat := (List.range k).map Rt.tab ++ List.replicate (256 - k) 0
theorem tabList_length {k : Nat} (h : k ≤ 256) : (tabList k).length = 256 := by simp [tabList]; omega
theorem tabList_next {k : Nat} (h : k < 256) : (nums .u32 (tabList k)).set k (.int .u32 (Rt.tab k : Nat)) = nums .u32 (tabList (k + 1)) := by
  rw [nums, nums, ← List.map_set (f := fun (x : Nat) => Value.int .u32 (x : Int)) (a := Rt.tab k)]
  congr 1
  rw [tabList, tabList, List.set_append_right _ _ (by simp), List.range_succ, List.map_append, List.append_assoc]
  congr 1
  simp only [List.length_map, List.length_range, Nat.sub_self]
  rw [show 256 - k = (256 - (k + 1)) + 1 by omega, List.replicate_succ]
  rfl
theorem half_one {r : Nat} (h : r < 4294967296) (h1 : r % 2 = 1) : bits BinOp.and .u32 (r : Int) 1 = 1 ∧ bits BinOp.xor .u32 ((r : Int) / 2) 3988292384 = (Rt.half1 r : Nat) := by
  constructor
  · have := u32_and_nat r 1 h (by decide)
    rw [nat_mask1, h1] at this
    exact this
  · have := u32_xor_nat (r / 2) 3988292384 (by omega) (by decide)
    rw [Rt.half1, if_pos h1, ← this]
    congr 1
theorem half_nil {r : Nat} (h : r < 4294967296) (h1 : r % 2 = 0) : bits BinOp.and .u32 (r : Int) 1 = 0 ∧ bits BinOp.xor .u32 ((r : Int) / 2) 0 = (Rt.half1 r : Nat) := by
  constructor
  · have := u32_and_nat r 1 h (by decide)
    rw [nat_mask1, h1] at this
    exact this
  · have := u32_xor_nat (r / 2) 0 (by omega) (by decide)
    rw [Nat.xor_zero] at this
    rw [Rt.half1, if_neg (by omega), ← this]
    congr 1

def tabV : List Value := nums .u32 (tabList 256)
set_option maxRecDepth 100000 in
set_option maxHeartbeats 4000000 in
theorem table_is (w : World) : Calls Tryz.prog 247 #[] w fun e w' => e = .returned (.agg tabV.toArray) ∧ Touch No w w' := by
  have hz1 := zTab_zero
  have hz3 := zTab_size
  have hz5 := zTab_ne
  go_enter Tryz.func247, Tryz.ntmps247
  go_wp2
  obtain ⟨B, hB⟩ : ∃ B, B = w.heap.size := ⟨_, rfl⟩
  obtain ⟨W, hW⟩ : ∃ W, W = w.alloc (.cells zTab 373) := ⟨_, rfl⟩
  have hrow : Row W B 373 (nums .u32 (tabList 0)) := by
    rw [hW, hB]; exact Row.new w _ zTab
  have tW : Touch No w W := by rw [hW]; exact (Touch.refl No w).alloc _
  have hBw : w.heap.size ≤ B := by omega
  rw [← hW, ← hB]
  have HB := Lib.hid hBw
  have HR := Lib.hid hrow
  have HT := Lib.hid tW
  clear hW hB hBw hrow tW
  go_loopg [3] 256 (fun g s3 wr => ∃ k : Nat, k + g = 256 ∧ s3 = .int .u32 ((k : Nat) : Int) ∧ Hid (Row wr B 373 (nums .u32 (tabList k))) ∧ Hid (Touch No w wr))
  case atStart => exact ⟨0, rfl, rfl, HR.out, HT.out⟩
  case round =>
    clear HR HT
    obtain ⟨k, hkg, rfl, R, T⟩ := hrel
    cases gk with
    | zero =>
      obtain rfl : k = 256 := by omega
      have hra : wr.rangeAt B 0 tabV := R.out.range (fun j v hj => by rw [Nat.zero_add]; exact hj)
      have HRa := Lib.hid hra
      clear hra
      have hi106 : (Tryz.prog.info? 373).map (·.size) = some 256 := by kernel_rfl
      have htl : Hid (tabV.length = 256) := by show (nums .u32 (tabList 256)).length = 256; rw [nums_length]; exact tabList_length (Nat.le_refl _)
      have hsame : Hid (wr.setRow B (splice tabV 0 tabV).toArray = wr) := by
        show _ = _
        have e : splice tabV 0 tabV = tabV := by
          rw [splice, List.take_zero, List.nil_append, Nat.zero_add, List.drop_of_length_le (Nat.le_refl _), List.append_nil]
        rw [e]
        have hst := run_storeCells_at Tryz.prog B 0 373 [] 0 tabV.toArray wr R.out (by simp) (by simp)
        simp [storeCells] at hst
        exact hst.symm
      go_wp2_with (first
        | (refine wpList_load_range rfl _ _ rfl 256 B 0 tabV HRa.out htl.out rfl _ Tryz.underlying373 rfl hi106 ?_)
        | (refine wpList_store_mid rfl _ _ _ rfl B 0 373 tabV R.out rfl tabV rfl (by rw [htl.out]; exact hi106) ?_ (nums_one _ _) ?_; rotate_left; rw [hsame.out]))
      have hld := run_load_range (P := Tryz.prog) HRa.out htl.out Tryz.underlying373 rfl hi106
      exact bodyPost_ret (v := .agg tabV.toArray) (by
        unfold results
        rw [Tryz.results247]
        simp [asAddr, hld]) rfl ⟨rfl, T.out⟩
    | succ g =>
      have hlt : (k : Int) < 256 := by omega
      go_wp2
      obtain ⟨wo, rfl⟩ : ∃ wo : World, wo = wr := ⟨_, rfl⟩
      go_loopg [2, 7] 8 (fun g' s2 s7 wr' => ∃ i : Nat, i + g' = 8 ∧ s7 = .int .i64 ((i : Nat) : Int) ∧ s2 = .int .u32 ((Rt.halves i k : Nat) : Int) ∧ Hid (wr' = wo))
      case atStart => exact ⟨0, rfl, rfl, rfl, rfl⟩
      case round =>
        obtain ⟨i, hig, rfl, rfl, hwr⟩ := hrel
        have hww : wo = wr := hwr.out.symm
        clear hwr
        subst hww
        cases gk with
        | zero =>
          obtain rfl : i = 8 := by omega
          have hcell : wo.cell? ⟨B, k, none⟩ = some (.int .u32 (((tabList k).getD k 0 : Nat) : Int)) := by
            rw [R.out.cell]; exact nums_get (by rw [tabList_length (by omega)]; omega)
          have hsoft := R.out.soft k
          have hrn := R.out.setCell k (.int .u32 (Rt.tab k : Nat))
          rw [tabList_next (by omega)] at hrn
          have HRn := Lib.hid hrn
          have htab : Hid (Rt.halves 8 k = Rt.tab k) := rfl
          have hj1 : IntKind.u32.wrap ((k : Int) + 1) = ((k + 1 : Nat) : Int) := by rw [IntKind.wrap_u32]; omega
          rw [htab.out]
          clear hrn
          go_wp2
          go_roundg g
          case measure => omega
          case rel => exact ⟨k + 1, by omega, by first | rfl | go_num, HRn.out, T.out.setCell (p := ⟨B, k, none⟩) (fun h => absurd (show B < w.heap.size from h) (Nat.not_lt.2 HB.out)) _⟩
        | succ g' =>
          have hlt' : (i : Int) < 8 := by omega
          have hr32 := Rt.halves_lt i (r := k) (by omega)
          have hnext : Hid (Rt.halves (i + 1) k = Rt.half1 (Rt.halves i k)) := Rt.halves_succ i k
          generalize Rt.halves i k = r at *
          have hm1 : IntKind.u32.wrap (-1) = 4294967295 := by rfl
          have hm2 : bits BinOp.and .u32 3988292384 4294967295 = 3988292384 := by decide
          have hm3 : bits BinOp.and .u32 3988292384 0 = 0 := by decide
          rcases Nat.mod_two_eq_zero_or_one r with h1 | h1
          · obtain ⟨ha, hx⟩ := half_nil hr32 h1
            obtain ⟨q, hq⟩ : ∃ q, Rt.half1 r = q := ⟨_, rfl⟩
            rw [hq] at hnext hx
            clear hq h1
            go_wp2
            go_roundg g'
            case measure => omega
            case rel => exact ⟨i + 1, by omega, by go_num, by rw [hnext.out], rfl⟩
          · obtain ⟨ha, hx⟩ := half_one hr32 h1
            obtain ⟨q, hq⟩ : ∃ q, Rt.half1 r = q := ⟨_, rfl⟩
            rw [hq] at hnext hx
            clear hq h1
            go_wp2
            go_roundg g'
            case measure => omega
            case rel => exact ⟨i + 1, by omega, by go_num, by rw [hnext.out], rfl⟩

theorem xor8 {r c : Nat} (_hr : r < 4294967296) (hc : c < 256) : bits BinOp.xor .u8 ((r : Int) % 256) (c : Int) = ((r % 256 ^^^ c : Nat) : Int) := by
  have := u8_xor_nat (r % 256) c (by omega) hc
  rw [← this]; congr 1
theorem xor32 {a r : Nat} (ha : a < 4294967296) (hr : r < 4294967296) : bits BinOp.xor .u32 (a : Int) ((r : Int) / 256) = ((a ^^^ r / 256 : Nat) : Int) := by
  have := u32_xor_nat a (r / 256) ha (by omega)
  rw [← this]; congr 1
theorem xor_neg {s : Nat} (h : s < 4294967296) : bits BinOp.xor .u32 IntKind.u32.max (s : Int) = ((Rt.neg s : Nat) : Int) := by
  have e : (4294967295 : Nat) ^^^ s = 4294967295 - s := by
    have h1 : (BitVec.allOnes 32 ^^^ BitVec.ofNat 32 s).toNat = (~~~ BitVec.ofNat 32 s).toNat := by rw [BitVec.allOnes_xor]
    rw [BitVec.toNat_xor, BitVec.toNat_not, BitVec.toNat_allOnes, BitVec.toNat_ofNat, Nat.mod_eq_of_lt (by omega)] at h1
    exact h1
  have := u32_xor_nat 4294967295 s (by decide) h
  rw [e] at this
  exact this
theorem tabV_get {i : Nat} (h : i < 256) : tabV[i]? = some (.int .u32 (Rt.tab i : Nat)) := by
  have e : tabList 256 = (List.range 256).map Rt.tab := by rw [tabList]; simp
  rw [tabV, e, nums, List.getElem?_map, List.getElem?_map, List.getElem?_range h]; rfl

set_option maxRecDepth 100000 in
set_option maxHeartbeats 4000000 in
theorem on_any (w : World) (sum : Nat) (hs : sum < 4294967296) (a : Option Addr) (n c : Nat) (b : List Nat) (hb : b.length = n) (hmax : (n : Int) ≤ 9223372036854775807) (hr : Rd w a (nums .u8 b)) (hlt : ∀ x ∈ b, x < 256) :
    Calls Tryz.prog 213 #[.int .u32 (sum : Nat), .slice a n c] w fun e w' => e = .returned (.int .u32 (Rt.on sum b : Nat)) ∧ Touch No w w' := by
  have Hb := Lib.hid hb
  have Hr := Lib.hid hr
  have Hlt := Lib.hid hlt
  have hz1 := zTab_zero
  have hz3 := zTab_size
  have hz5 := zTab_ne
  have hi106 : (Tryz.prog.info? 373).map (·.size) = some 256 := by kernel_rfl
  have htl : Hid (tabV.length = 256) := by show (nums .u32 (tabList 256)).length = 256; rw [nums_length]; exact tabList_length (Nat.le_refl _)
  have hztl : Hid (zTab.toList.length = 256) := by show _ = _; rw [Array.length_toList]; exact zTab_size
  have hneg := xor_neg hs
  obtain ⟨ns, hns⟩ : ∃ ns, ns = Rt.neg sum := ⟨_, rfl⟩
  rw [← hns] at hneg
  have hn32 : ns < 4294967296 := by rw [hns]; exact Rt.neg_lt _
  have Hns := Lib.hid hns
  clear hns
  clear hb hr hlt
  go_enter Tryz.func213, Tryz.ntmps213
  go_wp2_with fail
  refine (table_is w).mono ?_
  rintro e w1 ⟨rfl, t1⟩
  have hrow0 := Row.new w1 373 zTab
  have Hrow0 := Lib.hid hrow0
  have T1 := Lib.hid t1
  clear t1 hrow0
  go_wp2_with (refine wpList_store_mid rfl _ _ _ rfl w1.heap.size 0 373 zTab.toList Hrow0.out rfl tabV rfl (by rw [htl.out]; exact hi106) ?qc (nums_one _ _) ?_)
  case qc => rw [htl.out, hztl.out]; decide
  obtain ⟨B, hB⟩ : ∃ B, B = w1.heap.size := ⟨_, rfl⟩
  obtain ⟨W, hW⟩ : ∃ W, W = (w1.alloc (.cells zTab 373)).setRow w1.heap.size (splice zTab.toList 0 tabV).toArray := ⟨_, rfl⟩
  have hsp : splice zTab.toList 0 tabV = tabV := by
    rw [splice, List.take_zero, List.nil_append, Nat.zero_add, List.drop_of_length_le (by rw [htl.out, hztl.out]; decide), List.append_nil]
  have hrow : Row W B 373 tabV := by
    rw [hW, hB, hsp]; exact (Row.new w1 373 zTab).setRow tabV
  have tW : Touch No w W := by
    rw [hW]
    exact (T1.out.alloc _).setRow (g := w1.heap.size) (fun h => absurd (Nat.lt_of_lt_of_le h T1.out.size) (Nat.lt_irrefl _)) _
  rw [← hW, ← hB]
  have HR := Lib.hid hrow
  have TW := Lib.hid tW
  clear hB hW hsp hrow tW Hrow0
  go_loopg [6, 14] n (fun g s6 s14 wr => ∃ (k : Nat) (r : Nat), k + g = n ∧ s14 = .int .i64 ((k : Nat) : Int) ∧ s6 = .int .u32 ((r : Nat) : Int) ∧ r < 4294967296 ∧ Hid (r = Rt.run ns (b.take k)) ∧ Hid (wr = W))
  case atStart => exact ⟨0, ns, by omega, rfl, rfl, hn32, rfl, rfl⟩
  case round =>
    obtain ⟨k, r, hkg, rfl, rfl, hr32, hr, hwr⟩ := hrel
    have hww : W = wr := hwr.out.symm
    clear hwr
    subst hww
    cases gk with
    | zero =>
      obtain rfl : k = n := by omega
      have hx := xor_neg hr32
      have hfin : Hid (Rt.neg r = Rt.on sum b) := by
        show _ = _
        rw [hr.out, Hns.out, List.take_of_length_le (by rw [Hb.out]; exact Nat.le_refl _)]; rfl
      obtain ⟨q, hq⟩ : ∃ q, Rt.neg r = q := ⟨_, rfl⟩
      rw [hq] at hx hfin
      clear hq
      go_wp2
      go_ret
      exact ⟨by rw [← hfin.out]; rfl, TW.out⟩
    | succ g =>
      have hlt : (k : Int) < (n : Nat) := by omega
      have hkb : k < b.length := by rw [Hb.out]; omega
      obtain ⟨gb, ob, rfl, hcb⟩ := (Hr.out.no TW.out).num hkb
      have hc256 := Hlt.out (b.getD k 0) (by rw [List.getD_eq_getElem?_getD, List.getElem?_eq_getElem hkb]; exact List.getElem_mem hkb)
      have hnext : Hid (Rt.run ns (b.take (k + 1)) = Rt.step r (b.getD k 0)) := by
        show _ = _
        rw [List.take_succ_eq_append_getElem hkb, Rt.run_append, ← hr.out, List.getD_eq_getElem?_getD, List.getElem?_eq_getElem hkb]; rfl
      obtain ⟨x, hx⟩ : ∃ x, b.getD k 0 = x := ⟨_, rfl⟩
      rw [hx] at hcb hc256 hnext
      have h8 := xor8 hr32 hc256
      have hi256 : r % 256 ^^^ x < 256 := Rt.idx_lt hc256
      have hcell : W.cell? ⟨B, r % 256 ^^^ x, none⟩ = some (.int .u32 (Rt.tab (r % 256 ^^^ x) : Nat)) := by rw [HR.out.cell]; exact tabV_get hi256
      have htl32 := Rt.tab_lt hi256
      have h32 := xor32 htl32 hr32
      have hst32 := Rt.step_lt hr32 hc256
      have hstep : Hid (Rt.tab (r % 256 ^^^ x) ^^^ r / 256 = Rt.step r x) := rfl
      clear hx hkb
      obtain ⟨y, hy⟩ : ∃ y, Rt.step r x = y := ⟨_, rfl⟩
      rw [hy] at hnext hst32 hstep
      rw [hstep.out] at h32
      clear hy
      generalize Rt.tab (r % 256 ^^^ x) = tt at *
      generalize r % 256 ^^^ x = i at *
      go_wp2
      go_roundg g
      case measure => omega
      case rel => exact ⟨k + 1, y, by omega, by go_num, rfl, hst32, hnext.out.symm, rfl⟩

/-- Of: the sum of bytes -/
theorem of_any (w : World) (a : Option Addr) (n c : Nat) (b : List Nat) (hb : b.length = n) (hmax : (n : Int) ≤ 9223372036854775807) (hr : Rd w a (nums .u8 b)) (hlt : ∀ x ∈ b, x < 256) :
    Calls Tryz.prog 214 #[.slice a n c] w fun e w' => e = .returned (.int .u32 (Rt.of b : Nat)) ∧ Touch No w w' := by
  have Hc := Lib.hid (on_any w 0 (by decide) a n c b hb hmax hr hlt)
  have hv : Hid (Rt.on 0 b = Rt.of b) := rfl
  clear hb hr hlt
  go_enter Tryz.func214, Tryz.ntmps214
  go_wp2_with fail
  refine Hc.out.mono ?_
  rintro e w2 ⟨rfl, t2⟩
  have T2 := Lib.hid t2
  clear t2
  go_wp2
  go_ret
  exact ⟨rfl, T2.out⟩
end Go.Proofs.YtnffigfafalocaaGreatDoor
namespace Go.Proofs.YtnffigfafalocaaGreatDoor
open Go Go.RowKit
set_option linter.unusedSimpArgs false

section
variable {P : Program} {w : World}
/-- 'append(b, "..."...)' where there is room -/
theorem run_append_str (base : Nat) (t u ty e : TypeId) (i : TypeInfo) (ht : P.underlying t = some (.slice e)) (hu : P.underlying u = some .string) (hi : P.info? e = some i) (hsize : i.size = 1)
    (g cap : Nat) (vs : List Value) (hown : Own w base e (.slice (some ⟨g, 0, none⟩) vs.length cap) vs) (s : ByteArray) (us : List Nat) (hs : (s.data.map fun b => Value.int .u8 b.toNat).toList = nums .u8 us) (hroom : vs.length + us.length ≤ cap) :
    ∃ w', (Builtin.append_ #[t, u] ty #[.slice (some ⟨g, 0, none⟩) vs.length cap, .string s]).run P w = .ok (.slice (some ⟨g, 0, none⟩) (vs.length + us.length) cap) w' ∧ Own w' base e (.slice (some ⟨g, 0, none⟩) (vs.length + us.length) cap) (vs ++ nums .u8 us) ∧ Touch (One g) w w' := by
  have hsz : s.size = us.length := by
    have := congrArg List.length hs
    rw [nums_length] at this
    simpa using this
  rcases hown.2 with ⟨h0, _⟩ | ⟨g', cap', cur, h0, hbg, hg, hnc, hcm, hcs, htake⟩
  · cases h0
  · cases h0
    have hfit : vs.length * 1 + (nums .u8 us).length ≤ cur.size := by rw [hcs, nums_length]; omega
    have hst := run_storeCells_at P g (vs.length * 1) e (nums .u8 us) 0 cur w hg (by simpa using hfit) (nums_one _ _)
    simp only [Nat.add_zero] at hst
    refine ⟨w.setRow g (cur.toList.take (vs.length * 1) ++ nums .u8 us ++ cur.toList.drop (vs.length * 1 + (nums .u8 us).length)).toArray, ?_, ?_, ?_⟩
    · have hadd : (⟨g, 0, none⟩ : Addr).add (vs.length * 1) = ⟨g, vs.length * 1, none⟩ := by unfold Addr.add; split <;> simp_all
      have hext : s.extract 0 us.length = s := by rw [← hsz]; simp
      have hf : (Builtin.firstCells 1 us.length (.string s)).run P w = .ok (s.data.map fun b => Value.int .u8 b.toNat) w := by
        show Sem.run P (pure (Array.map _ (s.extract 0 us.length).data)) w = _
        rw [hext]; rfl
      have hroom' : vs.length + us.length ≤ cap := hroom
      simp [Builtin.append_, run_underlying ht, run_underlying hu, sizeOf, typeInfo, hi, hsize, Builtin.lenOf, hsz, hroom', hf]
      rw [Nat.mul_one] at hadd hst
      have hs' : List.map (fun b => Value.int .u8 (b.toNat : Int)) s.data.toList = nums .u8 us := by simpa using hs
      rw [hadd, hs', hst]
      simp
    · refine ⟨by simp [nums_length], .inr ⟨g, cap, _, by simp [nums_length], hbg, setRow_heap w g cur _ e _ hg, by simpa [nums_length] using hroom, hcm, ?_, ?_⟩⟩
      · simp only [List.size_toArray, List.length_append, List.length_take, List.length_drop, Array.length_toList]
        omega
      · simp only [Nat.mul_one] at htake ⊢
        rw [htake]
        exact List.take_left
    · exact ⟨rfl, rfl, rfl, by simp [World.setRow], fun k _ hk => setRow_other w g k _ (fun e => hk (by simp [One, e]))⟩
theorem wpList_append_str {ops : Array Oper} {rest : List Oper} {o : Oper} {a : Act} {Q : Exit → Act → World → Prop} (hgd : o.guard = none) (s x : Operand) (t u : TypeId) (ho : o.op = .call { callee := .builtin .append, args := #[s, x], argTypes := #[t, u] })
    (base : Nat) (e : TypeId) (i : TypeInfo) (ht : P.underlying t = some (.slice e)) (hu : P.underlying u = some .string) (hi : P.info? e = some i) (hsize : i.size = 1)
    (g cap : Nat) (vs : List Value) (hown : Own w base e (.slice (some ⟨g, 0, none⟩) vs.length cap) vs) (hs : a.eval s = .slice (some ⟨g, 0, none⟩) vs.length cap) (str : ByteArray) (hx : a.eval x = .string str) (us : List Nat) (hst : (str.data.map fun b => Value.int .u8 b.toNat).toList = nums .u8 us) (hroom : vs.length + us.length ≤ cap)
    (h : ∀ w', Own w' base e (.slice (some ⟨g, 0, none⟩) (vs.length + us.length) cap) (vs ++ nums .u8 us) → Touch (One g) w w' → wpList P ops Q rest (a.put o.dst (.slice (some ⟨g, 0, none⟩) (vs.length + us.length) cap)) w') : wpList P ops Q (o :: rest) a w :=
  wpList_plain hgd fun _ hK => by
    obtain ⟨w', h1, h2, h3⟩ := run_append_str base t u o.type e i ht hu hi hsize g cap vs hown str us hst hroom
    unfold Oper.wp execOp
    simp only [ho, resolve, invoke, builtin, Sem.run_bind, Sem.run_pure, Result.andThen_ok, List.map_toArray, List.map_cons, List.map_nil, hs, hx, h1]
    exact hK _ _ (h w' h2 h3)
end

def zs64 : Array Value := (List.replicate 64 (Value.int .u8 0)).toArray
def rootN (r : Rt.Root) (k : Nat) : List Nat := ([r.epoch, r.first, r.bytes].take k).flatMap Rt.four

set_option maxRecDepth 100000 in
set_option maxHeartbeats 4000000 in
theorem rootPut_any (w : World) (r : Rt.Root) (hr : r.Ok) :
    Calls Tryz.prog 148 #[.agg #[.int .u32 (r.epoch : Nat), .int .u32 (r.first : Nat), .int .u32 (r.bytes : Nat)]] w (PutPost w (Rt.put r) 64) := by
  obtain ⟨I, hi0, hi1, hi2, hi3⟩ := u8_info
  obtain ⟨xe, xf, xb⟩ := r
  have h1 : xe < 4294967296 := hr.epoch
  have h2 : xf < 4294967296 := hr.first
  have h3 : xb < 4294967296 := hr.bytes
  have hmk : ∀ wx : World, (Instr.makeSlice 39 (.int .i64 0) (.int .i64 64)).run Tryz.prog wx = .ok (.slice (some ⟨wx.heap.size, 0, none⟩) 0 64) (wx.alloc (.cells zs64 5)) := fun wx => by
    have := run_make (P := Tryz.prog) wx 39 5 I (.int .u8 0) Tryz.underlying39 hi0 hi1 .i64 .i64 0 64 (by omega) (by omega) (by rw [hi3]; omega) (by omega)
    rw [this, hi2]
    show Result.ok _ (wx.alloc (.cells (madeCells #[Value.int .u8 0] 64) _)) = _
    rw [made_zeros]; rfl
  have Hi := Lib.hid (And.intro hi0 (And.intro hi1 (And.intro hi2 hi3)))
  have i0 : ∀ wx : World, (Instr.index 340 (.agg #[.int .u32 (xe : Nat), .int .u32 (xf : Nat), .int .u32 (xb : Nat)]) (.int .i64 0)).run Tryz.prog wx = .ok (.int .u32 (xe : Nat)) wx := fun wx => by kernel_rfl
  have i1 : ∀ wx : World, (Instr.index 340 (.agg #[.int .u32 (xe : Nat), .int .u32 (xf : Nat), .int .u32 (xb : Nat)]) (.int .i64 1)).run Tryz.prog wx = .ok (.int .u32 (xf : Nat)) wx := fun wx => by kernel_rfl
  have i2 : ∀ wx : World, (Instr.index 340 (.agg #[.int .u32 (xe : Nat), .int .u32 (xf : Nat), .int .u32 (xb : Nat)]) (.int .i64 2)).run Tryz.prog wx = .ok (.int .u32 (xb : Nat)) wx := fun wx => by kernel_rfl
  have hown0 : Hid (∀ o : Obj, Own ((w.alloc o).alloc (.cells zs64 5)) (w.heap.size + 1) 5 (.slice (some ⟨w.heap.size + 1, 0, none⟩) 0 64) []) := fun o => by
    have := World.ownsRow_made (base := (w.alloc o).heap.size) (e := 5) (size := 1) (w.alloc o) zs64 64 (Nat.le_refl _) (by unfold maxLen; decide) (by simp [zs64])
    rw [size_alloc] at this
    exact this
  have hcells : Hid (∀ w2, Touch (One (w.heap.size + 1)) ((w.alloc (.cells #[.int .u32 (xe : Nat), .int .u32 (xf : Nat), .int .u32 (xb : Nat)] 116)).alloc (.cells zs64 5)) w2 → w2.cell? ⟨w.heap.size, 0, none⟩ = some (.int .u32 (xe : Nat)) ∧ w2.cell? ⟨w.heap.size, 1, none⟩ = some (.int .u32 (xf : Nat)) ∧ w2.cell? ⟨w.heap.size, 2, none⟩ = some (.int .u32 (xb : Nat))) := fun w2 t => by
    have hne : ¬ One (w.heap.size + 1) w.heap.size := by unfold One; omega
    have c : ∀ j, ((w.alloc (.cells #[.int .u32 (xe : Nat), .int .u32 (xf : Nat), .int .u32 (xb : Nat)] 116)).alloc (.cells zs64 5)).cell? ⟨w.heap.size, j, none⟩ = (#[Value.int .u32 (xe : Nat), .int .u32 (xf : Nat), .int .u32 (xb : Nat)])[j]? := fun j => by
      rw [cell_old _ _ (by simp), cell_new]
    exact ⟨t.cell hne ((c 0).trans rfl), t.cell hne ((c 1).trans rfl), t.cell hne ((c 2).trans rfl)⟩
  have hmark : Hid (((⟨#[82, 79, 79, 84]⟩ : ByteArray).data.map fun b => Value.int .u8 b.toNat).toList = nums .u8 Rt.mark) := by show _ = _; kernel_rfl
  clear hr hi0 hi1 hi2 hi3
  go_enter Tryz.func148, Tryz.ntmps148
  go_wp2_with (refine wpList_append_str rfl _ _ _ _ rfl _ 5 I Tryz.underlying39 Tryz.underlying9 Hi.out.1 Hi.out.2.2.1 _ 64 [] (hown0.out _) rfl ⟨#[82, 79, 79, 84]⟩ rfl Rt.mark hmark.out (by decide) ?_; intro w2 own2 t2; have O2 := Lib.hid own2; have T2 := Lib.hid t2; have q0 := (hcells.out w2 t2).1; have q1 := (hcells.out w2 t2).2.1; have q2 := (hcells.out w2 t2).2.2; clear own2 t2)
  obtain ⟨B, hB⟩ : ∃ B, B = w.heap.size := ⟨_, rfl⟩
  have tb : Touch No w w2 := by
    exact ((Touch.refl No w).alloc _).alloc _ |>.then T2.out (fun i hi e => by
      have e' : i = w.heap.size + 1 := e
      omega)
  have own2 : Own w2 w.heap.size 5 (.slice (some ⟨w.heap.size + 1, 0, none⟩) 4 64) (nums .u8 (Rt.mark ++ rootN ⟨xe, xf, xb⟩ 0)) := by
    exact O2.out.mono (base' := w.heap.size) (Nat.le_succ _)
  have HO2 := Lib.hid own2
  have HTb := Lib.hid tb
  clear own2 tb O2 T2 hB hmk hown0 q0 q1 q2
  go_loopg [3, 16] 3 (fun g s3 s16 wr => ∃ (k : Nat) (a' : Option Addr) (N c' : Nat), k + g = 3 ∧ s16 = .int .i64 ((k : Nat) : Int) ∧ s3 = .slice a' N c' ∧ N = 4 + 4 * k ∧ Hid (Own wr w.heap.size 5 (.slice a' N c') (nums .u8 (Rt.mark ++ rootN ⟨xe, xf, xb⟩ k))) ∧ Hid (Touch No w wr))
  case atStart => exact ⟨0, _, 4, 64, rfl, rfl, rfl, rfl, HO2.out, HTb.out⟩
  case round =>
    clear HO2 HTb
    obtain ⟨k, a', N, c', hkg, rfl, rfl, hN, O, T⟩ := hrel
    have hlen : Hid ((Rt.mark ++ rootN ⟨xe, xf, xb⟩ k).length = N) := by
      show _ = _
      have hk : k = 0 ∨ k = 1 ∨ k = 2 ∨ k = 3 := by omega
      rcases hk with rfl | rfl | rfl | rfl <;> rw [hN] <;> rfl
    cases gk with
    | zero =>
      obtain rfl : k = 3 := by omega
      have hN16 : N = 16 := by omega
      subst hN16
      have hhd : Hid (Rt.mark ++ rootN ⟨xe, xf, xb⟩ 3 = Rt.head ⟨xe, xf, xb⟩) := by
        show _ = _
        simp [rootN, Rt.head]
      have hO := O.out
      rw [hhd.out] at hO
      have HO := Lib.hid hO
      clear hO
      have hzl : Hid ((nums .u8 (Rt.head ⟨xe, xf, xb⟩ ++ Rt.four (Rt.of (Rt.head ⟨xe, xf, xb⟩)))).length = 20) := by show _ = _; rw [nums_length]; rfl
      go_wp2_with fail
      refine (of_any wr a' 16 c' _ (Rt.head_length _) (by decide) HO.out.rd (Rt.head_lt _)).mono ?_
      rintro e w3 ⟨rfl, t3⟩
      have T3 := Lib.hid t3
      clear t3
      go_wp2_with fail
      refine (putFour_any w3 a' 16 c' _ (Rt.head_length _) (HO.out.rd.no T3.out) (Rt.of (Rt.head ⟨xe, xf, xb⟩)) Rt.of_lt (by decide) 20 rfl).mono ?_
      rintro e w4 ⟨a4, c4, rfl, o4, t4⟩
      have T4 := Lib.hid ((T.out.trans T3.out).trans t4)
      have O4 := Lib.hid (o4.mono (base' := w.heap.size) (T.out.trans T3.out).size)
      clear o4 t4
      go_wp2_with (refine wpList_append_zeros rfl _ _ _ _ rfl w.heap.size 5 I (.int .u8 0) (.int .u8 0) 1 Tryz.underlying39 Tryz.underlying3 Hi.out.1 Hi.out.2.1 Hi.out.2.2.1 Hi.out.2.2.2 rfl rfl _ _ O4.out rfl 44 rfl (by rw [hzl.out]; unfold maxLen; decide) (by rw [hzl.out]; decide) T4.out.size ?_; intro v5 w5 own5 t5; have O5 := Lib.hid own5; have T5 := Lib.hid t5; clear own5 t5)
      go_ret
      have hput : nums .u8 (Rt.head ⟨xe, xf, xb⟩ ++ Rt.four (Rt.of (Rt.head ⟨xe, xf, xb⟩))) ++ List.replicate 44 (Value.int .u8 0) = nums .u8 (Rt.put ⟨xe, xf, xb⟩) := by
        rw [Rt.put, nums_append _ _ (List.replicate 44 0)]; rfl
      have hO5 := O5.out
      rw [hput] at hO5
      obtain ⟨a5, c5, rfl, _⟩ := hO5.form' (n := 64) (by rw [nums_length]; rfl)
      exact ⟨a5, c5, rfl, hO5, T4.out.then T5.out (fun i hi e => by have := (O4.out.block e).1; omega)⟩
    | succ g =>
      have hk : k = 0 ∨ k = 1 ∨ k = 2 := by omega
      have hNk : N ≤ 12 := by omega
      have Hn := Lib.hid hN
      clear hN
      rcases hk with rfl | rfl | rfl
      · go_wp2_with fail
        refine (putFour_any wr a' N c' _ hlen.out O.out.rd xe h1 (by omega) (N + 4) rfl).mono ?_
        rintro e w3 ⟨a3, c3, rfl, o3, t3⟩
        have O3 := Lib.hid (o3.mono (base' := w.heap.size) T.out.size)
        have T3 := Lib.hid (T.out.trans t3)
        have hnx : Hid (N + 4 = 4 + 4 * (0 + 1)) := by show _ = _; rw [Hn.out]
        clear o3 t3
        go_wp2
        go_roundg g
        case measure => omega
        case rel => exact ⟨0 + 1, a3, N + 4, c3, by omega, by go_num, rfl, hnx.out, O3.out, T3.out⟩
      · go_wp2_with fail
        refine (putFour_any wr a' N c' _ hlen.out O.out.rd xf h2 (by omega) (N + 4) rfl).mono ?_
        rintro e w3 ⟨a3, c3, rfl, o3, t3⟩
        have O3 := Lib.hid (o3.mono (base' := w.heap.size) T.out.size)
        have T3 := Lib.hid (T.out.trans t3)
        have hnx : Hid (N + 4 = 4 + 4 * (1 + 1)) := by show _ = _; rw [Hn.out]
        clear o3 t3
        go_wp2
        go_roundg g
        case measure => omega
        case rel => exact ⟨1 + 1, a3, N + 4, c3, by omega, by go_num, rfl, hnx.out, O3.out, T3.out⟩
      · go_wp2_with fail
        refine (putFour_any wr a' N c' _ hlen.out O.out.rd xb h3 (by omega) (N + 4) rfl).mono ?_
        rintro e w3 ⟨a3, c3, rfl, o3, t3⟩
        have O3 := Lib.hid (o3.mono (base' := w.heap.size) T.out.size)
        have T3 := Lib.hid (T.out.trans t3)
        have hnx : Hid (N + 4 = 4 + 4 * (2 + 1)) := by show _ = _; rw [Hn.out]
        clear o3 t3
        go_wp2
        go_roundg g
        case measure => omega
        case rel => exact ⟨2 + 1, a3, N + 4, c3, by omega, by go_num, rfl, hnx.out, O3.out, T3.out⟩
end Go.Proofs.YtnffigfafalocaaGreatDoor
