/-
  Package drydocklaw01 by its own text: a book's lists of bytes, grown.
  Package drydocklaw01 by its own text: a book's lists of bytes, looked at.
  Package drydocklaw01 by its own text: a book's lists of numbers, filled with marks.
  The plain mathematics of lists of numbers as bytes (chapter 1). No program in sight.
  Package nums by its own text: as (both), and what a list that is filled from its first one on holds.
  Package drydocklaw01 by its own text: a book's lists of numbers, grown.
  Package drydocklaw01 by its own text: a book's lists of numbers, looked at.
  Package drydocklaw01 by its own text: a book's lists of ids, filled with marks.
  Package drydocklaw01 by its own text: a book's lists of ids, grown.
  Package drydocklaw01 by its own text: a book's lists of ids, looked at.
  Package drydocklaw01 by its own text: a book's lists of which there are none.
  Package drydocklaw01 by its own text: Book.Apart.
  What the laws with a book share: parts read, parts told to the book, the end.
  Package disks by its own text: Read, what is read as a part; a disk as a part beside others; what a book's laws make of both disks.
  Package sums by its own text: table, On, Of.
-/
import Derived.Test.YtpmkegbgbldpnaaGreatDoorK06
import Derived.Test.YtpmkegbgbldpnaaGreatDoorK07
import Derived.Test.YtpmkegbgbldpnaaGreatDoorK04
import Derived.StillTailTactics
import Derived.Test.YtpmkegbgbldpnaaGreatDoorK02
import Derived.Test.YtpmkegbgbldpnaaGreatDoorK05
namespace Go.Proofs.YtpmkegbgbldpnaaGreatDoor
open Go Go.RowKit
set_option linter.unusedSimpArgs false
set_option linter.unusedVariables false

end Go.Proofs.YtpmkegbgbldpnaaGreatDoor
namespace Go.Proofs.YtpmkegbgbldpnaaGreatDoor
open Go Go.RowKit
set_option linter.unusedSimpArgs false
set_option linter.unusedVariables false

end Go.Proofs.YtpmkegbgbldpnaaGreatDoor
namespace Go.Proofs.YtpmkegbgbldpnaaGreatDoor
open Go Go.RowKit
set_option linter.unusedSimpArgs false

end Go.Proofs.YtpmkegbgbldpnaaGreatDoor
namespace Go.Proofs.YtpmkegbgbldpnaaGreatDoor
open Go Go.RowKit
namespace Nm

/-- a number of either sign as one without, and back -/
def u (z : Int) : Nat := (z % 4294967296).toNat
def i (n : Nat) : Int := if n < 2147483648 then (n : Int) else (n : Int) - 4294967296
/-- a list's bytes -/
def put (l : List Int) : List Nat := Rt.four (l.length % 4294967296) ++ (l.map u).flatMap Rt.four
def many (b : List Nat) : Nat := Rt.unfour b
def err (b : List Nat) : Nat := if b.length < 4 then 5 else if 4096 < many b then 3 else if b.length < 4 + 4 * many b then 5 else 0
def nth (b : List Nat) (k : Nat) : Int := i (Rt.unfour (b.drop (4 + 4 * k)))
def get (b : List Nat) : List Int := if err b = 0 then (List.range (many b)).map (nth b) else []
theorem flat_length (q : List Nat) : (q.flatMap Rt.four).length = 4 * q.length := by
  induction q with
  | nil => rfl
  | cons y q ih => rw [List.flatMap_cons, List.length_append, ih, Rt.four_length, List.length_cons]; omega
theorem flat_lt (q : List Nat) : ∀ x ∈ q.flatMap Rt.four, x < 256 := by
  intro x hx
  obtain ⟨y, _, hy⟩ := List.mem_flatMap.1 hx
  exact Rt.four_lt y x hy
theorem put_length (l : List Int) : (put l).length = 4 + 4 * l.length := by
  rw [put, List.length_append, Rt.four_length, flat_length, List.length_map]
theorem put_lt (l : List Int) : ∀ x ∈ put l, x < 256 := by
  intro x hx
  rcases List.mem_append.1 hx with h | h
  · exact Rt.four_lt _ x h
  · exact flat_lt _ x h
theorem unfour_app {n : Nat} (h : n < 4294967296) (x : List Nat) : Rt.unfour (Rt.four n ++ x) = n := by
  simp [Rt.unfour, Rt.four]; omega
end Nm
end Go.Proofs.YtpmkegbgbldpnaaGreatDoor
namespace Go.Proofs.YtpmkegbgbldpnaaGreatDoor
open Go Go.RowKit
set_option linter.unusedSimpArgs false

theorem own_of_row {w : World} {B base : Nat} {T : TypeId} {vs : List Value} (h : Row w B T vs) (hb : base ≤ B) {n : Nat} (hn : vs.length = n) (hl : n ≤ maxLen) : Own w base T (.slice (some ⟨B, 0, none⟩) n n) vs := by
  subst hn
  exact ⟨by omega, .inr ⟨B, vs.length, vs.toArray, rfl, hb, h, Nat.le_refl _, hl, by simp, by simp⟩⟩
theorem Own.head {w : World} {base : Nat} {T : TypeId} {a : Option Addr} {n c : Nat} {vs : List Value} (h : Own w base T (.slice a n c) vs) {k : Nat} (hk : k ≤ n) : Own w base T (.slice a k c) (vs.take k) := by
  obtain ⟨a', c', e, _⟩ := h.form
  have hn : vs.length = n := by cases e; rfl
  have hkl : (vs.take k).length = k := by rw [List.length_take]; omega
  obtain ⟨hl, h⟩ := h
  refine ⟨by omega, ?_⟩
  rcases h with ⟨h1, h0⟩ | ⟨g, cap, cur, hv, hg, hh, h1, h2, h3, h4⟩
  · left
    simp only [Value.slice.injEq] at h1
    obtain ⟨rfl, h2, rfl⟩ := h1
    have : k = 0 := by omega
    subst this
    exact ⟨rfl, by simp⟩
  · right
    simp only [Value.slice.injEq] at hv
    obtain ⟨rfl, h5, rfl⟩ := hv
    refine ⟨g, c, cur, by rw [hkl], hg, hh, by omega, h2, h3, ?_⟩
    rw [hkl, Nat.mul_one]
    rw [Nat.mul_one] at h4
    rw [← h4, List.take_take, Nat.min_eq_left (by omega)]
theorem Own.room {w : World} {base : Nat} {T : TypeId} {a : Option Addr} {n c : Nat} {vs : List Value} (h : Own w base T (.slice a n c) vs) : n ≤ c ∧ (c : Int) ≤ 9223372036854775807 ∧ vs.length = n := by
  obtain ⟨a', c', e, h1, _⟩ := h.form
  have hn : vs.length = n := by cases e; rfl
  have hc : vs.length ≤ c := by cases e; exact h1
  refine ⟨by omega, ?_, hn⟩
  rcases h.2 with ⟨h1, _⟩ | ⟨g, cap, cur, hv, _, _, _, h2, _⟩
  · cases h1; decide
  · cases hv; unfold maxLen at h2; omega
theorem made_fill (v : Value) (n : Nat) : madeCells #[v] n = (List.replicate n v).toArray := by
  apply Array.ext'
  refine List.ext_getElem? (fun j => ?_)
  unfold madeCells
  by_cases hj : j < n
  · simp [hj, List.getElem?_replicate, Nat.mod_one]
  · simp [hj, List.getElem?_replicate]

theorem u32_info : ∃ i, Tryz.prog.info? 24 = some i ∧ i.zero = some (.int .u32 0) ∧ i.size = 1 ∧ i.bytes = 4 := one_info (by kernel_rfl)
theorem ints_get {k : IntKind} {zs : List Int} {i : Nat} (h : i < zs.length) : (ints k zs)[i]? = some (.int k (zs.getD i 0)) := by
  simp [ints, List.getElem?_map, List.getElem?_eq_getElem h, List.getD_eq_getElem?_getD]
theorem Rd.int {w : World} {k : IntKind} {a : Option Addr} {zs : List Int} (h : Rd w a (ints k zs)) {i : Nat} (hi : i < zs.length) :
    ∃ b o, a = some ⟨b, o, none⟩ ∧ w.cell? ⟨b, o + i, none⟩ = some (.int k (zs.getD i 0)) := h i _ (ints_get hi)
/-- a slice of pieces, each of four bytes, at g from o on -/
def pieces (g o m : Nat) : List Value := (List.range m).map fun k => .slice (some ⟨g, o + 4 * k, none⟩) 4 4
end Go.Proofs.YtpmkegbgbldpnaaGreatDoor
namespace Go.Proofs.YtpmkegbgbldpnaaGreatDoor
open Go Go.RowKit
set_option linter.unusedSimpArgs false
set_option linter.unusedVariables false

end Go.Proofs.YtpmkegbgbldpnaaGreatDoor
namespace Go.Proofs.YtpmkegbgbldpnaaGreatDoor
open Go Go.RowKit
set_option linter.unusedSimpArgs false
set_option linter.unusedVariables false

end Go.Proofs.YtpmkegbgbldpnaaGreatDoor
namespace Go.Proofs.YtpmkegbgbldpnaaGreatDoor
open Go Go.RowKit
set_option linter.unusedSimpArgs false

end Go.Proofs.YtpmkegbgbldpnaaGreatDoor
namespace Go.Proofs.YtpmkegbgbldpnaaGreatDoor
open Go Go.RowKit
set_option linter.unusedSimpArgs false
set_option linter.unusedVariables false

end Go.Proofs.YtpmkegbgbldpnaaGreatDoor
namespace Go.Proofs.YtpmkegbgbldpnaaGreatDoor
open Go Go.RowKit
set_option linter.unusedSimpArgs false
set_option linter.unusedVariables false

end Go.Proofs.YtpmkegbgbldpnaaGreatDoor
namespace Go.Proofs.YtpmkegbgbldpnaaGreatDoor
open Go Go.RowKit
set_option linter.unusedSimpArgs false
end Go.Proofs.YtpmkegbgbldpnaaGreatDoor
namespace Go.Proofs.YtpmkegbgbldpnaaGreatDoor
open Go Go.RowKit
set_option linter.unusedSimpArgs false
set_option linter.unusedVariables false

section
variable {α : Type} (r b n d : α) (X Y Z : List α)
end
end Go.Proofs.YtpmkegbgbldpnaaGreatDoor
namespace Go.Proofs.YtpmkegbgbldpnaaGreatDoor
open Go Go.RowKit
set_option linter.unusedVariables false

theorem born_own {w w' : World} {T : TypeId} {a : Option Addr} {n c : Nat} {vs : List Value} (t : Touch No w w') (h : Own w' w.heap.size T (.slice a n c) vs) : Born w (Part.sl T a n c vs) w' := by
  obtain ⟨a', c', e, hc, _⟩ := h.form
  cases e
  exact born_sl t (Nat.le_refl _) h hc (Nat.le_refl _)
end Go.Proofs.YtpmkegbgbldpnaaGreatDoor
namespace Go.Proofs.YtpmkegbgbldpnaaGreatDoor
open Go Go.RowKit
set_option linter.unusedSimpArgs false
set_option linter.unusedVariables false

/-- the program's disk, as a part -/
def Part.disk (d : Nat) (D : Dk.Disk) : Part where
  P w O := DiskAt w d D O ∧ ∀ k, O k → k < w.heap.size
  stable := fun {F w w' O} ⟨h1, h2⟩ t hF => ⟨h1.touch t (fun k _ hk => hF k hk), fun k hk => Nat.lt_of_lt_of_le (h2 k hk) t.size⟩
  lt := fun {w O} h => h.2
theorem born_disk {w w' : World} {d : Nat} {D : Dk.Disk} (h : Made w d D w') : Born w (Part.disk d D) w' := by
  obtain ⟨t, O, hO⟩ := h
  exact ⟨t, O, ⟨hO.on, hO.lt⟩, hO.ge⟩
theorem al_disk {w : World} {d : Nat} {D : Dk.Disk} {A : Nat → Prop} (h : Al w [Part.disk d D] A) : ∃ O, Dsk w d D 0 O ∧ ∀ k, O k → A k := by
  obtain ⟨O, _, ⟨h, hl⟩, _, _, h1, _⟩ := h
  exact ⟨O, ⟨h, hl, fun _ _ => Nat.zero_le _⟩, h1⟩
theorem disk_turn {w w' : World} {d : Nat} {D' : Dk.Disk} {O A : Nat → Prop} (hA : ∀ k, O k → A k) (h : After w d D' 0 O w') : TurnsL w A [Part.disk d D'] w' := by
  obtain ⟨t, O', hO, hin⟩ := h
  exact ⟨t.mono (fun k _ hk => hA k hk), O', ⟨O', fun _ => False, ⟨hO.on, hO.lt⟩, trivial, fun _ _ f => f, fun _ h => h, fun _ f => f.elim⟩, fun k hk => (hin k hk).imp (hA k) id⟩
section
variable {w : World} {d : Nat} {D : Dk.Disk} {A : Nat → Prop}
theorem diskWrite_al (h : Al w [Part.disk d D] A) (n : Int) (a : Option Addr) (l c : Nat) (b : List Nat) (hl : b.length = l) (hlt : ∀ x ∈ b, x < 256) (hr : Rd w a (nums .u8 b)) (hw : D.waits.length ≤ 1000000) :
    Calls Tryz.prog 12 #[.pointer (some ⟨d, 0, none⟩), .int .i64 n, .slice a l c] w fun e w' => e = .returned (.int .i64 (Dk.writeR D n b : Nat)) ∧ TurnsL w A [Part.disk d (Dk.writeA D n b)] w' := by
  obtain ⟨O, hO, hA⟩ := al_disk h
  by_cases hc : (0 ≤ n ∧ n < D.seen.length) ∧ b.length ≤ 64
  · rw [Dk.writeR, Dk.writeA, if_pos hc, if_pos hc]
    obtain ⟨m, rfl⟩ : ∃ m : Nat, n = (m : Nat) := ⟨n.toNat, by omega⟩
    exact (write_k w d D 0 O m a l c b (Nat.zero_le _) hO (by omega) hl (by omega) hlt hr hw).mono fun _ _ ⟨he, t⟩ => ⟨he, disk_turn hA t⟩
  · rw [Dk.writeR, Dk.writeA, if_neg hc, if_neg hc]
    exact (write_bad w d D O n a l c hO.on (by
      by_cases h1 : 0 ≤ n ∧ n < D.seen.length
      · exact Or.inr (by
          rcases Nat.lt_or_ge 64 l with h2 | h2
          · exact h2
          · exact absurd ⟨h1, by omega⟩ hc)
      · exact Or.inl h1)).mono fun _ _ ⟨he, e⟩ => ⟨he, e ▸ TurnsL.same h⟩
theorem diskSync_al (h : Al w [Part.disk d D] A) :
    Calls Tryz.prog 172 #[.pointer (some ⟨d, 0, none⟩)] w fun e w' => e = .returned (.int .i64 0) ∧ TurnsL w A [Part.disk d (Dk.sync D)] w' := by
  obtain ⟨O, hO, hA⟩ := al_disk h
  exact (sync_k w d D 0 O (Nat.zero_le _) hO).mono fun _ _ ⟨he, t⟩ => ⟨he, disk_turn hA t⟩
end
end Go.Proofs.YtpmkegbgbldpnaaGreatDoor
namespace Go.Proofs.YtpmkegbgbldpnaaGreatDoor
open Go Go.RowKit
set_option linter.unusedSimpArgs false

def zTab : Array Value := (List.replicate 256 (Value.int .u32 0)).toArray
theorem zTab_zero (w : World) : (zeroValue 385).run Tryz.prog w = .ok (.agg zTab) w := by kernel_rfl
theorem zTab_size : zTab.size = 256 := by kernel_rfl
theorem zTab_ne : zTab ≠ #[] := fun h => by have := zTab_size; rw [h] at this; cases this
/-- the table, as far as it is made -/
def tabList (k : Nat) : List Nat := (List.range k).map Rt.tab ++ List.replicate (256 - k) 0
theorem tabList_length {k : Nat} (h : k ≤ 256) : (tabList k).length = 256 := by simp [tabList]; omega
theorem tabList_next {k : Nat} (h : k < 256) : (nums .u32 (tabList k)).set k (.int .u32 (Rt.tab k : Nat)) = nums .u32 (tabList (k + 1)) := by
  rw [nums, nums, ← List.map_set (f := fun (x : Nat) => Value.int .u32 (x : Int)) (a := Rt.tab k)]
  congr 1
  rw [tabList, tabList, List.set_append_right _ _ (by simp), List.range_succ, List.map_append, List.append_assoc]
  congr 1
  simp only [List.length_map, List.length_range, Nat.sub_self]
  rw [show 256 - k = (256 - (k + 1)) + 1 by omega, List.replicate_succ]
  rfl
theorem half_one {r : Nat} (h : r < 4294967296) (h1 : r % 2 = 1) : bits BinOp.and .u32 (r : Int) 1 = 1 ∧ bits BinOp.xor .u32 ((r : Int) / 2) 3988292384 = (Rt.half1 r : Nat) := by
  constructor
  · have := u32_and_nat r 1 h (by decide)
    rw [nat_mask1, h1] at this
    exact this
  · have := u32_xor_nat (r / 2) 3988292384 (by omega) (by decide)
    rw [Rt.half1, if_pos h1, ← this]
    congr 1
theorem half_nil {r : Nat} (h : r < 4294967296) (h1 : r % 2 = 0) : bits BinOp.and .u32 (r : Int) 1 = 0 ∧ bits BinOp.xor .u32 ((r : Int) / 2) 0 = (Rt.half1 r : Nat) := by
  constructor
  · have := u32_and_nat r 1 h (by decide)
    rw [nat_mask1, h1] at this
    exact this
  · have := u32_xor_nat (r / 2) 0 (by omega) (by decide)
    rw [Nat.xor_zero] at this
    rw [Rt.half1, if_neg (by omega), ← this]
    congr 1

def tabV : List Value := nums .u32 (tabList 256)
set_option maxRecDepth 100000 in
set_option maxHeartbeats 4000000 in
theorem table_is (w : World) : Calls Tryz.prog 259 #[] w fun e w' => e = .returned (.agg tabV.toArray) ∧ Touch No w w' := by
  have hz1 := zTab_zero
  have hz3 := zTab_size
  have hz5 := zTab_ne
  go_enter Tryz.func259, Tryz.ntmps259
  go_wp2
  obtain ⟨B, hB⟩ : ∃ B, B = w.heap.size := ⟨_, rfl⟩
  obtain ⟨W, hW⟩ : ∃ W, W = w.alloc (.cells zTab 385) := ⟨_, rfl⟩
  have hrow : Row W B 385 (nums .u32 (tabList 0)) := by
    rw [hW, hB]; exact Row.new w _ zTab
  have tW : Touch No w W := by rw [hW]; exact (Touch.refl No w).alloc _
  have hBw : w.heap.size ≤ B := by omega
  rw [← hW, ← hB]
  have HB := Lib.hid hBw
  have HR := Lib.hid hrow
  have HT := Lib.hid tW
  clear hW hB hBw hrow tW
  go_loopg [3] 256 (fun g s3 wr => ∃ k : Nat, k + g = 256 ∧ s3 = .int .u32 ((k : Nat) : Int) ∧ Hid (Row wr B 385 (nums .u32 (tabList k))) ∧ Hid (Touch No w wr))
  case atStart => exact ⟨0, rfl, rfl, HR.out, HT.out⟩
  case round =>
    clear HR HT
    obtain ⟨k, hkg, rfl, R, T⟩ := hrel
    cases gk with
    | zero =>
      obtain rfl : k = 256 := by omega
      have hra : wr.rangeAt B 0 tabV := R.out.range (fun j v hj => by rw [Nat.zero_add]; exact hj)
      have HRa := Lib.hid hra
      clear hra
      have hi106 : (Tryz.prog.info? 385).map (·.size) = some 256 := by kernel_rfl
      have htl : Hid (tabV.length = 256) := by show (nums .u32 (tabList 256)).length = 256; rw [nums_length]; exact tabList_length (Nat.le_refl _)
      have hsame : Hid (wr.setRow B (splice tabV 0 tabV).toArray = wr) := by
        show _ = _
        have e : splice tabV 0 tabV = tabV := by
          rw [splice, List.take_zero, List.nil_append, Nat.zero_add, List.drop_of_length_le (Nat.le_refl _), List.append_nil]
        rw [e]
        have hst := run_storeCells_at Tryz.prog B 0 385 [] 0 tabV.toArray wr R.out (by simp) (by simp)
        simp [storeCells] at hst
        exact hst.symm
      go_wp2_with (first
        | (refine wpList_load_range rfl _ _ rfl 256 B 0 tabV HRa.out htl.out rfl _ Tryz.underlying385 rfl hi106 ?_)
        | (refine wpList_store_mid rfl _ _ _ rfl B 0 385 tabV R.out rfl tabV rfl (by rw [htl.out]; exact hi106) ?_ (nums_one _ _) ?_; rotate_left; rw [hsame.out]))
      have hld := run_load_range (P := Tryz.prog) HRa.out htl.out Tryz.underlying385 rfl hi106
      exact bodyPost_ret (v := .agg tabV.toArray) (by
        unfold results
        rw [Tryz.results259]
        simp [asAddr, hld]) rfl ⟨rfl, T.out⟩
    | succ g =>
      have hlt : (k : Int) < 256 := by omega
      go_wp2
      obtain ⟨wo, rfl⟩ : ∃ wo : World, wo = wr := ⟨_, rfl⟩
      go_loopg [2, 7] 8 (fun g' s2 s7 wr' => ∃ i : Nat, i + g' = 8 ∧ s7 = .int .i64 ((i : Nat) : Int) ∧ s2 = .int .u32 ((Rt.halves i k : Nat) : Int) ∧ Hid (wr' = wo))
      case atStart => exact ⟨0, rfl, rfl, rfl, rfl⟩
      case round =>
        obtain ⟨i, hig, rfl, rfl, hwr⟩ := hrel
        have hww : wo = wr := hwr.out.symm
        clear hwr
        subst hww
        cases gk with
        | zero =>
          obtain rfl : i = 8 := by omega
          have hcell : wo.cell? ⟨B, k, none⟩ = some (.int .u32 (((tabList k).getD k 0 : Nat) : Int)) := by
            rw [R.out.cell]; exact nums_get (by rw [tabList_length (by omega)]; omega)
          have hsoft := R.out.soft k
          have hrn := R.out.setCell k (.int .u32 (Rt.tab k : Nat))
          rw [tabList_next (by omega)] at hrn
          have HRn := Lib.hid hrn
          have htab : Hid (Rt.halves 8 k = Rt.tab k) := rfl
          have hj1 : IntKind.u32.wrap ((k : Int) + 1) = ((k + 1 : Nat) : Int) := by rw [IntKind.wrap_u32]; omega
          rw [htab.out]
          clear hrn
          go_wp2
          go_roundg g
          case measure => omega
          case rel => exact ⟨k + 1, by omega, by first | rfl | go_num, HRn.out, T.out.setCell (p := ⟨B, k, none⟩) (fun h => absurd (show B < w.heap.size from h) (Nat.not_lt.2 HB.out)) _⟩
        | succ g' =>
          have hlt' : (i : Int) < 8 := by omega
          have hr32 := Rt.halves_lt i (r := k) (by omega)
          have hnext : Hid (Rt.halves (i + 1) k = Rt.half1 (Rt.halves i k)) := Rt.halves_succ i k
          generalize Rt.halves i k = r at *
          have hm1 : IntKind.u32.wrap (-1) = 4294967295 := by rfl
          have hm2 : bits BinOp.and .u32 3988292384 4294967295 = 3988292384 := by decide
          have hm3 : bits BinOp.and .u32 3988292384 0 = 0 := by decide
          rcases Nat.mod_two_eq_zero_or_one r with h1 | h1
          · obtain ⟨ha, hx⟩ := half_nil hr32 h1
            obtain ⟨q, hq⟩ : ∃ q, Rt.half1 r = q := ⟨_, rfl⟩
            rw [hq] at hnext hx
            clear hq h1
            go_wp2
            go_roundg g'
            case measure => omega
            case rel => exact ⟨i + 1, by omega, by go_num, by rw [hnext.out], rfl⟩
          · obtain ⟨ha, hx⟩ := half_one hr32 h1
            obtain ⟨q, hq⟩ : ∃ q, Rt.half1 r = q := ⟨_, rfl⟩
            rw [hq] at hnext hx
            clear hq h1
            go_wp2
            go_roundg g'
            case measure => omega
            case rel => exact ⟨i + 1, by omega, by go_num, by rw [hnext.out], rfl⟩

theorem xor8 {r c : Nat} (_hr : r < 4294967296) (hc : c < 256) : bits BinOp.xor .u8 ((r : Int) % 256) (c : Int) = ((r % 256 ^^^ c : Nat) : Int) := by
  have := u8_xor_nat (r % 256) c (by omega) hc
  rw [← this]; congr 1
theorem xor32 {a r : Nat} (ha : a < 4294967296) (hr : r < 4294967296) : bits BinOp.xor .u32 (a : Int) ((r : Int) / 256) = ((a ^^^ r / 256 : Nat) : Int) := by
  have := u32_xor_nat a (r / 256) ha (by omega)
  rw [← this]; congr 1
theorem xor_neg {s : Nat} (h : s < 4294967296) : bits BinOp.xor .u32 IntKind.u32.max (s : Int) = ((Rt.neg s : Nat) : Int) := by
  have e : (4294967295 : Nat) ^^^ s = 4294967295 - s := by
    have h1 : (BitVec.allOnes 32 ^^^ BitVec.ofNat 32 s).toNat = (~~~ BitVec.ofNat 32 s).toNat := by rw [BitVec.allOnes_xor]
    rw [BitVec.toNat_xor, BitVec.toNat_not, BitVec.toNat_allOnes, BitVec.toNat_ofNat, Nat.mod_eq_of_lt (by omega)] at h1
    exact h1
  have := u32_xor_nat 4294967295 s (by decide) h
  rw [e] at this
  exact this
theorem tabV_get {i : Nat} (h : i < 256) : tabV[i]? = some (.int .u32 (Rt.tab i : Nat)) := by
  have e : tabList 256 = (List.range 256).map Rt.tab := by rw [tabList]; simp
  rw [tabV, e, nums, List.getElem?_map, List.getElem?_map, List.getElem?_range h]; rfl

set_option maxRecDepth 100000 in
set_option maxHeartbeats 4000000 in
theorem on_any (w : World) (sum : Nat) (hs : sum < 4294967296) (a : Option Addr) (n c : Nat) (b : List Nat) (hb : b.length = n) (hmax : (n : Int) ≤ 9223372036854775807) (hr : Rd w a (nums .u8 b)) (hlt : ∀ x ∈ b, x < 256) :
    Calls Tryz.prog 228 #[.int .u32 (sum : Nat), .slice a n c] w fun e w' => e = .returned (.int .u32 (Rt.on sum b : Nat)) ∧ Touch No w w' := by
  have Hb := Lib.hid hb
  have Hr := Lib.hid hr
  have Hlt := Lib.hid hlt
  have hz1 := zTab_zero
  have hz3 := zTab_size
  have hz5 := zTab_ne
  have hi106 : (Tryz.prog.info? 385).map (·.size) = some 256 := by kernel_rfl
  have htl : Hid (tabV.length = 256) := by show (nums .u32 (tabList 256)).length = 256; rw [nums_length]; exact tabList_length (Nat.le_refl _)
  have hztl : Hid (zTab.toList.length = 256) := by show _ = _; rw [Array.length_toList]; exact zTab_size
  have hneg := xor_neg hs
  obtain ⟨ns, hns⟩ : ∃ ns, ns = Rt.neg sum := ⟨_, rfl⟩
  rw [← hns] at hneg
  have hn32 : ns < 4294967296 := by rw [hns]; exact Rt.neg_lt _
  have Hns := Lib.hid hns
  clear hns
  clear hb hr hlt
  go_enter Tryz.func228, Tryz.ntmps228
  go_wp2_with fail
  refine (table_is w).mono ?_
  rintro e w1 ⟨rfl, t1⟩
  have hrow0 := Row.new w1 385 zTab
  have Hrow0 := Lib.hid hrow0
  have T1 := Lib.hid t1
  clear t1 hrow0
  go_wp2_with (refine wpList_store_mid rfl _ _ _ rfl w1.heap.size 0 385 zTab.toList Hrow0.out rfl tabV rfl (by rw [htl.out]; exact hi106) ?qc (nums_one _ _) ?_)
  case qc => rw [htl.out, hztl.out]; decide
  obtain ⟨B, hB⟩ : ∃ B, B = w1.heap.size := ⟨_, rfl⟩
  obtain ⟨W, hW⟩ : ∃ W, W = (w1.alloc (.cells zTab 385)).setRow w1.heap.size (splice zTab.toList 0 tabV).toArray := ⟨_, rfl⟩
  have hsp : splice zTab.toList 0 tabV = tabV := by
    rw [splice, List.take_zero, List.nil_append, Nat.zero_add, List.drop_of_length_le (by rw [htl.out, hztl.out]; decide), List.append_nil]
  have hrow : Row W B 385 tabV := by
    rw [hW, hB, hsp]; exact (Row.new w1 385 zTab).setRow tabV
  have tW : Touch No w W := by
    rw [hW]
    exact (T1.out.alloc _).setRow (g := w1.heap.size) (fun h => absurd (Nat.lt_of_lt_of_le h T1.out.size) (Nat.lt_irrefl _)) _
  rw [← hW, ← hB]
  have HR := Lib.hid hrow
  have TW := Lib.hid tW
  clear hB hW hsp hrow tW Hrow0
  go_loopg [6, 14] n (fun g s6 s14 wr => ∃ (k : Nat) (r : Nat), k + g = n ∧ s14 = .int .i64 ((k : Nat) : Int) ∧ s6 = .int .u32 ((r : Nat) : Int) ∧ r < 4294967296 ∧ Hid (r = Rt.run ns (b.take k)) ∧ Hid (wr = W))
  case atStart => exact ⟨0, ns, by omega, rfl, rfl, hn32, rfl, rfl⟩
  case round =>
    obtain ⟨k, r, hkg, rfl, rfl, hr32, hr, hwr⟩ := hrel
    have hww : W = wr := hwr.out.symm
    clear hwr
    subst hww
    cases gk with
    | zero =>
      obtain rfl : k = n := by omega
      have hx := xor_neg hr32
      have hfin : Hid (Rt.neg r = Rt.on sum b) := by
        show _ = _
        rw [hr.out, Hns.out, List.take_of_length_le (by rw [Hb.out]; exact Nat.le_refl _)]; rfl
      obtain ⟨q, hq⟩ : ∃ q, Rt.neg r = q := ⟨_, rfl⟩
      rw [hq] at hx hfin
      clear hq
      go_wp2
      go_ret
      exact ⟨by rw [← hfin.out]; rfl, TW.out⟩
    | succ g =>
      have hlt : (k : Int) < (n : Nat) := by omega
      have hkb : k < b.length := by rw [Hb.out]; omega
      obtain ⟨gb, ob, rfl, hcb⟩ := (Hr.out.no TW.out).num hkb
      have hc256 := Hlt.out (b.getD k 0) (by rw [List.getD_eq_getElem?_getD, List.getElem?_eq_getElem hkb]; exact List.getElem_mem hkb)
      have hnext : Hid (Rt.run ns (b.take (k + 1)) = Rt.step r (b.getD k 0)) := by
        show _ = _
        rw [List.take_succ_eq_append_getElem hkb, Rt.run_append, ← hr.out, List.getD_eq_getElem?_getD, List.getElem?_eq_getElem hkb]; rfl
      obtain ⟨x, hx⟩ : ∃ x, b.getD k 0 = x := ⟨_, rfl⟩
      rw [hx] at hcb hc256 hnext
      have h8 := xor8 hr32 hc256
      have hi256 : r % 256 ^^^ x < 256 := Rt.idx_lt hc256
      have hcell : W.cell? ⟨B, r % 256 ^^^ x, none⟩ = some (.int .u32 (Rt.tab (r % 256 ^^^ x) : Nat)) := by rw [HR.out.cell]; exact tabV_get hi256
      have htl32 := Rt.tab_lt hi256
      have h32 := xor32 htl32 hr32
      have hst32 := Rt.step_lt hr32 hc256
      have hstep : Hid (Rt.tab (r % 256 ^^^ x) ^^^ r / 256 = Rt.step r x) := rfl
      clear hx hkb
      obtain ⟨y, hy⟩ : ∃ y, Rt.step r x = y := ⟨_, rfl⟩
      rw [hy] at hnext hst32 hstep
      rw [hstep.out] at h32
      clear hy
      generalize Rt.tab (r % 256 ^^^ x) = tt at *
      generalize r % 256 ^^^ x = i at *
      go_wp2
      go_roundg g
      case measure => omega
      case rel => exact ⟨k + 1, y, by omega, by go_num, rfl, hst32, hnext.out.symm, rfl⟩

/-- Of: the sum of bytes -/
theorem of_any (w : World) (a : Option Addr) (n c : Nat) (b : List Nat) (hb : b.length = n) (hmax : (n : Int) ≤ 9223372036854775807) (hr : Rd w a (nums .u8 b)) (hlt : ∀ x ∈ b, x < 256) :
    Calls Tryz.prog 229 #[.slice a n c] w fun e w' => e = .returned (.int .u32 (Rt.of b : Nat)) ∧ Touch No w w' := by
  have Hc := Lib.hid (on_any w 0 (by decide) a n c b hb hmax hr hlt)
  have hv : Hid (Rt.on 0 b = Rt.of b) := rfl
  clear hb hr hlt
  go_enter Tryz.func229, Tryz.ntmps229
  go_wp2_with fail
  refine Hc.out.mono ?_
  rintro e w2 ⟨rfl, t2⟩
  have T2 := Lib.hid t2
  clear t2
  go_wp2
  go_ret
  exact ⟨rfl, T2.out⟩
end Go.Proofs.YtpmkegbgbldpnaaGreatDoor
