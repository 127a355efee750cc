/-
  Package roots by its own text: Put, nought.
  Package roots by its own text: nought, Get.
  Package drydockref02 by its own text: On, Of. The sum by halves is the sum by a table.
  Package drydockref17 by its own text: noughts, Put, Get.
  Package roots by its own text: find.
  Package roots by its own text: Read, Write.
  Package drydocklaw17 by its own text: lives.
-/
import Derived.Test.YtmjeigceclmdoaaGreatDoorSums
import Derived.Deep.RegionHeld3
import Derived.Laws.BytesArg
import Derived.Test.YtmjeigceclmdoaaGreatDoorRef01F
import Derived.Lib.SmallJoins
import Derived.Test.YtmjeigceclmdoaaGreatDoorDskAll
namespace Go.Proofs.YtmjeigceclmdoaaGreatDoor
open Go Go.RowKit
set_option linter.unusedSimpArgs false

section
variable {P : Program} {w : World}
/-- 'append(b, "..."...)' where there is room -/
theorem run_append_str (base : Nat) (t u ty e : TypeId) (i : TypeInfo) (ht : P.underlying t = some (.slice e)) (hu : P.underlying u = some .string) (hi : P.info? e = some i) (hsize : i.size = 1)
    (g cap : Nat) (vs : List Value) (hown : Own w base e (.slice (some ⟨g, 0, none⟩) vs.length cap) vs) (s : ByteArray) (us : List Nat) (hs : (s.data.map fun b => Value.int .u8 b.toNat).toList = nums .u8 us) (hroom : vs.length + us.length ≤ cap) :
    ∃ w', (Builtin.append_ #[t, u] ty #[.slice (some ⟨g, 0, none⟩) vs.length cap, .string s]).run P w = .ok (.slice (some ⟨g, 0, none⟩) (vs.length + us.length) cap) w' ∧ Own w' base e (.slice (some ⟨g, 0, none⟩) (vs.length + us.length) cap) (vs ++ nums .u8 us) ∧ Touch (One g) w w' := by
  have hsz : s.size = us.length := by
    have := congrArg List.length hs
    rw [nums_length] at this
    simpa using this
  rcases hown.2 with ⟨h0, _⟩ | ⟨g', cap', cur, h0, hbg, hg, hnc, hcm, hcs, htake⟩
  · cases h0
  · cases h0
    have hfit : vs.length * 1 + (nums .u8 us).length ≤ cur.size := by rw [hcs, nums_length]; omega
    have hst := run_storeCells_at P g (vs.length * 1) e (nums .u8 us) 0 cur w hg (by simpa using hfit) (nums_one _ _)
    simp only [Nat.add_zero] at hst
    refine ⟨w.setRow g (cur.toList.take (vs.length * 1) ++ nums .u8 us ++ cur.toList.drop (vs.length * 1 + (nums .u8 us).length)).toArray, ?_, ?_, ?_⟩
    · have hadd : (⟨g, 0, none⟩ : Addr).add (vs.length * 1) = ⟨g, vs.length * 1, none⟩ := by unfold Addr.add; split <;> simp_all
      have hext : s.extract 0 us.length = s := by rw [← hsz]; simp
      have hf : (Builtin.firstCells 1 us.length (.string s)).run P w = .ok (s.data.map fun b => Value.int .u8 b.toNat) w := by
        show Sem.run P (pure (Array.map _ (s.extract 0 us.length).data)) w = _
        rw [hext]; rfl
      have hroom' : vs.length + us.length ≤ cap := hroom
      simp [Builtin.append_, run_underlying ht, run_underlying hu, sizeOf, typeInfo, hi, hsize, Builtin.lenOf, hsz, hroom', hf]
      rw [Nat.mul_one] at hadd hst
      have hs' : List.map (fun b => Value.int .u8 (b.toNat : Int)) s.data.toList = nums .u8 us := by simpa using hs
      rw [hadd, hs', hst]
      simp
    · refine ⟨by simp [nums_length], .inr ⟨g, cap, _, by simp [nums_length], hbg, setRow_heap w g cur _ e _ hg, by simpa [nums_length] using hroom, hcm, ?_, ?_⟩⟩
      · simp only [List.size_toArray, List.length_append, List.length_take, List.length_drop, Array.length_toList]
        omega
      · simp only [Nat.mul_one] at htake ⊢
        rw [htake]
        exact List.take_left
    · exact ⟨rfl, rfl, rfl, by simp [World.setRow], fun k _ hk => setRow_other w g k _ (fun e => hk (by simp [One, e]))⟩
theorem wpList_append_str {ops : Array Oper} {rest : List Oper} {o : Oper} {a : Act} {Q : Exit → Act → World → Prop} (hgd : o.guard = none) (s x : Operand) (t u : TypeId) (ho : o.op = .call { callee := .builtin .append, args := #[s, x], argTypes := #[t, u] })
    (base : Nat) (e : TypeId) (i : TypeInfo) (ht : P.underlying t = some (.slice e)) (hu : P.underlying u = some .string) (hi : P.info? e = some i) (hsize : i.size = 1)
    (g cap : Nat) (vs : List Value) (hown : Own w base e (.slice (some ⟨g, 0, none⟩) vs.length cap) vs) (hs : a.eval s = .slice (some ⟨g, 0, none⟩) vs.length cap) (str : ByteArray) (hx : a.eval x = .string str) (us : List Nat) (hst : (str.data.map fun b => Value.int .u8 b.toNat).toList = nums .u8 us) (hroom : vs.length + us.length ≤ cap)
    (h : ∀ w', Own w' base e (.slice (some ⟨g, 0, none⟩) (vs.length + us.length) cap) (vs ++ nums .u8 us) → Touch (One g) w w' → wpList P ops Q rest (a.put o.dst (.slice (some ⟨g, 0, none⟩) (vs.length + us.length) cap)) w') : wpList P ops Q (o :: rest) a w :=
  wpList_plain hgd fun _ hK => by
    obtain ⟨w', h1, h2, h3⟩ := run_append_str base t u o.type e i ht hu hi hsize g cap vs hown str us hst hroom
    unfold Oper.wp execOp
    simp only [ho, resolve, invoke, builtin, Sem.run_bind, Sem.run_pure, Result.andThen_ok, List.map_toArray, List.map_cons, List.map_nil, hs, hx, h1]
    exact hK _ _ (h w' h2 h3)
end

def zs64 : Array Value := (List.replicate 64 (Value.int .u8 0)).toArray
/-- a root by value -/
def rootV (r : Rt.Root) : Value := .agg #[.int .u32 (r.epoch : Nat), .int .u32 (r.first : Nat), .int .u32 (r.bytes : Nat)]
def rootN (r : Rt.Root) (k : Nat) : List Nat := ([r.epoch, r.first, r.bytes].take k).flatMap Rt.four

set_option maxRecDepth 100000 in
set_option maxHeartbeats 4000000 in
theorem rootPut_any (w : World) (r : Rt.Root) (hr : r.Ok) :
    Calls Tryz.prog 67 #[.agg #[.int .u32 (r.epoch : Nat), .int .u32 (r.first : Nat), .int .u32 (r.bytes : Nat)]] w (PutPost w (Rt.put r) 64) := by
  obtain ⟨I, hi0, hi1, hi2, hi3⟩ := u8_info
  obtain ⟨xe, xf, xb⟩ := r
  have h1 : xe < 4294967296 := hr.epoch
  have h2 : xf < 4294967296 := hr.first
  have h3 : xb < 4294967296 := hr.bytes
  have hmk : ∀ wx : World, (Instr.makeSlice 22 (.int .i64 0) (.int .i64 64)).run Tryz.prog wx = .ok (.slice (some ⟨wx.heap.size, 0, none⟩) 0 64) (wx.alloc (.cells zs64 5)) := fun wx => by
    have := run_make (P := Tryz.prog) wx 22 5 I (.int .u8 0) Tryz.underlying22 hi0 hi1 .i64 .i64 0 64 (by omega) (by omega) (by rw [hi3]; omega) (by omega)
    rw [this, hi2]
    show Result.ok _ (wx.alloc (.cells (madeCells #[Value.int .u8 0] 64) _)) = _
    rw [made_zeros]; rfl
  have Hi := Lib.hid (And.intro hi0 (And.intro hi1 (And.intro hi2 hi3)))
  have i0 : ∀ wx : World, (Instr.index 180 (.agg #[.int .u32 (xe : Nat), .int .u32 (xf : Nat), .int .u32 (xb : Nat)]) (.int .i64 0)).run Tryz.prog wx = .ok (.int .u32 (xe : Nat)) wx := fun wx => by kernel_rfl
  have i1 : ∀ wx : World, (Instr.index 180 (.agg #[.int .u32 (xe : Nat), .int .u32 (xf : Nat), .int .u32 (xb : Nat)]) (.int .i64 1)).run Tryz.prog wx = .ok (.int .u32 (xf : Nat)) wx := fun wx => by kernel_rfl
  have i2 : ∀ wx : World, (Instr.index 180 (.agg #[.int .u32 (xe : Nat), .int .u32 (xf : Nat), .int .u32 (xb : Nat)]) (.int .i64 2)).run Tryz.prog wx = .ok (.int .u32 (xb : Nat)) wx := fun wx => by kernel_rfl
  have hown0 : Hid (∀ o : Obj, Own ((w.alloc o).alloc (.cells zs64 5)) (w.heap.size + 1) 5 (.slice (some ⟨w.heap.size + 1, 0, none⟩) 0 64) []) := fun o => by
    have := World.ownsRow_made (base := (w.alloc o).heap.size) (e := 5) (size := 1) (w.alloc o) zs64 64 (Nat.le_refl _) (by unfold maxLen; decide) (by simp [zs64])
    rw [size_alloc] at this
    exact this
  have hcells : Hid (∀ w2, Touch (One (w.heap.size + 1)) ((w.alloc (.cells #[.int .u32 (xe : Nat), .int .u32 (xf : Nat), .int .u32 (xb : Nat)] 101)).alloc (.cells zs64 5)) w2 → w2.cell? ⟨w.heap.size, 0, none⟩ = some (.int .u32 (xe : Nat)) ∧ w2.cell? ⟨w.heap.size, 1, none⟩ = some (.int .u32 (xf : Nat)) ∧ w2.cell? ⟨w.heap.size, 2, none⟩ = some (.int .u32 (xb : Nat))) := fun w2 t => by
    have hne : ¬ One (w.heap.size + 1) w.heap.size := by unfold One; omega
    have c : ∀ j, ((w.alloc (.cells #[.int .u32 (xe : Nat), .int .u32 (xf : Nat), .int .u32 (xb : Nat)] 101)).alloc (.cells zs64 5)).cell? ⟨w.heap.size, j, none⟩ = (#[Value.int .u32 (xe : Nat), .int .u32 (xf : Nat), .int .u32 (xb : Nat)])[j]? := fun j => by
      rw [cell_old _ _ (by simp), cell_new]
    exact ⟨t.cell hne ((c 0).trans rfl), t.cell hne ((c 1).trans rfl), t.cell hne ((c 2).trans rfl)⟩
  have hmark : Hid (((⟨#[82, 79, 79, 84]⟩ : ByteArray).data.map fun b => Value.int .u8 b.toNat).toList = nums .u8 Rt.mark) := by show _ = _; kernel_rfl
  clear hr hi0 hi1 hi2 hi3
  go_enter Tryz.func67, Tryz.ntmps67
  go_wp2_with (refine wpList_append_str rfl _ _ _ _ rfl _ 5 I Tryz.underlying22 Tryz.underlying9 Hi.out.1 Hi.out.2.2.1 _ 64 [] (hown0.out _) rfl ⟨#[82, 79, 79, 84]⟩ rfl Rt.mark hmark.out (by decide) ?_; intro w2 own2 t2; have O2 := Lib.hid own2; have T2 := Lib.hid t2; have q0 := (hcells.out w2 t2).1; have q1 := (hcells.out w2 t2).2.1; have q2 := (hcells.out w2 t2).2.2; clear own2 t2)
  obtain ⟨B, hB⟩ : ∃ B, B = w.heap.size := ⟨_, rfl⟩
  have tb : Touch No w w2 := by
    exact ((Touch.refl No w).alloc _).alloc _ |>.then T2.out (fun i hi e => by
      have e' : i = w.heap.size + 1 := e
      omega)
  have own2 : Own w2 w.heap.size 5 (.slice (some ⟨w.heap.size + 1, 0, none⟩) 4 64) (nums .u8 (Rt.mark ++ rootN ⟨xe, xf, xb⟩ 0)) := by
    exact O2.out.mono (base' := w.heap.size) (Nat.le_succ _)
  have HO2 := Lib.hid own2
  have HTb := Lib.hid tb
  clear own2 tb O2 T2 hB hmk hown0 q0 q1 q2
  go_loopg [3, 16] 3 (fun g s3 s16 wr => ∃ (k : Nat) (a' : Option Addr) (N c' : Nat), k + g = 3 ∧ s16 = .int .i64 ((k : Nat) : Int) ∧ s3 = .slice a' N c' ∧ N = 4 + 4 * k ∧ Hid (Own wr w.heap.size 5 (.slice a' N c') (nums .u8 (Rt.mark ++ rootN ⟨xe, xf, xb⟩ k))) ∧ Hid (Touch No w wr))
  case atStart => exact ⟨0, _, 4, 64, rfl, rfl, rfl, rfl, HO2.out, HTb.out⟩
  case round =>
    clear HO2 HTb
    obtain ⟨k, a', N, c', hkg, rfl, rfl, hN, O, T⟩ := hrel
    have hlen : Hid ((Rt.mark ++ rootN ⟨xe, xf, xb⟩ k).length = N) := by
      show _ = _
      have hk : k = 0 ∨ k = 1 ∨ k = 2 ∨ k = 3 := by omega
      rcases hk with rfl | rfl | rfl | rfl <;> rw [hN] <;> rfl
    cases gk with
    | zero =>
      obtain rfl : k = 3 := by omega
      have hN16 : N = 16 := by omega
      subst hN16
      have hhd : Hid (Rt.mark ++ rootN ⟨xe, xf, xb⟩ 3 = Rt.head ⟨xe, xf, xb⟩) := by
        show _ = _
        simp [rootN, Rt.head]
      have hO := O.out
      rw [hhd.out] at hO
      have HO := Lib.hid hO
      clear hO
      have hzl : Hid ((nums .u8 (Rt.head ⟨xe, xf, xb⟩ ++ Rt.four (Rt.of (Rt.head ⟨xe, xf, xb⟩)))).length = 20) := by show _ = _; rw [nums_length]; rfl
      go_wp2_with fail
      refine (of_any wr a' 16 c' _ (Rt.head_length _) (by decide) HO.out.rd (Rt.head_lt _)).mono ?_
      rintro e w3 ⟨rfl, t3⟩
      have T3 := Lib.hid t3
      clear t3
      go_wp2_with fail
      refine (putFour_any w3 a' 16 c' _ (Rt.head_length _) (HO.out.rd.no T3.out) (Rt.of (Rt.head ⟨xe, xf, xb⟩)) Rt.of_lt (by decide) 20 rfl).mono ?_
      rintro e w4 ⟨a4, c4, rfl, o4, t4⟩
      have T4 := Lib.hid ((T.out.trans T3.out).trans t4)
      have O4 := Lib.hid (o4.mono (base' := w.heap.size) (T.out.trans T3.out).size)
      clear o4 t4
      go_wp2_with (refine wpList_append_zeros rfl _ _ _ _ rfl w.heap.size 5 I (.int .u8 0) (.int .u8 0) 1 Tryz.underlying22 Tryz.underlying3 Hi.out.1 Hi.out.2.1 Hi.out.2.2.1 Hi.out.2.2.2 rfl rfl _ _ O4.out rfl 44 rfl (by rw [hzl.out]; unfold maxLen; decide) (by rw [hzl.out]; decide) T4.out.size ?_; intro v5 w5 own5 t5; have O5 := Lib.hid own5; have T5 := Lib.hid t5; clear own5 t5)
      go_ret
      have hput : nums .u8 (Rt.head ⟨xe, xf, xb⟩ ++ Rt.four (Rt.of (Rt.head ⟨xe, xf, xb⟩))) ++ List.replicate 44 (Value.int .u8 0) = nums .u8 (Rt.put ⟨xe, xf, xb⟩) := by
        rw [Rt.put, nums_append _ _ (List.replicate 44 0)]; rfl
      have hO5 := O5.out
      rw [hput] at hO5
      obtain ⟨a5, c5, rfl, _⟩ := hO5.form' (n := 64) (by rw [nums_length]; rfl)
      exact ⟨a5, c5, rfl, hO5, T4.out.then T5.out (fun i hi e => by have := (O4.out.block e).1; omega)⟩
    | succ g =>
      have hk : k = 0 ∨ k = 1 ∨ k = 2 := by omega
      have hNk : N ≤ 12 := by omega
      have Hn := Lib.hid hN
      clear hN
      rcases hk with rfl | rfl | rfl
      · go_wp2_with fail
        refine (putFour_any wr a' N c' _ hlen.out O.out.rd xe h1 (by omega) (N + 4) rfl).mono ?_
        rintro e w3 ⟨a3, c3, rfl, o3, t3⟩
        have O3 := Lib.hid (o3.mono (base' := w.heap.size) T.out.size)
        have T3 := Lib.hid (T.out.trans t3)
        have hnx : Hid (N + 4 = 4 + 4 * (0 + 1)) := by show _ = _; rw [Hn.out]
        clear o3 t3
        go_wp2
        go_roundg g
        case measure => omega
        case rel => exact ⟨0 + 1, a3, N + 4, c3, by omega, by go_num, rfl, hnx.out, O3.out, T3.out⟩
      · go_wp2_with fail
        refine (putFour_any wr a' N c' _ hlen.out O.out.rd xf h2 (by omega) (N + 4) rfl).mono ?_
        rintro e w3 ⟨a3, c3, rfl, o3, t3⟩
        have O3 := Lib.hid (o3.mono (base' := w.heap.size) T.out.size)
        have T3 := Lib.hid (T.out.trans t3)
        have hnx : Hid (N + 4 = 4 + 4 * (1 + 1)) := by show _ = _; rw [Hn.out]
        clear o3 t3
        go_wp2
        go_roundg g
        case measure => omega
        case rel => exact ⟨1 + 1, a3, N + 4, c3, by omega, by go_num, rfl, hnx.out, O3.out, T3.out⟩
      · go_wp2_with fail
        refine (putFour_any wr a' N c' _ hlen.out O.out.rd xb h3 (by omega) (N + 4) rfl).mono ?_
        rintro e w3 ⟨a3, c3, rfl, o3, t3⟩
        have O3 := Lib.hid (o3.mono (base' := w.heap.size) T.out.size)
        have T3 := Lib.hid (T.out.trans t3)
        have hnx : Hid (N + 4 = 4 + 4 * (2 + 1)) := by show _ = _; rw [Hn.out]
        clear o3 t3
        go_wp2
        go_roundg g
        case measure => omega
        case rel => exact ⟨2 + 1, a3, N + 4, c3, by omega, by go_num, rfl, hnx.out, O3.out, T3.out⟩
end Go.Proofs.YtmjeigceclmdoaaGreatDoor
namespace Go.Proofs.YtmjeigceclmdoaaGreatDoor
open Go Go.RowKit
set_option linter.unusedSimpArgs false

set_option maxHeartbeats 1000000 in
theorem nought_any (w : World) (a : Option Addr) (n c : Nat) (b : List Nat) (hb : b.length = n) (hmax : (n : Int) ≤ 9223372036854775807) (hr : Rd w a (nums .u8 b)) :
    Calls Tryz.prog 157 #[.slice a n c] w fun e w' => e = .returned (.bool (Rt.nought b)) ∧ w = w' := by
  have Hb := Lib.hid hb
  have Hr := Lib.hid hr
  clear hb hr
  go_enter Tryz.func157, Tryz.ntmps157
  go_wp2
  go_loopg [7] n (fun g s7 wr => ∃ k : Nat, k + g = n ∧ s7 = .int .i64 ((k : Nat) : Int) ∧ Hid (Rt.nought (b.take k) = true) ∧ Hid (wr = w))
  case atStart => exact ⟨0, by omega, rfl, rfl, rfl⟩
  case round =>
    obtain ⟨k, hkg, rfl, Hn, hwr⟩ := hrel
    have hww : w = wr := hwr.out.symm
    clear hwr
    subst hww
    cases gk with
    | zero =>
      obtain rfl : k = n := by omega
      have hf : Hid (Rt.nought b = true) := by
        have := Hn.out
        rwa [List.take_of_length_le (by rw [Hb.out]; exact Nat.le_refl _)] at this
      go_wp2
      go_ret
      exact ⟨ret_bool hf.out.symm, rfl⟩
    | succ g =>
      have hlt : (k : Int) < (n : Nat) := by omega
      have hkb : k < b.length := by rw [Hb.out]; omega
      obtain ⟨gb, ob, rfl, hcb⟩ := Hr.out.num hkb
      have hge : b.getD k 0 = b[k] := by rw [List.getD_eq_getElem?_getD, List.getElem?_eq_getElem hkb]; rfl
      have hnext : Hid (b.getD k 0 = 0 → Rt.nought (b.take (k + 1)) = true) := fun h0 => by
        rw [List.take_succ_eq_append_getElem hkb, Rt.nought, List.all_append]
        have := Hn.out
        rw [Rt.nought] at this
        rw [this, ← hge, h0]; rfl
      have hnot : Hid (b.getD k 0 ≠ 0 → Rt.nought b = false) := fun h0 => by
        rw [Rt.nought, List.all_eq_false]
        exact ⟨b[k], List.getElem_mem hkb, by rw [← hge]; simpa using h0⟩
      obtain ⟨x, hx⟩ : ∃ x, b.getD k 0 = x := ⟨_, rfl⟩
      rw [hx] at hcb hnext hnot
      clear hx hkb hge
      by_cases h0 : x = 0
      · subst h0
        go_wp2
        go_roundg g
        case measure => omega
        case rel => exact ⟨k + 1, by omega, by go_num, hnext.out (by first | rfl | trivial), rfl⟩
      · have hne : ((x : Int) != 0) = true := by simp; omega
        have H0 := Lib.hid h0
        clear h0
        go_wp2
        go_ret
        exact ⟨ret_bool (hnot.out H0.out).symm, rfl⟩

theorem str_of (b : List Nat) (h : ∀ x ∈ b, x < 256) : strOfNums (b.map fun (x : Nat) => (x : Int)) = ⟨#[82, 79, 79, 84]⟩ ↔ b = Rt.mark := by
  constructor
  · intro he
    have h1 : (b.map fun (x : Nat) => UInt8.ofNat x) = [82, 79, 79, 84] := by
      have := congrArg (fun s : ByteArray => s.data.toList) he
      simpa [strOfNums, Function.comp_def] using this
    have h2 : (b.map fun (x : Nat) => (UInt8.ofNat x).toNat) = [82, 79, 79, 84] := by
      have := congrArg (List.map UInt8.toNat) h1
      rw [List.map_map] at this
      exact this
    have h3 : (b.map fun (x : Nat) => (UInt8.ofNat x).toNat) = b := by
      conv => rhs; rw [← List.map_id b]
      refine List.map_congr_left (fun x hx => ?_)
      rw [UInt8.toNat_ofNat']
      exact Nat.mod_eq_of_lt (h x hx)
    rw [← h3, h2]; rfl
  · rintro rfl; rfl
theorem add_off' (g o j : Nat) (h : j ≠ 0) : (⟨g, o, none⟩ : Addr).add j = ⟨g, o + j, none⟩ := by unfold Addr.add; split <;> simp_all
/-- the numbers that are got, as far as they are -/
def gotL (b : List Nat) (k : Nat) : List Nat := (List.range k).map (fun j => Rt.unfour (b.drop (4 + 4 * j))) ++ List.replicate (4 - k) 0
theorem gotL_length {b : List Nat} {k : Nat} (h : k ≤ 4) : (gotL b k).length = 4 := by simp [gotL]; omega
theorem gotL_next {b : List Nat} {k : Nat} (h : k < 4) : (nums .u32 (gotL b k)).set k (.int .u32 (Rt.unfour (b.drop (4 + 4 * k)) : Nat)) = nums .u32 (gotL b (k + 1)) := by
  rw [nums, nums, ← List.map_set (f := fun (x : Nat) => Value.int .u32 (x : Int)) (a := Rt.unfour (b.drop (4 + 4 * k)))]
  congr 1
  rw [gotL, gotL, List.set_append_right _ _ (by simp), List.range_succ, List.map_append, List.append_assoc]
  congr 1
  simp only [List.length_map, List.length_range, Nat.sub_self]
  rw [show 4 - k = (4 - (k + 1)) + 1 by omega, List.replicate_succ]
  rfl
theorem unfour_take (b : List Nat) : Rt.unfour (b.take 4) = Rt.unfour b := by
  have h : ∀ j, j < 4 → (b.take 4).getD j 0 = b.getD j 0 := fun j hj => by
    rw [List.getD_eq_getElem?_getD, List.getD_eq_getElem?_getD, List.getElem?_take_of_lt hj]
  unfold Rt.unfour
  rw [h 0 (by decide), h 1 (by decide), h 2 (by decide), h 3 (by decide)]
def zL4 : Array Value := (List.replicate 4 (Value.int .u32 0)).toArray
theorem zL4_zero (w : World) : (zeroValue 179).run Tryz.prog w = .ok (.agg zL4) w := by kernel_rfl
theorem zL4_size : zL4.size = 4 := by kernel_rfl
theorem zL4_ne : zL4 ≠ #[] := fun h => by have := zL4_size; rw [h] at this; cases this
def rootZ : Value := .agg #[.int .u32 0, .int .u32 0, .int .u32 0]
def RootPost (w : World) (r : Rt.Root) (er : Nat) (e : Ending) (w' : World) : Prop :=
  e = .returned (.tuple #[.agg #[.int .u32 (r.epoch : Nat), .int .u32 (r.first : Nat), .int .u32 (r.bytes : Nat)], .int .i64 (er : Nat)]) ∧ Touch No w w'

theorem getFour_ok (w : World) (a : Option Addr) (n c : Nat) (b : List Nat) (v : Nat) (hb : b.length = n) (h4 : 4 ≤ n) (hmax : (n : Int) ≤ 9223372036854775807) (hr : Rd w a (nums .u8 b)) (hlt : ∀ x ∈ b, x < 256) (hv : Rt.unfour b = v) :
    Calls Tryz.prog 24 #[.slice a n c] w fun e w' => e = .returned (.tuple #[.int .u32 (v : Nat), .int .i64 0]) ∧ Touch No w w' := by
  subst hv
  refine (getFour_any w a n c b hb hmax hr hlt).mono fun e w' ⟨he, t⟩ => ⟨?_, t⟩
  rw [if_neg (by omega), if_neg (by omega)] at he
  exact he
set_option maxRecDepth 100000 in
set_option maxHeartbeats 4000000 in
theorem rootGet_any (w : World) (a : Option Addr) (n c : Nat) (b : List Nat) (hb : b.length = n) (hc : n ≤ c) (hmax : (c : Int) ≤ 9223372036854775807) (hr : Rd w a (nums .u8 b)) (hlt : ∀ x ∈ b, x < 256) :
    Calls Tryz.prog 65 #[.slice a n c] w (RootPost w (Rt.rootOf b) (Rt.errOf b)) := by
  have Form : Hid (¬ (b.length = 64 ∧ b.take 4 = Rt.mark ∧ Rt.nought (b.drop 20) = true) → Rt.errOf b = 4 ∧ Rt.rootOf b = ⟨0, 0, 0⟩) := fun h => by
    have h1 : Rt.errOf b = 4 := by rw [Rt.errOf, if_neg h]
    exact ⟨h1, by rw [Rt.rootOf, h1, if_neg (by decide)]⟩
  have Hb := Lib.hid hb
  have Hr := Lib.hid hr
  have Hlt := Lib.hid hlt
  by_cases h64 : n = 64
  · subst h64
    obtain ⟨g, o, rfl, _⟩ := hr.num (i := 0) (by omega)
    have hc64 : (64 : Int) ≤ (c : Nat) := by omega
    have hc20 : ¬ c = 20 := by omega
    have hc16 : (16 : Int) ≤ (c : Nat) := by omega
    have r4 : Hid (Rd w (some ⟨g, o, none⟩) (nums .u8 (b.take 4))) := by
      have := hr.take 4
      show Rd _ _ _
      rw [nums, List.map_take]; exact this
    have r20 : Hid (Rd w (some ⟨g, o + 20, none⟩) (nums .u8 (b.drop 20))) := by
      have := hr.cut (cap := c) (l := 20) (by rw [nums_length]; omega)
      rw [cutAddr, if_neg hc20, Option.map_some, add_off' g o 20 (by decide)] at this
      show Rd _ _ _
      rw [nums, List.map_drop]; exact this
    have l4 : (b.take 4).length = 4 := by rw [List.length_take]; omega
    have l20 : Hid ((b.drop 20).length = 44) := by show _ = _; rw [List.length_drop]; omega
    have hm4 : ∀ x ∈ b.take 4, x < 256 := fun x hx => hlt x (List.mem_of_mem_take hx)
    have hcv : ∀ wx : World, Touch No w wx → (convert 22 9 (.slice (some ⟨g, o, none⟩) 4 c)).run Tryz.prog wx = .ok (.string (strOfNums ((b.take 4).map fun (x : Nat) => (x : Int)))) wx := fun wx t =>
      run_convert_bytes_arg wx 22 5 Tryz.underlying22 Tryz.underlying5 g o 4 c _ (by rw [List.length_map]; exact l4) (fun i hi => by
        obtain ⟨g', o', e', hcell⟩ := (r4.out.no t).num (i := i) (by omega)
        cases e'
        rw [hcell]
        congr 2
        rw [List.getD_eq_getElem?_getD, List.getD_eq_getElem?_getD, List.getElem?_map, List.getElem?_eq_getElem (show i < (b.take 4).length by omega)]; rfl) 9 Tryz.underlying9
    have Hso := str_of (b.take 4) hm4
    obtain ⟨S, hS⟩ : ∃ S, S = strOfNums ((b.take 4).map fun (x : Nat) => (x : Int)) := ⟨_, rfl⟩
    rw [← hS] at Hso hcv
    have HSo := Lib.hid Hso
    clear Hso hS hm4 l4
    have hcv1 : ∀ ob : Obj, (convert 22 9 (.slice (some ⟨g, o, none⟩) 4 c)).run Tryz.prog (w.alloc ob) = .ok (.string S) (w.alloc ob) := fun ob => hcv _ ((Touch.refl No w).alloc ob)
    clear hcv
    by_cases hmk : b.take 4 = Rt.mark
    · obtain rfl : S = ⟨#[82, 79, 79, 84]⟩ := HSo.out.2 hmk
      have Hmk := Lib.hid hmk
      clear hmk HSo
      cases hno : Rt.nought (b.drop 20) with
      | false =>
        have hF := Form.out (fun h => by rw [hno] at h; exact absurd h.2.2 (by decide))
        rw [hF.1, hF.2]
        have Hno := Lib.hid hno
        clear hF hno hb hr hlt
        go_enter Tryz.func65, Tryz.ntmps65
        go_wp2_with fail
        refine (nought_any _ _ 44 (c - 20) _ l20.out (by decide) (r20.out.no ((Touch.refl No w).alloc _))).mono ?_
        rintro e w' ⟨rfl, rfl⟩
        rw [Hno.out]
        go_wp2
        exact bodyPost_ret (v := .tuple #[.agg #[.int .u32 0, .int .u32 0, .int .u32 0], .int .i64 4]) (by simp [results, Tryz.results65, go_sem]) rfl ⟨rfl, (Touch.refl No w).alloc _⟩
      | true =>
        have Hno := Lib.hid hno
        clear hno hb hr hlt
        go_enter Tryz.func65, Tryz.ntmps65
        go_wp2_with fail
        refine (nought_any _ _ 44 (c - 20) _ l20.out (by decide) (r20.out.no ((Touch.refl No w).alloc _))).mono ?_
        rintro e w' ⟨rfl, rfl⟩
        rw [Hno.out]
        have hz1 := zL4_zero
        have hz3 := zL4_size
        have hz5 := zL4_ne
        go_wp2
        obtain ⟨R, hR⟩ : ∃ R, R = w.heap.size := ⟨_, rfl⟩
        obtain ⟨W, hW⟩ : ∃ W, W = (w.alloc (.cells #[.int .u32 0, .int .u32 0, .int .u32 0] 101)).alloc (.cells zL4 179) := ⟨_, rfl⟩
        have tW : Touch No w W := by rw [hW]; exact ((Touch.refl No w).alloc _).alloc _
        have hrL : Row W (w.heap.size + 1) 179 (nums .u32 (gotL b 0)) := by
          rw [hW, ← size_alloc w (.cells #[.int .u32 0, .int .u32 0, .int .u32 0] 101)]; exact Row.new _ _ zL4
        have hrR : ∀ j, j < 3 → W.cell? ⟨R, j, none⟩ = some (.int .u32 0) ∧ W.frozen? ⟨R, j, none⟩ = false := fun j hj => by
          rw [hW, hR]
          have hrow := (Row.new w 101 #[.int .u32 0, .int .u32 0, .int .u32 0]).touch (F := No) ((Touch.refl No _).alloc (.cells zL4 179)) id
          refine ⟨?_, hrow.soft j⟩
          rw [hrow.cell]
          match j, hj with
          | 0, _ => rfl
          | 1, _ => rfl
          | 2, _ => rfl
        rw [← hW, ← hR]
        have HR := Lib.hid hrR
        have HL := Lib.hid hrL
        have HT := Lib.hid tW
        have HRR := Lib.hid hR
        have hLn : R ≠ R + 1 := by omega
        rw [← hR] at HL
        clear hR hW tW hrL hrR hz1 hz3 hz5
        have hgw : Hid (g < w.heap.size) := by
          obtain ⟨g', o', e', hc'⟩ := Hr.out.num (i := 0) (by rw [Hb.out]; decide)
          cases e'; exact lt_of_cell hc'
        go_loopg [22] 4 (fun g' s22 wr => ∃ k : Nat, k + g' = 4 ∧ s22 = .int .i64 ((k : Nat) : Int) ∧ Hid (Row wr (R + 1) 179 (nums .u32 (gotL b k))) ∧ Hid (Touch (One (R + 1)) W wr))
        case atStart => exact ⟨0, rfl, rfl, HL.out, Touch.refl _ _⟩
        case round =>
          obtain ⟨k, hkg, rfl, L, T⟩ := hrel
          cases gk with
          | zero =>
            obtain rfl : k = 4 := by omega
            have hcl : ∀ j, j < 4 → wr.cell? ⟨R + 1, j, none⟩ = some (.int .u32 (Rt.unfour (b.drop (4 + 4 * j)) : Nat)) := fun j hj => by
              rw [L.out.cell, nums_get (by rw [gotL_length (by decide)]; exact hj)]
              congr 3
              match j, hj with
              | 0, _ => rfl
              | 1, _ => rfl
              | 2, _ => rfl
              | 3, _ => rfl
            have hrc : ∀ j, j < 3 → wr.cell? ⟨R, j, none⟩ = some (.int .u32 0) ∧ wr.frozen? ⟨R, j, none⟩ = false := fun j hj => by
              have h1 := HR.out j hj
              exact ⟨T.out.cell (fun e => hLn e) h1.1, (T.out.frozen (lt_of_cell h1.1) (fun e => hLn e) j).trans h1.2⟩
            obtain ⟨e0, he0⟩ : ∃ e0, Rt.unfour (b.drop 4) = e0 := ⟨_, rfl⟩
            obtain ⟨e1, he1⟩ : ∃ e1, Rt.unfour (b.drop 8) = e1 := ⟨_, rfl⟩
            obtain ⟨e2, he2⟩ : ∃ e2, Rt.unfour (b.drop 12) = e2 := ⟨_, rfl⟩
            obtain ⟨e3, he3⟩ : ∃ e3, Rt.unfour (b.drop 16) = e3 := ⟨_, rfl⟩
            obtain ⟨sm, hsm⟩ : ∃ sm, Rt.of (b.take 16) = sm := ⟨_, rfl⟩
            have k0 : wr.cell? ⟨R + 1, 0, none⟩ = some (.int .u32 (e0 : Nat)) := by rw [← he0]; exact hcl 0 (by decide)
            have k1 : wr.cell? ⟨R + 1, 1, none⟩ = some (.int .u32 (e1 : Nat)) := by rw [← he1]; exact hcl 1 (by decide)
            have k2 : wr.cell? ⟨R + 1, 2, none⟩ = some (.int .u32 (e2 : Nat)) := by rw [← he2]; exact hcl 2 (by decide)
            have k3 : wr.cell? ⟨R + 1, 3, none⟩ = some (.int .u32 (e3 : Nat)) := by rw [← he3]; exact hcl 3 (by decide)
            have TW := Lib.hid (HT.out.then T.out (fun i hi e => by
              have h2 : i = R + 1 := e
              have h3 := HRR.out
              omega))
            have h16 : Hid ((b.take 16).length = 16) := by show _ = _; rw [List.length_take, Hb.out]; rfl
            have Hr16 : Hid (Rd wr (some ⟨g, o, none⟩) (nums .u8 (b.take 16))) := by
              have := (Hr.out.no TW.out).take 16
              show Rd _ _ _
              rw [nums, List.map_take]; exact this
            have CO := Lib.hid (of_any wr.drew (some ⟨g, o, none⟩) 16 c (b.take 16) h16.out (by decide) (Hr16.out.no (Touch.refl No wr).drew) (fun x hx => Hlt.out x (List.mem_of_mem_take hx)))
            have HE : Hid ((if sm = e3 then 0 else 11) = Rt.errOf b) := by
              show _ = _
              have hp : b.length = 64 ∧ b.take 4 = Rt.mark ∧ Rt.nought (b.drop 20) = true := ⟨Hb.out, Hmk.out, Hno.out⟩
              rw [Rt.errOf, if_pos hp, hsm, unfour_take, he3]
            have HRo : Hid (Rt.rootOf b = if Rt.errOf b = 0 then ⟨e0, e1, e2⟩ else ⟨0, 0, 0⟩) := by
              show _ = _
              rw [Rt.rootOf, unfour_take, unfour_take, unfour_take, he0, he1, he2]
            have Hkeep : Hid (∀ wx, Touch No wr.drew wx → wx.cell? ⟨R + 1, 0, none⟩ = some (.int .u32 (e0 : Nat)) ∧ wx.cell? ⟨R + 1, 1, none⟩ = some (.int .u32 (e1 : Nat)) ∧ wx.cell? ⟨R + 1, 2, none⟩ = some (.int .u32 (e2 : Nat)) ∧ wx.cell? ⟨R + 1, 3, none⟩ = some (.int .u32 (e3 : Nat))) := fun wx t => ⟨t.cell (id : No _ → False) k0, t.cell (id : No _ → False) k1, t.cell (id : No _ → False) k2, t.cell (id : No _ → False) k3⟩
            have Hroot : Hid (∀ wx, Touch No wr.drew wx → ∀ j, j < 3 → wx.cell? ⟨R, j, none⟩ = some (.int .u32 0) ∧ wx.frozen? ⟨R, j, none⟩ = false) := fun wx t j hj => by
              have h1 := hrc j hj
              exact ⟨t.cell (id : No _ → False) h1.1, (t.frozen (lt_of_cell (w := wr.drew) h1.1) id j).trans h1.2⟩
            have kk : wr.drew.cell? ⟨R + 1, 3, none⟩ = some (.int .u32 (e3 : Nat)) := k3
            rw [hsm] at CO
            clear hcl hrc he0 he1 he2 he3 hsm k0 k1 k2 L T HR HL
            by_cases heq : sm = e3
            · subst heq
              have HE0 : Hid (Rt.errOf b = 0) := by show _ = _; rw [← HE.out, if_pos rfl]
              go_wp2_with fail
              go_region_held3 (fun w' => w'.cell? ⟨R + 1, 3, none⟩ = some (.int .u32 (sm : Nat))) (first | exact k3 | exact kk | exact (Hkeep.out _ t9).2.2.2) ((go_at_call 158; refine (CO.out).mono ?_; rintro e w9 ⟨rfl, t9⟩))
              have q := Hkeep.out _ t9
              have q0 := q.1
              have q1 := q.2.1
              have q2 := q.2.2.1
              have r0 := (Hroot.out _ t9 0 (by decide)).1
              have r1 := (Hroot.out _ t9 1 (by decide)).1
              have r2 := (Hroot.out _ t9 2 (by decide)).1
              have s0 := (Hroot.out _ t9 0 (by decide)).2
              have s1 := (Hroot.out _ t9 1 (by decide)).2
              have s2 := (Hroot.out _ t9 2 (by decide)).2
              have T9 := Lib.hid t9
              clear q t9 k3 kk
              go_wp2
              have Fin : Rt.rootOf b = ⟨e0, e1, e2⟩ ∧ Rt.errOf b = 0 := ⟨by rw [HRo.out, if_pos HE0.out], HE0.out⟩
              rw [Fin.1, Fin.2]
              have tf : ∀ v0 v1 v2 : Value, Touch No w (((w9.setCell ⟨R, 0, none⟩ v0).setCell ⟨R, 1, none⟩ v1).setCell ⟨R, 2, none⟩ v2) := fun v0 v1 v2 => by
                have hn : ∀ o' : Nat, (⟨R, o', none⟩ : Addr).block < w.heap.size → No (⟨R, o', none⟩ : Addr).block := fun o' h => absurd (show R < w.heap.size from h) (by have := HRR.out; omega)
                exact ((((TW.out.drew).trans T9.out).setCell (p := ⟨R, 0, none⟩) (hn 0) v0).setCell (p := ⟨R, 1, none⟩) (hn 1) v1).setCell (p := ⟨R, 2, none⟩) (hn 2) v2
              exact bodyPost_ret (v := .tuple #[.agg #[.int .u32 (e0 : Nat), .int .u32 (e1 : Nat), .int .u32 (e2 : Nat)], .int .i64 0]) (by simp [results, Tryz.results65, go_sem, r0, r1, r2]) rfl ⟨rfl, tf _ _ _⟩
            · have HE1 : Hid (Rt.errOf b = 11) := by show _ = _; rw [← HE.out, if_neg heq]
              have hneq : ((sm : Int) != (e3 : Int)) = true := by simp; omega
              clear heq
              go_wp2_with fail
              go_region_held3 (fun w' => w'.cell? ⟨R + 1, 3, none⟩ = some (.int .u32 (e3 : Nat))) (first | exact k3 | exact kk | exact (Hkeep.out _ t9).2.2.2) ((go_at_call 158; refine (CO.out).mono ?_; rintro e w9 ⟨rfl, t9⟩))
              have r0 := (Hroot.out _ t9 0 (by decide)).1
              have r1 := (Hroot.out _ t9 1 (by decide)).1
              have r2 := (Hroot.out _ t9 2 (by decide)).1
              have s0 := (Hroot.out _ t9 0 (by decide)).2
              have s1 := (Hroot.out _ t9 1 (by decide)).2
              have s2 := (Hroot.out _ t9 2 (by decide)).2
              have T9 := Lib.hid t9
              clear t9 k3 kk
              go_wp2
              have Fin : Rt.rootOf b = ⟨0, 0, 0⟩ ∧ Rt.errOf b = 11 := ⟨by rw [HRo.out, if_neg (by rw [HE1.out]; decide)], HE1.out⟩
              rw [Fin.1, Fin.2]
              have tf : ∀ v0 v1 v2 : Value, Touch No w (((w9.setCell ⟨R, 0, none⟩ v0).setCell ⟨R, 1, none⟩ v1).setCell ⟨R, 2, none⟩ v2) := fun v0 v1 v2 => by
                have hn : ∀ o' : Nat, (⟨R, o', none⟩ : Addr).block < w.heap.size → No (⟨R, o', none⟩ : Addr).block := fun o' h => absurd (show R < w.heap.size from h) (by have := HRR.out; omega)
                exact ((((TW.out.drew).trans T9.out).setCell (p := ⟨R, 0, none⟩) (hn 0) v0).setCell (p := ⟨R, 1, none⟩) (hn 1) v1).setCell (p := ⟨R, 2, none⟩) (hn 2) v2
              exact bodyPost_ret (v := .tuple #[.agg #[.int .u32 0, .int .u32 0, .int .u32 0], .int .i64 11]) (by simp [results, Tryz.results65, go_sem, r0, r1, r2]) rfl ⟨rfl, tf _ _ _⟩
          | succ g' =>
          have hk : k = 0 ∨ k = 1 ∨ k = 2 ∨ k = 3 := by omega
          have hc4 : ¬ c = 4 ∧ ¬ c = 8 ∧ ¬ c = 12 ∧ ¬ c = 16 := by omega
          obtain ⟨hc4a, hc4b, hc4c, hc4d⟩ := hc4
          rcases hk with rfl | rfl | rfl | rfl
          · have rk : Hid (Rd wr (some ⟨g, o + 4, none⟩) (nums .u8 (b.drop 4))) := by
              have := ((Hr.out.no HT.out).touch T.out (fun b' o' e' hlt' e2 => by
                cases e'
                have h1 := hgw.out
                have h2 : g = R + 1 := e2
                have h3 := HRR.out
                omega)).cut (cap := c) (l := 4) (by rw [nums_length, Hb.out]; exact hc)
              rw [cutAddr, if_neg (by omega), Option.map_some, add_off' g o 4 (by decide)] at this
              show Rd _ _ _
              rw [nums, List.map_drop]; exact this
            have lk : Hid ((b.drop 4).length = 60) := by show _ = _; rw [List.length_drop, Hb.out]
            have hcell : wr.cell? ⟨R + 1, 0, none⟩ = some (.int .u32 (((gotL b 0).getD 0 0 : Nat) : Int)) := by
              rw [L.out.cell]; exact nums_get (by rw [gotL_length (by decide)]; decide)
            have hsoft := L.out.soft 0
            obtain ⟨v, hv⟩ : ∃ v, Rt.unfour (b.drop 4) = v := ⟨_, rfl⟩
            have hrn := L.out.setCell 0 (.int .u32 (v : Nat))
            rw [← hv, gotL_next (k := 0) (by decide)] at hrn
            have Hrn := Lib.hid hrn
            have Hv := Lib.hid hv
            have Hce := Lib.hid hcell
            have Hso := Lib.hid hsoft
            clear hrn hv hcell hsoft
            go_wp2_with fail
            refine (getFour_ok wr _ 60 (c - 4) (b.drop 4) v lk.out (by decide) (by decide) rk.out (fun x hx => Hlt.out x (List.mem_of_mem_drop hx)) Hv.out).mono ?_
            rintro e w3 ⟨rfl, t3⟩
            have c3 := t3.cell (id : No (R + 1) → False) Hce.out
            have f3 := (t3.frozen (lt_of_cell Hce.out) id 0).trans Hso.out
            have TT := Lib.hid ((T.out.then t3 (fun _ _ f => f.elim)).setCell (p := ⟨R + 1, 0, none⟩) (fun _ => rfl) (.int .u32 (v : Nat)))
            have LL : Hid (Row (w3.setCell ⟨R + 1, 0, none⟩ (.int .u32 (v : Nat))) (R + 1) 179 (nums .u32 (gotL b (0 + 1)))) := by
              have h1 := (L.out.touch t3 id).setCell 0 (.int .u32 (v : Nat))
              show Row _ _ _ _
              rw [← gotL_next (k := 0) (by decide), Hv.out]; exact h1
            clear t3
            go_wp2
            go_roundg g'
            case measure => omega
            case rel => exact ⟨0 + 1, by omega, by go_num, LL.out, TT.out⟩
          · have rk : Hid (Rd wr (some ⟨g, o + 8, none⟩) (nums .u8 (b.drop 8))) := by
              have := ((Hr.out.no HT.out).touch T.out (fun b' o' e' hlt' e2 => by
                cases e'
                have h1 := hgw.out
                have h2 : g = R + 1 := e2
                have h3 := HRR.out
                omega)).cut (cap := c) (l := 8) (by rw [nums_length, Hb.out]; exact hc)
              rw [cutAddr, if_neg (by omega), Option.map_some, add_off' g o 8 (by decide)] at this
              show Rd _ _ _
              rw [nums, List.map_drop]; exact this
            have lk : Hid ((b.drop 8).length = 56) := by show _ = _; rw [List.length_drop, Hb.out]
            have hcell : wr.cell? ⟨R + 1, 1, none⟩ = some (.int .u32 (((gotL b 1).getD 1 0 : Nat) : Int)) := by
              rw [L.out.cell]; exact nums_get (by rw [gotL_length (by decide)]; decide)
            have hsoft := L.out.soft 1
            obtain ⟨v, hv⟩ : ∃ v, Rt.unfour (b.drop 8) = v := ⟨_, rfl⟩
            have hrn := L.out.setCell 1 (.int .u32 (v : Nat))
            rw [← hv, gotL_next (k := 1) (by decide)] at hrn
            have Hrn := Lib.hid hrn
            have Hv := Lib.hid hv
            have Hce := Lib.hid hcell
            have Hso := Lib.hid hsoft
            clear hrn hv hcell hsoft
            go_wp2_with fail
            refine (getFour_ok wr _ 56 (c - 8) (b.drop 8) v lk.out (by decide) (by decide) rk.out (fun x hx => Hlt.out x (List.mem_of_mem_drop hx)) Hv.out).mono ?_
            rintro e w3 ⟨rfl, t3⟩
            have c3 := t3.cell (id : No (R + 1) → False) Hce.out
            have f3 := (t3.frozen (lt_of_cell Hce.out) id 1).trans Hso.out
            have TT := Lib.hid ((T.out.then t3 (fun _ _ f => f.elim)).setCell (p := ⟨R + 1, 1, none⟩) (fun _ => rfl) (.int .u32 (v : Nat)))
            have LL : Hid (Row (w3.setCell ⟨R + 1, 1, none⟩ (.int .u32 (v : Nat))) (R + 1) 179 (nums .u32 (gotL b (1 + 1)))) := by
              have h1 := (L.out.touch t3 id).setCell 1 (.int .u32 (v : Nat))
              show Row _ _ _ _
              rw [← gotL_next (k := 1) (by decide), Hv.out]; exact h1
            clear t3
            go_wp2
            go_roundg g'
            case measure => omega
            case rel => exact ⟨1 + 1, by omega, by go_num, LL.out, TT.out⟩
          · have rk : Hid (Rd wr (some ⟨g, o + 12, none⟩) (nums .u8 (b.drop 12))) := by
              have := ((Hr.out.no HT.out).touch T.out (fun b' o' e' hlt' e2 => by
                cases e'
                have h1 := hgw.out
                have h2 : g = R + 1 := e2
                have h3 := HRR.out
                omega)).cut (cap := c) (l := 12) (by rw [nums_length, Hb.out]; exact hc)
              rw [cutAddr, if_neg (by omega), Option.map_some, add_off' g o 12 (by decide)] at this
              show Rd _ _ _
              rw [nums, List.map_drop]; exact this
            have lk : Hid ((b.drop 12).length = 52) := by show _ = _; rw [List.length_drop, Hb.out]
            have hcell : wr.cell? ⟨R + 1, 2, none⟩ = some (.int .u32 (((gotL b 2).getD 2 0 : Nat) : Int)) := by
              rw [L.out.cell]; exact nums_get (by rw [gotL_length (by decide)]; decide)
            have hsoft := L.out.soft 2
            obtain ⟨v, hv⟩ : ∃ v, Rt.unfour (b.drop 12) = v := ⟨_, rfl⟩
            have hrn := L.out.setCell 2 (.int .u32 (v : Nat))
            rw [← hv, gotL_next (k := 2) (by decide)] at hrn
            have Hrn := Lib.hid hrn
            have Hv := Lib.hid hv
            have Hce := Lib.hid hcell
            have Hso := Lib.hid hsoft
            clear hrn hv hcell hsoft
            go_wp2_with fail
            refine (getFour_ok wr _ 52 (c - 12) (b.drop 12) v lk.out (by decide) (by decide) rk.out (fun x hx => Hlt.out x (List.mem_of_mem_drop hx)) Hv.out).mono ?_
            rintro e w3 ⟨rfl, t3⟩
            have c3 := t3.cell (id : No (R + 1) → False) Hce.out
            have f3 := (t3.frozen (lt_of_cell Hce.out) id 2).trans Hso.out
            have TT := Lib.hid ((T.out.then t3 (fun _ _ f => f.elim)).setCell (p := ⟨R + 1, 2, none⟩) (fun _ => rfl) (.int .u32 (v : Nat)))
            have LL : Hid (Row (w3.setCell ⟨R + 1, 2, none⟩ (.int .u32 (v : Nat))) (R + 1) 179 (nums .u32 (gotL b (2 + 1)))) := by
              have h1 := (L.out.touch t3 id).setCell 2 (.int .u32 (v : Nat))
              show Row _ _ _ _
              rw [← gotL_next (k := 2) (by decide), Hv.out]; exact h1
            clear t3
            go_wp2
            go_roundg g'
            case measure => omega
            case rel => exact ⟨2 + 1, by omega, by go_num, LL.out, TT.out⟩
          · have rk : Hid (Rd wr (some ⟨g, o + 16, none⟩) (nums .u8 (b.drop 16))) := by
              have := ((Hr.out.no HT.out).touch T.out (fun b' o' e' hlt' e2 => by
                cases e'
                have h1 := hgw.out
                have h2 : g = R + 1 := e2
                have h3 := HRR.out
                omega)).cut (cap := c) (l := 16) (by rw [nums_length, Hb.out]; exact hc)
              rw [cutAddr, if_neg (by omega), Option.map_some, add_off' g o 16 (by decide)] at this
              show Rd _ _ _
              rw [nums, List.map_drop]; exact this
            have lk : Hid ((b.drop 16).length = 48) := by show _ = _; rw [List.length_drop, Hb.out]
            have hcell : wr.cell? ⟨R + 1, 3, none⟩ = some (.int .u32 (((gotL b 3).getD 3 0 : Nat) : Int)) := by
              rw [L.out.cell]; exact nums_get (by rw [gotL_length (by decide)]; decide)
            have hsoft := L.out.soft 3
            obtain ⟨v, hv⟩ : ∃ v, Rt.unfour (b.drop 16) = v := ⟨_, rfl⟩
            have hrn := L.out.setCell 3 (.int .u32 (v : Nat))
            rw [← hv, gotL_next (k := 3) (by decide)] at hrn
            have Hrn := Lib.hid hrn
            have Hv := Lib.hid hv
            have Hce := Lib.hid hcell
            have Hso := Lib.hid hsoft
            clear hrn hv hcell hsoft
            go_wp2_with fail
            refine (getFour_ok wr _ 48 (c - 16) (b.drop 16) v lk.out (by decide) (by decide) rk.out (fun x hx => Hlt.out x (List.mem_of_mem_drop hx)) Hv.out).mono ?_
            rintro e w3 ⟨rfl, t3⟩
            have c3 := t3.cell (id : No (R + 1) → False) Hce.out
            have f3 := (t3.frozen (lt_of_cell Hce.out) id 3).trans Hso.out
            have TT := Lib.hid ((T.out.then t3 (fun _ _ f => f.elim)).setCell (p := ⟨R + 1, 3, none⟩) (fun _ => rfl) (.int .u32 (v : Nat)))
            have LL : Hid (Row (w3.setCell ⟨R + 1, 3, none⟩ (.int .u32 (v : Nat))) (R + 1) 179 (nums .u32 (gotL b (3 + 1)))) := by
              have h1 := (L.out.touch t3 id).setCell 3 (.int .u32 (v : Nat))
              show Row _ _ _ _
              rw [← gotL_next (k := 3) (by decide), Hv.out]; exact h1
            clear t3
            go_wp2
            go_roundg g'
            case measure => omega
            case rel => exact ⟨3 + 1, by omega, by go_num, LL.out, TT.out⟩
    · have hF := Form.out (fun h => hmk h.2.1)
      rw [hF.1, hF.2]
      have hne : ¬ S.toList = [82, 79, 79, 84] := fun h => hmk (HSo.out.1 (by
        rw [Go.ByteArray.toList_eq] at h
        cases S with
        | mk d => cases d; simp at h; rw [h]))
      clear hF hb hr hlt HSo hmk
      go_enter Tryz.func65, Tryz.ntmps65
      go_wp2_with fail
      exact bodyPost_ret (v := .tuple #[.agg #[.int .u32 0, .int .u32 0, .int .u32 0], .int .i64 4]) (by simp [results, Tryz.results65, go_sem]) rfl ⟨rfl, (Touch.refl No w).alloc _⟩
  · have hne : ((n : Int) != 64) = true := by simp; omega
    have hF := Form.out (fun h => h64 (by rw [← Hb.out]; exact h.1))
    rw [hF.1, hF.2]
    clear hF h64 hb hr hlt
    go_enter Tryz.func65, Tryz.ntmps65
    go_wp2
    exact bodyPost_ret (v := .tuple #[.agg #[.int .u32 0, .int .u32 0, .int .u32 0], .int .i64 4]) (by simp [results, Tryz.results65, go_sem]) rfl ⟨rfl, (Touch.refl No w).alloc _⟩
end Go.Proofs.YtmjeigceclmdoaaGreatDoor
namespace Go.Proofs.YtmjeigceclmdoaaGreatDoor
open Go Go.RowKit
set_option linter.unusedSimpArgs false

namespace Rt
theorem half1_xor (a b : Nat) : half1 (a ^^^ b) = half1 a ^^^ half1 b := by
  have hd : (a ^^^ b) / 2 = a / 2 ^^^ b / 2 := by
    have := Nat.shiftRight_xor_distrib (a := a) (b := b) (i := 1)
    simpa [Nat.shiftRight_eq_div_pow] using this
  have hp : (a ^^^ b) % 2 = (a + b) % 2 := by
    have h := Nat.xor_mod_two_pow (a := a) (b := b) (n := 1)
    rw [Nat.pow_one] at h
    rw [h]
    rcases Nat.mod_two_eq_zero_or_one a with ha | ha <;> rcases Nat.mod_two_eq_zero_or_one b with hb | hb <;> rw [ha, hb]
    · show 0 = _; omega
    · show 1 = _; omega
    · show 1 = _; omega
    · show 0 = _; omega
  unfold half1
  by_cases h1 : a % 2 = 1
  · by_cases h2 : b % 2 = 1
    · rw [if_neg (by omega), if_pos h1, if_pos h2, hd]
      rw [Nat.xor_assoc, Nat.xor_comm 3988292384 (b / 2 ^^^ 3988292384), Nat.xor_assoc, Nat.xor_self, Nat.xor_zero]
    · rw [if_pos (by omega), if_pos h1, if_neg h2, hd]
      rw [Nat.xor_assoc, Nat.xor_assoc, Nat.xor_comm (b / 2)]
  · by_cases h2 : b % 2 = 1
    · rw [if_pos (by omega), if_neg h1, if_pos h2, hd, Nat.xor_assoc]
    · rw [if_neg (by omega), if_neg h1, if_neg h2, hd]
theorem halves_xor : ∀ (k a b : Nat), halves k (a ^^^ b) = halves k a ^^^ halves k b
  | 0, _, _ => rfl
  | k + 1, a, b => by rw [halves, half1_xor, halves_xor k]; rfl
theorem half1_even (m : Nat) : half1 (2 * m) = m := by unfold half1; rw [if_neg (by omega)]; omega
theorem halves_pow : ∀ (k m : Nat), halves k (2 ^ k * m) = m
  | 0, m => by simp [halves]
  | k + 1, m => by rw [halves, Nat.pow_succ, Nat.mul_comm (2 ^ k) 2, Nat.mul_assoc, half1_even, halves_pow k]
theorem low_high (r : Nat) : r = (r % 256) ^^^ (2 ^ 8 * (r / 256)) := by
  apply Nat.eq_of_testBit_eq
  intro i
  rw [Nat.testBit_xor, show (256 : Nat) = 2 ^ 8 from rfl, Nat.testBit_mod_two_pow, Nat.testBit_two_pow_mul]
  by_cases h : i < 8
  · simp [h, Nat.not_le.2 h]
  · have h8 : 8 ≤ i := by omega
    simp only [h, h8, decide_true, decide_false, Bool.false_and, Bool.true_and, Bool.false_xor]
    rw [Nat.testBit_div_two_pow, show i - 8 + 8 = i by omega]
theorem step_halves (r c : Nat) : halves 8 (r ^^^ c) = step r c := by
  have h : r ^^^ c = (r % 256 ^^^ c) ^^^ (2 ^ 8 * (r / 256)) := by
    have := low_high r
    calc r ^^^ c = ((r % 256) ^^^ (2 ^ 8 * (r / 256))) ^^^ c := by rw [← this]
      _ = _ := by rw [Nat.xor_assoc, Nat.xor_comm (2 ^ 8 * (r / 256)) c, Nat.xor_assoc]
  rw [h, halves_xor, halves_pow]; rfl
end Rt

set_option maxRecDepth 100000 in
set_option maxHeartbeats 4000000 in
theorem refOn_any (w : World) (sum : Nat) (hs : sum < 4294967296) (a : Option Addr) (n c : Nat) (b : List Nat) (hb : b.length = n) (hmax : (n : Int) ≤ 9223372036854775807) (hr : Rd w a (nums .u8 b)) (hlt : ∀ x ∈ b, x < 256) :
    Calls Tryz.prog 207 #[.int .u32 (sum : Nat), .slice a n c] w fun e w' => e = .returned (.int .u32 (Rt.on sum b : Nat)) ∧ w = w' := by
  have Hb := Lib.hid hb
  have Hr := Lib.hid hr
  have Hlt := Lib.hid hlt
  have hneg := xor_neg hs
  obtain ⟨ns, hns⟩ : ∃ ns, ns = Rt.neg sum := ⟨_, rfl⟩
  rw [← hns] at hneg
  have hn32 : ns < 4294967296 := by rw [hns]; exact Rt.neg_lt _
  have Hns := Lib.hid hns
  clear hns hb hr hlt
  go_enter Tryz.func207, Tryz.ntmps207
  go_wp2
  go_loopg [5, 6] n (fun g s5 s6 wr => ∃ (k r : Nat), k + g = n ∧ s6 = .int .i64 ((k : Nat) : Int) ∧ s5 = .int .u32 ((r : Nat) : Int) ∧ r < 4294967296 ∧ Hid (r = Rt.run ns (b.take k)) ∧ Hid (wr = w))
  case atStart => exact ⟨0, ns, by omega, rfl, rfl, hn32, rfl, rfl⟩
  case round =>
    obtain ⟨k, r, hkg, rfl, rfl, hr32, hr, hwr⟩ := hrel
    have hww : w = wr := hwr.out.symm
    clear hwr
    subst hww
    cases gk with
    | zero =>
      obtain rfl : k = n := by omega
      have hx := xor_neg hr32
      have hfin : Hid (Rt.neg r = Rt.on sum b) := by
        show _ = _
        rw [hr.out, Hns.out, List.take_of_length_le (by rw [Hb.out]; exact Nat.le_refl _)]; rfl
      obtain ⟨q, hq⟩ : ∃ q, Rt.neg r = q := ⟨_, rfl⟩
      rw [hq] at hx hfin
      clear hq hneg
      go_wp2
      go_ret
      exact ⟨by rw [← hfin.out]; rfl, rfl⟩
    | succ g =>
      have hlt : (k : Int) < (n : Nat) := by omega
      have hkb : k < b.length := by rw [Hb.out]; omega
      obtain ⟨gb, ob, rfl, hcb⟩ := Hr.out.num hkb
      have hc256 := Hlt.out (b.getD k 0) (by rw [List.getD_eq_getElem?_getD, List.getElem?_eq_getElem hkb]; exact List.getElem_mem hkb)
      have hnext : Hid (Rt.run ns (b.take (k + 1)) = Rt.step r (b.getD k 0)) := by
        show _ = _
        rw [List.take_succ_eq_append_getElem hkb, Rt.run_append, ← hr.out, List.getD_eq_getElem?_getD, List.getElem?_eq_getElem hkb]; rfl
      obtain ⟨x, hx⟩ : ∃ x, b.getD k 0 = x := ⟨_, rfl⟩
      rw [hx] at hcb hc256 hnext
      have hxx := u32_xor_nat r x hr32 (by omega)
      obtain ⟨z, hz⟩ : ∃ z, r ^^^ x = z := ⟨_, rfl⟩
      have hz32 : z < 4294967296 := by rw [← hz]; exact Nat.xor_lt_two_pow (n := 32) (by omega) (by omega)
      have Hz : Hid (Rt.halves 8 z = Rt.run ns (b.take (k + 1))) := by
        show _ = _
        rw [hnext.out, ← hz, Rt.step_halves]
      rw [hz] at hxx
      clear hx hkb hnext hz hneg
      go_wp2
      clear hxx hcb
      obtain ⟨wo, rfl⟩ : ∃ wo : World, wo = w := ⟨_, rfl⟩
      go_loopg [5, 7, 8] 8 (fun g' s5 s7 s8 wr => ∃ (i y : Nat), i + g' = 8 ∧ s7 = .int .i64 ((i : Nat) : Int) ∧ s5 = .int .u32 ((y : Nat) : Int) ∧ y < 4294967296 ∧ Hid (y = Rt.halves i z) ∧ Hid (wr = wo))
      case atStart => exact ⟨0, z, by omega, rfl, rfl, hz32, rfl, rfl⟩
      case round =>
        obtain ⟨i, y, hig, rfl, rfl, hy32, hy, hwr⟩ := hrel
        have hww : wo = wr := hwr.out.symm
        clear hwr
        subst hww
        cases gk with
        | zero =>
          obtain rfl : i = 8 := by omega
          have HN : Hid (y = Rt.run ns (b.take (k + 1))) := by show _ = _; rw [hy.out, Hz.out]
          go_wp2
          go_roundg g
          case measure => omega
          case rel => exact ⟨k + 1, y, by omega, by go_num, rfl, hy32, HN, rfl⟩
        | succ g' =>
          have hi8 : (i : Int) < 8 := by omega
          have hh32 := Rt.half1_lt hy32
          by_cases hp : y % 2 = 1
          · obtain ⟨q1, q2⟩ := half_one hy32 hp
            have HN : Hid (Rt.half1 y = Rt.halves (i + 1) z) := by show _ = _; rw [Rt.halves_succ, ← hy.out]
            obtain ⟨y', hy'⟩ : ∃ y', Rt.half1 y = y' := ⟨_, rfl⟩
            rw [hy'] at q2 HN hh32
            clear hp hy' hy
            go_wp2
            go_roundg g'
            case measure => omega
            case rel => exact ⟨i + 1, y', by omega, by go_num, rfl, hh32, HN, rfl⟩
          · obtain ⟨q1, _⟩ := half_nil hy32 (by omega)
            have HN : Hid (y / 2 = Rt.halves (i + 1) z) := by show _ = _; rw [Rt.halves_succ, ← hy.out, Rt.half1, if_neg hp]
            clear hp hy
            go_wp2
            go_roundg g'
            case measure => omega
            case rel => exact ⟨i + 1, y / 2, by omega, by go_num, by go_num, by omega, HN, rfl⟩
theorem refOf_any (w : World) (a : Option Addr) (n c : Nat) (b : List Nat) (hb : b.length = n) (hmax : (n : Int) ≤ 9223372036854775807) (hr : Rd w a (nums .u8 b)) (hlt : ∀ x ∈ b, x < 256) :
    Calls Tryz.prog 160 #[.slice a n c] w fun e w' => e = .returned (.int .u32 (Rt.of b : Nat)) ∧ w = w' := by
  have Hc := Lib.hid (refOn_any w 0 (by decide) a n c b hb hmax hr hlt)
  have hv : Hid (Rt.on 0 b = Rt.of b) := rfl
  clear hb hr hlt
  go_enter Tryz.func160, Tryz.ntmps160
  go_wp2_with fail
  refine Hc.out.mono ?_
  rintro e w2 ⟨rfl, rfl⟩
  rw [hv.out]
  go_wp2
  go_ret
  exact ⟨rfl, rfl⟩
end Go.Proofs.YtmjeigceclmdoaaGreatDoor
namespace Go.Proofs.YtmjeigceclmdoaaGreatDoor
open Go Go.RowKit
set_option linter.unusedSimpArgs false

set_option maxHeartbeats 1000000 in
theorem refNoughts_any (w : World) (a : Option Addr) (n c : Nat) (b : List Nat) (hb : b.length = n) (hmax : (n : Int) ≤ 9223372036854775807) (hr : Rd w a (nums .u8 b)) :
    Calls Tryz.prog 159 #[.slice a n c] w fun e w' => e = .returned (.bool (Rt.nought b)) ∧ w = w' := by
  have Hb := Lib.hid hb
  have Hr := Lib.hid hr
  clear hb hr
  go_enter Tryz.func159, Tryz.ntmps159
  go_wp2
  go_loopg [3] n (fun g s3 wr => ∃ k : Nat, k + g = n ∧ s3 = .int .i64 ((k : Nat) : Int) ∧ Hid (Rt.nought (b.take k) = true) ∧ Hid (wr = w))
  case atStart => exact ⟨0, by omega, rfl, rfl, rfl⟩
  case round =>
    obtain ⟨k, hkg, rfl, Hn, hwr⟩ := hrel
    have hww : w = wr := hwr.out.symm
    clear hwr
    subst hww
    cases gk with
    | zero =>
      obtain rfl : k = n := by omega
      have hf : Hid (Rt.nought b = true) := by
        have := Hn.out
        rwa [List.take_of_length_le (by rw [Hb.out]; exact Nat.le_refl _)] at this
      go_wp2
      go_ret
      exact ⟨ret_bool hf.out.symm, rfl⟩
    | succ g =>
      have hlt : (k : Int) < (n : Nat) := by omega
      have hkb : k < b.length := by rw [Hb.out]; omega
      obtain ⟨gb, ob, rfl, hcb⟩ := Hr.out.num hkb
      have hge : b.getD k 0 = b[k] := by rw [List.getD_eq_getElem?_getD, List.getElem?_eq_getElem hkb]; rfl
      have hnext : Hid (b.getD k 0 = 0 → Rt.nought (b.take (k + 1)) = true) := fun h0 => by
        rw [List.take_succ_eq_append_getElem hkb, Rt.nought, List.all_append]
        have := Hn.out
        rw [Rt.nought] at this
        rw [this, ← hge, h0]; rfl
      have hnot : Hid (b.getD k 0 ≠ 0 → Rt.nought b = false) := fun h0 => by
        rw [Rt.nought, List.all_eq_false]
        exact ⟨b[k], List.getElem_mem hkb, by rw [← hge]; simpa using h0⟩
      obtain ⟨x, hx⟩ : ∃ x, b.getD k 0 = x := ⟨_, rfl⟩
      rw [hx] at hcb hnext hnot
      clear hx hkb hge
      by_cases h0 : x = 0
      · subst h0
        go_wp2
        go_roundg g
        case measure => omega
        case rel => exact ⟨k + 1, by omega, by go_num, hnext.out (by first | rfl | trivial), rfl⟩
      · have hne : ((x : Int) != 0) = true := by simp; omega
        have H0 := Lib.hid h0
        clear h0
        go_wp2
        go_ret
        exact ⟨ret_bool (hnot.out H0.out).symm, rfl⟩

set_option maxRecDepth 100000 in
set_option maxHeartbeats 4000000 in
theorem refRootPut_any (w : World) (r : Rt.Root) (hr : r.Ok) :
    Calls Tryz.prog 68 #[.agg #[.int .u32 (r.epoch : Nat), .int .u32 (r.first : Nat), .int .u32 (r.bytes : Nat)]] w (PutPost w (Rt.put r) 64) := by
  obtain ⟨I, hi0, hi1, hi2, hi3⟩ := u8_info
  have Hi := Lib.hid (And.intro hi0 (And.intro hi1 (And.intro hi2 hi3)))
  obtain ⟨xe, xf, xb⟩ := r
  have h1 : xe < 4294967296 := hr.epoch
  have h2 : xf < 4294967296 := hr.first
  have h3 : xb < 4294967296 := hr.bytes
  clear hr hi0 hi1 hi2 hi3
  have hcv : (convert 22 22 (.slice (some ⟨w.heap.size + 1, 0, none⟩) 4 4)).run Tryz.prog ((w.alloc (.cells #[.int .u32 (xe : Nat), .int .u32 (xf : Nat), .int .u32 (xb : Nat)] 101)).alloc (.cells #[.int .u8 82, .int .u8 79, .int .u8 79, .int .u8 84] 5)) = .ok (.slice (some ⟨w.heap.size + 1, 0, none⟩) 4 4) ((w.alloc (.cells #[.int .u32 (xe : Nat), .int .u32 (xf : Nat), .int .u32 (xb : Nat)] 101)).alloc (.cells #[.int .u8 82, .int .u8 79, .int .u8 79, .int .u8 84] 5 (4, 5))) :=
    Go.Joins.run_convert_bytes_const_at _ 22 5 #[.int .u8 82, .int .u8 79, .int .u8 79, .int .u8 84] 4 4 (w.heap.size + 1) (by simp) Tryz.underlying22 Tryz.underlying5
  go_enter Tryz.func68, Tryz.ntmps68
  go_wp2_with fail
  clear hcv
  obtain ⟨W1, hW1⟩ : ∃ W1, W1 = (w.alloc (.cells #[.int .u32 (xe : Nat), .int .u32 (xf : Nat), .int .u32 (xb : Nat)] 101)).alloc (.cells #[.int .u8 82, .int .u8 79, .int .u8 79, .int .u8 84] 5 (4, 5)) := ⟨_, rfl⟩
  obtain ⟨B, hB⟩ : ∃ B, B = w.heap.size := ⟨_, rfl⟩
  have tW : Touch No w W1 := by rw [hW1]; exact ((Touch.refl No w).alloc _).alloc _
  have rM : Rd W1 (some ⟨B + 1, 0, none⟩) (nums .u8 Rt.mark) := by
    have := rd_new (w.alloc (.cells #[.int .u32 (xe : Nat), .int .u32 (xf : Nat), .int .u32 (xb : Nat)] 101)) 5 #[.int .u8 82, .int .u8 79, .int .u8 79, .int .u8 84] (4, 5)
    rw [size_alloc, ← hW1, ← hB] at this
    exact this
  have hK : ∀ wx, Touch No W1 wx → wx.cell? ⟨B, 0, none⟩ = some (.int .u32 (xe : Nat)) ∧ wx.cell? ⟨B, 1, none⟩ = some (.int .u32 (xf : Nat)) ∧ wx.cell? ⟨B, 2, none⟩ = some (.int .u32 (xb : Nat)) := fun wx t => by
    have hrow : Row W1 B 101 [.int .u32 (xe : Nat), .int .u32 (xf : Nat), .int .u32 (xb : Nat)] := by
      rw [hW1, hB]
      exact (Row.new w 101 #[.int .u32 (xe : Nat), .int .u32 (xf : Nat), .int .u32 (xb : Nat)]).touch (F := No) ((Touch.refl No _).alloc _) id
    have h := hrow.touch t id
    exact ⟨h.cell 0, h.cell 1, h.cell 2⟩
  have TW := Lib.hid tW
  have RM := Lib.hid rM
  have HK := Lib.hid hK
  have HBW : Hid (w.heap.size ≤ W1.heap.size) := tW.size
  rw [← hW1, ← hB]
  clear tW rM hK hW1 hB
  refine (refPutFour_any W1 (some ⟨B + 1, 0, none⟩) 4 4 Rt.mark rfl RM.out xe h1 (by decide) 8 rfl).mono ?_
  rintro e w1 ⟨a1, c1, rfl, o1, t1⟩
  have O1 := Lib.hid o1
  have T1 := Lib.hid t1
  clear o1 t1
  obtain ⟨_, k1, _⟩ := HK.out _ T1.out
  go_wp2_with fail
  clear k1
  refine (refPutFour_any w1 a1 8 c1 _ rfl O1.out.rd xf h2 (by decide) 12 rfl).mono ?_
  rintro e w2 ⟨a2, c2, rfl, o2, t2⟩
  have O2 := Lib.hid (o2.mono (base' := W1.heap.size) T1.out.size)
  have T2 := Lib.hid (T1.out.trans t2)
  clear o2 t2 O1 T1
  obtain ⟨_, _, k2⟩ := HK.out _ T2.out
  go_wp2_with fail
  clear k2
  refine (refPutFour_any w2 a2 12 c2 _ rfl O2.out.rd xb h3 (by decide) 16 rfl).mono ?_
  rintro e w3 ⟨a3, c3, rfl, o3, t3⟩
  have O3 : Hid (Own w3 W1.heap.size 5 (.slice a3 16 c3) (nums .u8 (Rt.head ⟨xe, xf, xb⟩))) := o3.mono (base' := W1.heap.size) T2.out.size
  have T3 := Lib.hid (T2.out.trans t3)
  clear o3 t3 O2 T2
  go_wp2_with fail
  refine (refOf_any w3 a3 16 c3 _ (Rt.head_length _) (by decide) O3.out.rd (Rt.head_lt _)).mono ?_
  rintro e w4 ⟨rfl, rfl⟩
  go_wp2_with fail
  refine (refPutFour_any w3 a3 16 c3 _ (Rt.head_length _) O3.out.rd (Rt.of (Rt.head ⟨xe, xf, xb⟩)) Rt.of_lt (by decide) 20 rfl).mono ?_
  rintro e w4 ⟨a4, c4, rfl, o4, t4⟩
  have O4 := Lib.hid (o4.mono (base' := W1.heap.size) T3.out.size)
  have T4 := Lib.hid (T3.out.trans t4)
  have hzl : Hid ((nums .u8 (Rt.head ⟨xe, xf, xb⟩ ++ Rt.four (Rt.of (Rt.head ⟨xe, xf, xb⟩)))).length = 20) := by show _ = _; rw [nums_length]; rfl
  clear o4 t4 O3 T3
  go_wp2_with (refine wpList_append_zeros rfl _ _ _ _ rfl W1.heap.size 5 I (.int .u8 0) (.int .u8 0) 1 Tryz.underlying22 Tryz.underlying3 Hi.out.1 Hi.out.2.1 Hi.out.2.2.1 Hi.out.2.2.2 rfl rfl _ _ O4.out rfl 44 rfl (by rw [hzl.out]; unfold maxLen; decide) (by rw [hzl.out]; decide) T4.out.size ?_; intro v5 w5 own5 t5; have O5 := Lib.hid own5; have T5 := Lib.hid t5; clear own5 t5)
  go_ret
  have hput : nums .u8 (Rt.head ⟨xe, xf, xb⟩ ++ Rt.four (Rt.of (Rt.head ⟨xe, xf, xb⟩))) ++ List.replicate 44 (Value.int .u8 0) = nums .u8 (Rt.put ⟨xe, xf, xb⟩) := by
    rw [Rt.put, nums_append _ _ (List.replicate 44 0)]; rfl
  have hO5 := O5.out
  rw [hput] at hO5
  obtain ⟨a5, c5, rfl, _⟩ := hO5.form' (n := 64) (by rw [nums_length]; rfl)
  exact ⟨a5, c5, rfl, hO5.mono HBW.out, TW.out.trans (T4.out.then T5.out (fun i hi e => absurd (O4.out.block e).1 (Nat.not_le.2 hi)))⟩

theorem refGetFour_ok (w : World) (a : Option Addr) (n c : Nat) (b : List Nat) (v : Nat) (hb : b.length = n) (h4 : 4 ≤ n) (hr : Rd w a (nums .u8 b)) (hlt : ∀ x ∈ b, x < 256) (hv : Rt.unfour b = v) :
    Calls Tryz.prog 25 #[.slice a n c] w fun e w' => e = .returned (.tuple #[.int .u32 (v : Nat), .int .i64 0]) ∧ w = w' := by
  subst hv
  refine (refGetFour_any w a n c b hb hr hlt).mono fun e w' ⟨he, t⟩ => ⟨?_, t⟩
  rw [if_neg (by omega), if_neg (by omega)] at he
  exact he
set_option maxRecDepth 100000 in
set_option maxHeartbeats 4000000 in
theorem refRootGet_any (w : World) (a : Option Addr) (n c : Nat) (b : List Nat) (hb : b.length = n) (hc : n ≤ c) (hr : Rd w a (nums .u8 b)) (hlt : ∀ x ∈ b, x < 256) :
    Calls Tryz.prog 66 #[.slice a n c] w (RootPost w (Rt.rootOf b) (Rt.errOf b)) := by
  have Form : Hid (¬ (b.length = 64 ∧ b.take 4 = Rt.mark ∧ Rt.nought (b.drop 20) = true) → Rt.errOf b = 4 ∧ Rt.rootOf b = ⟨0, 0, 0⟩) := fun h => by
    have h1 : Rt.errOf b = 4 := by rw [Rt.errOf, if_neg h]
    exact ⟨h1, by rw [Rt.rootOf, h1, if_neg (by decide)]⟩
  have Hb := Lib.hid hb
  have Hr := Lib.hid hr
  have Hlt := Lib.hid hlt
  by_cases h64 : n = 64
  · subst h64
    obtain ⟨g, o, rfl, _⟩ := hr.num (i := 0) (by omega)
    have Hc := Lib.hid hc
    have hc64 : (64 : Int) ≤ (c : Nat) := by omega
    have hc20 : ¬ c = 20 := by omega
    have hc16 : (16 : Int) ≤ (c : Nat) := by omega
    have hc4 : ¬ c = 4 := by omega
    have hc8 : ¬ c = 8 := by omega
    have hc12 : ¬ c = 12 := by omega
    have hc16' : ¬ c = 16 := by omega
    have r4 : Hid (Rd w (some ⟨g, o, none⟩) (nums .u8 (b.take 4))) := by
      have := hr.take 4
      show Rd _ _ _
      rw [nums, List.map_take]; exact this
    have rcut : Hid (∀ l, 0 < l → l < 64 → Rd w (some ⟨g, o + l, none⟩) (nums .u8 (b.drop l))) := fun l h0 hl => by
      have := Hr.out.cut (cap := c) (l := l) (by rw [nums_length, Hb.out]; exact Hc.out)
      rw [cutAddr, if_neg (by have := Hc.out; omega), Option.map_some, add_off' g o l (by omega)] at this
      rw [nums, List.map_drop]; exact this
    have lcut : Hid (∀ l, (b.drop l).length = 64 - l) := fun l => by rw [List.length_drop, Hb.out]
    have hcut : Hid (∀ l, ∀ x ∈ b.drop l, x < 256) := fun l x hx => Hlt.out x (List.mem_of_mem_drop hx)
    have l4 : (b.take 4).length = 4 := by rw [List.length_take]; omega
    have hm4 : ∀ x ∈ b.take 4, x < 256 := fun x hx => hlt x (List.mem_of_mem_take hx)
    have hcv : ∀ wx : World, Touch No w wx → (convert 22 9 (.slice (some ⟨g, o, none⟩) 4 c)).run Tryz.prog wx = .ok (.string (strOfNums ((b.take 4).map fun (x : Nat) => (x : Int)))) wx := fun wx t =>
      run_convert_bytes_arg wx 22 5 Tryz.underlying22 Tryz.underlying5 g o 4 c _ (by rw [List.length_map]; exact l4) (fun i hi => by
        obtain ⟨g', o', e', hcell⟩ := (r4.out.no t).num (i := i) (by omega)
        cases e'
        rw [hcell]
        congr 2
        rw [List.getD_eq_getElem?_getD, List.getD_eq_getElem?_getD, List.getElem?_map, List.getElem?_eq_getElem (show i < (b.take 4).length by omega)]; rfl) 9 Tryz.underlying9
    have Hso := str_of (b.take 4) hm4
    obtain ⟨S, hS⟩ : ∃ S, S = strOfNums ((b.take 4).map fun (x : Nat) => (x : Int)) := ⟨_, rfl⟩
    rw [← hS] at Hso hcv
    have HSo := Lib.hid Hso
    clear Hso hS hm4 l4
    have hcv1 : ∀ ob : Obj, (convert 22 9 (.slice (some ⟨g, o, none⟩) 4 c)).run Tryz.prog (w.alloc ob) = .ok (.string S) (w.alloc ob) := fun ob => hcv _ ((Touch.refl No w).alloc ob)
    clear hcv
    by_cases hmk : b.take 4 = Rt.mark
    · obtain rfl : S = ⟨#[82, 79, 79, 84]⟩ := HSo.out.2 hmk
      have Hmk := Lib.hid hmk
      clear hmk HSo
      cases hno : Rt.nought (b.drop 20) with
      | false =>
        have hF := Form.out (fun h => by rw [hno] at h; exact absurd h.2.2 (by decide))
        rw [hF.1, hF.2]
        have Hno := Lib.hid hno
        clear hF hno hb hr hlt hc
        go_enter Tryz.func66, Tryz.ntmps66
        go_wp2_with fail
        refine (refNoughts_any _ _ 44 (c - 20) _ (lcut.out 20) (by decide) ((rcut.out 20 (by decide) (by decide)).no ((Touch.refl No w).alloc _))).mono ?_
        rintro e w' ⟨rfl, rfl⟩
        rw [Hno.out]
        go_wp2
        exact bodyPost_ret (v := .tuple #[.agg #[.int .u32 0, .int .u32 0, .int .u32 0], .int .i64 4]) (by simp [results, Tryz.results66, go_sem]) rfl ⟨rfl, (Touch.refl No w).alloc _⟩
      | true =>
        have Hno := Lib.hid hno
        obtain ⟨e0, he0⟩ : ∃ e0, Rt.unfour (b.drop 4) = e0 := ⟨_, rfl⟩
        obtain ⟨e1, he1⟩ : ∃ e1, Rt.unfour (b.drop 8) = e1 := ⟨_, rfl⟩
        obtain ⟨e2, he2⟩ : ∃ e2, Rt.unfour (b.drop 12) = e2 := ⟨_, rfl⟩
        obtain ⟨e3, he3⟩ : ∃ e3, Rt.unfour (b.drop 16) = e3 := ⟨_, rfl⟩
        obtain ⟨sm, hsm⟩ : ∃ sm, Rt.of (b.take 16) = sm := ⟨_, rfl⟩
        have h16 : Hid ((b.take 16).length = 16) := by show _ = _; rw [List.length_take, Hb.out]; rfl
        have Hr16 : Hid (Rd w (some ⟨g, o, none⟩) (nums .u8 (b.take 16))) := by
          have := Hr.out.take 16
          show Rd _ _ _
          rw [nums, List.map_take]; exact this
        have HE : Hid ((if sm = e3 then 0 else 11) = Rt.errOf b) := by
          show _ = _
          have hp : b.length = 64 ∧ b.take 4 = Rt.mark ∧ Rt.nought (b.drop 20) = true := ⟨Hb.out, Hmk.out, Hno.out⟩
          rw [Rt.errOf, if_pos hp, hsm, unfour_take, he3]
        have HRo : Hid (Rt.rootOf b = if Rt.errOf b = 0 then ⟨e0, e1, e2⟩ else ⟨0, 0, 0⟩) := by
          show _ = _
          rw [Rt.rootOf, unfour_take, unfour_take, unfour_take, he0, he1, he2]
        have He0 := Lib.hid he0
        have He1 := Lib.hid he1
        have He2 := Lib.hid he2
        have He3 := Lib.hid he3
        have Hsm := Lib.hid hsm
        clear hno hb hr hlt hc he0 he1 he2 he3 hsm
        go_enter Tryz.func66, Tryz.ntmps66
        go_wp2_with fail
        refine (refNoughts_any _ _ 44 (c - 20) _ (lcut.out 20) (by decide) ((rcut.out 20 (by decide) (by decide)).no ((Touch.refl No w).alloc _))).mono ?_
        rintro e w' ⟨rfl, rfl⟩
        rw [Hno.out]
        go_wp2_with fail
        refine (refGetFour_ok _ _ 48 (c - 16) (b.drop 16) e3 (lcut.out 16) (by decide) ((rcut.out 16 (by decide) (by decide)).no ((Touch.refl No w).alloc _)) (hcut.out 16) He3.out).mono ?_
        rintro e w' ⟨rfl, rfl⟩
        go_wp2_with fail
        refine (refOf_any _ _ 16 c (b.take 16) h16.out (by decide) (Hr16.out.no ((Touch.refl No w).alloc _)) (fun x hx => Hlt.out x (List.mem_of_mem_take hx))).mono ?_
        rintro e w' ⟨rfl, rfl⟩
        rw [Hsm.out]
        by_cases heq : sm = e3
        · subst heq
          have HE0 : Hid (Rt.errOf b = 0) := by show _ = _; rw [← HE.out, if_pos rfl]
          go_wp2_with fail
          obtain ⟨R, hR⟩ : ∃ R, R = w.heap.size := ⟨_, rfl⟩
          obtain ⟨W2, hW2⟩ : ∃ W2, W2 = (w.alloc (.cells #[.int .u32 0, .int .u32 0, .int .u32 0] 101)).alloc (.cells #[.int .u32 0, .int .u32 0, .int .u32 0] 101) := ⟨_, rfl⟩
          have tW : Touch No w W2 := by rw [hW2]; exact ((Touch.refl No w).alloc _).alloc _
          have hA : Row W2 R 101 [.int .u32 0, .int .u32 0, .int .u32 0] := by
            rw [hW2, hR]
            exact (Row.new w 101 #[.int .u32 0, .int .u32 0, .int .u32 0]).touch (F := No) ((Touch.refl No _).alloc _) id
          have hS : Row W2 (R + 1) 101 [.int .u32 0, .int .u32 0, .int .u32 0] := by
            rw [hW2, hR, ← size_alloc w (.cells #[.int .u32 0, .int .u32 0, .int .u32 0] 101)]
            exact Row.new _ 101 #[.int .u32 0, .int .u32 0, .int .u32 0]
          rw [← hW2, ← hR]
          have hnR : ∀ (o' : Nat), (⟨R + 1, o', none⟩ : Addr).block < w.heap.size → No (⟨R + 1, o', none⟩ : Addr).block := fun o' h => absurd (show R + 1 < w.heap.size from h) (by omega)
          have hnA : ∀ (o' : Nat), (⟨R, o', none⟩ : Addr).block < w.heap.size → No (⟨R, o', none⟩ : Addr).block := fun o' h => absurd (show R < w.heap.size from h) (by omega)
          have HnR := Lib.hid hnR
          have HnA := Lib.hid hnA
          have TW := Lib.hid tW
          have HA := Lib.hid hA
          have HS := Lib.hid hS
          have hLn : R ≠ R + 1 := by omega
          clear hR hW2 tW hA hS hnR hnA
          refine (refGetFour_ok W2 _ 60 (c - 4) (b.drop 4) e0 (lcut.out 4) (by decide) ((rcut.out 4 (by decide) (by decide)).no TW.out) (hcut.out 4) He0.out).mono ?_
          rintro e w' ⟨rfl, rfl⟩
          have q0 : W2.cell? ⟨R + 1, 0, none⟩ = some (.int .u32 0) := HS.out.cell 0
          have f0 := HS.out.soft 0
          go_wp2_with fail
          clear q0 f0
          obtain ⟨W3, hW3⟩ : ∃ W3, W3 = W2.setCell ⟨R + 1, 0, none⟩ (.int .u32 (e0 : Nat)) := ⟨_, rfl⟩
          rw [← hW3]
          have TW3 : Hid (Touch No w W3) := by show Touch _ _ _; rw [hW3]; exact TW.out.setCell (p := ⟨R + 1, 0, none⟩) (HnR.out 0) _
          have HA3 : Hid (Row W3 R 101 [.int .u32 0, .int .u32 0, .int .u32 0]) := by show Row _ _ _ _; rw [hW3]; exact HA.out.touch ((Touch.refl (One (R + 1)) W2).setCell (p := ⟨R + 1, 0, none⟩) (fun _ => rfl) _) (fun e => hLn e)
          have HS3 : Hid (Row W3 (R + 1) 101 [.int .u32 (e0 : Nat), .int .u32 0, .int .u32 0]) := by show Row _ _ _ _; rw [hW3]; exact HS.out.setCell 0 _
          clear hW3 TW HA HS
          refine (refGetFour_ok W3 _ 56 (c - 8) (b.drop 8) e1 (lcut.out 8) (by decide) ((rcut.out 8 (by decide) (by decide)).no TW3.out) (hcut.out 8) He1.out).mono ?_
          rintro e w' ⟨rfl, rfl⟩
          have q1 : W3.cell? ⟨R + 1, 1, none⟩ = some (.int .u32 0) := HS3.out.cell 1
          have f1 := HS3.out.soft 1
          go_wp2_with fail
          clear q1 f1
          obtain ⟨W4, hW4⟩ : ∃ W4, W4 = W3.setCell ⟨R + 1, 1, none⟩ (.int .u32 (e1 : Nat)) := ⟨_, rfl⟩
          rw [← hW4]
          have TW4 : Hid (Touch No w W4) := by show Touch _ _ _; rw [hW4]; exact TW3.out.setCell (p := ⟨R + 1, 1, none⟩) (HnR.out 1) _
          have HA4 : Hid (Row W4 R 101 [.int .u32 0, .int .u32 0, .int .u32 0]) := by show Row _ _ _ _; rw [hW4]; exact HA3.out.touch ((Touch.refl (One (R + 1)) W3).setCell (p := ⟨R + 1, 1, none⟩) (fun _ => rfl) _) (fun e => hLn e)
          have HS4 : Hid (Row W4 (R + 1) 101 [.int .u32 (e0 : Nat), .int .u32 (e1 : Nat), .int .u32 0]) := by show Row _ _ _ _; rw [hW4]; exact HS3.out.setCell 1 _
          clear hW4 TW3 HA3 HS3
          refine (refGetFour_ok W4 _ 52 (c - 12) (b.drop 12) e2 (lcut.out 12) (by decide) ((rcut.out 12 (by decide) (by decide)).no TW4.out) (hcut.out 12) He2.out).mono ?_
          rintro e w' ⟨rfl, rfl⟩
          have q0 : W4.cell? ⟨R + 1, 0, none⟩ = some (.int .u32 (e0 : Nat)) := HS4.out.cell 0
          have q1 : W4.cell? ⟨R + 1, 1, none⟩ = some (.int .u32 (e1 : Nat)) := HS4.out.cell 1
          have q2 : W4.cell? ⟨R + 1, 2, none⟩ = some (.int .u32 0) := HS4.out.cell 2
          have f2 := HS4.out.soft 2
          have r0 : W4.cell? ⟨R, 0, none⟩ = some (.int .u32 0) := HA4.out.cell 0
          have r1 : W4.cell? ⟨R, 1, none⟩ = some (.int .u32 0) := HA4.out.cell 1
          have r2 : W4.cell? ⟨R, 2, none⟩ = some (.int .u32 0) := HA4.out.cell 2
          have s0 := HA4.out.soft 0
          have s1 := HA4.out.soft 1
          have s2 := HA4.out.soft 2
          go_wp2
          have Fin : Rt.rootOf b = ⟨e0, e1, e2⟩ ∧ Rt.errOf b = 0 := ⟨by rw [HRo.out, if_pos HE0.out], HE0.out⟩
          rw [Fin.1, Fin.2]
          have tf : ∀ v v0 v1 v2 : Value, Touch No w ((((W4.setCell ⟨R + 1, 2, none⟩ v).setCell ⟨R, 0, none⟩ v0).setCell ⟨R, 1, none⟩ v1).setCell ⟨R, 2, none⟩ v2) := fun v v0 v1 v2 =>
            (((TW4.out.setCell (p := ⟨R + 1, 2, none⟩) (HnR.out 2) v).setCell (p := ⟨R, 0, none⟩) (HnA.out 0) v0).setCell (p := ⟨R, 1, none⟩) (HnA.out 1) v1).setCell (p := ⟨R, 2, none⟩) (HnA.out 2) v2
          exact bodyPost_ret (v := .tuple #[.agg #[.int .u32 (e0 : Nat), .int .u32 (e1 : Nat), .int .u32 (e2 : Nat)], .int .i64 0]) (by simp [results, Tryz.results66, go_sem, r0, r1, r2]) rfl ⟨rfl, tf _ _ _ _⟩
        · have HE1 : Hid (Rt.errOf b = 11) := by show _ = _; rw [← HE.out, if_neg heq]
          have hneq : ((sm : Int) != (e3 : Int)) = true := by simp; omega
          clear heq
          go_wp2
          have Fin : Rt.rootOf b = ⟨0, 0, 0⟩ ∧ Rt.errOf b = 11 := ⟨by rw [HRo.out, if_neg (by rw [HE1.out]; decide)], HE1.out⟩
          rw [Fin.1, Fin.2]
          exact bodyPost_ret (v := .tuple #[.agg #[.int .u32 0, .int .u32 0, .int .u32 0], .int .i64 11]) (by simp [results, Tryz.results66, go_sem]) rfl ⟨rfl, (Touch.refl No w).alloc _⟩
    · have hF := Form.out (fun h => hmk h.2.1)
      rw [hF.1, hF.2]
      have hne : ¬ S.toList = [82, 79, 79, 84] := fun h => hmk (HSo.out.1 (by
        rw [Go.ByteArray.toList_eq] at h
        cases S with
        | mk d => cases d; simp at h; rw [h]))
      clear hF hb hr hlt HSo hmk hc
      go_enter Tryz.func66, Tryz.ntmps66
      go_wp2_with fail
      exact bodyPost_ret (v := .tuple #[.agg #[.int .u32 0, .int .u32 0, .int .u32 0], .int .i64 4]) (by simp [results, Tryz.results66, go_sem]) rfl ⟨rfl, (Touch.refl No w).alloc _⟩
  · have hne : ((n : Int) != 64) = true := by simp; omega
    have hF := Form.out (fun h => h64 (by rw [← Hb.out]; exact h.1))
    rw [hF.1, hF.2]
    clear hF h64 hb hr hlt
    go_enter Tryz.func66, Tryz.ntmps66
    go_wp2
    exact bodyPost_ret (v := .tuple #[.agg #[.int .u32 0, .int .u32 0, .int .u32 0], .int .i64 4]) (by simp [results, Tryz.results66, go_sem]) rfl ⟨rfl, (Touch.refl No w).alloc _⟩
end Go.Proofs.YtmjeigceclmdoaaGreatDoor
namespace Go.Proofs.YtmjeigceclmdoaaGreatDoor
open Go Go.RowKit
set_option linter.unusedSimpArgs false

namespace Rt
def zero : Root := ⟨0, 0, 0⟩
/-- what a sector says: an error, whether there is a root, and which -/
def sayE (s : Dk.Sec) : Nat := if s.bad = 1 then 12 else if nought s.b = true then 0 else errOf s.b
def sayIs (s : Dk.Sec) : Bool := if s.bad = 1 then false else if nought s.b = true then false else decide (errOf s.b = 0)
def sayR (s : Dk.Sec) : Root := if sayIs s = true then rootOf s.b else zero
def findE (D : Dk.Disk) : Nat := if D.seen.length < 8 then 1 else if sayE (Dk.at_ D.seen 0) ≠ 0 then sayE (Dk.at_ D.seen 0) else if sayE (Dk.at_ D.seen 1) ≠ 0 then sayE (Dk.at_ D.seen 1) else if sayIs (Dk.at_ D.seen 0) = false ∧ sayIs (Dk.at_ D.seen 1) = false then 7 else 0
/-- is it the second one that holds? -/
def second (D : Dk.Disk) : Bool := !sayIs (Dk.at_ D.seen 0) || (sayIs (Dk.at_ D.seen 1) && decide ((sayR (Dk.at_ D.seen 0)).epoch < (sayR (Dk.at_ D.seen 1)).epoch))
def findR (D : Dk.Disk) : Root := if findE D = 0 then (if second D = true then sayR (Dk.at_ D.seen 1) else sayR (Dk.at_ D.seen 0)) else zero
def findN (D : Dk.Disk) : Nat := if findE D = 0 ∧ second D = false then 1 else 0
theorem root_ok {b : List Nat} (h : ∀ x ∈ b, x < 256) : (rootOf b).Ok := by
  unfold rootOf
  split
  · exact ⟨unfour_lt (fun x hx => h x (List.mem_of_mem_drop (List.mem_of_mem_take hx))), unfour_lt (fun x hx => h x (List.mem_of_mem_drop (List.mem_of_mem_take hx))), unfour_lt (fun x hx => h x (List.mem_of_mem_drop (List.mem_of_mem_take hx)))⟩
  · exact ⟨by decide, by decide, by decide⟩
theorem say_ok {s : Dk.Sec} (h : ∀ x ∈ s.b, x < 256) : (sayR s).Ok := by
  unfold sayR
  split
  · exact root_ok h
  · exact ⟨by decide, by decide, by decide⟩
end Rt

theorem len_nil (w : World) : Calls Tryz.prog 59 #[.pointer none] w fun e w' => e = .returned (.int .i64 0) ∧ w = w' := by
  go_enter Tryz.func59, Tryz.ntmps59
  go_wp2_with (go_at_call 151; refine (ask_not _ _ _ (.inl rfl)).mono ?_; rintro e w' ⟨rfl, rfl⟩)
  go_ret
  exact ⟨rfl, rfl⟩

/-- cells of two roots, and whether they are there -/
def rootC (r : Rt.Root) : List Value := [.int .u32 (r.epoch : Nat), .int .u32 (r.first : Nat), .int .u32 (r.bytes : Nat)]
def FindPost (w : World) (r : Rt.Root) (nx er : Nat) (e : Ending) (w' : World) : Prop :=
  e = .returned (.tuple #[.agg #[.int .u32 (r.epoch : Nat), .int .u32 (r.first : Nat), .int .u32 (r.bytes : Nat)], .int .i64 (nx : Nat), .int .i64 (er : Nat)]) ∧ Touch No w w'

/-- what find holds: its result, two roots, and whether they are there -/
structure Fb (w : World) (R : Nat) (A B : Rt.Root) (a b : Bool) : Prop where
  c : ∀ j, j < 3 → w.cell? ⟨R, j, none⟩ = some (.int .u32 0) ∧ w.frozen? ⟨R, j, none⟩ = false
  l : Row w (R + 1) 305 (rootC A ++ rootC B)
  i : Row w (R + 1 + 1) 306 [.bool a, .bool b]
theorem Fb.no {w w' : World} {R : Nat} {A B : Rt.Root} {a b : Bool} (h : Fb w R A B a b) (t : Touch No w w') : Fb w' R A B a b :=
  ⟨fun j hj => ⟨t.cell (id : No R → False) (h.c j hj).1, (t.frozen (lt_of_cell (h.c j hj).1) id j).trans (h.c j hj).2⟩, h.l.touch t id, h.i.touch t id⟩
/-- how far it is -/
def Far (D : Dk.Disk) (k : Nat) (A B : Rt.Root) (a b : Bool) : Prop :=
  (1 ≤ k → Rt.sayE (Dk.at_ D.seen 0) = 0 ∧ A = Rt.sayR (Dk.at_ D.seen 0) ∧ a = Rt.sayIs (Dk.at_ D.seen 0)) ∧ (2 ≤ k → Rt.sayE (Dk.at_ D.seen 1) = 0 ∧ B = Rt.sayR (Dk.at_ D.seen 1) ∧ b = Rt.sayIs (Dk.at_ D.seen 1)) ∧ (k = 0 → A = Rt.zero ∧ a = false) ∧ (k ≤ 1 → B = Rt.zero ∧ b = false)
theorem far_err {D : Dk.Disk} {k : Nat} {A B : Rt.Root} {a b : Bool} (h8 : ¬ D.seen.length < 8) (hf : Far D k A B a b) (hk : k < 2) (he : Rt.sayE (Dk.at_ D.seen k) ≠ 0) : Rt.findE D = Rt.sayE (Dk.at_ D.seen k) ∧ Rt.findR D = Rt.zero ∧ Rt.findN D = 0 := by
  have hE : Rt.findE D = Rt.sayE (Dk.at_ D.seen k) := by
    have : k = 0 ∨ k = 1 := by omega
    rcases this with rfl | rfl
    · rw [Rt.findE, if_neg h8, if_pos he]
    · have h0 := (hf.1 (by decide)).1
      rw [Rt.findE, if_neg h8, if_neg (fun h => h h0), if_pos he]
  exact ⟨hE, by rw [Rt.findR, if_neg (by rw [hE]; exact he)], by rw [Rt.findN, if_neg (fun h => he (by rw [← hE]; exact h.1))]⟩
theorem far_next {D : Dk.Disk} {k : Nat} {A B : Rt.Root} {a b : Bool} (hf : Far D k A B a b) (hk : k < 2) (he : Rt.sayE (Dk.at_ D.seen k) = 0) : Far D (k + 1) (if k = 0 then Rt.sayR (Dk.at_ D.seen k) else A) (if k = 0 then B else Rt.sayR (Dk.at_ D.seen k)) (if k = 0 then Rt.sayIs (Dk.at_ D.seen k) else a) (if k = 0 then b else Rt.sayIs (Dk.at_ D.seen k)) := by
  have : k = 0 ∨ k = 1 := by omega
  rcases this with rfl | rfl
  · refine ⟨fun _ => ⟨he, rfl, rfl⟩, fun h => by omega, fun h => by omega, fun _ => hf.2.2.2 (by decide)⟩
  · refine ⟨fun _ => hf.1 (by decide), fun _ => ⟨he, rfl, rfl⟩, fun h => by omega, fun h => by omega⟩
theorem far_end {D : Dk.Disk} {A B : Rt.Root} {a b : Bool} (h8 : ¬ D.seen.length < 8) (hf : Far D 2 A B a b) :
    Rt.findE D = (if a = false ∧ b = false then 7 else 0) ∧ Rt.findR D = (if a = false ∧ b = false then Rt.zero else if (!a || (b && decide (A.epoch < B.epoch))) = true then B else A) ∧ Rt.findN D = (if a = false ∧ b = false then 0 else if (!a || (b && decide (A.epoch < B.epoch))) = true then 0 else 1) ∧ (a = false → A = Rt.zero) := by
  obtain ⟨h0, hA, ha⟩ := hf.1 (by decide)
  obtain ⟨h1, hB, hb⟩ := hf.2.1 (by decide)
  have hE : Rt.findE D = (if a = false ∧ b = false then 7 else 0) := by
    rw [Rt.findE, if_neg h8, if_neg (fun h => h h0), if_neg (fun h => h h1), ← ha, ← hb]
  have hS : Rt.second D = (!a || (b && decide (A.epoch < B.epoch))) := by rw [Rt.second, ← ha, ← hb, ← hA, ← hB]
  refine ⟨hE, ?_, ?_, fun h => ?_⟩
  · rw [Rt.findR, hE, hS, ← hA, ← hB]
    by_cases h : a = false ∧ b = false
    · rw [if_pos h, if_pos h, if_neg (by decide)]
    · rw [if_neg h, if_neg h, if_pos rfl]
  · rw [Rt.findN, hE, hS]
    by_cases h : a = false ∧ b = false
    · rw [if_pos h, if_pos h, if_neg (fun h => absurd h.1 (by decide))]
    · rw [if_neg h, if_neg h]
      cases hx : (!a || (b && decide (A.epoch < B.epoch))) <;> simp
  · rw [hA, Rt.sayR, ← ha, h]; rfl
def zL2 : Array Value := #[.int .u32 0, .int .u32 0, .int .u32 0, .int .u32 0, .int .u32 0, .int .u32 0]
def zB2 : Array Value := #[.bool false, .bool false]

set_option maxRecDepth 100000 in
set_option maxHeartbeats 8000000 in
theorem find_nil (w : World) : Calls Tryz.prog 208 #[.pointer none] w (FindPost w Rt.zero 0 2) := by
  go_enter Tryz.func208, Tryz.ntmps208
  go_wp2_with fail
  refine (len_nil _).mono ?_
  rintro e w' ⟨rfl, rfl⟩
  go_wp2
  exact bodyPost_ret (v := .tuple #[.agg #[.int .u32 0, .int .u32 0, .int .u32 0], .int .i64 0, .int .i64 2]) (by simp [results, Tryz.results208, go_sem]) rfl ⟨rfl, (Touch.refl No w).alloc _⟩

set_option maxRecDepth 100000 in
set_option maxHeartbeats 8000000 in
theorem find_any (w : World) (d : Nat) (D : Dk.Disk) (O : Nat → Prop) (h : DiskAt w d D O) :
    Calls Tryz.prog 208 #[.pointer (some ⟨d, 0, none⟩)] w (FindPost w (Rt.findR D) (Rt.findN D) (Rt.findE D)) := by
  have H := Lib.hid h
  have hpos := h.ok.pos
  have htop := h.ok.top
  have hsec : Hid (∀ k, k < D.seen.length → (Dk.at_ D.seen k).Ok) := fun k hk => h.ok.seen _ (Dk.at_mem hk)
  obtain ⟨q, hq⟩ : ∃ q, D.seen.length = q := ⟨_, rfl⟩
  have HLen : Hid (∀ wx, Touch No w wx → Calls Tryz.prog 59 #[.pointer (some ⟨d, 0, none⟩)] wx fun e w' => e = .returned (.int .i64 (q : Nat)) ∧ wx = w') := fun wx t => by
    have := len_in wx d D O (h.no t)
    rwa [hq] at this
  rw [hq] at hpos htop
  have Hq := Lib.hid hq
  clear h hq
  by_cases h8 : q < 8
  · have hE : Rt.findE D = 1 := by rw [Rt.findE, if_pos (by rw [Hq.out]; exact h8)]
    have hR : Rt.findR D = Rt.zero := by rw [Rt.findR, if_neg (by rw [hE]; decide)]
    have hN : Rt.findN D = 0 := by rw [Rt.findN, if_neg (fun h => by rw [hE] at h; exact absurd h.1 (by decide))]
    rw [hE, hR, hN]
    have h8' : (q : Int) < 8 := by omega
    have h0 : ((q : Int) == 0) = false := by simp; omega
    clear hE hR hN h8
    go_enter Tryz.func208, Tryz.ntmps208
    go_wp2_with fail
    refine (HLen.out _ ((Touch.refl No w).alloc _)).mono ?_
    rintro e w' ⟨rfl, rfl⟩
    go_wp2
    exact bodyPost_ret (v := .tuple #[.agg #[.int .u32 0, .int .u32 0, .int .u32 0], .int .i64 0, .int .i64 1]) (by simp [results, Tryz.results208, go_sem]) rfl ⟨rfl, (Touch.refl No w).alloc _⟩
  · have h8' : ¬ (q : Int) < 8 := by omega
    have h0 : ((q : Int) == 0) = false := by simp; omega
    have hq2 : Hid (∀ k, k < 2 → k < D.seen.length) := fun k hk => by rw [Hq.out]; omega
    have hE8 : Hid (¬ D.seen.length < 8) := by show ¬ _; rw [Hq.out]; exact h8
    clear h8
    go_enter Tryz.func208, Tryz.ntmps208
    go_wp2_with fail
    refine (HLen.out _ ((Touch.refl No w).alloc _)).mono ?_
    rintro e w' ⟨rfl, rfl⟩
    go_wp2
    obtain ⟨R, hR⟩ : ∃ R, R = w.heap.size := ⟨_, rfl⟩
    obtain ⟨W, hW⟩ : ∃ W, W = ((w.alloc (.cells #[.int .u32 0, .int .u32 0, .int .u32 0] 101)).alloc (.cells #[.int .u32 0, .int .u32 0, .int .u32 0, .int .u32 0, .int .u32 0, .int .u32 0] 305)).alloc (.cells #[.bool false, .bool false] 306) := ⟨_, rfl⟩
    have tW : Touch No w W := by rw [hW]; exact (((Touch.refl No w).alloc _).alloc _).alloc _
    have hF : Fb W R Rt.zero Rt.zero false false := by
      have a1 := (Row.new w 101 #[.int .u32 0, .int .u32 0, .int .u32 0])
      have a2 := (Row.new (w.alloc (.cells #[.int .u32 0, .int .u32 0, .int .u32 0] 101)) 305 #[.int .u32 0, .int .u32 0, .int .u32 0, .int .u32 0, .int .u32 0, .int .u32 0])
      have a3 := (Row.new ((w.alloc (.cells #[.int .u32 0, .int .u32 0, .int .u32 0] 101)).alloc (.cells #[.int .u32 0, .int .u32 0, .int .u32 0, .int .u32 0, .int .u32 0, .int .u32 0] 305)) 306 #[.bool false, .bool false])
      have e1 : Touch No (w.alloc (.cells #[.int .u32 0, .int .u32 0, .int .u32 0] 101)) ((w.alloc (.cells #[.int .u32 0, .int .u32 0, .int .u32 0] 101)).alloc (.cells #[.int .u32 0, .int .u32 0, .int .u32 0, .int .u32 0, .int .u32 0, .int .u32 0] 305)) := (Touch.refl No _).alloc _
      have e2 : Touch No ((w.alloc (.cells #[.int .u32 0, .int .u32 0, .int .u32 0] 101)).alloc (.cells #[.int .u32 0, .int .u32 0, .int .u32 0, .int .u32 0, .int .u32 0, .int .u32 0] 305)) (((w.alloc (.cells #[.int .u32 0, .int .u32 0, .int .u32 0] 101)).alloc (.cells #[.int .u32 0, .int .u32 0, .int .u32 0, .int .u32 0, .int .u32 0, .int .u32 0] 305)).alloc (.cells #[.bool false, .bool false] 306)) := (Touch.refl No _).alloc _
      have b1 := (a1.touch e1 id).touch e2 id
      have b2 := a2.touch e2 id
      rw [size_alloc] at b2
      rw [size_alloc, size_alloc] at a3
      rw [hW, hR]
      refine ⟨fun j hj => ⟨?_, b1.soft j⟩, b2, a3⟩
      rw [b1.cell]
      match j, hj with
      | 0, _ => rfl
      | 1, _ => rfl
      | 2, _ => rfl
    have hRw : w.heap.size ≤ R := by omega
    rw [← hR, ← hW]
    have HRR := Lib.hid hRw
    have HF := Lib.hid hF
    have HT := Lib.hid tW
    clear hR hW tW hF hRw
    go_loopg [21] 2 (fun g s21 wr => ∃ (k : Nat) (A B : Rt.Root) (a b : Bool), k + g = 2 ∧ s21 = .int .i64 ((k : Nat) : Int) ∧ Hid (Fb wr R A B a b) ∧ Hid (Touch No w wr) ∧ Hid (Far D k A B a b))
    case atStart => exact ⟨0, _, _, _, _, rfl, rfl, HF.out, HT.out, ⟨fun h => by omega, fun h => by omega, fun _ => ⟨rfl, rfl⟩, fun _ => ⟨rfl, rfl⟩⟩⟩
    case round =>
      clear HF HT
      obtain ⟨k, A, B, a, b, hkg, rfl, F, T, FR⟩ := hrel
      cases gk with
      | zero =>
        obtain rfl : k = 2 := by omega
        have fe := far_end hE8.out FR.out
        have l0 : wr.cell? ⟨R + 1, 0, none⟩ = some (.int .u32 (A.epoch : Nat)) := F.out.l.cell 0
        have l1 : wr.cell? ⟨R + 1, 1, none⟩ = some (.int .u32 (A.first : Nat)) := F.out.l.cell 1
        have l2 : wr.cell? ⟨R + 1, 2, none⟩ = some (.int .u32 (A.bytes : Nat)) := F.out.l.cell 2
        have l3 : wr.cell? ⟨R + 1, 3, none⟩ = some (.int .u32 (B.epoch : Nat)) := F.out.l.cell 3
        have l4 : wr.cell? ⟨R + 1, 4, none⟩ = some (.int .u32 (B.first : Nat)) := F.out.l.cell 4
        have l5 : wr.cell? ⟨R + 1, 5, none⟩ = some (.int .u32 (B.bytes : Nat)) := F.out.l.cell 5
        have i0 : wr.cell? ⟨R + 1 + 1, 0, none⟩ = some (.bool a) := F.out.i.cell 0
        have i1 : wr.cell? ⟨R + 1 + 1, 1, none⟩ = some (.bool b) := F.out.i.cell 1
        have r0 := (F.out.c 0 (by decide)).1
        have r1 := (F.out.c 1 (by decide)).1
        have r2 := (F.out.c 2 (by decide)).1
        have f0 := (F.out.c 0 (by decide)).2
        have f1 := (F.out.c 1 (by decide)).2
        have f2 := (F.out.c 2 (by decide)).2
        have tfin : Hid (∀ wx, Touch No w wx → ∀ v0 v1 v2 : Value, Touch No w (((wx.setCell ⟨R, 0, none⟩ v0).setCell ⟨R, 1, none⟩ v1).setCell ⟨R, 2, none⟩ v2)) := fun wx t v0 v1 v2 => by
          have hn : ∀ o' : Nat, (⟨R, o', none⟩ : Addr).block < w.heap.size → No (⟨R, o', none⟩ : Addr).block := fun o' h => absurd (show R < w.heap.size from h) (by have := HRR.out; omega)
          exact ((t.setCell (p := ⟨R, 0, none⟩) (hn 0) v0).setCell (p := ⟨R, 1, none⟩) (hn 1) v1).setCell (p := ⟨R, 2, none⟩) (hn 2) v2
        obtain ⟨hE, hR, hN, hz⟩ := fe
        have HEE := Lib.hid hE
        have HRE := Lib.hid hR
        have HNE := Lib.hid hN
        have Hz := Lib.hid hz
        clear hE hR hN hz
        obtain ⟨ae, af, ab⟩ := A
        obtain ⟨be, bf, bb⟩ := B
        cases a with
        | false =>
          have h0 := Hz.out rfl
          obtain ⟨rfl, rfl, rfl⟩ : ae = 0 ∧ af = 0 ∧ ab = 0 := by cases h0; exact ⟨rfl, rfl, rfl⟩
          clear h0
          cases b with
          | false =>
            go_wp2
            exact bodyPost_ret (v := .tuple #[.agg #[.int .u32 0, .int .u32 0, .int .u32 0], .int .i64 0, .int .i64 7]) (by simp [results, Tryz.results208, go_sem, r0, r1, r2]) rfl ⟨by rw [HEE.out, HRE.out, HNE.out]; rfl, tfin.out _ T.out _ _ _⟩
          | true =>
            go_wp2
            exact bodyPost_ret (v := .tuple #[.agg #[.int .u32 (be : Nat), .int .u32 (bf : Nat), .int .u32 (bb : Nat)], .int .i64 0, .int .i64 0]) (by simp [results, Tryz.results208, go_sem, r0, r1, r2]) rfl ⟨by rw [HEE.out, HRE.out, HNE.out]; rfl, tfin.out _ T.out _ _ _⟩
        | true =>
          clear Hz
          cases b with
          | false =>
            go_wp2
            exact bodyPost_ret (v := .tuple #[.agg #[.int .u32 (ae : Nat), .int .u32 (af : Nat), .int .u32 (ab : Nat)], .int .i64 1, .int .i64 0]) (by simp [results, Tryz.results208, go_sem, r0, r1, r2]) rfl ⟨by rw [HEE.out, HRE.out, HNE.out]; rfl, tfin.out _ T.out _ _ _⟩
          | true =>
            by_cases hep : ae < be
            · have hep' : (ae : Int) < (be : Nat) := by omega
              have hd : (!true || (true && decide (ae < be))) = true := by simp [hep]
              have Hd := Lib.hid hd
              clear hd hep
              go_wp2
              exact bodyPost_ret (v := .tuple #[.agg #[.int .u32 (be : Nat), .int .u32 (bf : Nat), .int .u32 (bb : Nat)], .int .i64 0, .int .i64 0]) (by simp [results, Tryz.results208, go_sem, r0, r1, r2]) rfl ⟨by rw [HEE.out, HRE.out, HNE.out, Hd.out]; rfl, tfin.out _ T.out _ _ _⟩
            · have hep' : ¬ (ae : Int) < (be : Nat) := by omega
              have hd : (!true || (true && decide (ae < be))) = false := by simp; omega
              have Hd := Lib.hid hd
              clear hd hep
              go_wp2
              exact bodyPost_ret (v := .tuple #[.agg #[.int .u32 (ae : Nat), .int .u32 (af : Nat), .int .u32 (ab : Nat)], .int .i64 1, .int .i64 0]) (by simp [results, Tryz.results208, go_sem, r0, r1, r2]) rfl ⟨by rw [HEE.out, HRE.out, HNE.out, Hd.out]; rfl, tfin.out _ T.out _ _ _⟩
      | succ g =>
        have hk : k = 0 ∨ k = 1 := by omega
        rcases hk with rfl | rfl
        · have hkD := hq2.out 0 (by decide)
          have hse := hsec.out 0 hkD
          have HkD := Lib.hid hkD
          have Hse := Lib.hid hse
          obtain ⟨s, hs⟩ : ∃ s, s = Dk.at_ D.seen 0 := ⟨_, rfl⟩
          have HS := Lib.hid hs
          have r0 := (F.out.c 0 (by decide)).1
          have r1 := (F.out.c 1 (by decide)).1
          have r2 := (F.out.c 2 (by decide)).1
          have f0 := (F.out.c 0 (by decide)).2
          have f1 := (F.out.c 1 (by decide)).2
          have f2 := (F.out.c 2 (by decide)).2
          have HRc : Hid (∀ wx, Touch No wr wx → Fb wx R A B a b) := fun wx t => F.out.no t
          have tfin : Hid (∀ wx, Touch No w wx → ∀ v0 v1 v2 : Value, Touch No w (((wx.setCell ⟨R, 0, none⟩ v0).setCell ⟨R, 1, none⟩ v1).setCell ⟨R, 2, none⟩ v2)) := fun wx t v0 v1 v2 => by
            have hn : ∀ o' : Nat, (⟨R, o', none⟩ : Addr).block < w.heap.size → No (⟨R, o', none⟩ : Addr).block := fun o' h => absurd (show R < w.heap.size from h) (by have := HRR.out; omega)
            exact ((t.setCell (p := ⟨R, 0, none⟩) (hn 0) v0).setCell (p := ⟨R, 1, none⟩) (hn 1) v1).setCell (p := ⟨R, 2, none⟩) (hn 2) v2
          clear hkD hse hs
          by_cases hbad : s.bad = 1
          · have hx : Hid (Rt.sayE (Dk.at_ D.seen 0) = 12) := by show _ = _; rw [← HS.out, Rt.sayE, if_pos hbad]
            have hfin := far_err hE8.out FR.out (by decide) (by rw [hx.out]; decide)
            rw [hx.out] at hfin
            have Hfin := Lib.hid hfin
            have Hbad := Lib.hid hbad
            clear hfin hbad
            go_wp2_with fail
            refine (read_lost wr d D O 0 (H.out.no T.out) HkD.out (by rw [← HS.out]; exact Hbad.out)).mono ?_
            rintro e w' ⟨rfl, rfl⟩
            go_wp2
            exact bodyPost_ret (v := .tuple #[.agg #[.int .u32 0, .int .u32 0, .int .u32 0], .int .i64 0, .int .i64 12]) (by simp [results, Tryz.results208, go_sem, r0, r1, r2]) rfl ⟨by rw [Hfin.out.1, Hfin.out.2.1, Hfin.out.2.2]; rfl, tfin.out _ T.out _ _ _⟩
          · have hb0 : Hid (s.bad = 0) := by show _ = _; have := Hse.out.bad; rw [← HS.out] at this; omega
            have Hnb := Lib.hid hbad
            have hbytes : Hid (s.b.length = 64) := by show _ = _; rw [HS.out]; exact Hse.out.b.len
            have hblt : Hid (∀ x ∈ s.b, x < 256) := by show ∀ x ∈ s.b, x < 256; rw [HS.out]; exact Hse.out.b.lt
            clear hbad
            cases hno : Rt.nought s.b with
            | true =>
              have hx : Hid (Rt.sayE (Dk.at_ D.seen 0) = 0 ∧ Rt.sayIs (Dk.at_ D.seen 0) = false ∧ Rt.sayR (Dk.at_ D.seen 0) = Rt.zero) := by
                show _ ∧ _
                have h2 : Rt.sayIs s = false := by rw [Rt.sayIs, if_neg Hnb.out, if_pos hno]
                rw [← HS.out]
                exact ⟨by rw [Rt.sayE, if_neg Hnb.out, if_pos hno], h2, by rw [Rt.sayR, h2]; rfl⟩
              have hnx := far_next FR.out (by decide) hx.out.1
              rw [hx.out.2.1, hx.out.2.2] at hnx
              have Hnx : Hid (Far D (0 + 1) A B a b) := by
                show Far _ _ _ _ _ _
                have h3 := FR.out.2.2.1 rfl
                rw [h3.1, h3.2]
                skip
                exact (by simpa [h3.1, h3.2] using hnx)
              have Hno := Lib.hid hno
              clear hnx hno
              go_wp2_with fail
              refine (read_in wr d D O 0 (H.out.no T.out) HkD.out (by rw [← HS.out]; exact hb0.out)).mono ?_
              rw [← HS.out]
              rintro e w3 ⟨gb, rfl, _, R3, t3⟩
              have HR3 := Lib.hid R3
              have T3 := Lib.hid t3
              clear R3 t3
              go_wp2_with fail
              refine (nought_any w3 _ 64 64 _ hbytes.out (by decide) HR3.out).mono ?_
              rintro e w' ⟨rfl, rfl⟩
              rw [Hno.out]
              go_wp2
              go_roundg g
              case measure => omega
              case rel => exact ⟨0 + 1, A, B, a, b, by omega, by go_num, HRc.out _ T3.out, T.out.trans T3.out, Hnx.out⟩
            | false =>
              have Hno := Lib.hid hno
              clear hno
              obtain ⟨X, hX⟩ : ∃ X, X = Rt.rootOf s.b := ⟨_, rfl⟩
              obtain ⟨er, her⟩ : ∃ er, er = Rt.errOf s.b := ⟨_, rfl⟩
              have HX := Lib.hid hX
              have Her := Lib.hid her
              clear hX her
              go_wp2_with fail
              refine (read_in wr d D O 0 (H.out.no T.out) HkD.out (by rw [← HS.out]; exact hb0.out)).mono ?_
              rw [← HS.out]
              rintro e w3 ⟨gb, rfl, _, R3, t3⟩
              have HR3 := Lib.hid R3
              have T3 := Lib.hid t3
              clear R3 t3
              go_wp2_with fail
              refine (nought_any w3 _ 64 64 _ hbytes.out (by decide) HR3.out).mono ?_
              rintro e w' ⟨rfl, rfl⟩
              rw [Hno.out]
              go_wp2_with fail
              refine (rootGet_any w3 _ 64 64 s.b hbytes.out (Nat.le_refl _) (by decide) HR3.out hblt.out).mono ?_
              rw [← HX.out, ← Her.out]
              rintro e w4 ⟨rfl, t4⟩
              have T34 := Lib.hid (T3.out.trans t4)
              have F4 := Lib.hid (HRc.out w4 (T3.out.trans t4))
              clear t4 r0 r1 r2 f0 f1 f2
              have l0 := F4.out.l.cell 0
              have l1 := F4.out.l.cell 1
              have l2 := F4.out.l.cell 2
              have m0 := F4.out.l.soft 0
              have m1 := F4.out.l.soft 1
              have m2 := F4.out.l.soft 2
              have l0' : w4.cell? ⟨R + 1, 0, none⟩ = some (.int .u32 (A.epoch : Nat)) := l0
              have l1' : w4.cell? ⟨R + 1, 1, none⟩ = some (.int .u32 (A.first : Nat)) := l1
              have l2' : w4.cell? ⟨R + 1, 2, none⟩ = some (.int .u32 (A.bytes : Nat)) := l2
              clear l0 l1 l2
              obtain ⟨w5, hw5⟩ : ∃ w5, w5 = ((w4.setCell ⟨R + 1, 0, none⟩ (.int .u32 (X.epoch : Nat))).setCell ⟨R + 1, 1, none⟩ (.int .u32 (X.first : Nat))).setCell ⟨R + 1, 2, none⟩ (.int .u32 (X.bytes : Nat)) := ⟨_, rfl⟩
              have t45 : Touch (One (R + 1)) w4 w5 := by
                rw [hw5]
                exact (((Touch.refl (One (R + 1)) w4).setCell (p := ⟨R + 1, 0, none⟩) (fun _ => rfl) _).setCell (p := ⟨R + 1, 1, none⟩) (fun _ => rfl) _).setCell (p := ⟨R + 1, 2, none⟩) (fun _ => rfl) _
              have F5 : Hid (Fb w5 R X B a b) := by
                refine ⟨fun j hj => ?_, ?_, F4.out.i.touch t45 (fun e => by unfold One at e; omega)⟩
                · have h1 := F4.out.c j hj
                  exact ⟨t45.cell (fun e => by unfold One at e; omega) h1.1, (t45.frozen (lt_of_cell h1.1) (fun e => by unfold One at e; omega) j).trans h1.2⟩
                · rw [hw5]
                  exact ((F4.out.l.setCell 0 _).setCell 1 _).setCell 2 _
              have T5 := Lib.hid ((T.out.trans T34.out).then t45 (fun i hi e => by
                have h2 : i = R + 1 := e
                have h3 := HRR.out
                omega))
              have Hw5 := Lib.hid hw5
              clear hw5 t45
              by_cases h0 : er = 0
              · have hx : Hid (Rt.sayE (Dk.at_ D.seen 0) = 0 ∧ Rt.sayIs (Dk.at_ D.seen 0) = true ∧ Rt.sayR (Dk.at_ D.seen 0) = X) := by
                  show _ ∧ _
                  have hz : Rt.errOf s.b = 0 := by rw [← Her.out]; exact h0
                  have h2 : Rt.sayIs s = true := by rw [Rt.sayIs, if_neg Hnb.out, if_neg (by rw [Hno.out]; decide), hz]; rfl
                  rw [← HS.out]
                  exact ⟨by rw [Rt.sayE, if_neg Hnb.out, if_neg (by rw [Hno.out]; decide), hz], h2, by rw [Rt.sayR, h2, if_pos rfl, HX.out]⟩
                have hnx := far_next FR.out (by decide) hx.out.1
                rw [hx.out.2.1, hx.out.2.2] at hnx
                have Hnx : Hid (Far D (0 + 1) X B true b) := hnx
                clear hnx
                subst h0
                have i0 : w5.cell? ⟨R + 1 + 1, 0, none⟩ = some (.bool a) := F5.out.i.cell 0
                have j0 := F5.out.i.soft 0
                rw [Hw5.out] at i0 j0
                go_wp2
                go_roundg g
                case measure => omega
                case rel =>
                  refine ⟨0 + 1, X, B, true, b, by omega, by go_num, ?_, ?_, Hnx.out⟩
                  all_goals rw [← Hw5.out]
                  · have ts : Touch (One (R + 1 + 1)) w5 (w5.setCell ⟨R + 1 + 1, 0, none⟩ (.bool true)) := (Touch.refl (One (R + 1 + 1)) w5).setCell (p := ⟨R + 1 + 1, 0, none⟩) (fun _ => rfl) _
                    refine ⟨fun j hj => ?_, F5.out.l.touch ts (fun e => by unfold One at e; omega), F5.out.i.setCell 0 _⟩
                    have h1 := F5.out.c j hj
                    exact ⟨ts.cell (fun e => by unfold One at e; omega) h1.1, (ts.frozen (lt_of_cell h1.1) (fun e => by unfold One at e; omega) j).trans h1.2⟩
                  · exact T5.out.setCell (p := ⟨R + 1 + 1, 0, none⟩) (fun h => absurd (show R + 1 + 1 < w.heap.size from h) (by have := HRR.out; omega)) _
              · have hx : Hid (Rt.sayE (Dk.at_ D.seen 0) = er) := by
                  show _ = _
                  rw [← HS.out, Rt.sayE, if_neg Hnb.out, if_neg (by rw [Hno.out]; decide), Her.out]
                have hfin := far_err hE8.out FR.out (by decide) (by rw [hx.out]; exact h0)
                rw [hx.out] at hfin
                have hne : ((er : Int) != 0) = true := by simp; omega
                have Hfin := Lib.hid (show Rt.findE D = er ∧ Rt.findR D = Rt.zero ∧ Rt.findN D = 0 from hfin)
                have r0 := (F5.out.c 0 (by decide)).1
                have r1 := (F5.out.c 1 (by decide)).1
                have r2 := (F5.out.c 2 (by decide)).1
                have f0 := (F5.out.c 0 (by decide)).2
                have f1 := (F5.out.c 1 (by decide)).2
                have f2 := (F5.out.c 2 (by decide)).2
                have tq := fun v0 v1 v2 => Lib.hid (tfin.out _ T5.out v0 v1 v2)
                rw [Hw5.out] at r0 r1 r2 f0 f1 f2
                have Htq := Lib.hid tq
                clear tq hfin h0
                go_wp2
                refine bodyPost_ret (v := .tuple #[.agg #[.int .u32 0, .int .u32 0, .int .u32 0], .int .i64 0, .int .i64 (er : Nat)]) (by simp [results, Tryz.results208, go_sem, r0, r1, r2]) rfl ⟨by rw [Hfin.out.1, Hfin.out.2.1, Hfin.out.2.2]; rfl, ?_⟩
                have := (Htq.out (.int .u32 0) (.int .u32 0) (.int .u32 0)).out
                rw [Hw5.out] at this
                exact this
        · have hkD := hq2.out 1 (by decide)
          have hse := hsec.out 1 hkD
          have HkD := Lib.hid hkD
          have Hse := Lib.hid hse
          obtain ⟨s, hs⟩ : ∃ s, s = Dk.at_ D.seen 1 := ⟨_, rfl⟩
          have HS := Lib.hid hs
          have r0 := (F.out.c 0 (by decide)).1
          have r1 := (F.out.c 1 (by decide)).1
          have r2 := (F.out.c 2 (by decide)).1
          have f0 := (F.out.c 0 (by decide)).2
          have f1 := (F.out.c 1 (by decide)).2
          have f2 := (F.out.c 2 (by decide)).2
          have HRc : Hid (∀ wx, Touch No wr wx → Fb wx R A B a b) := fun wx t => F.out.no t
          have tfin : Hid (∀ wx, Touch No w wx → ∀ v0 v1 v2 : Value, Touch No w (((wx.setCell ⟨R, 0, none⟩ v0).setCell ⟨R, 1, none⟩ v1).setCell ⟨R, 2, none⟩ v2)) := fun wx t v0 v1 v2 => by
            have hn : ∀ o' : Nat, (⟨R, o', none⟩ : Addr).block < w.heap.size → No (⟨R, o', none⟩ : Addr).block := fun o' h => absurd (show R < w.heap.size from h) (by have := HRR.out; omega)
            exact ((t.setCell (p := ⟨R, 0, none⟩) (hn 0) v0).setCell (p := ⟨R, 1, none⟩) (hn 1) v1).setCell (p := ⟨R, 2, none⟩) (hn 2) v2
          clear hkD hse hs
          by_cases hbad : s.bad = 1
          · have hx : Hid (Rt.sayE (Dk.at_ D.seen 1) = 12) := by show _ = _; rw [← HS.out, Rt.sayE, if_pos hbad]
            have hfin := far_err hE8.out FR.out (by decide) (by rw [hx.out]; decide)
            rw [hx.out] at hfin
            have Hfin := Lib.hid hfin
            have Hbad := Lib.hid hbad
            clear hfin hbad
            go_wp2_with fail
            refine (read_lost wr d D O 1 (H.out.no T.out) HkD.out (by rw [← HS.out]; exact Hbad.out)).mono ?_
            rintro e w' ⟨rfl, rfl⟩
            go_wp2
            exact bodyPost_ret (v := .tuple #[.agg #[.int .u32 0, .int .u32 0, .int .u32 0], .int .i64 0, .int .i64 12]) (by simp [results, Tryz.results208, go_sem, r0, r1, r2]) rfl ⟨by rw [Hfin.out.1, Hfin.out.2.1, Hfin.out.2.2]; rfl, tfin.out _ T.out _ _ _⟩
          · have hb0 : Hid (s.bad = 0) := by show _ = _; have := Hse.out.bad; rw [← HS.out] at this; omega
            have Hnb := Lib.hid hbad
            have hbytes : Hid (s.b.length = 64) := by show _ = _; rw [HS.out]; exact Hse.out.b.len
            have hblt : Hid (∀ x ∈ s.b, x < 256) := by show ∀ x ∈ s.b, x < 256; rw [HS.out]; exact Hse.out.b.lt
            clear hbad
            cases hno : Rt.nought s.b with
            | true =>
              have hx : Hid (Rt.sayE (Dk.at_ D.seen 1) = 0 ∧ Rt.sayIs (Dk.at_ D.seen 1) = false ∧ Rt.sayR (Dk.at_ D.seen 1) = Rt.zero) := by
                show _ ∧ _
                have h2 : Rt.sayIs s = false := by rw [Rt.sayIs, if_neg Hnb.out, if_pos hno]
                rw [← HS.out]
                exact ⟨by rw [Rt.sayE, if_neg Hnb.out, if_pos hno], h2, by rw [Rt.sayR, h2]; rfl⟩
              have hnx := far_next FR.out (by decide) hx.out.1
              rw [hx.out.2.1, hx.out.2.2] at hnx
              have Hnx : Hid (Far D (1 + 1) A B a b) := by
                show Far _ _ _ _ _ _
                have h3 := FR.out.2.2.2 (by decide)
                rw [h3.1, h3.2]
                skip
                exact (by simpa [h3.1, h3.2] using hnx)
              have Hno := Lib.hid hno
              clear hnx hno
              go_wp2_with fail
              refine (read_in wr d D O 1 (H.out.no T.out) HkD.out (by rw [← HS.out]; exact hb0.out)).mono ?_
              rw [← HS.out]
              rintro e w3 ⟨gb, rfl, _, R3, t3⟩
              have HR3 := Lib.hid R3
              have T3 := Lib.hid t3
              clear R3 t3
              go_wp2_with fail
              refine (nought_any w3 _ 64 64 _ hbytes.out (by decide) HR3.out).mono ?_
              rintro e w' ⟨rfl, rfl⟩
              rw [Hno.out]
              go_wp2
              go_roundg g
              case measure => omega
              case rel => exact ⟨1 + 1, A, B, a, b, by omega, by go_num, HRc.out _ T3.out, T.out.trans T3.out, Hnx.out⟩
            | false =>
              have Hno := Lib.hid hno
              clear hno
              obtain ⟨X, hX⟩ : ∃ X, X = Rt.rootOf s.b := ⟨_, rfl⟩
              obtain ⟨er, her⟩ : ∃ er, er = Rt.errOf s.b := ⟨_, rfl⟩
              have HX := Lib.hid hX
              have Her := Lib.hid her
              clear hX her
              go_wp2_with fail
              refine (read_in wr d D O 1 (H.out.no T.out) HkD.out (by rw [← HS.out]; exact hb0.out)).mono ?_
              rw [← HS.out]
              rintro e w3 ⟨gb, rfl, _, R3, t3⟩
              have HR3 := Lib.hid R3
              have T3 := Lib.hid t3
              clear R3 t3
              go_wp2_with fail
              refine (nought_any w3 _ 64 64 _ hbytes.out (by decide) HR3.out).mono ?_
              rintro e w' ⟨rfl, rfl⟩
              rw [Hno.out]
              go_wp2_with fail
              refine (rootGet_any w3 _ 64 64 s.b hbytes.out (Nat.le_refl _) (by decide) HR3.out hblt.out).mono ?_
              rw [← HX.out, ← Her.out]
              rintro e w4 ⟨rfl, t4⟩
              have T34 := Lib.hid (T3.out.trans t4)
              have F4 := Lib.hid (HRc.out w4 (T3.out.trans t4))
              clear t4 r0 r1 r2 f0 f1 f2
              have l0 := F4.out.l.cell 3
              have l1 := F4.out.l.cell 4
              have l2 := F4.out.l.cell 5
              have m0 := F4.out.l.soft 3
              have m1 := F4.out.l.soft 4
              have m2 := F4.out.l.soft 5
              have l0' : w4.cell? ⟨R + 1, 3, none⟩ = some (.int .u32 (B.epoch : Nat)) := l0
              have l1' : w4.cell? ⟨R + 1, 4, none⟩ = some (.int .u32 (B.first : Nat)) := l1
              have l2' : w4.cell? ⟨R + 1, 5, none⟩ = some (.int .u32 (B.bytes : Nat)) := l2
              clear l0 l1 l2
              obtain ⟨w5, hw5⟩ : ∃ w5, w5 = ((w4.setCell ⟨R + 1, 3, none⟩ (.int .u32 (X.epoch : Nat))).setCell ⟨R + 1, 4, none⟩ (.int .u32 (X.first : Nat))).setCell ⟨R + 1, 5, none⟩ (.int .u32 (X.bytes : Nat)) := ⟨_, rfl⟩
              have t45 : Touch (One (R + 1)) w4 w5 := by
                rw [hw5]
                exact (((Touch.refl (One (R + 1)) w4).setCell (p := ⟨R + 1, 3, none⟩) (fun _ => rfl) _).setCell (p := ⟨R + 1, 4, none⟩) (fun _ => rfl) _).setCell (p := ⟨R + 1, 5, none⟩) (fun _ => rfl) _
              have F5 : Hid (Fb w5 R A X a b) := by
                refine ⟨fun j hj => ?_, ?_, F4.out.i.touch t45 (fun e => by unfold One at e; omega)⟩
                · have h1 := F4.out.c j hj
                  exact ⟨t45.cell (fun e => by unfold One at e; omega) h1.1, (t45.frozen (lt_of_cell h1.1) (fun e => by unfold One at e; omega) j).trans h1.2⟩
                · rw [hw5]
                  exact ((F4.out.l.setCell 3 _).setCell 4 _).setCell 5 _
              have T5 := Lib.hid ((T.out.trans T34.out).then t45 (fun i hi e => by
                have h2 : i = R + 1 := e
                have h3 := HRR.out
                omega))
              have Hw5 := Lib.hid hw5
              clear hw5 t45
              by_cases h0 : er = 0
              · have hx : Hid (Rt.sayE (Dk.at_ D.seen 1) = 0 ∧ Rt.sayIs (Dk.at_ D.seen 1) = true ∧ Rt.sayR (Dk.at_ D.seen 1) = X) := by
                  show _ ∧ _
                  have hz : Rt.errOf s.b = 0 := by rw [← Her.out]; exact h0
                  have h2 : Rt.sayIs s = true := by rw [Rt.sayIs, if_neg Hnb.out, if_neg (by rw [Hno.out]; decide), hz]; rfl
                  rw [← HS.out]
                  exact ⟨by rw [Rt.sayE, if_neg Hnb.out, if_neg (by rw [Hno.out]; decide), hz], h2, by rw [Rt.sayR, h2, if_pos rfl, HX.out]⟩
                have hnx := far_next FR.out (by decide) hx.out.1
                rw [hx.out.2.1, hx.out.2.2] at hnx
                have Hnx : Hid (Far D (1 + 1) A X a true) := hnx
                clear hnx
                subst h0
                have i0 : w5.cell? ⟨R + 1 + 1, 1, none⟩ = some (.bool b) := F5.out.i.cell 1
                have j0 := F5.out.i.soft 1
                rw [Hw5.out] at i0 j0
                go_wp2
                go_roundg g
                case measure => omega
                case rel =>
                  refine ⟨1 + 1, A, X, a, true, by omega, by go_num, ?_, ?_, Hnx.out⟩
                  all_goals rw [← Hw5.out]
                  · have ts : Touch (One (R + 1 + 1)) w5 (w5.setCell ⟨R + 1 + 1, 1, none⟩ (.bool true)) := (Touch.refl (One (R + 1 + 1)) w5).setCell (p := ⟨R + 1 + 1, 1, none⟩) (fun _ => rfl) _
                    refine ⟨fun j hj => ?_, F5.out.l.touch ts (fun e => by unfold One at e; omega), F5.out.i.setCell 1 _⟩
                    have h1 := F5.out.c j hj
                    exact ⟨ts.cell (fun e => by unfold One at e; omega) h1.1, (ts.frozen (lt_of_cell h1.1) (fun e => by unfold One at e; omega) j).trans h1.2⟩
                  · exact T5.out.setCell (p := ⟨R + 1 + 1, 1, none⟩) (fun h => absurd (show R + 1 + 1 < w.heap.size from h) (by have := HRR.out; omega)) _
              · have hx : Hid (Rt.sayE (Dk.at_ D.seen 1) = er) := by
                  show _ = _
                  rw [← HS.out, Rt.sayE, if_neg Hnb.out, if_neg (by rw [Hno.out]; decide), Her.out]
                have hfin := far_err hE8.out FR.out (by decide) (by rw [hx.out]; exact h0)
                rw [hx.out] at hfin
                have hne : ((er : Int) != 0) = true := by simp; omega
                have Hfin := Lib.hid (show Rt.findE D = er ∧ Rt.findR D = Rt.zero ∧ Rt.findN D = 0 from hfin)
                have r0 := (F5.out.c 0 (by decide)).1
                have r1 := (F5.out.c 1 (by decide)).1
                have r2 := (F5.out.c 2 (by decide)).1
                have f0 := (F5.out.c 0 (by decide)).2
                have f1 := (F5.out.c 1 (by decide)).2
                have f2 := (F5.out.c 2 (by decide)).2
                have tq := fun v0 v1 v2 => Lib.hid (tfin.out _ T5.out v0 v1 v2)
                rw [Hw5.out] at r0 r1 r2 f0 f1 f2
                have Htq := Lib.hid tq
                clear tq hfin h0
                go_wp2
                refine bodyPost_ret (v := .tuple #[.agg #[.int .u32 0, .int .u32 0, .int .u32 0], .int .i64 0, .int .i64 (er : Nat)]) (by simp [results, Tryz.results208, go_sem, r0, r1, r2]) rfl ⟨by rw [Hfin.out.1, Hfin.out.2.1, Hfin.out.2.2]; rfl, ?_⟩
                have := (Htq.out (.int .u32 0) (.int .u32 0) (.int .u32 0)).out
                rw [Hw5.out] at this
                exact this
end Go.Proofs.YtmjeigceclmdoaaGreatDoor
namespace Go.Proofs.YtmjeigceclmdoaaGreatDoor
open Go Go.RowKit
set_option linter.unusedSimpArgs false

set_option maxRecDepth 100000 in
set_option maxHeartbeats 4000000 in
theorem rootRead_of (w : World) (p : Value) (r : Rt.Root) (nx er : Nat) (hf : ∀ wx, Touch No w wx → Calls Tryz.prog 208 #[p] wx (FindPost wx r nx er)) :
    Calls Tryz.prog 161 #[p] w (RootPost w r er) := by
  have Hf := Lib.hid hf
  clear hf
  obtain ⟨xe, xf, xb⟩ := r
  go_enter Tryz.func161, Tryz.ntmps161
  go_wp2_with fail
  refine (Hf.out _ ((Touch.refl No w).alloc _)).mono ?_
  rintro e w1 ⟨rfl, t1⟩
  have hold := (Row.new w 101 #[.int .u32 0, .int .u32 0, .int .u32 0]).touch t1 id
  have c0 : w1.cell? ⟨w.heap.size, 0, none⟩ = some (.int .u32 0) := hold.cell 0
  have c1 : w1.cell? ⟨w.heap.size, 1, none⟩ = some (.int .u32 0) := hold.cell 1
  have c2 : w1.cell? ⟨w.heap.size, 2, none⟩ = some (.int .u32 0) := hold.cell 2
  have f0 := hold.soft 0
  have f1 := hold.soft 1
  have f2 := hold.soft 2
  have hlt : w.heap.size < w1.heap.size := lt_of_cell c0
  have hne : ¬ w.heap.size = w1.heap.size := by omega
  have T1 := Lib.hid (((Touch.refl No w).alloc (.cells #[.int .u32 0, .int .u32 0, .int .u32 0] 101)).trans t1)
  clear hold t1
  go_wp2
  refine bodyPost_ret (v := .tuple #[.agg #[.int .u32 (xe : Nat), .int .u32 (xf : Nat), .int .u32 (xb : Nat)], .int .i64 (er : Nat)]) (by simp [results, Tryz.results161, go_sem, c0, c1, c2, hlt]) rfl ⟨rfl, ?_⟩
  have hn : ∀ o' : Nat, (⟨w.heap.size, o', none⟩ : Addr).block < w.heap.size → No (⟨w.heap.size, o', none⟩ : Addr).block := fun o' h => absurd (show w.heap.size < w.heap.size from h) (Nat.lt_irrefl _)
  exact (((T1.out.setCell (p := ⟨w.heap.size, 0, none⟩) (hn 0) _).setCell (p := ⟨w.heap.size, 1, none⟩) (hn 1) _).setCell (p := ⟨w.heap.size, 2, none⟩) (hn 2) _).alloc _
theorem rootRead_any (w : World) (d : Nat) (D : Dk.Disk) (O : Nat → Prop) (h : DiskAt w d D O) :
    Calls Tryz.prog 161 #[.pointer (some ⟨d, 0, none⟩)] w (RootPost w (Rt.findR D) (Rt.findE D)) :=
  rootRead_of w _ _ (Rt.findN D) _ (fun wx t => find_any wx d D O (h.no t))
theorem rootRead_nil (w : World) : Calls Tryz.prog 161 #[.pointer none] w (RootPost w Rt.zero 2) :=
  rootRead_of w _ _ 0 _ (fun wx _ => find_nil wx)

namespace Rt
def wE (D : Dk.Disk) (r : Root) : Nat := if findE D ≠ 0 ∧ findE D ≠ 7 then findE D else if findE D = 0 ∧ r.epoch ≤ (findR D).epoch then 1 else 0
def wD (D : Dk.Disk) (r : Root) : Dk.Disk := if wE D r = 0 then Dk.sync (Dk.write (Dk.sync D) (findN D) (put r)) else D
theorem findN_le (D : Dk.Disk) : findN D ≤ 1 := by unfold findN; split <;> omega
theorem findE_len {D : Dk.Disk} (h : findE D = 0 ∨ findE D = 7) : 8 ≤ D.seen.length := by
  rcases Nat.lt_or_ge D.seen.length 8 with h8 | h8
  · rw [findE, if_pos h8] at h; omega
  · exact h8
end Rt

set_option maxRecDepth 100000 in
set_option maxHeartbeats 4000000 in
theorem St.rootWrite {w0 wi : World} {d : Nat} {D : Dk.Disk} (h : St w0 wi d D) (r : Rt.Root) (hr : r.Ok) :
    Calls Tryz.prog 162 #[.pointer (some ⟨d, 0, none⟩), .agg #[.int .u32 (r.epoch : Nat), .int .u32 (r.first : Nat), .int .u32 (r.bytes : Nat)]] wi fun e w' => e = .returned (.int .i64 (Rt.wE D r : Nat)) ∧ St w0 w' d (Rt.wD D r) := by
  obtain ⟨xe, xf, xb⟩ := r
  have Hr := Lib.hid hr
  obtain ⟨er, her⟩ : ∃ er, Rt.findE D = er := ⟨_, rfl⟩
  obtain ⟨fr, hfr⟩ : ∃ fr, Rt.findR D = fr := ⟨_, rfl⟩
  obtain ⟨nx, hnx⟩ : ∃ nx, Rt.findN D = nx := ⟨_, rfl⟩
  have hfind : Hid (∀ wx, Touch No wi wx → Calls Tryz.prog 208 #[.pointer (some ⟨d, 0, none⟩)] wx (FindPost wx fr nx er)) := fun wx t => by
    obtain ⟨O, hO, _⟩ := h
    rw [← her, ← hfr, ← hnx]
    exact find_any wx d D O (hO.on.no t)
  have Her := Lib.hid her
  have Hfr := Lib.hid hfr
  have Hnx := Lib.hid hnx
  have hnx1 : nx ≤ 1 := by rw [← hnx]; exact Rt.findN_le D
  obtain ⟨fe, ff, fb⟩ := fr
  clear hr her hfr hnx
  by_cases c1 : er ≠ 0 ∧ er ≠ 7
  · have hw : Rt.wE D ⟨xe, xf, xb⟩ = er := by rw [Rt.wE, Her.out, if_pos c1]
    have hd : Rt.wD D ⟨xe, xf, xb⟩ = D := by rw [Rt.wD, hw, if_neg c1.1]
    rw [hw, hd]
    have h0 : ((er : Int) != 0) = true := by simp; omega
    have h7 : ((er : Int) != 7) = true := by simp; omega
    clear hw hd c1
    go_enter Tryz.func162, Tryz.ntmps162
    go_wp2_with fail
    refine (hfind.out _ ((Touch.refl No wi).alloc _)).mono ?_
    rintro e w1 ⟨rfl, t1⟩
    have T1 := Lib.hid t1
    clear t1
    go_wp2
    go_ret
    exact ⟨rfl, ((h.alloc _).no T1.out).alloc _⟩
  by_cases c2 : er = 0 ∧ xe ≤ fe
  · obtain ⟨rfl, c2⟩ := c2
    have hw : Rt.wE D ⟨xe, xf, xb⟩ = 1 := by rw [Rt.wE, Her.out, if_neg (by omega), Hfr.out, if_pos ⟨rfl, c2⟩]
    have hd : Rt.wD D ⟨xe, xf, xb⟩ = D := by rw [Rt.wD, hw, if_neg (by decide)]
    rw [hw, hd]
    have hle : (xe : Int) ≤ (fe : Nat) := by omega
    clear hw hd c1 c2
    go_enter Tryz.func162, Tryz.ntmps162
    go_wp2_with fail
    refine (hfind.out _ ((Touch.refl No wi).alloc _)).mono ?_
    rintro e w1 ⟨rfl, t1⟩
    have hold := (Row.new wi 101 #[.int .u32 (xe : Nat), .int .u32 (xf : Nat), .int .u32 (xb : Nat)]).touch t1 id
    have k0 : w1.cell? ⟨wi.heap.size, 0, none⟩ = some (.int .u32 (xe : Nat)) := hold.cell 0
    have hlt : wi.heap.size < w1.heap.size := lt_of_cell k0
    have T1 := Lib.hid t1
    clear t1 hold
    go_wp2
    go_ret
    exact ⟨rfl, ((h.alloc _).no T1.out).alloc _⟩
  · have hw : Rt.wE D ⟨xe, xf, xb⟩ = 0 := by rw [Rt.wE, Her.out, if_neg (by omega), Hfr.out, if_neg c2]
    have hd : Rt.wD D ⟨xe, xf, xb⟩ = Dk.sync (Dk.write (Dk.sync D) nx (Rt.put ⟨xe, xf, xb⟩)) := by rw [Rt.wD, hw, if_pos rfl, Hnx.out]
    have h8 : Hid (8 ≤ D.seen.length) := Rt.findE_len (by rw [Her.out]; omega)
    rw [hw, hd]
    have hE : er = 0 ∧ fe < xe ∨ er = 7 := by omega
    clear hw hd c1 c2
    have hwr : Hid (nx < (Dk.sync D).seen.length) := by show nx < D.seen.length; have := h8.out; omega
    rcases hE with ⟨rfl, hE⟩ | rfl
    all_goals
      first | (have hle : ¬ (xe : Int) ≤ (fe : Nat) := by omega) | skip
      go_enter Tryz.func162, Tryz.ntmps162
      go_wp2_with fail
      refine (hfind.out _ ((Touch.refl No wi).alloc _)).mono ?_
      rintro e w1 ⟨rfl, t1⟩
      have hold := (Row.new wi 101 #[.int .u32 (xe : Nat), .int .u32 (xf : Nat), .int .u32 (xb : Nat)]).touch t1 id
      have k0 : w1.cell? ⟨wi.heap.size, 0, none⟩ = some (.int .u32 (xe : Nat)) := hold.cell 0
      have hlt : wi.heap.size < w1.heap.size := lt_of_cell k0
      obtain ⟨O, hO, tO⟩ := h
      have hBO : ¬ O wi.heap.size := fun hh => absurd (hO.lt _ hh) (Nat.lt_irrefl _)
      obtain ⟨W, hW⟩ : ∃ W, W = w1.alloc (.cells #[.int .u32 (fe : Nat), .int .u32 (ff : Nat), .int .u32 (fb : Nat)] 101) := ⟨_, rfl⟩
      have tW : Touch No wi W := by rw [hW]; exact (((Touch.refl No wi).alloc _).trans t1).alloc _
      have holdW : Row W wi.heap.size 101 [.int .u32 (xe : Nat), .int .u32 (xf : Nat), .int .u32 (xb : Nat)] := by
        rw [hW]; exact hold.touch (F := No) ((Touch.refl No w1).alloc _) id
      have D1 := hO.no tW
      have t01 := tO.then tW (fun _ _ f => f.elim)
      have HoldW := Lib.hid holdW
      have HW := Lib.hid hW
      have HD1 := Lib.hid D1
      have HT01 := Lib.hid t01
      have HBO := Lib.hid hBO
      clear hW tW holdW D1 t01 t1 hold hO tO hBO
      go_wp2_with fail
      rw [← HW.out]
      refine (sync_k W d D w0.heap.size O HT01.out.size HD1.out).mono ?_
      rintro e w2 ⟨rfl, h2⟩
      have q0 : w2.cell? ⟨wi.heap.size, 0, none⟩ = some (.int .u32 (xe : Nat)) := h2.1.cell HBO.out (HoldW.out.cell 0)
      have q1 : w2.cell? ⟨wi.heap.size, 1, none⟩ = some (.int .u32 (xf : Nat)) := h2.1.cell HBO.out (HoldW.out.cell 1)
      have q2 : w2.cell? ⟨wi.heap.size, 2, none⟩ = some (.int .u32 (xb : Nat)) := h2.1.cell HBO.out (HoldW.out.cell 2)
      have S2 : St w0 w2 d (Dk.sync D) := St.after HD1.out HT01.out h2
      clear h2 k0 hlt
      go_wp2_with fail
      refine (rootPut_any w2 ⟨xe, xf, xb⟩ Hr.out).mono ?_
      rintro e w3 ⟨a3, c3, rfl, o3, t3⟩
      have O3 := Lib.hid o3
      have S3 := S2.no t3
      clear o3 t3 S2 q0 q1 q2
      go_wp2_with fail
      refine (S3.write nx a3 64 c3 (Rt.put ⟨xe, xf, xb⟩) hwr.out (Rt.put_length _) (Nat.le_refl _) (Rt.put_lt _) O3.out.rd (Nat.zero_le _)).mono ?_
      rintro e w4 ⟨rfl, S4⟩
      clear S3 O3
      go_wp2_with fail
      refine (S4.sync).mono ?_
      rintro e w5 ⟨rfl, S5⟩
      clear S4
      go_wp2
      go_ret
      exact ⟨rfl, S5⟩
end Go.Proofs.YtmjeigceclmdoaaGreatDoor
namespace Go.Proofs.YtmjeigceclmdoaaGreatDoor
open Go Go.RowKit
set_option linter.unusedSimpArgs false

theorem St.rootRead {w0 wi : World} {d : Nat} {D : Dk.Disk} (h : St w0 wi d D) :
    Calls Tryz.prog 161 #[.pointer (some ⟨d, 0, none⟩)] wi (RootPost wi (Rt.findR D) (Rt.findE D)) := by
  obtain ⟨O, h, _⟩ := h
  exact rootRead_any wi d D O h.on
namespace Rt
def l0 : Dk.Disk := Dk.new 8
def l1 : Dk.Disk := wD l0 ⟨1, 9, 0⟩
def l2 : Dk.Disk := wD l1 ⟨2, 0, 7⟩
theorem live0 : findE l0 = 7 := by kernel_rfl
theorem live1 : wE l0 ⟨1, 9, 0⟩ = 0 := by kernel_rfl
theorem live2 : wE l1 ⟨1, 0, 0⟩ = 1 := by kernel_rfl
theorem live3 : wE l1 ⟨2, 0, 7⟩ = 0 := by kernel_rfl
theorem live4 : findE l2 = 0 := by kernel_rfl
theorem live5 : findR l2 = ⟨2, 0, 7⟩ := by kernel_rfl
theorem live2' : wD l1 ⟨1, 0, 0⟩ = l1 := by rw [wD, live2, if_neg (by decide)]
end Rt

set_option maxRecDepth 100000 in
set_option maxHeartbeats 4000000 in
theorem lives_is (w : World) : Calls Tryz.prog 69 #[] w fun e w' => e = .returned (.bool true) ∧ Touch No w w' := by
  have ok1 : Rt.Root.Ok ⟨1, 9, 0⟩ := ⟨by decide, by decide, by decide⟩
  have ok2 : Rt.Root.Ok ⟨1, 0, 0⟩ := ⟨by decide, by decide, by decide⟩
  have ok3 : Rt.Root.Ok ⟨2, 0, 7⟩ := ⟨by decide, by decide, by decide⟩
  go_enter Tryz.func69, Tryz.ntmps69
  go_wp2_with fail
  refine (new_k w 8 (by decide) (by decide)).mono ?_
  rintro e w1 ⟨d, rfl, h1⟩
  have s1 : St w w1 d Rt.l0 := St.made (Touch.refl _ _) h1
  clear h1
  go_wp2_with fail
  refine (s1.rootRead).mono ?_
  rw [Rt.live0]
  obtain ⟨⟨xe, xf, xb⟩, hx⟩ : ∃ r, Rt.findR Rt.l0 = r := ⟨_, rfl⟩
  rw [hx]
  clear hx
  rintro e w2 ⟨rfl, t2⟩
  have s2 := (s1.no t2).alloc (.cells #[.int .u32 (xe : Nat), .int .u32 (xf : Nat), .int .u32 (xb : Nat)] 101)
  clear s1 t2
  go_wp2_with fail
  refine (s2.rootWrite ⟨1, 9, 0⟩ ok1).mono ?_
  rw [Rt.live1]
  rintro e w3 ⟨rfl, s3⟩
  have s3 : St w w3 d Rt.l1 := s3
  clear s2
  go_wp2_with fail
  refine (s3.rootWrite ⟨1, 0, 0⟩ ok2).mono ?_
  rw [Rt.live2, Rt.live2']
  rintro e w4 ⟨rfl, s4⟩
  clear s3
  go_wp2_with fail
  refine (s4.rootWrite ⟨2, 0, 7⟩ ok3).mono ?_
  rw [Rt.live3]
  rintro e w5 ⟨rfl, s5⟩
  have s5 : St w w5 d Rt.l2 := s5
  clear s4
  go_wp2_with fail
  refine (s5.rootRead).mono ?_
  rw [Rt.live4, Rt.live5]
  rintro e w6 ⟨rfl, t6⟩
  have t6' := s5.end.trans t6
  have T6 := Lib.hid t6'
  clear s5 t6 t6'
  go_wp2_with fail
  refine (rootRead_nil _).mono ?_
  rintro e w7 ⟨rfl, t7⟩
  have hrow := (Row.new w6 101 #[.int .u32 2, .int .u32 0, .int .u32 7]).touch t7 id
  have q0 : w7.cell? ⟨w6.heap.size, 0, none⟩ = some (.int .u32 2) := hrow.cell 0
  have q1 : w7.cell? ⟨w6.heap.size, 1, none⟩ = some (.int .u32 0) := hrow.cell 1
  have q2 : w7.cell? ⟨w6.heap.size, 2, none⟩ = some (.int .u32 7) := hrow.cell 2
  have hlt : w6.heap.size < w7.heap.size := lt_of_cell q0
  have T7 := Lib.hid ((T6.out.alloc _).trans t7)
  clear hrow t7
  go_wp2
  go_ret
  exact ⟨rfl, T7.out.alloc _⟩
end Go.Proofs.YtmjeigceclmdoaaGreatDoor
