/-
  Package roots by its own text: Put, nought.
-/
import Derived.Test.YtpmkegbgbldpnaaGreatDoorK08
namespace Go.Proofs.YtpmkegbgbldpnaaGreatDoor
open Go Go.RowKit
set_option linter.unusedSimpArgs false

section
variable {P : Program} {w : World}
/-- 'append(b, "..."...)' where there is room -/
theorem run_append_str (base : Nat) (t u ty e : TypeId) (i : TypeInfo) (ht : P.underlying t = some (.slice e)) (hu : P.underlying u = some .string) (hi : P.info? e = some i) (hsize : i.size = 1)
    (g cap : Nat) (vs : List Value) (hown : Own w base e (.slice (some ⟨g, 0, none⟩) vs.length cap) vs) (s : ByteArray) (us : List Nat) (hs : (s.data.map fun b => Value.int .u8 b.toNat).toList = nums .u8 us) (hroom : vs.length + us.length ≤ cap) :
    ∃ w', (Builtin.append_ #[t, u] ty #[.slice (some ⟨g, 0, none⟩) vs.length cap, .string s]).run P w = .ok (.slice (some ⟨g, 0, none⟩) (vs.length + us.length) cap) w' ∧ Own w' base e (.slice (some ⟨g, 0, none⟩) (vs.length + us.length) cap) (vs ++ nums .u8 us) ∧ Touch (One g) w w' := by
  have hsz : s.size = us.length := by
    have := congrArg List.length hs
    rw [nums_length] at this
    simpa using this
  rcases hown.2 with ⟨h0, _⟩ | ⟨g', cap', cur, h0, hbg, hg, hnc, hcm, hcs, htake⟩
  · cases h0
  · cases h0
    have hfit : vs.length * 1 + (nums .u8 us).length ≤ cur.size := by rw [hcs, nums_length]; omega
    have hst := run_storeCells_at P g (vs.length * 1) e (nums .u8 us) 0 cur w hg (by simpa using hfit) (nums_one _ _)
    simp only [Nat.add_zero] at hst
    refine ⟨w.setRow g (cur.toList.take (vs.length * 1) ++ nums .u8 us ++ cur.toList.drop (vs.length * 1 + (nums .u8 us).length)).toArray, ?_, ?_, ?_⟩
    · have hadd : (⟨g, 0, none⟩ : Addr).add (vs.length * 1) = ⟨g, vs.length * 1, none⟩ := by unfold Addr.add; split <;> simp_all
      have hext : s.extract 0 us.length = s := by rw [← hsz]; simp
      have hf : (Builtin.firstCells 1 us.length (.string s)).run P w = .ok (s.data.map fun b => Value.int .u8 b.toNat) w := by
        show Sem.run P (pure (Array.map _ (s.extract 0 us.length).data)) w = _
        rw [hext]; rfl
      have hroom' : vs.length + us.length ≤ cap := hroom
      simp [Builtin.append_, run_underlying ht, run_underlying hu, sizeOf, typeInfo, hi, hsize, Builtin.lenOf, hsz, hroom', hf]
      rw [Nat.mul_one] at hadd hst
      have hs' : List.map (fun b => Value.int .u8 (b.toNat : Int)) s.data.toList = nums .u8 us := by simpa using hs
      rw [hadd, hs', hst]
      simp
    · refine ⟨by simp [nums_length], .inr ⟨g, cap, _, by simp [nums_length], hbg, setRow_heap w g cur _ e _ hg, by simpa [nums_length] using hroom, hcm, ?_, ?_⟩⟩
      · simp only [List.size_toArray, List.length_append, List.length_take, List.length_drop, Array.length_toList]
        omega
      · simp only [Nat.mul_one] at htake ⊢
        rw [htake]
        exact List.take_left
    · exact ⟨rfl, rfl, rfl, by simp [World.setRow], fun k _ hk => setRow_other w g k _ (fun e => hk (by simp [One, e]))⟩
theorem wpList_append_str {ops : Array Oper} {rest : List Oper} {o : Oper} {a : Act} {Q : Exit → Act → World → Prop} (hgd : o.guard = none) (s x : Operand) (t u : TypeId) (ho : o.op = .call { callee := .builtin .append, args := #[s, x], argTypes := #[t, u] })
    (base : Nat) (e : TypeId) (i : TypeInfo) (ht : P.underlying t = some (.slice e)) (hu : P.underlying u = some .string) (hi : P.info? e = some i) (hsize : i.size = 1)
    (g cap : Nat) (vs : List Value) (hown : Own w base e (.slice (some ⟨g, 0, none⟩) vs.length cap) vs) (hs : a.eval s = .slice (some ⟨g, 0, none⟩) vs.length cap) (str : ByteArray) (hx : a.eval x = .string str) (us : List Nat) (hst : (str.data.map fun b => Value.int .u8 b.toNat).toList = nums .u8 us) (hroom : vs.length + us.length ≤ cap)
    (h : ∀ w', Own w' base e (.slice (some ⟨g, 0, none⟩) (vs.length + us.length) cap) (vs ++ nums .u8 us) → Touch (One g) w w' → wpList P ops Q rest (a.put o.dst (.slice (some ⟨g, 0, none⟩) (vs.length + us.length) cap)) w') : wpList P ops Q (o :: rest) a w :=
  wpList_plain hgd fun _ hK => by
    obtain ⟨w', h1, h2, h3⟩ := run_append_str base t u o.type e i ht hu hi hsize g cap vs hown str us hst hroom
    unfold Oper.wp execOp
    simp only [ho, resolve, invoke, builtin, Sem.run_bind, Sem.run_pure, Result.andThen_ok, List.map_toArray, List.map_cons, List.map_nil, hs, hx, h1]
    exact hK _ _ (h w' h2 h3)
end

def zs64 : Array Value := (List.replicate 64 (Value.int .u8 0)).toArray
def rootN (r : Rt.Root) (k : Nat) : List Nat := ([r.epoch, r.first, r.bytes].take k).flatMap Rt.four

set_option maxRecDepth 100000 in
set_option maxHeartbeats 4000000 in
theorem rootPut_any (w : World) (r : Rt.Root) (hr : r.Ok) :
    Calls Tryz.prog 173 #[.agg #[.int .u32 (r.epoch : Nat), .int .u32 (r.first : Nat), .int .u32 (r.bytes : Nat)]] w (PutPost w (Rt.put r) 64) := by
  obtain ⟨I, hi0, hi1, hi2, hi3⟩ := u8_info
  obtain ⟨xe, xf, xb⟩ := r
  have h1 : xe < 4294967296 := hr.epoch
  have h2 : xf < 4294967296 := hr.first
  have h3 : xb < 4294967296 := hr.bytes
  have hmk : ∀ wx : World, (Instr.makeSlice 22 (.int .i64 0) (.int .i64 64)).run Tryz.prog wx = .ok (.slice (some ⟨wx.heap.size, 0, none⟩) 0 64) (wx.alloc (.cells zs64 5)) := fun wx => by
    have := run_make (P := Tryz.prog) wx 22 5 I (.int .u8 0) Tryz.underlying22 hi0 hi1 .i64 .i64 0 64 (by omega) (by omega) (by rw [hi3]; omega) (by omega)
    rw [this, hi2]
    show Result.ok _ (wx.alloc (.cells (madeCells #[Value.int .u8 0] 64) _)) = _
    rw [made_zeros]; rfl
  have Hi := Lib.hid (And.intro hi0 (And.intro hi1 (And.intro hi2 hi3)))
  have i0 : ∀ wx : World, (Instr.index 366 (.agg #[.int .u32 (xe : Nat), .int .u32 (xf : Nat), .int .u32 (xb : Nat)]) (.int .i64 0)).run Tryz.prog wx = .ok (.int .u32 (xe : Nat)) wx := fun wx => by kernel_rfl
  have i1 : ∀ wx : World, (Instr.index 366 (.agg #[.int .u32 (xe : Nat), .int .u32 (xf : Nat), .int .u32 (xb : Nat)]) (.int .i64 1)).run Tryz.prog wx = .ok (.int .u32 (xf : Nat)) wx := fun wx => by kernel_rfl
  have i2 : ∀ wx : World, (Instr.index 366 (.agg #[.int .u32 (xe : Nat), .int .u32 (xf : Nat), .int .u32 (xb : Nat)]) (.int .i64 2)).run Tryz.prog wx = .ok (.int .u32 (xb : Nat)) wx := fun wx => by kernel_rfl
  have hown0 : Hid (∀ o : Obj, Own ((w.alloc o).alloc (.cells zs64 5)) (w.heap.size + 1) 5 (.slice (some ⟨w.heap.size + 1, 0, none⟩) 0 64) []) := fun o => by
    have := World.ownsRow_made (base := (w.alloc o).heap.size) (e := 5) (size := 1) (w.alloc o) zs64 64 (Nat.le_refl _) (by unfold maxLen; decide) (by simp [zs64])
    rw [size_alloc] at this
    exact this
  have hcells : Hid (∀ w2, Touch (One (w.heap.size + 1)) ((w.alloc (.cells #[.int .u32 (xe : Nat), .int .u32 (xf : Nat), .int .u32 (xb : Nat)] 154)).alloc (.cells zs64 5)) w2 → w2.cell? ⟨w.heap.size, 0, none⟩ = some (.int .u32 (xe : Nat)) ∧ w2.cell? ⟨w.heap.size, 1, none⟩ = some (.int .u32 (xf : Nat)) ∧ w2.cell? ⟨w.heap.size, 2, none⟩ = some (.int .u32 (xb : Nat))) := fun w2 t => by
    have hne : ¬ One (w.heap.size + 1) w.heap.size := by unfold One; omega
    have c : ∀ j, ((w.alloc (.cells #[.int .u32 (xe : Nat), .int .u32 (xf : Nat), .int .u32 (xb : Nat)] 154)).alloc (.cells zs64 5)).cell? ⟨w.heap.size, j, none⟩ = (#[Value.int .u32 (xe : Nat), .int .u32 (xf : Nat), .int .u32 (xb : Nat)])[j]? := fun j => by
      rw [cell_old _ _ (by simp), cell_new]
    exact ⟨t.cell hne ((c 0).trans rfl), t.cell hne ((c 1).trans rfl), t.cell hne ((c 2).trans rfl)⟩
  have hmark : Hid (((⟨#[82, 79, 79, 84]⟩ : ByteArray).data.map fun b => Value.int .u8 b.toNat).toList = nums .u8 Rt.mark) := by show _ = _; kernel_rfl
  clear hr hi0 hi1 hi2 hi3
  go_enter Tryz.func173, Tryz.ntmps173
  go_wp2_with (refine wpList_append_str rfl _ _ _ _ rfl _ 5 I Tryz.underlying22 Tryz.underlying9 Hi.out.1 Hi.out.2.2.1 _ 64 [] (hown0.out _) rfl ⟨#[82, 79, 79, 84]⟩ rfl Rt.mark hmark.out (by decide) ?_; intro w2 own2 t2; have O2 := Lib.hid own2; have T2 := Lib.hid t2; have q0 := (hcells.out w2 t2).1; have q1 := (hcells.out w2 t2).2.1; have q2 := (hcells.out w2 t2).2.2; clear own2 t2)
  obtain ⟨B, hB⟩ : ∃ B, B = w.heap.size := ⟨_, rfl⟩
  have tb : Touch No w w2 := by
    exact ((Touch.refl No w).alloc _).alloc _ |>.then T2.out (fun i hi e => by
      have e' : i = w.heap.size + 1 := e
      omega)
  have own2 : Own w2 w.heap.size 5 (.slice (some ⟨w.heap.size + 1, 0, none⟩) 4 64) (nums .u8 (Rt.mark ++ rootN ⟨xe, xf, xb⟩ 0)) := by
    exact O2.out.mono (base' := w.heap.size) (Nat.le_succ _)
  have HO2 := Lib.hid own2
  have HTb := Lib.hid tb
  clear own2 tb O2 T2 hB hmk hown0 q0 q1 q2
  go_loopg [3, 16] 3 (fun g s3 s16 wr => ∃ (k : Nat) (a' : Option Addr) (N c' : Nat), k + g = 3 ∧ s16 = .int .i64 ((k : Nat) : Int) ∧ s3 = .slice a' N c' ∧ N = 4 + 4 * k ∧ Hid (Own wr w.heap.size 5 (.slice a' N c') (nums .u8 (Rt.mark ++ rootN ⟨xe, xf, xb⟩ k))) ∧ Hid (Touch No w wr))
  case atStart => exact ⟨0, _, 4, 64, rfl, rfl, rfl, rfl, HO2.out, HTb.out⟩
  case round =>
    clear HO2 HTb
    obtain ⟨k, a', N, c', hkg, rfl, rfl, hN, O, T⟩ := hrel
    have hlen : Hid ((Rt.mark ++ rootN ⟨xe, xf, xb⟩ k).length = N) := by
      show _ = _
      have hk : k = 0 ∨ k = 1 ∨ k = 2 ∨ k = 3 := by omega
      rcases hk with rfl | rfl | rfl | rfl <;> rw [hN] <;> rfl
    cases gk with
    | zero =>
      obtain rfl : k = 3 := by omega
      have hN16 : N = 16 := by omega
      subst hN16
      have hhd : Hid (Rt.mark ++ rootN ⟨xe, xf, xb⟩ 3 = Rt.head ⟨xe, xf, xb⟩) := by
        show _ = _
        simp [rootN, Rt.head]
      have hO := O.out
      rw [hhd.out] at hO
      have HO := Lib.hid hO
      clear hO
      have hzl : Hid ((nums .u8 (Rt.head ⟨xe, xf, xb⟩ ++ Rt.four (Rt.of (Rt.head ⟨xe, xf, xb⟩)))).length = 20) := by show _ = _; rw [nums_length]; rfl
      go_wp2_with fail
      refine (of_any wr a' 16 c' _ (Rt.head_length _) (by decide) HO.out.rd (Rt.head_lt _)).mono ?_
      rintro e w3 ⟨rfl, t3⟩
      have T3 := Lib.hid t3
      clear t3
      go_wp2_with fail
      refine (putFour_any w3 a' 16 c' _ (Rt.head_length _) (HO.out.rd.no T3.out) (Rt.of (Rt.head ⟨xe, xf, xb⟩)) Rt.of_lt (by decide) 20 rfl).mono ?_
      rintro e w4 ⟨a4, c4, rfl, o4, t4⟩
      have T4 := Lib.hid ((T.out.trans T3.out).trans t4)
      have O4 := Lib.hid (o4.mono (base' := w.heap.size) (T.out.trans T3.out).size)
      clear o4 t4
      go_wp2_with (refine wpList_append_zeros rfl _ _ _ _ rfl w.heap.size 5 I (.int .u8 0) (.int .u8 0) 1 Tryz.underlying22 Tryz.underlying3 Hi.out.1 Hi.out.2.1 Hi.out.2.2.1 Hi.out.2.2.2 rfl rfl _ _ O4.out rfl 44 rfl (by rw [hzl.out]; unfold maxLen; decide) (by rw [hzl.out]; decide) T4.out.size ?_; intro v5 w5 own5 t5; have O5 := Lib.hid own5; have T5 := Lib.hid t5; clear own5 t5)
      go_ret
      have hput : nums .u8 (Rt.head ⟨xe, xf, xb⟩ ++ Rt.four (Rt.of (Rt.head ⟨xe, xf, xb⟩))) ++ List.replicate 44 (Value.int .u8 0) = nums .u8 (Rt.put ⟨xe, xf, xb⟩) := by
        rw [Rt.put, nums_append _ _ (List.replicate 44 0)]; rfl
      have hO5 := O5.out
      rw [hput] at hO5
      obtain ⟨a5, c5, rfl, _⟩ := hO5.form' (n := 64) (by rw [nums_length]; rfl)
      exact ⟨a5, c5, rfl, hO5, T4.out.then T5.out (fun i hi e => by have := (O4.out.block e).1; omega)⟩
    | succ g =>
      have hk : k = 0 ∨ k = 1 ∨ k = 2 := by omega
      have hNk : N ≤ 12 := by omega
      have Hn := Lib.hid hN
      clear hN
      rcases hk with rfl | rfl | rfl
      · go_wp2_with fail
        refine (putFour_any wr a' N c' _ hlen.out O.out.rd xe h1 (by omega) (N + 4) rfl).mono ?_
        rintro e w3 ⟨a3, c3, rfl, o3, t3⟩
        have O3 := Lib.hid (o3.mono (base' := w.heap.size) T.out.size)
        have T3 := Lib.hid (T.out.trans t3)
        have hnx : Hid (N + 4 = 4 + 4 * (0 + 1)) := by show _ = _; rw [Hn.out]
        clear o3 t3
        go_wp2
        go_roundg g
        case measure => omega
        case rel => exact ⟨0 + 1, a3, N + 4, c3, by omega, by go_num, rfl, hnx.out, O3.out, T3.out⟩
      · go_wp2_with fail
        refine (putFour_any wr a' N c' _ hlen.out O.out.rd xf h2 (by omega) (N + 4) rfl).mono ?_
        rintro e w3 ⟨a3, c3, rfl, o3, t3⟩
        have O3 := Lib.hid (o3.mono (base' := w.heap.size) T.out.size)
        have T3 := Lib.hid (T.out.trans t3)
        have hnx : Hid (N + 4 = 4 + 4 * (1 + 1)) := by show _ = _; rw [Hn.out]
        clear o3 t3
        go_wp2
        go_roundg g
        case measure => omega
        case rel => exact ⟨1 + 1, a3, N + 4, c3, by omega, by go_num, rfl, hnx.out, O3.out, T3.out⟩
      · go_wp2_with fail
        refine (putFour_any wr a' N c' _ hlen.out O.out.rd xb h3 (by omega) (N + 4) rfl).mono ?_
        rintro e w3 ⟨a3, c3, rfl, o3, t3⟩
        have O3 := Lib.hid (o3.mono (base' := w.heap.size) T.out.size)
        have T3 := Lib.hid (T.out.trans t3)
        have hnx : Hid (N + 4 = 4 + 4 * (2 + 1)) := by show _ = _; rw [Hn.out]
        clear o3 t3
        go_wp2
        go_roundg g
        case measure => omega
        case rel => exact ⟨2 + 1, a3, N + 4, c3, by omega, by go_num, rfl, hnx.out, O3.out, T3.out⟩
end Go.Proofs.YtpmkegbgbldpnaaGreatDoor
