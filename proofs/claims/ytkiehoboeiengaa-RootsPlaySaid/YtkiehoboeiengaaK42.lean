/-
  Package drydockref17 by its own text: noughts, Put, Get.
-/
import Derived.Test.YtkiehoboeiengaaK39
import Derived.Test.YtkiehoboeiengaaK40
import Derived.Test.YtkiehoboeiengaaK41
import Derived.Lib.SmallJoins
namespace Go.Proofs.Ytkiehoboeiengaa
open Go Go.RowKit
set_option linter.unusedSimpArgs false

set_option maxHeartbeats 1000000 in
theorem refNoughts_any (w : World) (a : Option Addr) (n c : Nat) (b : List Nat) (hb : b.length = n) (hmax : (n : Int) ≤ 9223372036854775807) (hr : Rd w a (nums .u8 b)) :
    Calls Try.prog 67 #[.slice a n c] w fun e w' => e = .returned (.bool (Rt.nought b)) ∧ w = w' := by
  have Hb := Lib.hid hb
  have Hr := Lib.hid hr
  clear hb hr
  go_enter Try.func67, Try.ntmps67
  go_wp2
  go_loopg [3] n (fun g s3 wr => ∃ k : Nat, k + g = n ∧ s3 = .int .i64 ((k : Nat) : Int) ∧ Hid (Rt.nought (b.take k) = true) ∧ Hid (wr = w))
  case atStart => exact ⟨0, by omega, rfl, rfl, rfl⟩
  case round =>
    obtain ⟨k, hkg, rfl, Hn, hwr⟩ := hrel
    have hww : w = wr := hwr.out.symm
    clear hwr
    subst hww
    cases gk with
    | zero =>
      obtain rfl : k = n := by omega
      have hf : Hid (Rt.nought b = true) := by
        have := Hn.out
        rwa [List.take_of_length_le (by rw [Hb.out]; exact Nat.le_refl _)] at this
      go_wp2
      go_ret
      exact ⟨ret_bool hf.out.symm, rfl⟩
    | succ g =>
      have hlt : (k : Int) < (n : Nat) := by omega
      have hkb : k < b.length := by rw [Hb.out]; omega
      obtain ⟨gb, ob, rfl, hcb⟩ := Hr.out.num hkb
      have hge : b.getD k 0 = b[k] := by rw [List.getD_eq_getElem?_getD, List.getElem?_eq_getElem hkb]; rfl
      have hnext : Hid (b.getD k 0 = 0 → Rt.nought (b.take (k + 1)) = true) := fun h0 => by
        rw [List.take_succ_eq_append_getElem hkb, Rt.nought, List.all_append]
        have := Hn.out
        rw [Rt.nought] at this
        rw [this, ← hge, h0]; rfl
      have hnot : Hid (b.getD k 0 ≠ 0 → Rt.nought b = false) := fun h0 => by
        rw [Rt.nought, List.all_eq_false]
        exact ⟨b[k], List.getElem_mem hkb, by rw [← hge]; simpa using h0⟩
      obtain ⟨x, hx⟩ : ∃ x, b.getD k 0 = x := ⟨_, rfl⟩
      rw [hx] at hcb hnext hnot
      clear hx hkb hge
      by_cases h0 : x = 0
      · subst h0
        go_wp2
        go_roundg g
        case measure => omega
        case rel => exact ⟨k + 1, by omega, by go_num, hnext.out (by first | rfl | trivial), rfl⟩
      · have hne : ((x : Int) != 0) = true := by simp; omega
        have H0 := Lib.hid h0
        clear h0
        go_wp2
        go_ret
        exact ⟨ret_bool (hnot.out H0.out).symm, rfl⟩

set_option maxRecDepth 100000 in
set_option maxHeartbeats 4000000 in
theorem refRootPut_any (w : World) (r : Rt.Root) (hr : r.Ok) :
    Calls Try.prog 46 #[.agg #[.int .u32 (r.epoch : Nat), .int .u32 (r.first : Nat), .int .u32 (r.bytes : Nat)]] w (PutPost w (Rt.put r) 64) := by
  obtain ⟨I, hi0, hi1, hi2, hi3⟩ := u8_info
  have Hi := Lib.hid (And.intro hi0 (And.intro hi1 (And.intro hi2 hi3)))
  obtain ⟨xe, xf, xb⟩ := r
  have h1 : xe < 4294967296 := hr.epoch
  have h2 : xf < 4294967296 := hr.first
  have h3 : xb < 4294967296 := hr.bytes
  clear hr hi0 hi1 hi2 hi3
  have hcv : (convert 34 34 (.slice (some ⟨w.heap.size + 1, 0, none⟩) 4 4)).run Try.prog ((w.alloc (.cells #[.int .u32 (xe : Nat), .int .u32 (xf : Nat), .int .u32 (xb : Nat)] 33)).alloc (.cells #[.int .u8 82, .int .u8 79, .int .u8 79, .int .u8 84] 5)) = .ok (.slice (some ⟨w.heap.size + 1, 0, none⟩) 4 4) ((w.alloc (.cells #[.int .u32 (xe : Nat), .int .u32 (xf : Nat), .int .u32 (xb : Nat)] 33)).alloc (.cells #[.int .u8 82, .int .u8 79, .int .u8 79, .int .u8 84] 5 (4, 5))) :=
    Go.Joins.run_convert_bytes_const_at _ 34 5 #[.int .u8 82, .int .u8 79, .int .u8 79, .int .u8 84] 4 4 (w.heap.size + 1) (by simp) Try.underlying34 Try.underlying5
  go_enter Try.func46, Try.ntmps46
  go_wp2_with fail
  clear hcv
  obtain ⟨W1, hW1⟩ : ∃ W1, W1 = (w.alloc (.cells #[.int .u32 (xe : Nat), .int .u32 (xf : Nat), .int .u32 (xb : Nat)] 33)).alloc (.cells #[.int .u8 82, .int .u8 79, .int .u8 79, .int .u8 84] 5 (4, 5)) := ⟨_, rfl⟩
  obtain ⟨B, hB⟩ : ∃ B, B = w.heap.size := ⟨_, rfl⟩
  have tW : Touch No w W1 := by rw [hW1]; exact ((Touch.refl No w).alloc _).alloc _
  have rM : Rd W1 (some ⟨B + 1, 0, none⟩) (nums .u8 Rt.mark) := by
    have := rd_new (w.alloc (.cells #[.int .u32 (xe : Nat), .int .u32 (xf : Nat), .int .u32 (xb : Nat)] 33)) 5 #[.int .u8 82, .int .u8 79, .int .u8 79, .int .u8 84] (4, 5)
    rw [size_alloc, ← hW1, ← hB] at this
    exact this
  have hK : ∀ wx, Touch No W1 wx → wx.cell? ⟨B, 0, none⟩ = some (.int .u32 (xe : Nat)) ∧ wx.cell? ⟨B, 1, none⟩ = some (.int .u32 (xf : Nat)) ∧ wx.cell? ⟨B, 2, none⟩ = some (.int .u32 (xb : Nat)) := fun wx t => by
    have hrow : Row W1 B 33 [.int .u32 (xe : Nat), .int .u32 (xf : Nat), .int .u32 (xb : Nat)] := by
      rw [hW1, hB]
      exact (Row.new w 33 #[.int .u32 (xe : Nat), .int .u32 (xf : Nat), .int .u32 (xb : Nat)]).touch (F := No) ((Touch.refl No _).alloc _) id
    have h := hrow.touch t id
    exact ⟨h.cell 0, h.cell 1, h.cell 2⟩
  have TW := Lib.hid tW
  have RM := Lib.hid rM
  have HK := Lib.hid hK
  have HBW : Hid (w.heap.size ≤ W1.heap.size) := tW.size
  rw [← hW1, ← hB]
  clear tW rM hK hW1 hB
  refine (refPutFour_any W1 (some ⟨B + 1, 0, none⟩) 4 4 Rt.mark rfl RM.out xe h1 (by decide) 8 rfl).mono ?_
  rintro e w1 ⟨a1, c1, rfl, o1, t1⟩
  have O1 := Lib.hid o1
  have T1 := Lib.hid t1
  clear o1 t1
  obtain ⟨_, k1, _⟩ := HK.out _ T1.out
  go_wp2_with fail
  clear k1
  refine (refPutFour_any w1 a1 8 c1 _ rfl O1.out.rd xf h2 (by decide) 12 rfl).mono ?_
  rintro e w2 ⟨a2, c2, rfl, o2, t2⟩
  have O2 := Lib.hid (o2.mono (base' := W1.heap.size) T1.out.size)
  have T2 := Lib.hid (T1.out.trans t2)
  clear o2 t2 O1 T1
  obtain ⟨_, _, k2⟩ := HK.out _ T2.out
  go_wp2_with fail
  clear k2
  refine (refPutFour_any w2 a2 12 c2 _ rfl O2.out.rd xb h3 (by decide) 16 rfl).mono ?_
  rintro e w3 ⟨a3, c3, rfl, o3, t3⟩
  have O3 : Hid (Own w3 W1.heap.size 5 (.slice a3 16 c3) (nums .u8 (Rt.head ⟨xe, xf, xb⟩))) := o3.mono (base' := W1.heap.size) T2.out.size
  have T3 := Lib.hid (T2.out.trans t3)
  clear o3 t3 O2 T2
  go_wp2_with fail
  refine (refOf_any w3 a3 16 c3 _ (Rt.head_length _) (by decide) O3.out.rd (Rt.head_lt _)).mono ?_
  rintro e w4 ⟨rfl, rfl⟩
  go_wp2_with fail
  refine (refPutFour_any w3 a3 16 c3 _ (Rt.head_length _) O3.out.rd (Rt.of (Rt.head ⟨xe, xf, xb⟩)) Rt.of_lt (by decide) 20 rfl).mono ?_
  rintro e w4 ⟨a4, c4, rfl, o4, t4⟩
  have O4 := Lib.hid (o4.mono (base' := W1.heap.size) T3.out.size)
  have T4 := Lib.hid (T3.out.trans t4)
  have hzl : Hid ((nums .u8 (Rt.head ⟨xe, xf, xb⟩ ++ Rt.four (Rt.of (Rt.head ⟨xe, xf, xb⟩)))).length = 20) := by show _ = _; rw [nums_length]; rfl
  clear o4 t4 O3 T3
  go_wp2_with (refine wpList_append_zeros rfl _ _ _ _ rfl W1.heap.size 5 I (.int .u8 0) (.int .u8 0) 1 Try.underlying34 Try.underlying3 Hi.out.1 Hi.out.2.1 Hi.out.2.2.1 Hi.out.2.2.2 rfl rfl _ _ O4.out rfl 44 rfl (by rw [hzl.out]; unfold maxLen; decide) (by rw [hzl.out]; decide) T4.out.size ?_; intro v5 w5 own5 t5; have O5 := Lib.hid own5; have T5 := Lib.hid t5; clear own5 t5)
  go_ret
  have hput : nums .u8 (Rt.head ⟨xe, xf, xb⟩ ++ Rt.four (Rt.of (Rt.head ⟨xe, xf, xb⟩))) ++ List.replicate 44 (Value.int .u8 0) = nums .u8 (Rt.put ⟨xe, xf, xb⟩) := by
    rw [Rt.put, nums_append _ _ (List.replicate 44 0)]; rfl
  have hO5 := O5.out
  rw [hput] at hO5
  obtain ⟨a5, c5, rfl, _⟩ := hO5.form' (n := 64) (by rw [nums_length]; rfl)
  exact ⟨a5, c5, rfl, hO5.mono HBW.out, TW.out.trans (T4.out.then T5.out (fun i hi e => absurd (O4.out.block e).1 (Nat.not_le.2 hi)))⟩

theorem refGetFour_ok (w : World) (a : Option Addr) (n c : Nat) (b : List Nat) (v : Nat) (hb : b.length = n) (h4 : 4 ≤ n) (hr : Rd w a (nums .u8 b)) (hlt : ∀ x ∈ b, x < 256) (hv : Rt.unfour b = v) :
    Calls Try.prog 89 #[.slice a n c] w fun e w' => e = .returned (.tuple #[.int .u32 (v : Nat), .int .i64 0]) ∧ w = w' := by
  subst hv
  refine (refGetFour_any w a n c b hb hr hlt).mono fun e w' ⟨he, t⟩ => ⟨?_, t⟩
  rw [if_neg (by omega), if_neg (by omega)] at he
  exact he
set_option maxRecDepth 100000 in
set_option maxHeartbeats 4000000 in
theorem refRootGet_any (w : World) (a : Option Addr) (n c : Nat) (b : List Nat) (hb : b.length = n) (hc : n ≤ c) (hr : Rd w a (nums .u8 b)) (hlt : ∀ x ∈ b, x < 256) :
    Calls Try.prog 68 #[.slice a n c] w (RootPost w (Rt.rootOf b) (Rt.errOf b)) := by
  have Form : Hid (¬ (b.length = 64 ∧ b.take 4 = Rt.mark ∧ Rt.nought (b.drop 20) = true) → Rt.errOf b = 4 ∧ Rt.rootOf b = ⟨0, 0, 0⟩) := fun h => by
    have h1 : Rt.errOf b = 4 := by rw [Rt.errOf, if_neg h]
    exact ⟨h1, by rw [Rt.rootOf, h1, if_neg (by decide)]⟩
  have Hb := Lib.hid hb
  have Hr := Lib.hid hr
  have Hlt := Lib.hid hlt
  by_cases h64 : n = 64
  · subst h64
    obtain ⟨g, o, rfl, _⟩ := hr.num (i := 0) (by omega)
    have Hc := Lib.hid hc
    have hc64 : (64 : Int) ≤ (c : Nat) := by omega
    have hc20 : ¬ c = 20 := by omega
    have hc16 : (16 : Int) ≤ (c : Nat) := by omega
    have hc4 : ¬ c = 4 := by omega
    have hc8 : ¬ c = 8 := by omega
    have hc12 : ¬ c = 12 := by omega
    have hc16' : ¬ c = 16 := by omega
    have r4 : Hid (Rd w (some ⟨g, o, none⟩) (nums .u8 (b.take 4))) := by
      have := hr.take 4
      show Rd _ _ _
      rw [nums, List.map_take]; exact this
    have rcut : Hid (∀ l, 0 < l → l < 64 → Rd w (some ⟨g, o + l, none⟩) (nums .u8 (b.drop l))) := fun l h0 hl => by
      have := Hr.out.cut (cap := c) (l := l) (by rw [nums_length, Hb.out]; exact Hc.out)
      rw [cutAddr, if_neg (by have := Hc.out; omega), Option.map_some, add_off' g o l (by omega)] at this
      rw [nums, List.map_drop]; exact this
    have lcut : Hid (∀ l, (b.drop l).length = 64 - l) := fun l => by rw [List.length_drop, Hb.out]
    have hcut : Hid (∀ l, ∀ x ∈ b.drop l, x < 256) := fun l x hx => Hlt.out x (List.mem_of_mem_drop hx)
    have l4 : (b.take 4).length = 4 := by rw [List.length_take]; omega
    have hm4 : ∀ x ∈ b.take 4, x < 256 := fun x hx => hlt x (List.mem_of_mem_take hx)
    have hcv : ∀ wx : World, Touch No w wx → (convert 34 9 (.slice (some ⟨g, o, none⟩) 4 c)).run Try.prog wx = .ok (.string (strOfNums ((b.take 4).map fun (x : Nat) => (x : Int)))) wx := fun wx t =>
      run_convert_bytes_arg wx 34 5 Try.underlying34 Try.underlying5 g o 4 c _ (by rw [List.length_map]; exact l4) (fun i hi => by
        obtain ⟨g', o', e', hcell⟩ := (r4.out.no t).num (i := i) (by omega)
        cases e'
        rw [hcell]
        congr 2
        rw [List.getD_eq_getElem?_getD, List.getD_eq_getElem?_getD, List.getElem?_map, List.getElem?_eq_getElem (show i < (b.take 4).length by omega)]; rfl) 9 Try.underlying9
    have Hso := str_of (b.take 4) hm4
    obtain ⟨S, hS⟩ : ∃ S, S = strOfNums ((b.take 4).map fun (x : Nat) => (x : Int)) := ⟨_, rfl⟩
    rw [← hS] at Hso hcv
    have HSo := Lib.hid Hso
    clear Hso hS hm4 l4
    have hcv1 : ∀ ob : Obj, (convert 34 9 (.slice (some ⟨g, o, none⟩) 4 c)).run Try.prog (w.alloc ob) = .ok (.string S) (w.alloc ob) := fun ob => hcv _ ((Touch.refl No w).alloc ob)
    clear hcv
    by_cases hmk : b.take 4 = Rt.mark
    · obtain rfl : S = ⟨#[82, 79, 79, 84]⟩ := HSo.out.2 hmk
      have Hmk := Lib.hid hmk
      clear hmk HSo
      cases hno : Rt.nought (b.drop 20) with
      | false =>
        have hF := Form.out (fun h => by rw [hno] at h; exact absurd h.2.2 (by decide))
        rw [hF.1, hF.2]
        have Hno := Lib.hid hno
        clear hF hno hb hr hlt hc
        go_enter Try.func68, Try.ntmps68
        go_wp2_with fail
        refine (refNoughts_any _ _ 44 (c - 20) _ (lcut.out 20) (by decide) ((rcut.out 20 (by decide) (by decide)).no ((Touch.refl No w).alloc _))).mono ?_
        rintro e w' ⟨rfl, rfl⟩
        rw [Hno.out]
        go_wp2
        exact bodyPost_ret (v := .tuple #[.agg #[.int .u32 0, .int .u32 0, .int .u32 0], .int .i64 4]) (by simp [results, Try.results68, go_sem]) rfl ⟨rfl, (Touch.refl No w).alloc _⟩
      | true =>
        have Hno := Lib.hid hno
        obtain ⟨e0, he0⟩ : ∃ e0, Rt.unfour (b.drop 4) = e0 := ⟨_, rfl⟩
        obtain ⟨e1, he1⟩ : ∃ e1, Rt.unfour (b.drop 8) = e1 := ⟨_, rfl⟩
        obtain ⟨e2, he2⟩ : ∃ e2, Rt.unfour (b.drop 12) = e2 := ⟨_, rfl⟩
        obtain ⟨e3, he3⟩ : ∃ e3, Rt.unfour (b.drop 16) = e3 := ⟨_, rfl⟩
        obtain ⟨sm, hsm⟩ : ∃ sm, Rt.of (b.take 16) = sm := ⟨_, rfl⟩
        have h16 : Hid ((b.take 16).length = 16) := by show _ = _; rw [List.length_take, Hb.out]; rfl
        have Hr16 : Hid (Rd w (some ⟨g, o, none⟩) (nums .u8 (b.take 16))) := by
          have := Hr.out.take 16
          show Rd _ _ _
          rw [nums, List.map_take]; exact this
        have HE : Hid ((if sm = e3 then 0 else 11) = Rt.errOf b) := by
          show _ = _
          have hp : b.length = 64 ∧ b.take 4 = Rt.mark ∧ Rt.nought (b.drop 20) = true := ⟨Hb.out, Hmk.out, Hno.out⟩
          rw [Rt.errOf, if_pos hp, hsm, unfour_take, he3]
        have HRo : Hid (Rt.rootOf b = if Rt.errOf b = 0 then ⟨e0, e1, e2⟩ else ⟨0, 0, 0⟩) := by
          show _ = _
          rw [Rt.rootOf, unfour_take, unfour_take, unfour_take, he0, he1, he2]
        have He0 := Lib.hid he0
        have He1 := Lib.hid he1
        have He2 := Lib.hid he2
        have He3 := Lib.hid he3
        have Hsm := Lib.hid hsm
        clear hno hb hr hlt hc he0 he1 he2 he3 hsm
        go_enter Try.func68, Try.ntmps68
        go_wp2_with fail
        refine (refNoughts_any _ _ 44 (c - 20) _ (lcut.out 20) (by decide) ((rcut.out 20 (by decide) (by decide)).no ((Touch.refl No w).alloc _))).mono ?_
        rintro e w' ⟨rfl, rfl⟩
        rw [Hno.out]
        go_wp2_with fail
        refine (refGetFour_ok _ _ 48 (c - 16) (b.drop 16) e3 (lcut.out 16) (by decide) ((rcut.out 16 (by decide) (by decide)).no ((Touch.refl No w).alloc _)) (hcut.out 16) He3.out).mono ?_
        rintro e w' ⟨rfl, rfl⟩
        go_wp2_with fail
        refine (refOf_any _ _ 16 c (b.take 16) h16.out (by decide) (Hr16.out.no ((Touch.refl No w).alloc _)) (fun x hx => Hlt.out x (List.mem_of_mem_take hx))).mono ?_
        rintro e w' ⟨rfl, rfl⟩
        rw [Hsm.out]
        by_cases heq : sm = e3
        · subst heq
          have HE0 : Hid (Rt.errOf b = 0) := by show _ = _; rw [← HE.out, if_pos rfl]
          go_wp2_with fail
          obtain ⟨R, hR⟩ : ∃ R, R = w.heap.size := ⟨_, rfl⟩
          obtain ⟨W2, hW2⟩ : ∃ W2, W2 = (w.alloc (.cells #[.int .u32 0, .int .u32 0, .int .u32 0] 33)).alloc (.cells #[.int .u32 0, .int .u32 0, .int .u32 0] 33) := ⟨_, rfl⟩
          have tW : Touch No w W2 := by rw [hW2]; exact ((Touch.refl No w).alloc _).alloc _
          have hA : Row W2 R 33 [.int .u32 0, .int .u32 0, .int .u32 0] := by
            rw [hW2, hR]
            exact (Row.new w 33 #[.int .u32 0, .int .u32 0, .int .u32 0]).touch (F := No) ((Touch.refl No _).alloc _) id
          have hS : Row W2 (R + 1) 33 [.int .u32 0, .int .u32 0, .int .u32 0] := by
            rw [hW2, hR, ← size_alloc w (.cells #[.int .u32 0, .int .u32 0, .int .u32 0] 33)]
            exact Row.new _ 33 #[.int .u32 0, .int .u32 0, .int .u32 0]
          rw [← hW2, ← hR]
          have hnR : ∀ (o' : Nat), (⟨R + 1, o', none⟩ : Addr).block < w.heap.size → No (⟨R + 1, o', none⟩ : Addr).block := fun o' h => absurd (show R + 1 < w.heap.size from h) (by omega)
          have hnA : ∀ (o' : Nat), (⟨R, o', none⟩ : Addr).block < w.heap.size → No (⟨R, o', none⟩ : Addr).block := fun o' h => absurd (show R < w.heap.size from h) (by omega)
          have HnR := Lib.hid hnR
          have HnA := Lib.hid hnA
          have TW := Lib.hid tW
          have HA := Lib.hid hA
          have HS := Lib.hid hS
          have hLn : R ≠ R + 1 := by omega
          clear hR hW2 tW hA hS hnR hnA
          refine (refGetFour_ok W2 _ 60 (c - 4) (b.drop 4) e0 (lcut.out 4) (by decide) ((rcut.out 4 (by decide) (by decide)).no TW.out) (hcut.out 4) He0.out).mono ?_
          rintro e w' ⟨rfl, rfl⟩
          have q0 : W2.cell? ⟨R + 1, 0, none⟩ = some (.int .u32 0) := HS.out.cell 0
          have f0 := HS.out.soft 0
          go_wp2_with fail
          clear q0 f0
          obtain ⟨W3, hW3⟩ : ∃ W3, W3 = W2.setCell ⟨R + 1, 0, none⟩ (.int .u32 (e0 : Nat)) := ⟨_, rfl⟩
          rw [← hW3]
          have TW3 : Hid (Touch No w W3) := by show Touch _ _ _; rw [hW3]; exact TW.out.setCell (p := ⟨R + 1, 0, none⟩) (HnR.out 0) _
          have HA3 : Hid (Row W3 R 33 [.int .u32 0, .int .u32 0, .int .u32 0]) := by show Row _ _ _ _; rw [hW3]; exact HA.out.touch ((Touch.refl (One (R + 1)) W2).setCell (p := ⟨R + 1, 0, none⟩) (fun _ => rfl) _) (fun e => hLn e)
          have HS3 : Hid (Row W3 (R + 1) 33 [.int .u32 (e0 : Nat), .int .u32 0, .int .u32 0]) := by show Row _ _ _ _; rw [hW3]; exact HS.out.setCell 0 _
          clear hW3 TW HA HS
          refine (refGetFour_ok W3 _ 56 (c - 8) (b.drop 8) e1 (lcut.out 8) (by decide) ((rcut.out 8 (by decide) (by decide)).no TW3.out) (hcut.out 8) He1.out).mono ?_
          rintro e w' ⟨rfl, rfl⟩
          have q1 : W3.cell? ⟨R + 1, 1, none⟩ = some (.int .u32 0) := HS3.out.cell 1
          have f1 := HS3.out.soft 1
          go_wp2_with fail
          clear q1 f1
          obtain ⟨W4, hW4⟩ : ∃ W4, W4 = W3.setCell ⟨R + 1, 1, none⟩ (.int .u32 (e1 : Nat)) := ⟨_, rfl⟩
          rw [← hW4]
          have TW4 : Hid (Touch No w W4) := by show Touch _ _ _; rw [hW4]; exact TW3.out.setCell (p := ⟨R + 1, 1, none⟩) (HnR.out 1) _
          have HA4 : Hid (Row W4 R 33 [.int .u32 0, .int .u32 0, .int .u32 0]) := by show Row _ _ _ _; rw [hW4]; exact HA3.out.touch ((Touch.refl (One (R + 1)) W3).setCell (p := ⟨R + 1, 1, none⟩) (fun _ => rfl) _) (fun e => hLn e)
          have HS4 : Hid (Row W4 (R + 1) 33 [.int .u32 (e0 : Nat), .int .u32 (e1 : Nat), .int .u32 0]) := by show Row _ _ _ _; rw [hW4]; exact HS3.out.setCell 1 _
          clear hW4 TW3 HA3 HS3
          refine (refGetFour_ok W4 _ 52 (c - 12) (b.drop 12) e2 (lcut.out 12) (by decide) ((rcut.out 12 (by decide) (by decide)).no TW4.out) (hcut.out 12) He2.out).mono ?_
          rintro e w' ⟨rfl, rfl⟩
          have q0 : W4.cell? ⟨R + 1, 0, none⟩ = some (.int .u32 (e0 : Nat)) := HS4.out.cell 0
          have q1 : W4.cell? ⟨R + 1, 1, none⟩ = some (.int .u32 (e1 : Nat)) := HS4.out.cell 1
          have q2 : W4.cell? ⟨R + 1, 2, none⟩ = some (.int .u32 0) := HS4.out.cell 2
          have f2 := HS4.out.soft 2
          have r0 : W4.cell? ⟨R, 0, none⟩ = some (.int .u32 0) := HA4.out.cell 0
          have r1 : W4.cell? ⟨R, 1, none⟩ = some (.int .u32 0) := HA4.out.cell 1
          have r2 : W4.cell? ⟨R, 2, none⟩ = some (.int .u32 0) := HA4.out.cell 2
          have s0 := HA4.out.soft 0
          have s1 := HA4.out.soft 1
          have s2 := HA4.out.soft 2
          go_wp2
          have Fin : Rt.rootOf b = ⟨e0, e1, e2⟩ ∧ Rt.errOf b = 0 := ⟨by rw [HRo.out, if_pos HE0.out], HE0.out⟩
          rw [Fin.1, Fin.2]
          have tf : ∀ v v0 v1 v2 : Value, Touch No w ((((W4.setCell ⟨R + 1, 2, none⟩ v).setCell ⟨R, 0, none⟩ v0).setCell ⟨R, 1, none⟩ v1).setCell ⟨R, 2, none⟩ v2) := fun v v0 v1 v2 =>
            (((TW4.out.setCell (p := ⟨R + 1, 2, none⟩) (HnR.out 2) v).setCell (p := ⟨R, 0, none⟩) (HnA.out 0) v0).setCell (p := ⟨R, 1, none⟩) (HnA.out 1) v1).setCell (p := ⟨R, 2, none⟩) (HnA.out 2) v2
          exact bodyPost_ret (v := .tuple #[.agg #[.int .u32 (e0 : Nat), .int .u32 (e1 : Nat), .int .u32 (e2 : Nat)], .int .i64 0]) (by simp [results, Try.results68, go_sem, r0, r1, r2]) rfl ⟨rfl, tf _ _ _ _⟩
        · have HE1 : Hid (Rt.errOf b = 11) := by show _ = _; rw [← HE.out, if_neg heq]
          have hneq : ((sm : Int) != (e3 : Int)) = true := by simp; omega
          clear heq
          go_wp2
          have Fin : Rt.rootOf b = ⟨0, 0, 0⟩ ∧ Rt.errOf b = 11 := ⟨by rw [HRo.out, if_neg (by rw [HE1.out]; decide)], HE1.out⟩
          rw [Fin.1, Fin.2]
          exact bodyPost_ret (v := .tuple #[.agg #[.int .u32 0, .int .u32 0, .int .u32 0], .int .i64 11]) (by simp [results, Try.results68, go_sem]) rfl ⟨rfl, (Touch.refl No w).alloc _⟩
    · have hF := Form.out (fun h => hmk h.2.1)
      rw [hF.1, hF.2]
      have hne : ¬ S.toList = [82, 79, 79, 84] := fun h => hmk (HSo.out.1 (by
        rw [Go.ByteArray.toList_eq] at h
        cases S with
        | mk d => cases d; simp at h; rw [h]))
      clear hF hb hr hlt HSo hmk hc
      go_enter Try.func68, Try.ntmps68
      go_wp2_with fail
      exact bodyPost_ret (v := .tuple #[.agg #[.int .u32 0, .int .u32 0, .int .u32 0], .int .i64 4]) (by simp [results, Try.results68, go_sem]) rfl ⟨rfl, (Touch.refl No w).alloc _⟩
  · have hne : ((n : Int) != 64) = true := by simp; omega
    have hF := Form.out (fun h => h64 (by rw [← Hb.out]; exact h.1))
    rw [hF.1, hF.2]
    clear hF h64 hb hr hlt
    go_enter Try.func68, Try.ntmps68
    go_wp2
    exact bodyPost_ret (v := .tuple #[.agg #[.int .u32 0, .int .u32 0, .int .u32 0], .int .i64 4]) (by simp [results, Try.results68, go_sem]) rfl ⟨rfl, (Touch.refl No w).alloc _⟩
end Go.Proofs.Ytkiehoboeiengaa
