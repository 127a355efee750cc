/-
  Package drydockref14 by its own text: Put.
  bytes.Trim of noughts, by its own text.
-/
import Derived.Test.YtkiehoboeiengaaGreatDoorK35
import Derived.Test.YtkiehoboeiengaaGreatDoorK20
import Derived.Deep.RegionHeld3
namespace Go.Proofs.YtkiehoboeiengaaGreatDoor
open Go Go.RowKit
set_option linter.unusedSimpArgs false

set_option maxRecDepth 100000 in
theorem refPagePut_no (w : World) (num epoch : Nat) (a : Option Addr) (n c : Nat) (hn : 240 < n) :
    Calls Tryz.prog 146 #[.int .u32 (num : Nat), .int .u32 (epoch : Nat), .slice a n c] w fun e w' => e = .returned (.tuple #[.slice none 0 0, .int .i64 1]) ∧ w = w' := by
  have hn' : (240 : Int) < (n : Nat) := by omega
  clear hn
  go_enter Tryz.func146, Tryz.ntmps146
  go_wp2
  go_ret2
  exact ⟨rfl, rfl⟩

set_option maxRecDepth 100000 in
set_option maxHeartbeats 8000000 in
theorem refPagePut_any (w : World) (num epoch : Nat) (hnum : num < 4294967296) (hep : epoch < 4294967296) (a : Option Addr) (n c : Nat) (q : List Nat) (hq : q.length = n) (hn : n ≤ 240) (hr : Rd w a (nums .u8 q)) (hlt : ∀ x ∈ q, x < 256) :
    Calls Tryz.prog 146 #[.int .u32 (num : Nat), .int .u32 (epoch : Nat), .slice a n c] w (PagePut w (Pg.put num epoch q)) := by
  obtain ⟨I, hi0, hi1, hi2, hi3⟩ := u8_info
  have HI := Lib.hid (And.intro hi0 (And.intro hi1 (And.intro hi2 hi3)))
  have Hq := Lib.hid hq
  have Hr := Lib.hid hr
  have Hlt := Lib.hid hlt
  have hn' : ¬ (240 : Int) < (n : Nat) := by omega
  have hn9 : (n : Int) ≤ 240 := by omega
  have hn0 : (0 : Int) ≤ (n : Nat) := by omega
  have Hn := Lib.hid hn
  clear hq hr hlt hi0 hi1 hi2 hi3 hn
  go_enter Tryz.func146, Tryz.ntmps146
  go_wp2_with fail
  refine (refPutFour_any _ none 0 0 [] rfl (Rd.nil _ _) num hnum (by decide) 4 rfl).mono ?_
  rintro e w1 ⟨a1, c1, rfl, o1, t1⟩
  have O1 := Lib.hid (show Own w1 w.heap.size 5 (.slice a1 4 c1) (nums .u8 (Rt.four num)) from o1)
  have T1 := Lib.hid t1
  clear o1 t1
  go_wp2_with fail
  refine (refPutFour_any _ a1 4 c1 (Rt.four num) rfl O1.out.rd epoch hep (by decide) 8 rfl).mono ?_
  rintro e w2 ⟨a2, c2, rfl, o2, t2⟩
  have O2 := Lib.hid (o2.mono (base' := w.heap.size) T1.out.size)
  have T2 := Lib.hid (T1.out.trans t2)
  clear o2 t2 O1 T1
  go_wp2_with fail
  refine (refPutFour_any _ a2 8 c2 (Rt.four num ++ Rt.four epoch) rfl O2.out.rd n (by omega) (by decide) 12 rfl).mono ?_
  rintro e w3 ⟨a3, c3, rfl, o3, t3⟩
  have e1 : Rt.four num ++ Rt.four epoch ++ Rt.four n = Pg.head num epoch q := by rw [Pg.head, Hq.out]
  rw [e1] at o3
  have O3 := Lib.hid (o3.mono (base' := w.heap.size) T2.out.size)
  have T3 := Lib.hid (T2.out.trans t3)
  clear o3 t3 O2 T2 e1
  obtain ⟨L, hL⟩ : ∃ L, 12 + n = L := ⟨_, rfl⟩
  have L5 : Hid ((Pg.head num epoch q ++ q).length = L) := by show _ = _; rw [List.length_append, Pg.head_length, Hq.out]; exact hL
  have h12 : Hid ((nums .u8 (Pg.head num epoch q)).length = 12) := by show _ = _; rw [nums_length]; rfl
  have hL9 : (L : Int) ≤ 252 := by omega
  have HL := Lib.hid hL
  clear hL
  go_wp2_with (first
    | (at_builtin; refine wpList_append_rd rfl _ _ 49 rfl w3.heap.size 5 I (.int .u8 0) 1 Tryz.underlying49 HI.out.1 HI.out.2.1 HI.out.2.2.1 HI.out.2.2.2 rfl _ _ (Own.nil _ w3.heap.size 5) rfl a3 12 c3 (nums .u8 (Pg.head num epoch q)) rfl (by rw [nums_length]; rfl) O3.out.rd (nums_one _ _) (by show 0 + 12 ≤ maxLen; unfold maxLen; decide) (by decide) (Nat.le_refl _) ?_; intro v4 w4 o4 t4; have O4 := Lib.hid (show Own w4 w3.heap.size 5 v4 (nums .u8 (Pg.head num epoch q)) from o4); have T4 := Lib.hid (show Touch No w3 w4 from t4.mono (fun k _ h => by cases h)); clear o4 t4)
    | (at_builtin; refine wpList_append_rd rfl _ _ 49 rfl w3.heap.size 5 I (.int .u8 0) 1 Tryz.underlying49 HI.out.1 HI.out.2.1 HI.out.2.2.1 HI.out.2.2.2 rfl _ _ O4.out rfl a n c (nums .u8 q) rfl (by rw [nums_length]; exact Hq.out) (Hr.out.no (T3.out.trans T4.out)) (nums_one _ _) (by rw [h12.out]; unfold maxLen; omega) (by rw [h12.out]; omega) T4.out.size ?_; intro v5 w5 o5 t5; rw [← nums_append] at o5; obtain ⟨a5, c5, rfl, _⟩ := o5.form' (n := L) (by rw [nums_length]; exact L5.out); have O5 := Lib.hid o5; have T5 := Lib.hid (T4.out.then t5 (fun i hi e => absurd (O4.out.block e).1 (Nat.not_le.2 hi))); clear o5 t5 O4 T4))
  refine (refOf_any _ a5 L c5 (Pg.head num epoch q ++ q) L5.out (by omega) O5.out.rd (fun x hx => by
    rcases List.mem_append.1 hx with h | h
    · exact Pg.head_lt _ _ _ x h
    · exact Hlt.out x h)).mono ?_
  rintro e w6 ⟨rfl, rfl⟩
  have hS : Hid (Rt.of (Pg.head num epoch q ++ q) = Pg.sum num epoch q) := by
    show _ = _
    rw [Pg.sum]
    show Rt.on 0 _ = Rt.on (Rt.on 0 _) _
    rw [Rt.on_append _ _ _ (by decide) (Pg.head_lt _ _ _)]
  rw [hS.out]
  have T35 := Lib.hid (T3.out.trans T5.out)
  have O35 := Lib.hid (O3.out.touch T5.out (fun _ _ _ f => f))
  clear T5 O5 L5 O3 T3 hS HL
  go_wp2_with fail
  refine (refPutFour_any _ a3 12 c3 (Pg.head num epoch q) rfl O35.out.rd (Pg.sum num epoch q) (Pg.sum_lt _ _ _) (by decide) 16 rfl).mono ?_
  rintro e w7 ⟨a7, c7, rfl, o7, t7⟩
  have O7 := Lib.hid (o7.mono (base' := w.heap.size) T35.out.size)
  have T7 := Lib.hid (T35.out.trans t7)
  have h16 : Hid ((nums .u8 (Pg.head num epoch q ++ Rt.four (Pg.sum num epoch q))).length = 16) := by show _ = _; rw [nums_length]; rfl
  clear o7 t7 O35 T35
  obtain ⟨M, hM⟩ : ∃ M, 16 + n = M := ⟨_, rfl⟩
  obtain ⟨Z, hZ⟩ : ∃ Z, 240 - n = Z := ⟨_, rfl⟩
  have L8 : Hid ((nums .u8 (Pg.head num epoch q ++ Rt.four (Pg.sum num epoch q) ++ q)).length = M) := by show _ = _; rw [nums_append, List.length_append, h16.out, nums_length, Hq.out]; exact hM
  have hZL : (256 : Int) - (M : Int) = (Z : Nat) := by have := Hn.out; omega
  have hZw : IntKind.i64.wrap ((256 : Int) - (M : Int)) = (Z : Nat) := by rw [hZL]; exact IntWalk.i64_in _ (by omega)
  have hM9 : (M : Int) ≤ 256 := by omega
  have HZ := Lib.hid hZ
  have HZW := Lib.hid hZw
  have HZ9 : Hid (M + Z = 256) := by show _ = _; have := Hn.out; omega
  have hput : Hid (nums .u8 (Pg.head num epoch q ++ Rt.four (Pg.sum num epoch q) ++ q) ++ List.replicate Z (Value.int .u8 0) = nums .u8 (Pg.put num epoch q)) := by
    show _ = _
    rw [Pg.put, nums_append _ _ (List.replicate _ 0), Hq.out, HZ.out]
    congr 1
    simp [nums]
  clear hM hZ
  go_wp2_with (first
    | (at_builtin; refine wpList_append_rd rfl _ _ 49 rfl w.heap.size 5 I (.int .u8 0) 1 Tryz.underlying49 HI.out.1 HI.out.2.1 HI.out.2.2.1 HI.out.2.2.2 rfl _ _ O7.out rfl a n c (nums .u8 q) rfl (by rw [nums_length]; exact Hq.out) (Hr.out.no T7.out) (nums_one _ _) (by rw [h16.out]; unfold maxLen; omega) (by rw [h16.out]; omega) T7.out.size ?_; intro v8 w8 o8 t8; rw [← nums_append] at o8; obtain ⟨a8, c8, rfl, _⟩ := o8.form' (n := M) L8.out; have O8 := Lib.hid o8; have T8 := Lib.hid (T7.out.then t8 (fun i hi e => absurd (O7.out.block e).1 (Nat.not_le.2 hi))); clear o8 t8 O7 T7)
    | (at_builtin; (try rw [HZW.out]); refine wpList_append_zeros rfl _ _ _ _ rfl w.heap.size 5 I (.int .u8 0) (.int .u8 0) 1 Tryz.underlying49 Tryz.underlying3 HI.out.1 HI.out.2.1 HI.out.2.2.1 HI.out.2.2.2 rfl rfl _ _ O8.out rfl Z rfl (by rw [L8.out, HZ9.out]; unfold maxLen; decide) (by rw [L8.out, HZ9.out]; decide) T8.out.size ?_; intro v9 w9 o9 t9; rw [hput.out] at o9; obtain ⟨a9, c9, rfl, _⟩ := o9.form' (n := 256) (by rw [← hput.out, List.length_append, L8.out, List.length_replicate]; exact HZ9.out); have O9 := Lib.hid o9; have T9 := Lib.hid (T8.out.then t9 (fun i hi e => absurd (O8.out.block e).1 (Nat.not_le.2 hi))); clear o9 t9 O8 T8))
  go_ret2
  exact ⟨a9, c9, rfl, O9.out, T9.out⟩
end Go.Proofs.YtkiehoboeiengaaGreatDoor
namespace Go.Proofs.YtkiehoboeiengaaGreatDoor
open Go Go.RowKit
set_option linter.unusedSimpArgs false

theorem nought_drop {b : List Nat} {k : Nat} (hk : k < b.length) : Rt.nought (b.drop k) = (b.getD k 0 == 0 && Rt.nought (b.drop (k + 1))) := by
  rw [List.drop_eq_getElem_cons hk, Rt.nought, List.all_cons, List.getD_eq_getElem?_getD, List.getElem?_eq_getElem hk]; rfl

def TrimRPost (w : World) (a : Option Addr) (n c : Nat) (b : List Nat) (e : Ending) (w' : World) : Prop :=
  ∃ k, k ≤ n ∧ e = .returned (.slice a k c) ∧ Rt.nought (b.drop k) = true ∧ w = w'

set_option maxRecDepth 100000 in
set_option maxHeartbeats 2000000 in
theorem trimRight_any (w : World) (a : Option Addr) (n c : Nat) (b : List Nat) (hb : b.length = n) (hnc : n ≤ c) (hmax : (c : Int) ≤ 9223372036854775807) (hr : Rd w a (nums .u8 b)) :
    Calls Tryz.prog 209 #[.slice a n c, .int .u8 0] w (TrimRPost w a n c b) := by
  obtain ⟨I, hi0, hi1, hi2, hi3⟩ := u8_info
  have hh : ∀ (wx : World) (k : Nat), k ≤ c → (Instr.slice 49 (.slice a (k + 1) c) none (some (.int .i64 (k : Nat))) none).run Tryz.prog wx = .ok (.slice a k c) wx := fun wx k hk => run_head Tryz.underlying49 hi0 hi2 a (k + 1) c k .i64 hk wx
  have HH := Lib.hid hh
  have Hb := Lib.hid hb
  have Hr := Lib.hid hr
  have h0 : Hid (Rt.nought (b.drop n) = true) := by show _ = _; rw [← hb, List.drop_length]; rfl
  clear hh hb hr hi0 hi1 hi2 hi3
  go_enter Tryz.func209, Tryz.ntmps209
  go_wp2
  go_loopg [0] n (fun g s0 wr => g ≤ n ∧ s0 = .slice a g c ∧ Hid (Rt.nought (b.drop g) = true) ∧ Hid (w = wr))
  case atStart => exact ⟨Nat.le_refl _, rfl, h0.out, rfl⟩
  case round =>
    obtain ⟨hg, rfl, N, hw⟩ := hrel
    have hww := hw.out
    clear hw
    subst hww
    cases gk with
    | zero =>
      go_wp2
      go_ret
      exact ⟨0, Nat.zero_le _, rfl, N.out, rfl⟩
    | succ g =>
      have hgl : g < b.length := by have := Hb.out; omega
      obtain ⟨gb, ob, rfl, hcb⟩ := Hr.out.num hgl
      have hcut := HH.out w g (by omega)
      have hnx := Lib.hid (nought_drop hgl)
      have hp : (0 : Int) < (g : Int) + 1 := by omega
      generalize b.getD g 0 = x at *
      clear hgl
      by_cases hx : x = 0
      · subst hx
        have HN : Hid (Rt.nought (b.drop g) = true) := by show _ = _; rw [hnx.out, N.out]; rfl
        go_wp2
        go_roundg g
        case measure => omega
        case rel => exact ⟨by omega, rfl, HN.out, rfl⟩
      · have hxe : ((x : Int) == 0) = false := by simp; omega
        clear hx
        go_wp2
        go_ret
        exact ⟨g + 1, hg, rfl, N.out, rfl⟩

def TrimLPost (w : World) (b : List Nat) (e : Ending) (w' : World) : Prop :=
  ∃ a k c, k ≤ b.length ∧ e = .returned (.slice a k c) ∧ (k = 0 ↔ Rt.nought b = true) ∧ w = w'

set_option maxRecDepth 100000 in
set_option maxHeartbeats 2000000 in
theorem trimLeft_any (w : World) (a : Option Addr) (n c : Nat) (b : List Nat) (hb : b.length = n) (hnc : n ≤ c) (hr : Rd w a (nums .u8 b)) :
    Calls Tryz.prog 208 #[.slice a n c, .int .u8 0] w (TrimLPost w b) := by
  obtain ⟨I, hi0, hi1, hi2, hi3⟩ := u8_info
  have hh : ∀ (wx : World) (a : Option Addr) (n c : Nat), 1 ≤ n → (Instr.slice 49 (.slice a n c) (some (.int .i64 1)) none none).run Tryz.prog wx = .ok (.slice (cutAddr a c 1) (n - 1) (c - 1)) wx := fun wx a n c h1 => run_cut Tryz.underlying49 hi0 hi2 a n c 1 .i64 h1 wx
  have HH := Lib.hid hh
  have Hb := Lib.hid hb
  have Fin : Hid (∀ m, m ≤ n → Rt.nought (b.take (n - m)) = true → (m = 0 ∨ ∃ x, (b.drop (n - m)).getD 0 0 = x ∧ x ≠ 0 ∧ 0 < m) → (m = 0 ↔ Rt.nought b = true)) := fun m hm h1 h2 => by
    have e : Rt.nought b = (Rt.nought (b.take (n - m)) && Rt.nought (b.drop (n - m))) := by
      conv => lhs; rw [← List.take_append_drop (n - m) b]
      simp only [Rt.nought, List.all_append]
    rw [e, h1, Bool.true_and]
    rcases h2 with rfl | ⟨x, hx, hx0, hm0⟩
    · rw [Nat.sub_zero, ← hb, List.drop_length]; simp [Rt.nought]
    · have hk : n - m < b.length := by omega
      rw [nought_drop hk]
      have : b.getD (n - m) 0 = x := by
        rw [List.getD_eq_getElem?_getD, List.getElem?_drop, Nat.add_zero] at hx
        rw [List.getD_eq_getElem?_getD]; exact hx
      rw [this]
      simp [hx0]; omega
  have Nx : Hid (∀ g, g + 1 ≤ n → Rt.nought (b.take (n - (g + 1))) = true → (b.drop (n - (g + 1))).getD 0 0 = 0 → Rt.nought (b.take (n - g)) = true) := fun g hg h1 h2 => by
    have hk : n - (g + 1) < b.length := by omega
    rw [show n - g = n - (g + 1) + 1 by omega, List.take_succ_eq_append_getElem hk]
    have : b[n - (g + 1)] = 0 := by
      rw [List.getD_eq_getElem?_getD, List.getElem?_drop, Nat.add_zero, List.getElem?_eq_getElem hk] at h2
      exact h2
    rw [this]
    simp only [Rt.nought, List.all_append] at h1 ⊢
    rw [h1]; rfl
  have H0 : Hid (Rd w a (nums .u8 (b.drop (n - n)))) := by show Rd _ _ _; rw [Nat.sub_self, List.drop_zero]; exact hr
  have Z0 : Hid (Rt.nought (b.take (n - n)) = true) := by show _ = _; rw [Nat.sub_self]; rfl
  clear hh hb hr hi0 hi1 hi2 hi3
  go_enter Tryz.func208, Tryz.ntmps208
  go_wp2
  go_loopg [0] n (fun g s0 wr => ∃ (a' : Option Addr) (c' : Nat), g ≤ n ∧ g ≤ c' ∧ c' ≤ c ∧ s0 = .slice a' g c' ∧ Hid (Rd w a' (nums .u8 (b.drop (n - g)))) ∧ Hid (Rt.nought (b.take (n - g)) = true) ∧ Hid (w = wr))
  case atStart => exact ⟨a, c, Nat.le_refl _, hnc, Nat.le_refl _, rfl, H0.out, Z0.out, rfl⟩
  case round =>
    obtain ⟨a', c', hg, hgc, hcc, rfl, R, N, hw⟩ := hrel
    have hww := hw.out
    clear hw
    subst hww
    cases gk with
    | zero =>
      go_wp2
      go_ret
      exact ⟨_, 0, 0, Nat.zero_le _, rfl, Fin.out 0 (Nat.zero_le _) N.out (Or.inl rfl), rfl⟩
    | succ g =>
      have hdl : (b.drop (n - (g + 1))).length = g + 1 := by rw [List.length_drop]; have := Hb.out; omega
      obtain ⟨gb, ob, rfl, hcb⟩ := R.out.num (i := 0) (by omega)
      rw [Nat.add_zero] at hcb
      have hcut := HH.out w (some ⟨gb, ob, none⟩) (g + 1) c' (by omega)
      rw [Nat.add_sub_cancel] at hcut
      have hp : (0 : Int) < (g : Int) + 1 := by omega
      have hrc := R.out.cut (cap := c') (l := 1) (by rw [nums_length]; omega)
      rw [nums, ← List.map_drop, List.drop_drop, show n - (g + 1) + 1 = n - g by omega] at hrc
      have HRC := Lib.hid hrc
      obtain ⟨x, hx⟩ : ∃ x, (b.drop (n - (g + 1))).getD 0 0 = x := ⟨_, rfl⟩
      rw [hx] at hcb
      have HX := Lib.hid hx
      clear hrc hx hdl
      by_cases hx0 : x = 0
      · subst hx0
        have HN := Lib.hid (Nx.out g hg N.out HX.out)
        go_wp2
        go_roundg g
        case measure => omega
        case rel => exact ⟨_, c' - 1, by omega, by omega, by omega, rfl, HRC.out, HN.out, rfl⟩
      · have hxe : ((x : Int) == 0) = false := by simp; omega
        have HF := Lib.hid (Fin.out (g + 1) hg N.out (Or.inr ⟨x, HX.out, hx0, by omega⟩))
        have hne : ((g : Int) + 1 == 0) = false := by simp; omega
        clear hx0 hcut
        go_wp2
        go_ret
        exact ⟨_, g + 1, c', by have := Hb.out; omega, rfl, HF.out, rfl⟩

def TrimPost (w : World) (b : List Nat) (e : Ending) (w' : World) : Prop :=
  ∃ a k c, k ≤ b.length ∧ e = .returned (.slice a k c) ∧ (k = 0 ↔ Rt.nought b = true) ∧ Touch No w w'

set_option maxRecDepth 100000 in
set_option maxHeartbeats 2000000 in
theorem trim_any (w : World) (a : Option Addr) (n c : Nat) (b : List Nat) (hb : b.length = n) (hnc : n ≤ c) (hmax : (c : Int) ≤ 9223372036854775807) (hr : Rd w a (nums .u8 b)) :
    Calls Tryz.prog 149 #[.slice a n c, .string ⟨#[0]⟩] w (TrimPost w b) := by
  by_cases h0 : n = 0
  · subst h0
    obtain rfl : b = [] := List.length_eq_zero_iff.1 hb
    clear hr
    go_enter Tryz.func149, Tryz.ntmps149
    go_wp2
    go_ret
    exact ⟨_, 0, 0, Nat.le_refl _, rfl, by simp [Rt.nought], Touch.refl _ _⟩
  · have hne : ((n : Int) == 0) = false := by simp; omega
    have Hr := Lib.hid (hr.no ((Touch.refl No w).drew))
    have Hb := Lib.hid hb
    have Fin : Hid (∀ k k1, k ≤ n → Rt.nought (b.drop k) = true → (k1 = 0 ↔ Rt.nought (b.take k) = true) → (k1 = 0 ↔ Rt.nought b = true)) := fun k k1 _ h1 h2 => by
      rw [h2]
      conv => rhs; rw [← List.take_append_drop k b]
      simp only [Rt.nought, List.all_append, Bool.and_eq_true] at h1 ⊢
      exact ⟨fun h => ⟨h, h1⟩, fun h => h.1⟩
    have HRk : Hid (∀ k, k ≤ n → (b.take k).length = k ∧ Rd w.drew a (nums .u8 (b.take k))) := fun k hk => by
      have h2 := Hb.out
      refine ⟨by rw [List.length_take]; omega, ?_⟩
      have := Hr.out.take k
      rw [nums, ← List.map_take] at this; exact this
    clear hr h0 hb
    go_enter Tryz.func149, Tryz.ntmps149
    go_wp2_with fail
    go_region_held3 (fun _ => True) (trivial) (first
      | (go_at_call 209; refine (trimRight_any _ a n c b Hb.out hnc hmax Hr.out).mono ?_; rintro e w5 ⟨k, hk, rfl, hz, rfl⟩)
      | (go_at_call 208; refine (trimLeft_any _ a k c (b.take k) (HRk.out k hk).1 (by omega) (HRk.out k hk).2).mono ?_; rintro e w6 ⟨a6, k6, c6, hk6, rfl, hf6, rfl⟩))
    all_goals
      have HF := Lib.hid (Fin.out k k6 hk hz hf6)
      have HK : Hid (k6 ≤ b.length) := by show _ ≤ _; rw [List.length_take] at hk6; omega
      clear hz hf6 hk6
      go_wp2
      go_ret
      exact ⟨a6, k6, c6, HK.out, rfl, HF.out, (Touch.refl No w).drew⟩
end Go.Proofs.YtkiehoboeiengaaGreatDoor
