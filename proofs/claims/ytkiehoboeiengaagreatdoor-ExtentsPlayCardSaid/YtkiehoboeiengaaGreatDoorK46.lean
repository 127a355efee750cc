/-
  Package drydockref16 by its own text: Read.
-/
import Derived.Test.YtkiehoboeiengaaGreatDoorK45
namespace Go.Proofs.YtkiehoboeiengaaGreatDoor
open Go Go.RowKit
set_option linter.unusedSimpArgs false
set_option linter.unusedVariables false

def RefExRead (w : World) (D : Dk.Disk) (ep : Nat) (ids : List Nat) (m : Nat) (e : Ending) (w' : World) : Prop :=
  ∃ a n c, e = .returned (.tuple #[.slice a n c, .int .i64 (Ex.rE D ep ids m : Nat)]) ∧ (Ex.rB D ep ids m).length = n ∧ Rd w' a (nums .u8 (Ex.rB D ep ids m)) ∧ Touch No w w'
theorem Pg.bodyOf_le (num : Nat) (b : List Nat) : (Pg.bodyOf num b).length ≤ 240 := by
  unfold Pg.bodyOf
  split
  · rename_i h
    unfold Pg.err at h
    by_cases hf : Pg.form b
    · have := hf.2.1
      unfold Pg.body
      rw [List.length_take]; omega
    · rw [if_neg hf] at h; cases h
  · exact Nat.zero_le _
theorem Pg.rB_le (D : Dk.Disk) (num : Nat) : (Pg.rB D num).length ≤ 240 := by
  unfold Pg.rB
  split
  · exact Pg.bodyOf_le _ _
  · exact Nat.zero_le _
theorem refExRd_none {w w' : World} {D : Dk.Disk} {ep : Nat} {ids : List Nat} {m r : Nat} (hr : r ≠ 0) (h : Ex.rE D ep ids m = r) (t : Touch No w w') : RefExRead w D ep ids m (.returned (.tuple #[.slice none 0 0, .int .i64 (r : Nat)])) w' := by
  refine ⟨none, 0, 0, by rw [h], ?_, ?_, t⟩
  · rw [Ex.rB, h, if_neg hr]; rfl
  · rw [Ex.rB, h, if_neg hr]; exact Rd.nil _ _
theorem ex_stop {D : Dk.Disk} {ep : Nat} {ids : List Nat} {m k r : Nat} (hM : Ex.may D ids m) (hk : k < Ex.pages m) (h0 : Ex.rdE D ep ids m k = 0) (h1 : Ex.one D ep (Ex.at' ids k) (Ex.plen m k) = r) (hr : r ≠ 0) : Ex.rE D ep ids m = r := by
  have e : Ex.rdE D ep ids m (k + 1) = r := by rw [Ex.rdE, if_neg (by rw [h0]; simp), h1]
  have := Ex.rdE_stays (D := D) (ep := ep) (nums := ids) (n := m) (k := k + 1) (by rw [e]; exact hr) (Ex.pages m - (k + 1))
  rw [show k + 1 + (Ex.pages m - (k + 1)) = Ex.pages m by omega, e] at this
  rw [Ex.rE, if_pos hM, this]
theorem refExRead_no {w : World} {g : Nat} {D : Dk.Disk} {vs vn vw : Value} (h : RdAt w g D vs vn vw) (ep : Nat) (a : Option Addr) (n c : Nat) (ids : List Nat) (hn : ids.length = n) (hnm : (n : Int) ≤ 1000000000000) (hlt : ∀ x ∈ ids, x < 4294967296) (hr : Rd w a (nums .u32 ids)) (z : Int) (hz1 : -9223372036854775808 ≤ z) (hz2 : z ≤ 9223372036854775807) (hM : ¬ (Ex.may D ids z.toNat ∧ 0 ≤ z)) :
    Calls Tryz.prog 21 #[.pointer (some ⟨g, 0, none⟩), .int .u32 (ep : Nat), .slice a n c, .int .i64 z] w fun e w' => e = .returned (.tuple #[.slice none 0 0, .int .i64 1]) ∧ Touch No w w' := by
  have CM := Lib.hid (refMay_any h a n c ids hn hnm hlt hr z hz1 hz2 false ⟨(fun h => by cases h), fun h => absurd h hM⟩)
  clear h hr hM hn hlt
  go_enter Tryz.func21, Tryz.ntmps21
  go_wp2_with fail
  refine CM.out.mono ?_
  rintro e w1 ⟨rfl, t1⟩
  have T1 := Lib.hid t1
  clear t1
  go_wp2
  go_ret2
  exact ⟨rfl, T1.out⟩
set_option maxRecDepth 100000 in
set_option maxHeartbeats 8000000 in
theorem refExRead_yes {w : World} {g : Nat} {D : Dk.Disk} {vs vn vw : Value} (h : RdAt w g D vs vn vw) (ep : Nat) (hep : ep < 4294967296) (a : Option Addr) (n c : Nat) (ids : List Nat) (hn : ids.length = n) (hnm : (n : Int) ≤ 1000000000000) (hlt : ∀ x ∈ ids, x < 4294967296) (hr : Rd w a (nums .u32 ids)) (m : Nat) (hmax : (m : Int) ≤ 100000000000) (hM : Ex.may D ids m) :
    Calls Tryz.prog 21 #[.pointer (some ⟨g, 0, none⟩), .int .u32 (ep : Nat), .slice a n c, .int .i64 (m : Nat)] w (RefExRead w D ep ids m) := by
  obtain ⟨I, hi0, hi1, hi2, hi3⟩ := u8_info
  have HI := Lib.hid (And.intro hi0 (And.intro hi1 (And.intro hi2 hi3)))
  have CM := Lib.hid (refMay_any h a n c ids hn hnm hlt hr (m : Nat) (by omega) (by omega) true (by rw [Int.toNat_natCast]; exact ⟨fun _ => ⟨hM, by omega⟩, fun _ => rfl⟩))
  have hnp : n = Ex.pages m := by rw [← hn]; exact hM.2.2
  have HM := Lib.hid hM
  have HR := Lib.hid h
  have Hr := Lib.hid hr
  have Hlt := Lib.hid hlt
  have Hn := Lib.hid hn
  have Hnp := Lib.hid hnp
  clear h hr hM hn hlt hnp hi0 hi1 hi2 hi3
  go_enter Tryz.func21, Tryz.ntmps21
  go_wp2_with fail
  refine CM.out.mono ?_
  rintro e w1 ⟨rfl, t1⟩
  have T1 := Lib.hid t1
  clear t1 CM
  go_wp2_with fail
  go_loopg [10, 11] n (fun gh s10 s11 wr => ∃ (k L rk : Nat) (ak : Option Addr) (ck : Nat), k + gh = n ∧ s11 = .int .i64 ((k : Nat) : Int) ∧ s10 = .slice ak L ck ∧ Hid (L = min m (240 * k)) ∧ L + rk = m ∧ Hid (Own wr w.heap.size 5 (.slice ak L ck) (nums .u8 (Ex.rdB D ids k))) ∧ Hid ((Ex.rdB D ids k).length = L) ∧ Hid (Ex.rdE D ep ids m k = 0) ∧ Hid (Touch No w wr))
  case atStart => exact ⟨0, 0, m, none, 0, by omega, rfl, rfl, by show _ = _; omega, by omega, Own.nil _ _ _, rfl, rfl, T1.out⟩
  case round =>
    clear T1
    obtain ⟨k, L, rk, ak, ck, hkg, rfl, rfl, HL, hsum, O, HLen, HE, T⟩ := hrel
    cases gk with
    | zero =>
      obtain rfl : k = n := by omega
      have FIN : Hid (RefExRead w D ep ids m (.returned (.tuple #[.slice ak L ck, .int .i64 0])) wr) := by
        have eE : Ex.rE D ep ids m = 0 := by rw [Ex.rE, if_pos HM.out, ← Hnp.out]; exact HE.out
        have eB : Ex.rB D ep ids m = Ex.rdB D ids k := by rw [Ex.rB, if_pos eE, ← Hnp.out]
        exact ⟨ak, L, ck, by rw [eE]; rfl, by rw [eB]; exact HLen.out, by rw [eB]; exact O.out.rd, T.out⟩
      go_wp2
      go_ret2
      exact FIN.out
    | succ g' =>
      have hki : (k : Int) < (n : Nat) := by omega
      have hkn : k < n := by omega
      have Hkp : Hid (k < Ex.pages m) := by show _ < _; rw [← Hnp.out]; exact hkn
      obtain ⟨x, hx⟩ : ∃ x, ids.getD k 0 = x := ⟨_, rfl⟩
      have hxm : x < 4294967296 := by
        rw [← hx, List.getD_eq_getElem?_getD, List.getElem?_eq_getElem (by rw [Hn.out]; exact hkn)]
        exact Hlt.out _ (List.getElem_mem _)
      obtain ⟨gb, go, rfl, hcx⟩ := (Hr.out.no T.out).num (i := k) (by rw [Hn.out]; exact hkn)
      rw [hx] at hcx
      have C := refPageRead_any (HR.out.no T.out) x hxm
      have hb240 : (Pg.rB D x).length ≤ 240 := Pg.rB_le D x
      have Hat : Hid (Ex.at' ids k = x) := hx
      obtain ⟨N, hN⟩ : ∃ N, Pg.rN D x = N := ⟨_, rfl⟩
      obtain ⟨ER, hER⟩ : ∃ ER, Pg.rE D x = ER := ⟨_, rfl⟩
      obtain ⟨BB, hBB⟩ : ∃ BB, Pg.rB D x = BB := ⟨_, rfl⟩
      obtain ⟨bl, hbl⟩ : ∃ bl, BB.length = bl := ⟨_, rfl⟩
      obtain ⟨pl, hpl⟩ : ∃ pl, Ex.plen m k = pl := ⟨_, rfl⟩
      have hplr : pl = min 240 rk := by rw [← hpl]; have := HL.out; unfold Ex.plen Ex.upto; omega
      have HOne : Hid (Ex.one D ep (Ex.at' ids k) (Ex.plen m k) = if ER ≠ 0 then ER else if N ≠ ep ∨ bl ≠ pl then 4 else 0) := by
        show _ = _
        rw [Hat.out, Ex.one, hER, hN, hBB, hbl, hpl]
      have HSnoc : Hid (Ex.rdB D ids (k + 1) = Ex.rdB D ids k ++ BB) := by show _ = _; rw [Ex.rdB, Hat.out, hBB]
      rw [show RefPgRead wr D x = fun e w' => ∃ a n c, e = .returned (.tuple #[.int .u32 (Pg.rN D x : Nat), .slice a n c, .int .i64 (Pg.rE D x : Nat)]) ∧ (Pg.rB D x).length = n ∧ Rd w' a (nums .u8 (Pg.rB D x)) ∧ Touch No wr w' from rfl, hN, hER, hBB, hbl] at C
      have HC := Lib.hid C
      rw [hBB, hbl] at hb240
      clear hx hxm C hN hER hBB hpl
      by_cases hE : ER = 0
      · subst hE
        by_cases hep2 : N = ep
        · subst hep2
          have hnn : ((N : Int) != (N : Int)) = false := by simp
          have hsub : (m : Int) - (L : Int) = (rk : Nat) := by omega
          by_cases hlp : bl = pl
          · subst hlp
            have H1 : Hid (Ex.rdE D N ids m (k + 1) = 0) := by
              show _ = _
              rw [Ex.rdE, if_neg (by rw [HE.out]; simp), HOne.out, if_neg (by simp), if_neg (by simp)]
            have HL2 : Hid (L + bl = min m (240 * (k + 1))) := by show _ = _; rw [hplr]; have := HL.out; omega
            have hrk2 : L + bl + (rk - bl) = m := by omega
            have HBl := Lib.hid hbl
            clear HOne hkn hbl
            go_wp2_with fail
            refine HC.out.mono ?_
            rintro e w3 ⟨xa, xl, xc, rfl, hxl, hxr, t3⟩
            obtain rfl : xl = bl := by rw [← hxl]
            have T3 := Lib.hid (T.out.trans t3)
            have O3 := Lib.hid (O.out.touch t3 (fun _ _ _ f => f))
            have Hxr := Lib.hid hxr
            have hsz := T3.out.size
            have Hsz := Lib.hid hsz
            clear hxl hxr t3 O T HC hsz
            rcases Nat.lt_trichotomy rk 240 with h2 | h2 | h2
            · obtain rfl : xl = rk := by omega
              have h2i : (xl : Int) < 240 := by omega
              have hbb : ((xl : Int) != (xl : Int)) = false := by simp
              clear h2 hplr
              go_wp2_with (refine wpList_append_rd rfl _ _ _ rfl w.heap.size 5 I (.int .u8 0) 1 Tryz.underlying49 HI.out.1 HI.out.2.1 HI.out.2.2.1 HI.out.2.2.2 rfl _ (nums .u8 (Ex.rdB D ids k)) O3.out rfl xa xl xc (nums .u8 BB) rfl (by rw [nums_length]; exact HBl.out) Hxr.out (nums_one _ _) (by rw [nums_length, HLen.out]; unfold maxLen; omega) (by rw [nums_length, HLen.out]; omega) Hsz.out ?_)
              rintro v w4 o4 t4
              rw [← nums_append] at o4
              rw [← HSnoc.out] at o4
              have HLen2 : Hid ((Ex.rdB D ids (k + 1)).length = L + xl) := by show _ = _; rw [HSnoc.out, List.length_append, HLen.out, HBl.out]
              obtain ⟨a4, c4, rfl, _, _⟩ := o4.form' (n := L + xl) (by rw [nums_length]; exact HLen2.out)
              have O4 := Lib.hid o4
              have T4 := Lib.hid (T3.out.then t4 (fun i hi e => absurd (O3.out.block e).1 (Nat.not_le.2 hi)))
              clear o4 t4
              go_wp2_with fail
              go_roundg g'
              case measure => omega
              case rel => exact ⟨k + 1, L + xl, 0, a4, c4, by omega, by go_num, rfl, HL2.out, by omega, O4.out, HLen2.out, H1.out, T4.out⟩
            · obtain rfl : xl = 240 := by omega
              obtain rfl : rk = 240 := h2
              have hbb : ((240 : Int) != (240 : Int)) = false := by simp
              clear hplr
              go_wp2_with (refine wpList_append_rd rfl _ _ _ rfl w.heap.size 5 I (.int .u8 0) 1 Tryz.underlying49 HI.out.1 HI.out.2.1 HI.out.2.2.1 HI.out.2.2.2 rfl _ (nums .u8 (Ex.rdB D ids k)) O3.out rfl xa 240 xc (nums .u8 BB) rfl (by rw [nums_length]; exact HBl.out) Hxr.out (nums_one _ _) (by rw [nums_length, HLen.out]; unfold maxLen; omega) (by rw [nums_length, HLen.out]; omega) Hsz.out ?_)
              rintro v w4 o4 t4
              rw [← nums_append] at o4
              rw [← HSnoc.out] at o4
              have HLen2 : Hid ((Ex.rdB D ids (k + 1)).length = L + 240) := by show _ = _; rw [HSnoc.out, List.length_append, HLen.out, HBl.out]
              obtain ⟨a4, c4, rfl, _, _⟩ := o4.form' (n := L + 240) (by rw [nums_length]; exact HLen2.out)
              have O4 := Lib.hid o4
              have T4 := Lib.hid (T3.out.then t4 (fun i hi e => absurd (O3.out.block e).1 (Nat.not_le.2 hi)))
              clear o4 t4
              go_wp2_with fail
              go_roundg g'
              case measure => omega
              case rel => exact ⟨k + 1, L + 240, 0, a4, c4, by omega, by go_num, rfl, HL2.out, by omega, O4.out, HLen2.out, H1.out, T4.out⟩
            · obtain rfl : xl = 240 := by omega
              have h2i : (240 : Int) < (rk : Nat) := by omega
              have hbb : ((240 : Int) != (240 : Int)) = false := by simp
              clear h2 hplr
              go_wp2_with (refine wpList_append_rd rfl _ _ _ rfl w.heap.size 5 I (.int .u8 0) 1 Tryz.underlying49 HI.out.1 HI.out.2.1 HI.out.2.2.1 HI.out.2.2.2 rfl _ (nums .u8 (Ex.rdB D ids k)) O3.out rfl xa 240 xc (nums .u8 BB) rfl (by rw [nums_length]; exact HBl.out) Hxr.out (nums_one _ _) (by rw [nums_length, HLen.out]; unfold maxLen; omega) (by rw [nums_length, HLen.out]; omega) Hsz.out ?_)
              rintro v w4 o4 t4
              rw [← nums_append] at o4
              rw [← HSnoc.out] at o4
              have HLen2 : Hid ((Ex.rdB D ids (k + 1)).length = L + 240) := by show _ = _; rw [HSnoc.out, List.length_append, HLen.out, HBl.out]
              obtain ⟨a4, c4, rfl, _, _⟩ := o4.form' (n := L + 240) (by rw [nums_length]; exact HLen2.out)
              have O4 := Lib.hid o4
              have T4 := Lib.hid (T3.out.then t4 (fun i hi e => absurd (O3.out.block e).1 (Nat.not_le.2 hi)))
              clear o4 t4
              go_wp2_with fail
              go_roundg g'
              case measure => omega
              case rel => exact ⟨k + 1, L + 240, rk - 240, a4, c4, by omega, by go_num, rfl, HL2.out, by omega, O4.out, HLen2.out, H1.out, T4.out⟩
          · have HS : Hid (Ex.rE D N ids m = 4) := ex_stop HM.out Hkp.out HE.out (by rw [HOne.out, if_neg (by simp), if_pos (Or.inr hlp)]) (by decide)
            have hll : ¬ (bl : Int) = (pl : Nat) := by omega
            clear HOne hkn hlp
            go_wp2_with fail
            refine HC.out.mono ?_
            rintro e w3 ⟨xa, xl, xc, rfl, hxl, hxr, t3⟩
            obtain rfl : xl = bl := hxl.symm
            have T3 := Lib.hid (T.out.trans t3)
            clear hxl hxr t3 O T HC hbl
            rcases Nat.lt_trichotomy rk 240 with h2 | h2 | h2
            · obtain rfl : pl = rk := by omega
              have h2i : (pl : Int) < 240 := by omega
              have hbb : ((xl : Int) != (pl : Int)) = true := by simp; omega
              clear h2 hplr hll
              go_wp2
              go_ret2
              exact refExRd_none (by decide) HS.out T3.out
            · obtain rfl : pl = 240 := by omega
              obtain rfl : rk = 240 := h2
              have hbb : ((xl : Int) != 240) = true := by simp; omega
              clear hplr hll
              go_wp2
              go_ret2
              exact refExRd_none (by decide) HS.out T3.out
            · obtain rfl : pl = 240 := by omega
              have h2i : (240 : Int) < (rk : Nat) := by omega
              have hbb : ((xl : Int) != 240) = true := by simp; omega
              clear h2 hplr hll
              go_wp2
              go_ret2
              exact refExRd_none (by decide) HS.out T3.out
        · have hnn : ((N : Int) != (ep : Int)) = true := by simp; omega
          have HS : Hid (Ex.rE D ep ids m = 4) := ex_stop HM.out Hkp.out HE.out (by rw [HOne.out, if_neg (by simp), if_pos (Or.inl hep2)]) (by decide)
          clear HOne hkn hep2
          go_wp2_with fail
          refine HC.out.mono ?_
          rintro e w3 ⟨xa, xl, xc, rfl, hxl, hxr, t3⟩
          have T3 := Lib.hid (T.out.trans t3)
          clear hxl hxr t3 O T HC
          go_wp2
          go_ret2
          exact refExRd_none (by decide) HS.out T3.out
      · have HS : Hid (Ex.rE D ep ids m = ER) := ex_stop HM.out Hkp.out HE.out (by rw [HOne.out, if_pos hE]) hE
        have hee : ((ER : Int) != 0) = true := by simp; omega
        have HER := Lib.hid hE
        clear HOne hkn hE
        go_wp2_with fail
        refine HC.out.mono ?_
        rintro e w3 ⟨xa, xl, xc, rfl, hxl, hxr, t3⟩
        have T3 := Lib.hid (T.out.trans t3)
        clear hxl hxr t3 O T HC
        go_wp2
        go_ret2
        exact refExRd_none HER.out HS.out T3.out
end Go.Proofs.YtkiehoboeiengaaGreatDoor
