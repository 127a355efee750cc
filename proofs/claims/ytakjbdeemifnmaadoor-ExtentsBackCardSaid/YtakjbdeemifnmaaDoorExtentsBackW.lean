/-
  Package drydocklaw16 by its own text: the walk of ExtentsBack.
-/
import Derived.Test.YtakjbdeemifnmaaDoorExtentsTurnedW
namespace Go.Proofs.YtakjbdeemifnmaaDoor
open Go Go.RowKit
set_option linter.unusedSimpArgs false

set_option maxRecDepth 100000 in
set_option maxHeartbeats 8000000 in
theorem extentsBack_walk (w : World) (q : Option Addr) (n c : Nat) (b : List Nat) (hB : Bytes w q n c b) (q' : Option Addr) (m c' : Nat) (b' : List Nat) (hB' : Bytes w q' m c' b') (e0 e1 f : Nat) (he0 : e0 < 4294967296) (he1 : e1 < 4294967296) (hf : f < 256) :
    Calls Tryd.prog 3 #[.agg #[.slice q n c, .slice q' m c', .int .u32 (e0 : Nat), .int .u32 (e1 : Nat), .int .u8 (f : Nat)]] w (LawPost w) := by
  have HB := Lib.hid hB
  have hnm := hB.nmax
  have HB' := Lib.hid hB'
  have hmm := hB'.nmax
  clear hB hB'
  by_cases hlive : 4000 < n ∨ 4000 < m
  · have hc : ((4000 : Int) < (n : Nat)) ∨ (¬ (4000 : Int) < (n : Nat) ∧ (4000 : Int) < (m : Nat)) := by omega
    clear hlive
    rcases hc with h1 | ⟨h1, h2⟩
    all_goals
      go_enter Tryd.func3, Tryd.ntmps3
      go_wp2_with fail
      refine (lives_is _).mono ?_
      rintro e w2 ⟨rfl, t2⟩
      have T2 := Lib.hid ((((Touch.refl No w).alloc _).alloc _).trans t2)
      clear t2
      go_wp2
      go_ret
      exact ⟨rfl, T2.out⟩
  · have hn4 : ¬ (4000 : Int) < (n : Nat) := by omega
    have hm4 : ¬ (4000 : Int) < (m : Nat) := by omega
    obtain ⟨N, hN⟩ : ∃ N, Ex.pages n = N := ⟨_, rfl⟩
    obtain ⟨M, hM⟩ : ∃ M, Ex.pages m = M := ⟨_, rfl⟩
    obtain ⟨fm, hfm⟩ : ∃ fm, f % 60 = fm := ⟨_, rfl⟩
    have hfm2 : (f : Int) % 60 = (fm : Nat) := by omega
    have hfm60 : fm < 60 := by omega
    obtain ⟨l, hl⟩ : ∃ l, Ex.line fm 2 N = l := ⟨_, rfl⟩
    obtain ⟨l', hl'⟩ : ∃ l', Ex.line (fm + 1) 2 M = l' := ⟨_, rfl⟩
    have hN17 : N ≤ 17 := by rw [← hN]; exact Ex.pages17 (by omega)
    have hM17 : M ≤ 17 := by rw [← hM]; exact Ex.pages17 (by omega)
    have HP := fun D hD => Lib.hid (Ex.back_plain (D := D) HB.out.len HB'.out.len hN hM (by omega) (by omega) hfm60 he0 he1 hl hl' hD)
    have PN := fun w => Lib.hid (exPages_at w (n : Nat) N (by omega) (by rw [show ((n : Nat) : Int).toNat = n by omega]; exact hN))
    have PM := fun w => Lib.hid (exPages_at w (m : Nat) M (by omega) (by rw [show ((m : Nat) : Int).toNat = m by omega]; exact hM))
    have Hll : Hid (l.length = N) := by show _ = _; rw [← hl]; exact Ex.line_length _ _ _
    have Hml : Hid (l'.length = M) := by show _ = _; rw [← hl']; exact Ex.line_length _ _ _
    have Hlt : Hid (∀ y ∈ l, y < 4294967296) := fun y hy => by
      rw [← hl] at hy
      obtain ⟨i, hi, rfl⟩ := Ex.line_mem hy
      omega
    have Hmt : Hid (∀ y ∈ l', y < 4294967296) := fun y hy => by
      rw [← hl'] at hy
      obtain ⟨i, hi, rfl⟩ := Ex.line_mem hy
      omega
    have HP' := Lib.hid HP
    have HN := Lib.hid hN
    have HM := Lib.hid hM
    have Hl := Lib.hid hl
    have Hl' := Lib.hid hl'
    have He0 := Lib.hid he0
    have He1 := Lib.hid he1
    have Hf := Lib.hid hfm
    clear HP hlive hN hM hl hl' he0 he1 hfm
    obtain ⟨IU, iu0, iu1, iu2, iu3⟩ := u32_info
    have HIU := Lib.hid (And.intro iu0 (And.intro iu1 (And.intro iu2 iu3)))
    clear iu0 iu1 iu2 iu3
    go_enter Tryd.func3, Tryd.ntmps3
    go_wp2_with fail
    obtain ⟨w0, hw0⟩ : ∃ w0, w0 = ((w.alloc (.cells #[.slice q n c, .slice q' m c', .int .u32 (e0 : Nat), .int .u32 (e1 : Nat), .int .u8 (f : Nat)] 26)).alloc (.cells #[.int .u32 (e0 : Nat), .int .u32 (e1 : Nat)] 24)) := ⟨_, rfl⟩
    have t0 : Touch No w w0 := by rw [hw0]; exact ((Touch.refl No w).alloc _).alloc _
    have r0 : Rd w0 (some ⟨w.heap.size + 1, 0, none⟩) (nums .u32 [e0, e1]) := by
      have := rd_lay (w.alloc (.cells #[.slice q n c, .slice q' m c', .int .u32 (e0 : Nat), .int .u32 (e1 : Nat), .int .u8 (f : Nat)] 26)) 24 #[.int .u32 (e0 : Nat), .int .u32 (e1 : Nat)] (nums .u32 [e0, e1]) rfl
      rw [size_alloc] at this
      rw [hw0]; exact this
    rw [← hw0]
    refine (new_k _ 600 (by decide) (by decide)).mono ?_
    rintro e w1 ⟨d, rfl, h1⟩
    have X1 := Lib.hid (Xt.made (ls := [(q, nums .u8 b), (q', nums .u8 b'), (some ⟨w.heap.size + 1, 0, none⟩, nums .u32 [e0, e1])]) t0 (fun p hp => by
      have : p = (q, nums .u8 b) ∨ p = (q', nums .u8 b') ∨ p = (some ⟨w.heap.size + 1, 0, none⟩, nums .u32 [e0, e1]) := by simpa using hp
      rcases this with rfl | rfl | rfl
      · exact HB.out.rd.no t0
      · exact HB'.out.rd.no t0
      · exact r0) h1)
    clear h1 hw0 t0 r0
    go_wp2_with fail
    rw [hfm2]
    clear hfm2
    go_loopg [9, 12] N (fun g s9 s10 wr => ∃ (k : Nat) (v : Value), k + g = N ∧ s10 = .int .i64 ((k : Nat) : Int) ∧ s9 = v ∧ Hid (Own wr w1.heap.size 23 v (nums .u32 (Ex.line fm 2 k))) ∧ Hid (Touch No w1 wr))
    case atStart => exact ⟨0, _, by omega, rfl, rfl, Own.nil _ _ _, Touch.refl _ _⟩
    case round =>
      obtain ⟨k, v, hkgk, rfl, rfl, O, T⟩ := hrel
      cases gk with
      | zero =>
        obtain rfl : k = N := by omega
        have hlk : (nums .u32 (Ex.line fm 2 k)).length = k := by rw [nums_length, Ex.line_length]
        obtain ⟨ak, ck, rfl, _⟩ := O.out.form' hlk
        have O1 := O.out
        rw [Hl.out] at O1
        have X2 := Lib.hid (X1.out.own T.out O1)
        clear O O1 X1 hlk T
        go_wp2_with fail
        refine (PN _).out.mono ?_
        rintro e w2 ⟨rfl, rfl⟩
        go_wp2_with fail
        obtain ⟨w2, hw2⟩ : ∃ w2, w2 = wr := ⟨_, rfl⟩
        rw [← hw2] at X2 ⊢
        clear hw2
        go_loopg [10, 13] M (fun g s9 s10 wr => ∃ (k : Nat) (v : Value), k + g = M ∧ s10 = .int .i64 ((k : Nat) : Int) ∧ s9 = v ∧ Hid (Own wr w2.heap.size 23 v (nums .u32 (Ex.line (fm + 1) 2 k))) ∧ Hid (Touch No w2 wr))
        case atStart => exact ⟨0, _, by omega, rfl, rfl, Own.nil _ _ _, Touch.refl _ _⟩
        case round =>
          obtain ⟨k', v, hkgk', rfl, rfl, O, T⟩ := hrel
          cases gk with
          | zero =>
            obtain rfl : k' = M := by omega
            have hlk : (nums .u32 (Ex.line (fm + 1) 2 k')).length = k' := by rw [nums_length, Ex.line_length]
            obtain ⟨ak', ck', rfl, _⟩ := O.out.form' hlk
            have O2 := O.out
            rw [Hl'.out] at O2
            have X3 := Lib.hid (X2.out.own T.out O2)
            clear O O2 X2 hlk T
            go_wp2_with fail
            refine (PM _).out.mono ?_
            rintro e w4 ⟨rfl, rfl⟩
            go_wp2_with fail
            have Hcap := Lib.hid HB.out.cap
            have Hcap' := Lib.hid HB'.out.cap
            obtain ⟨gp, hgp⟩ : ∃ gp, gp = w.heap.size + 1 := ⟨_, rfl⟩
            rw [← hgp] at X3 ⊢
            clear hgp
            have X3' : Hid (∃ D : Dk.Disk, D.seen.length = 600 ∧ D.waits.length ≤ 200 * 0 ∧ Xt w wr d D [(ak', nums .u32 l'), (ak, nums .u32 l), (q, nums .u8 b), (q', nums .u8 b'), (some ⟨gp, 0, none⟩, nums .u32 [e0, e1])]) := ⟨_, Ex.new_len _, Nat.le_refl _, X3.out⟩
            clear X3
            go_loopg [14] 2 (fun g s14 wx => ∃ (z : Nat), z + g = 2 ∧ s14 = .int .i64 ((z : Nat) : Int) ∧ Hid (∃ D : Dk.Disk, D.seen.length = 600 ∧ D.waits.length ≤ 200 * z ∧ Xt w wx d D [(ak', nums .u32 l'), (ak, nums .u32 l), (q, nums .u8 b), (q', nums .u8 b'), (some ⟨gp, 0, none⟩, nums .u32 [e0, e1])]))
            case atStart => exact ⟨0, by omega, rfl, X3'⟩
            case round =>
              obtain ⟨z, hz, rfl, hX⟩ := hrel
              cases gk with
              | zero =>
                obtain rfl : z = 2 := by omega
                obtain ⟨D, _, _, hXD⟩ := hX.out
                have T := Lib.hid hXD.end
                clear hX hXD X3'
                go_wp2_with fail
                refine (lives_is _).mono ?_
                rintro e w11 ⟨rfl, t11⟩
                have T11 := Lib.hid (T.out.trans t11)
                clear t11 T
                go_wp2
                go_ret
                exact ⟨rfl, T11.out⟩
              | succ g =>
                obtain ⟨D, hD6, hDw, hXD⟩ := hX.out
                have hzlt : (z : Int) < 2 := by omega
                have P := Lib.hid (HP'.out D hD6).out
                obtain ⟨D2, hD2⟩ : ∃ D2, Ex.wD D e0 l b = D2 := ⟨_, rfl⟩
                obtain ⟨D3, hD3⟩ : ∃ D3, Ex.wD D2 e1 l' b' = D3 := ⟨_, rfl⟩
                rw [hD2, hD3] at P
                have hR := hXD.rd (a := some ⟨gp, 0, none⟩) (vs := nums .u32 [e0, e1]) (List.mem_cons_of_mem _ (List.mem_cons_of_mem _ (List.mem_cons_of_mem _ (List.mem_cons_of_mem _ List.mem_cons_self))))
                obtain ⟨_, _, hge, k0⟩ := hR.num (i := 0) (by simp)
                obtain ⟨_, _, hge', k1⟩ := hR.num (i := 1) (by simp)
                cases hge
                cases hge'
                have HX := Lib.hid hXD
                have HD2 := Lib.hid hD2
                have HD3 := Lib.hid hD3
                have HDw := Lib.hid hDw
                clear hR hXD hX hD2 hD3 hDw hD6 X3'
                simp only [List.getD_cons_zero, List.getD_cons_succ, Nat.zero_add] at k0 k1
                go_wp2_with fail
                refine (HX.out.exWrite e0 He0.out ak k ck l Hll.out (by omega) (List.mem_cons_of_mem _ List.mem_cons_self) Hlt.out q n c b HB.out.len Hcap.out (by omega) (List.mem_cons_of_mem _ (List.mem_cons_of_mem _ List.mem_cons_self)) HB.out.lt (by rw [HN.out]; have := HDw.out; omega) 0 P.out.1.1 D2 HD2.out).mono ?_
                rintro e w6 ⟨rfl, X6⟩
                have hR := X6.rd (a := some ⟨gp, 0, none⟩) (vs := nums .u32 [e0, e1]) (List.mem_cons_of_mem _ (List.mem_cons_of_mem _ (List.mem_cons_of_mem _ (List.mem_cons_of_mem _ List.mem_cons_self))))
                obtain ⟨_, _, hge, k1⟩ := hR.num (i := 1) (by simp)
                cases hge
                have H6 := Lib.hid X6
                clear X6 HX hR k0
                simp only [List.getD_cons_zero, List.getD_cons_succ, Nat.zero_add] at k1
                go_wp2_with fail
                refine (H6.out.exWrite e1 He1.out ak' k' ck' l' Hml.out (by omega) List.mem_cons_self Hmt.out q' m c' b' HB'.out.len Hcap'.out (by omega) (List.mem_cons_of_mem _ (List.mem_cons_of_mem _ (List.mem_cons_of_mem _ List.mem_cons_self))) HB'.out.lt (by rw [HM.out]; have := HDw.out; have := P.out.1.2.2.2.1; omega) 0 P.out.1.2.1 D3 HD3.out).mono ?_
                rintro e w7 ⟨rfl, X7⟩
                have hR := X7.rd (a := some ⟨gp, 0, none⟩) (vs := nums .u32 [e0, e1]) (List.mem_cons_of_mem _ (List.mem_cons_of_mem _ (List.mem_cons_of_mem _ (List.mem_cons_of_mem _ List.mem_cons_self))))
                obtain ⟨_, _, hge, k0⟩ := hR.num (i := 0) (by simp)
                cases hge
                have H7 := Lib.hid X7
                clear X7 H6 hR k1
                simp only [List.getD_cons_zero, List.getD_cons_succ, Nat.zero_add] at k0
                go_wp2_with fail
                refine (H7.out.exRead e0 He0.out ak k ck l Hll.out (by omega) (List.mem_cons_of_mem _ List.mem_cons_self) Hlt.out n (by omega) 0 P.out.2.1 b P.out.2.2.1 n HB.out.len).mono ?_
                rintro e w8 ⟨a8, rfl, X8⟩
                have hR := X8.rd (a := some ⟨gp, 0, none⟩) (vs := nums .u32 [e0, e1]) (List.mem_cons_of_mem _ (List.mem_cons_of_mem _ (List.mem_cons_of_mem _ (List.mem_cons_of_mem _ (List.mem_cons_of_mem _ List.mem_cons_self)))))
                obtain ⟨_, _, hge, k1⟩ := hR.num (i := 1) (by simp)
                cases hge
                have H8 := Lib.hid X8
                clear X8 H7 hR k0
                simp only [List.getD_cons_zero, List.getD_cons_succ, Nat.zero_add] at k1
                go_wp2_with fail
                refine (H8.out.exRead e1 He1.out ak' k' ck' l' Hml.out (by omega) (List.mem_cons_of_mem _ List.mem_cons_self) Hmt.out m (by omega) 0 P.out.2.2.2.1 b' P.out.2.2.2.2 m HB'.out.len).mono ?_
                rintro e w9 ⟨a9, rfl, X9⟩
                have H9 := Lib.hid X9
                clear X9 H8 k1
                go_wp2_with fail
                refine (same_at _ a8 q n n c b HB.out.len (by omega) (H9.out.rd (List.mem_cons_of_mem _ List.mem_cons_self)) (H9.out.rd (List.mem_cons_of_mem _ (List.mem_cons_of_mem _ (List.mem_cons_of_mem _ (List.mem_cons_of_mem _ List.mem_cons_self)))))).mono ?_
                rintro e w10 ⟨rfl, t10⟩
                have H10 := Lib.hid (H9.out.no t10)
                clear t10 H9
                go_wp2_with fail
                refine (same_at _ a9 q' m m c' b' HB'.out.len (by omega) (H10.out.rd List.mem_cons_self) (H10.out.rd (List.mem_cons_of_mem _ (List.mem_cons_of_mem _ (List.mem_cons_of_mem _ (List.mem_cons_of_mem _ (List.mem_cons_of_mem _ List.mem_cons_self))))))).mono ?_
                rintro e w11 ⟨rfl, t11⟩
                have H11 : Hid (∃ D : Dk.Disk, D.seen.length = 600 ∧ D.waits.length ≤ 200 * (z + 1) ∧ Xt w w11 d D [(ak', nums .u32 l'), (ak, nums .u32 l), (q, nums .u8 b), (q', nums .u8 b'), (some ⟨gp, 0, none⟩, nums .u32 [e0, e1])]) :=
                  ⟨D3, P.out.1.2.2.1, by have := HDw.out; have := P.out.1.2.2.2.2; omega, (H10.out.no t11).sub (fun p hp => List.mem_cons_of_mem _ (List.mem_cons_of_mem _ hp))⟩
                clear t11 H10
                go_wp2
                go_roundg g
                case measure => omega
                case rel => exact ⟨z + 1, by omega, by go_num, H11⟩
          | succ g =>
            have hlt : (k' : Int) < (M : Nat) := by omega
            have hk17 : k' ≤ 17 := by omega
            have hlk : (nums .u32 (Ex.line (fm + 1) 2 k')).length = k' := by rw [nums_length, Ex.line_length]
            obtain ⟨ak', ck', rfl, _⟩ := O.out.form' hlk
            have Hlk := Lib.hid hlk
            have HE : Hid (nums .u32 (Ex.line (fm + 1) 2 (k' + 1)) = nums .u32 (Ex.line (fm + 1) 2 k') ++ [.int .u32 ((fm : Int) + 2 * (k' : Nat) + 1)]) := by
              show _ = _
              rw [Ex.line_snoc, nums_append]
              simp [nums]
              try omega
            clear hlk
            go_wp2_with (first
              | (go_at_call 9; refine (PM _).out.mono ?_; rintro e w' ⟨rfl, rfl⟩)
              | (at_builtin; refine wpList_append1 rfl _ _ _ rfl w2.heap.size _ IU _ 4 Tryd.underlying32 HIU.out.1 HIU.out.2.1 HIU.out.2.2.1 HIU.out.2.2.2 rfl _ _ _ O.out rfl rfl rfl (by rw [Hlk.out]; unfold maxLen; omega) (by rw [Hlk.out]; omega) T.out.size ?_; intro v' w3 hown3 ht3))
            go_roundg g
            case measure => omega
            case rel => exact ⟨k' + 1, v', by omega, by go_num, rfl, by rw [HE.out]; exact hown3, T.out.then ht3 (fun i hi e => absurd ((O.out.block e).1) (by omega))⟩

      | succ g =>
        have hlt : (k : Int) < (N : Nat) := by omega
        have hk17 : k ≤ 17 := by omega
        have hlk : (nums .u32 (Ex.line fm 2 k)).length = k := by rw [nums_length, Ex.line_length]
        obtain ⟨ak, ck, rfl, _⟩ := O.out.form' hlk
        have Hlk := Lib.hid hlk
        have HE : Hid (nums .u32 (Ex.line fm 2 (k + 1)) = nums .u32 (Ex.line fm 2 k) ++ [.int .u32 ((fm : Int) + 2 * (k : Nat))]) := by
          show _ = _
          rw [Ex.line_snoc, nums_append]
          simp [nums]
          try omega
        clear hlk
        go_wp2_with (first
          | (go_at_call 9; refine (PN _).out.mono ?_; rintro e w' ⟨rfl, rfl⟩)
          | (at_builtin; refine wpList_append1 rfl _ _ _ rfl w1.heap.size _ IU _ 4 Tryd.underlying32 HIU.out.1 HIU.out.2.1 HIU.out.2.2.1 HIU.out.2.2.2 rfl _ _ _ O.out rfl rfl rfl (by rw [Hlk.out]; unfold maxLen; omega) (by rw [Hlk.out]; omega) T.out.size ?_; intro v' w3 hown3 ht3))
        go_roundg g
        case measure => omega
        case rel => exact ⟨k + 1, v', by omega, by go_num, rfl, by rw [HE.out]; exact hown3, T.out.then ht3 (fun i hi e => absurd ((O.out.block e).1) (by omega))⟩
end Go.Proofs.YtakjbdeemifnmaaDoor
