/-
  Package drydocklaw16 by its own text: the walk of ExtentsOver.
-/
import Derived.Test.YtakjbdeemifnmaaDoorExtentsTurnedW
import Derived.Test.YtakjbdeemifnmaaDoorRdSet
namespace Go.Proofs.YtakjbdeemifnmaaDoor
open Go Go.RowKit
set_option linter.unusedSimpArgs false

set_option maxRecDepth 100000 in
set_option maxHeartbeats 8000000 in
theorem extentsOver_walk (w : World) (q : Option Addr) (n c : Nat) (b : List Nat) (hB : Bytes w q n c b) (q' : Option Addr) (m c' : Nat) (b' : List Nat) (hB' : Bytes w q' m c' b') (t : Nat) (ht : t < 256) :
    Calls Tryd.prog 5 #[.slice q n c, .slice q' m c', .int .u8 (t : Nat)] w (LawPost w) := by
  have HB := Lib.hid hB
  have hnm := hB.nmax
  have HB' := Lib.hid hB'
  have hmm := hB'.nmax
  clear hB hB'
  by_cases hlive : n < 1 ∨ 4000 < n ∨ m < 1 ∨ 4000 < m
  · have hc : (n : Int) < 1 ∨ (¬ (n : Int) < 1 ∧ (4000 : Int) < (n : Nat)) ∨ (¬ (n : Int) < 1 ∧ ¬ (4000 : Int) < (n : Nat) ∧ (m : Int) < 1) ∨ (¬ (n : Int) < 1 ∧ ¬ (4000 : Int) < (n : Nat) ∧ ¬ (m : Int) < 1 ∧ (4000 : Int) < (m : Nat)) := by omega
    clear hlive
    rcases hc with h1 | ⟨h1, h2⟩ | ⟨h1, h2, h3⟩ | ⟨h1, h2, h3, h4⟩
    all_goals
      go_enter Tryd.func5, Tryd.ntmps5
      go_wp2_with fail
      refine (lives_is _).mono ?_
      rintro e w2 ⟨rfl, t2⟩
      have T2 := Lib.hid t2
      clear t2
      go_wp2
      go_ret
      exact ⟨rfl, T2.out⟩
  · have hn1 : ¬ (n : Int) < 1 := by omega
    have hn4 : ¬ (4000 : Int) < (n : Nat) := by omega
    have hm1 : ¬ (m : Int) < 1 := by omega
    have hm4 : ¬ (4000 : Int) < (m : Nat) := by omega
    obtain ⟨N, hN⟩ : ∃ N, Ex.pages n = N := ⟨_, rfl⟩
    obtain ⟨M, hM⟩ : ∃ M, Ex.pages m = M := ⟨_, rfl⟩
    obtain ⟨i, hi⟩ : ∃ i, t % M = i := ⟨_, rfl⟩
    obtain ⟨j, hj⟩ : ∃ j, t % N = j := ⟨_, rfl⟩
    obtain ⟨l, hl⟩ : ∃ l, Ex.line 10 1 N = l := ⟨_, rfl⟩
    obtain ⟨l', hl'⟩ : ∃ l', (Ex.line 50 1 M).set i (10 + j) = l' := ⟨_, rfl⟩
    obtain ⟨D1, hD1⟩ : ∃ D1, Ex.wD (Dk.new 600) 1 l b = D1 := ⟨_, rfl⟩
    obtain ⟨D2, hD2⟩ : ∃ D2, Ex.wD D1 2 l' b' = D2 := ⟨_, rfl⟩
    have hN17 : N ≤ 17 := by rw [← hN]; exact Ex.pages17 (by omega)
    have hM17 : M ≤ 17 := by rw [← hM]; exact Ex.pages17 (by omega)
    obtain ⟨p0, p0', pi, pj, p1, p2, p3, p4, p5, p6, p7, p8, p9, p10, p11, p12⟩ := Ex.over_plain HB.out.len HB'.out.len hN hM (by omega) (by omega) (by omega) (by omega) hi hj hl hl' hD1 hD2
    have PN := fun w => Lib.hid (exPages_at w (n : Nat) N (by omega) (by rw [show ((n : Nat) : Int).toNat = n by omega]; exact hN))
    have PM := fun w => Lib.hid (exPages_at w (m : Nat) M (by omega) (by rw [show ((m : Nat) : Int).toNat = m by omega]; exact hM))
    have HP := Lib.hid (And.intro p1 (And.intro p2 (And.intro p3 (And.intro p4 (And.intro p5 (And.intro p6 (And.intro p7 p8)))))))
    have Hll := Lib.hid p10
    have Hml := Lib.hid p9
    have Hlt := Lib.hid p11
    have Hmt := Lib.hid p12
    have HN := Lib.hid hN
    have HM := Lib.hid hM
    have Hl := Lib.hid hl
    have Hl' := Lib.hid hl'
    have HD1 := Lib.hid hD1
    have HD2 := Lib.hid hD2
    have hti : Int.tmod (t : Int) (M : Nat) = (i : Nat) := by rw [Int.tmod_eq_emod_of_nonneg (by omega)]; omega
    have htj : Int.tmod (t : Int) (N : Nat) = (j : Nat) := by rw [Int.tmod_eq_emod_of_nonneg (by omega)]; omega
    have Hti := Lib.hid hti
    have Htj := Lib.hid htj
    have ht256 : (t : Int) < 256 := by omega
    clear p1 p2 p3 p4 p5 p6 p7 p8 p9 p10 p11 p12 hlive hN hM hl hl' hD1 hD2 hi hj hti htj
    obtain ⟨IU, iu0, iu1, iu2, iu3⟩ := u32_info
    have HIU := Lib.hid (And.intro iu0 (And.intro iu1 (And.intro iu2 iu3)))
    clear iu0 iu1 iu2 iu3
    go_enter Tryd.func5, Tryd.ntmps5
    go_wp2_with fail
    refine (new_k _ 600 (by decide) (by decide)).mono ?_
    rintro e w1 ⟨d, rfl, h1⟩
    have X1 := Lib.hid (Xt.made (ls := [(q, nums .u8 b), (q', nums .u8 b')]) (Touch.refl No w) (fun p hp => by
      have : p = (q, nums .u8 b) ∨ p = (q', nums .u8 b') := by simpa using hp
      rcases this with rfl | rfl
      · exact HB.out.rd
      · exact HB'.out.rd) h1)
    clear h1
    go_wp2_with fail
    go_loopg [9, 11] N (fun g s9 s10 wr => ∃ (k : Nat) (v : Value), k + g = N ∧ s10 = .int .i64 ((k : Nat) : Int) ∧ s9 = v ∧ Hid (Own wr w1.heap.size 23 v (nums .u32 (Ex.line 10 1 k))) ∧ Hid (Touch No w1 wr))
    case atStart => exact ⟨0, _, by omega, rfl, rfl, Own.nil _ _ _, Touch.refl _ _⟩
    case round =>
      obtain ⟨k, v, hkg, rfl, rfl, O, T⟩ := hrel
      cases gk with
      | zero =>
        obtain rfl : k = N := by omega
        have hlk : (nums .u32 (Ex.line 10 1 k)).length = k := by rw [nums_length, Ex.line_length]
        obtain ⟨al, cl, rfl, _⟩ := O.out.form' hlk
        have O1 := O.out
        rw [Hl.out] at O1
        have X2 := Lib.hid (X1.out.own T.out O1)
        clear O O1 X1 hlk
        go_wp2_with fail
        refine (PN _).out.mono ?_
        rintro e w2 ⟨rfl, rfl⟩
        go_wp2_with fail
        obtain ⟨w2, hw2⟩ : ∃ w2, w2 = wr := ⟨_, rfl⟩
        rw [← hw2] at X2 ⊢
        clear hw2
        go_loopg [10, 12] M (fun g s9 s10 wr => ∃ (k : Nat) (v : Value), k + g = M ∧ s10 = .int .i64 ((k : Nat) : Int) ∧ s9 = v ∧ Hid (Own wr w2.heap.size 23 v (nums .u32 (Ex.line 50 1 k))) ∧ Hid (Touch No w2 wr))
        case atStart => exact ⟨0, _, by omega, rfl, rfl, Own.nil _ _ _, Touch.refl _ _⟩
        case round =>
          obtain ⟨k', v, hkg', rfl, rfl, O, T⟩ := hrel
          cases gk with
          | zero =>
            obtain rfl : k' = M := by omega
            have hlk : (nums .u32 (Ex.line 50 1 k')).length = k' := by rw [nums_length, Ex.line_length]
            obtain ⟨am, cm, rfl, _⟩ := O.out.form' hlk
            go_wp2_with fail
            refine (PM _).out.mono ?_
            rintro e w3 ⟨rfl, rfl⟩
            have hk0 : ((k : Int) == 0) = false := by simp; omega
            have hk0' : ((k' : Int) == 0) = false := by simp; omega
            have hRl := (X2.out.no T.out).rd (a := al) (vs := nums .u32 l) List.mem_cons_self
            obtain ⟨gl, ol, rfl, hcl⟩ := hRl.num (i := j) (by rw [Hll.out]; exact pj)
            have hlj : l.getD j 0 = 10 + j := by
              have := Ex.line_at (a := 10) (s := 1) pj
              rw [Hl.out, Nat.one_mul] at this
              exact this
            rw [hlj, show ((10 + j : Nat) : Int) = 10 + (j : Int) by omega] at hcl
            obtain ⟨gm, om, rfl, hcm⟩ := O.out.rd.num (i := i) (by rw [Ex.line_length]; exact pi)
            have hsf := O.out.soft (om + i)
            obtain ⟨z, hz⟩ : ∃ z, (((Ex.line 50 1 k').getD i 0 : Nat) : Int) = z := ⟨_, rfl⟩
            rw [hz] at hcm
            have hti := Hti.out
            have htj := Htj.out
            have hwt : IntKind.i64.wrap (t : Int) = t := IntWalk.i64_in _ (by omega)
            have hkn : ¬ k = 0 := by omega
            have hkn' : ¬ k' = 0 := by omega
            have hik : (i : Int) < (k' : Nat) := by omega
            have hjk : (j : Int) < (k : Nat) := by omega
            have hgm : Hid (w2.heap.size ≤ gm) := (O.out.block (k := gm) rfl).1
            have Hlk := Lib.hid hlk
            have Hlj := Lib.hid hlj
            clear hlk hlj hz hRl
            have hgl : Hid (gl < w2.heap.size) := by
              have := ((X2.out.rd (a := some ⟨gl, ol, none⟩) (vs := nums .u32 l) List.mem_cons_self)).lt (by intro h; have h2 := congrArg List.length h; rw [nums_length, Hll.out] at h2; simp at h2; omega)
              exact this
            go_wp2_with fail
            go_still_tail 15, (by kernel_rfl)
            clear hwt hkn hkn' hti htj
            go_wp2_with fail
            obtain ⟨W5, hW5⟩ : ∃ W5, W5 = (wr.setCell ⟨gm, om + i, none⟩ (.int .u32 (10 + (j : Int)))).drew := ⟨_, rfl⟩
            have tW : Touch No w2 W5 := by
              rw [hW5]
              exact (T.out.setCell (p := ⟨gm, om + i, none⟩) (fun h => absurd h (Nat.not_lt.2 hgm.out)) _).drew
            have hRm : Rd W5 (some ⟨gm, om, none⟩) (nums .u32 l') := by
              have h := O.out.rd.set (p := i) (by rw [Hlk.out]; exact pi) (.int .u32 (10 + (j : Int)))
              have e : nums .u32 l' = (nums .u32 (Ex.line 50 1 k')).set i (.int .u32 (10 + (j : Int))) := by
                rw [← Hl'.out, nums, nums, List.map_set]
                simp
              rw [hW5, e]
              exact h
            have X5 := Lib.hid (X2.out.lay tW hRm hgm.out)
            rw [← hW5]
            clear hW5 tW hRm O T X2 hcl hcm hsf
            have Hcap := Lib.hid HB.out.cap
            have Hcap' := Lib.hid HB'.out.cap
            refine (X5.out.exWrite 1 (by decide) _ k cl l Hll.out (by omega) (List.mem_cons_of_mem _ List.mem_cons_self) Hlt.out q n c b HB.out.len Hcap.out (by omega) (List.mem_cons_of_mem _ (List.mem_cons_of_mem _ List.mem_cons_self)) HB.out.lt (by rw [HN.out]; show 0 + _ ≤ _; omega) 0 HP.out.1 D1 HD1.out).mono ?_
            rintro e w6 ⟨rfl, X6⟩
            have H6 := Lib.hid X6
            clear X6 X5
            go_wp2_with fail
            refine (H6.out.exWrite 2 (by decide) _ k' cm l' Hml.out (by omega) List.mem_cons_self Hmt.out q' m c' b' HB'.out.len Hcap'.out (by omega) (List.mem_cons_of_mem _ (List.mem_cons_of_mem _ (List.mem_cons_of_mem _ List.mem_cons_self))) HB'.out.lt (by rw [HM.out]; have := HP.out.2.2.1; omega) 0 HP.out.2.2.2.1 D2 HD2.out).mono ?_
            rintro e w7 ⟨rfl, X7⟩
            have H7 := Lib.hid X7
            clear X7 H6
            go_wp2_with fail
            refine (H7.out.exRead 1 (by decide) _ k cl l Hll.out (by omega) (List.mem_cons_of_mem _ List.mem_cons_self) Hlt.out n (by omega) 4 HP.out.2.2.2.2.1 [] HP.out.2.2.2.2.2.1 0 rfl).mono ?_
            rintro e w8 ⟨a8, rfl, X8⟩
            have H8 := Lib.hid X8
            clear X8 H7
            go_wp2_with fail
            refine (H8.out.exRead 2 (by decide) _ k' cm l' Hml.out (by omega) (List.mem_cons_of_mem _ List.mem_cons_self) Hmt.out m (by omega) 0 HP.out.2.2.2.2.2.2.1 b' HP.out.2.2.2.2.2.2.2 m HB'.out.len).mono ?_
            rintro e w9 ⟨a9, rfl, X9⟩
            have H9 := Lib.hid X9
            clear X9 H8
            go_wp2_with fail
            refine (same_at _ a9 q' m m c' b' HB'.out.len (by omega) (H9.out.rd List.mem_cons_self) (H9.out.rd (List.mem_cons_of_mem _ (List.mem_cons_of_mem _ (List.mem_cons_of_mem _ (List.mem_cons_of_mem _ (List.mem_cons_of_mem _ List.mem_cons_self))))))).mono ?_
            rintro e w10 ⟨rfl, t10⟩
            have T10 := Lib.hid (H9.out.end.trans t10)
            clear t10 H9
            go_wp2_with fail
            refine (lives_is _).mono ?_
            rintro e w11 ⟨rfl, t11⟩
            have T11 := Lib.hid (T10.out.trans t11)
            clear t11 T10
            go_wp2
            go_ret
            exact ⟨rfl, T11.out⟩
          | succ g =>
            have hlt : (k' : Int) < (M : Nat) := by omega
            have hk17 : k' ≤ 17 := by omega
            have hlk : (nums .u32 (Ex.line 50 1 k')).length = k' := by rw [nums_length, Ex.line_length]
            obtain ⟨am, cm, rfl, _⟩ := O.out.form' hlk
            have Hlk := Lib.hid hlk
            have HE : Hid (nums .u32 (Ex.line 50 1 (k' + 1)) = nums .u32 (Ex.line 50 1 k') ++ [.int .u32 (50 + (k' : Nat))]) := by
              show _ = _
              rw [Ex.line_snoc, nums_append, Nat.one_mul]
              simp [nums]
            clear hlk
            go_wp2_with (first
              | (go_at_call 9; refine (PM _).out.mono ?_; rintro e w' ⟨rfl, rfl⟩)
              | (at_builtin; refine wpList_append1 rfl _ _ _ rfl w2.heap.size _ IU _ 4 Tryd.underlying32 HIU.out.1 HIU.out.2.1 HIU.out.2.2.1 HIU.out.2.2.2 rfl _ _ _ O.out rfl rfl rfl (by rw [Hlk.out]; unfold maxLen; omega) (by rw [Hlk.out]; omega) T.out.size ?_; intro v' w3 hown3 ht3))
            go_roundg g
            case measure => omega
            case rel => exact ⟨k' + 1, v', by omega, by go_num, rfl, by rw [HE.out]; exact hown3, T.out.then ht3 (fun i hi e => absurd ((O.out.block e).1) (by omega))⟩
      | succ g =>
        have hlt : (k : Int) < (N : Nat) := by omega
        have hk17 : k ≤ 17 := by omega
        have hlk : (nums .u32 (Ex.line 10 1 k)).length = k := by rw [nums_length, Ex.line_length]
        obtain ⟨al, cl, rfl, _⟩ := O.out.form' hlk
        have Hlk := Lib.hid hlk
        have HE : Hid (nums .u32 (Ex.line 10 1 (k + 1)) = nums .u32 (Ex.line 10 1 k) ++ [.int .u32 (10 + (k : Nat))]) := by
          show _ = _
          rw [Ex.line_snoc, nums_append, Nat.one_mul]
          simp [nums]
        clear hlk
        go_wp2_with (first
          | (go_at_call 9; refine (PN _).out.mono ?_; rintro e w' ⟨rfl, rfl⟩)
          | (at_builtin; refine wpList_append1 rfl _ _ _ rfl w1.heap.size _ IU _ 4 Tryd.underlying32 HIU.out.1 HIU.out.2.1 HIU.out.2.2.1 HIU.out.2.2.2 rfl _ _ _ O.out rfl rfl rfl (by rw [Hlk.out]; unfold maxLen; omega) (by rw [Hlk.out]; omega) T.out.size ?_; intro v' w3 hown3 ht3))
        go_roundg g
        case measure => omega
        case rel => exact ⟨k + 1, v', by omega, by go_num, rfl, by rw [HE.out]; exact hown3, T.out.then ht3 (fun i hi e => absurd ((O.out.block e).1) (by omega))⟩
end Go.Proofs.YtakjbdeemifnmaaDoor
