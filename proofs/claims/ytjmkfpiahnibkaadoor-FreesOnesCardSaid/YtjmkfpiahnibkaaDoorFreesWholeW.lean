/-
  The walk of FreesWhole: a list of which one page can't be given is not given at all. For every list of acts and every list of pages.
-/
import Derived.Test.YtjmkfpiahnibkaaDoorFreesAllW
namespace Go.Proofs.YtjmkfpiahnibkaaDoor
open Go.RowKit

theorem contains_snoc (l : List Nat) (x y : Nat) : (l ++ [x]).contains y = (l.contains y || (x == y)) := by
  rw [Bool.eq_iff_iff]
  simp only [List.contains_eq_mem, List.mem_append, List.mem_singleton, Bool.or_eq_true, decide_eq_true_eq, beq_iff_eq]
  exact or_congr Iff.rfl eq_comm
/-- how the reckoning of what Give should say goes on -/
theorem says_out {S : Nat → Bool} {xs : List Nat} {k : Nat} (hk : k < xs.length) (h : inMap 7 107 (xs.getD k 0) = false) : giveSays 7 107 S (xs.take (k + 1)) = 1 := by
  rw [take_getD hk, giveSays, List.all_append]
  simp only [List.all_cons, h, Bool.false_and, Bool.and_false]
  rfl
theorem fresh_snoc {S : Nat → Bool} {l : List Nat} {y : Nat} : fresh S (l ++ [y]) = (fresh S l && !(S y || l.contains y)) := by
  rw [Bool.eq_iff_iff, fresh_true]
  simp only [Bool.and_eq_true, fresh_true, Bool.not_eq_true', Bool.or_eq_false_iff, List.contains_eq_mem, decide_eq_false_iff_not, List.nodup_append, List.mem_append, List.mem_singleton]
  constructor
  · rintro ⟨⟨h1, _, h3⟩, h4⟩
    exact ⟨⟨h1, fun x hx => h4 x (Or.inl hx)⟩, h4 y (Or.inr rfl), fun hm => h3 y hm y rfl rfl⟩
  · rintro ⟨⟨h1, h2⟩, h3, h4⟩
    refine ⟨⟨h1, by simp, fun a ha b hb e => h4 (by rw [hb] at e; exact e ▸ ha)⟩, fun x hx => ?_⟩
    rcases hx with hx | hx
    · exact h2 x hx
    · rw [hx]; exact h3
theorem says_aux (a f t : Bool) : (if a = true then (if (f && !t) = true then 0 else 9) else 1) = if (if a = true then (if f = true then 0 else 9) else 1) = 0 ∧ t = true then 9 else (if a = true then (if f = true then 0 else 9) else 1) := by
  cases a <;> cases f <;> cases t <;> rfl
theorem says_in {S : Nat → Bool} {xs : List Nat} {k : Nat} (hk : k < xs.length) (h : inMap 7 107 (xs.getD k 0) = true) :
    giveSays 7 107 S (xs.take (k + 1)) = if giveSays 7 107 S (xs.take k) = 0 ∧ (S (xs.getD k 0) || (xs.take k).contains (xs.getD k 0)) = true then 9 else giveSays 7 107 S (xs.take k) := by
  rw [take_getD hk]
  simp only [giveSays, List.all_append, List.all_cons, List.all_nil, h, Bool.and_true, fresh_snoc]
  exact says_aux _ _ _

theorem says_le (S : Nat → Bool) (xs : List Nat) : giveSays 7 107 S xs = 0 ∨ giveSays 7 107 S xs = 1 ∨ giveSays 7 107 S xs = 9 := by
  unfold giveSays
  cases xs.all (inMap 7 107) <;> cases fresh S xs <;> simp
/-- given, there are so many more -/
theorem lst_add {S : Nat → Bool} : ∀ {xs : List Nat}, (∀ x ∈ xs, x < 4096) → fresh S xs = true → (Fr.lst (Fr.add S xs)).length = (Fr.lst S).length + xs.length := by
  intro xs
  induction xs generalizing S with
  | nil => intro _ _; rw [Fr.add_nil]; simp
  | cons x xs ih =>
    intro hm hf
    simp only [fresh, Bool.and_eq_true, Bool.not_eq_true'] at hf
    have h1 := ih (S := Fr.flip S x) (fun y hy => hm y (by simp [hy])) hf.2
    have e : Fr.add (Fr.flip S x) xs = Fr.add S (x :: xs) := by
      funext q
      simp only [Fr.add, Fr.flip, List.contains_eq_mem, List.mem_cons]
      by_cases e : q = x
      · subst e; simp [hf.1]
      · simp [e]
    rw [e, Fr.lst_flip_off (hm x (by simp)) hf.1] at h1
    rw [h1, List.length_cons]; omega

set_option maxRecDepth 100000 in
set_option maxHeartbeats 4000000 in
theorem freesWhole_walk (w : World) (ad : Option Addr) (n cap : Nat) (acts : List Deed) (a : Option Addr) (m cap2 : Nat) (xs : List Nat) (h : Start w ad n acts)
    (hm : xs.length = m) (hcap : m ≤ cap2) (hmax : (cap2 : Int) ≤ 9223372036854775807) (hr : Rd w a (nums .u32 xs)) (hx : ∀ x ∈ xs, x < 4294967296) :
    Calls Tryd.prog 6 #[.slice ad n cap, .slice a m cap2] w (LawPost w) := by
  have H0 := Lib.hid h; clear h
  have HL : Hid ((n : Int) ≤ 9223372036854775807) := H0.out.max
  have HM := Lib.hid hm; clear hm
  have HR := Lib.hid hr; clear hr
  have HX := Lib.hid hx; clear hx
  go_enter Tryd.func6, Tryd.ntmps6
  go_wp2_with fail
  refine (alive_any w H0.out.tab).mono ?_
  rintro e w1 ⟨rfl, t1⟩
  have T1 := Lib.hid t1; clear t1
  have H1 := Lib.hid (H0.out.touch T1.out); clear H0
  go_wp2_with fail
  refine (great_any _ _ _ _ _ H1.out.len H1.out.max H1.out.acts).mono ?_
  rintro e w2 ⟨rfl, rfl⟩
  cases hg : great acts
  · by_cases h100 : m ≤ 100
    · have h100i : ¬ (100 : Int) < m := by omega
      go_wp2_with fail
      refine (behind_any _ _ _ _ _ H1.out.len H1.out.max H1.out.acts H1.out.tab).mono ?_
      rintro e w2 ⟨b, rfl, hb, t2, m2⟩
      have Hb : Hid (w.heap.size ≤ b) := Nat.le_trans T1.out.size hb
      have T2 := Lib.hid (T1.out.trans t2)
      have M2 := Lib.hid m2
      clear hb t2 m2 hg T1 H1
      generalize behindSet (upTo 7 107) acts = S at *
      go_wp2_with fail
      refine (free_list _ _ _ M2.out).mono ?_
      rintro e w3 ⟨v, rfl, hown, t3⟩
      obtain ⟨a0, cap', rfl, _, hrd, hbase, _⟩ := hown.form
      have T3 := Lib.hid (T2.out.trans t3)
      have M3 := Lib.hid (M2.out.touch t3 (fun f => f))
      have Hrd := Lib.hid hrd
      have Hbase : Hid (∀ c o, a0 = some ⟨c, o, none⟩ → c ≠ b) := fun c o e => by have := (hbase _ e).1; have := M2.out.lt; simp at *; omega
      have Hlen : Hid ((Fr.lst S).length = (nums .u32 (Fr.lst S)).length) := (nums_length _ _).symm
      have Hlst := Lib.hid (Fr.lst_length_le S)
      clear t3 hown hrd hbase T2 M2
      obtain ⟨lw, hlw⟩ : ∃ lw, (nums .u32 (Fr.lst S)).length = lw := ⟨_, rfl⟩
      rw [hlw] at Hlen ⊢
      have Hlw := Lib.hid hlw; clear hlw
      have hlw4 : lw ≤ 4096 := by have := Hlst.out; have := Hlen.out; omega
      go_wp2
      go_loopg [7, 8] m (fun g s7 s8 wr => ∃ (k : Nat) (v : Int), k + g = m ∧ s8 = .int .i64 ((k : Nat) : Int) ∧ s7 = .int .i64 v ∧ Hid (v = (giveSays 7 107 S (xs.take k) : Nat)) ∧ Hid (Touch No w3 wr))
      case atStart => exact ⟨0, 0, by omega, rfl, rfl, rfl, Touch.refl _ _⟩
      case round =>
        obtain ⟨k, v, hkg, rfl, rfl, HV, T⟩ := hrel
        have hv3 : v = 0 ∨ v = 1 ∨ v = 9 := by
          have := says_le S (xs.take k)
          have := HV.out
          omega
        cases gk with
        | zero =>
          obtain rfl : k = m := by omega
          have M := Lib.hid (M3.out.touch T.out (fun f => f))
          have HV2 : Hid (v = (giveSays 7 107 S xs : Nat)) := by
            have := HV.out
            rwa [List.take_of_length_le (by have := HM.out; omega)] at this
          have HR2 := Lib.hid (HR.out.no (T3.out.trans T.out))
          have Hrd2 := Lib.hid (Hrd.out.no T.out)
          have HOff : Hid (∀ c o, a = some ⟨c, o, none⟩ → 0 < k → c ≠ b) := fun c o e hpos e2 => by
            obtain ⟨c', o', e', hc⟩ := HR.out.num (i := 0) (by have := HM.out; omega)
            rw [e] at e'
            simp only [Option.some.injEq, Addr.mk.injEq, and_true] at e'
            have := lt_of_cell hc
            have := Hb.out
            omega
          clear HV Hrd
          rcases hv3 with rfl | rfl | rfl
          · -- all of them can be given
            have hs : giveSays 7 107 S xs = 0 := by have := HV2.out; omega
            have hall : xs.all (inMap 7 107) = true ∧ fresh S xs = true := by
              unfold giveSays at hs
              cases h1 : xs.all (inMap 7 107) <;> cases h2 : fresh S xs <;> simp [h1, h2] at hs ⊢
            have Hcount : Hid ((Fr.lst (Fr.add S xs)).length = lw + k) := by
              show _ = _
              rw [lst_add (fun x hx => by have := inMap_true.1 (List.all_eq_true.1 hall.1 x hx); omega) hall.2, Hlen.out, HM.out]
            have hset : giveSet 7 107 S xs = Fr.add S xs := by rw [giveSet, hs]; rfl
            clear hall
            go_wp2_with fail
            refine (give_at _ b 7 107 _ _ _ _ _ xs 0 M.out HM.out hcap hmax HR2.out HOff.out HX.out HV2.out hset).mono ?_
            rintro e w6 ⟨rfl, t6, m6⟩
            have T6 := Lib.hid (One.new (T3.out.trans T.out) Hb.out t6)
            have M6 := Lib.hid m6
            clear t6 m6 hs hset
            go_wp2_with fail
            refine (free_at _ b 7 107 _ ((lw : Int) + (k : Int)) M6.out (by rw [Hcount.out]; omega)).mono ?_
            rintro e w7 ⟨rfl, rfl⟩
            go_wp2
            go_ret
            exact ⟨ret_bool (by simp), T6.out⟩
          all_goals
            have hset : giveSet 7 107 S xs = S := by
              have := HV2.out
              rw [giveSet, if_neg (by omega)]
            go_wp2_with fail
            refine (give_at _ b 7 107 _ _ _ _ _ xs _ M.out HM.out hcap hmax HR2.out HOff.out HX.out HV2.out hset).mono ?_
            rintro e w6 ⟨rfl, t6, m6⟩
            have T6 := Lib.hid (One.new (T3.out.trans T.out) Hb.out t6)
            have M6 := Lib.hid m6
            have Hrd3 := Lib.hid (Hrd2.out.touch t6 (fun c o e _ => Hbase.out c o e))
            clear t6 m6 hset
            go_wp2_with fail
            refine (free_list _ _ _ M6.out).mono ?_
            rintro e w7 ⟨v7, rfl, hown7, t7⟩
            obtain ⟨a7, cap7, rfl, _, hrd7, _, _⟩ := hown7.form
            have T7 := Lib.hid (T6.out.trans t7)
            have Hrd7 := Lib.hid hrd7
            have Hrd8 := Lib.hid (Hrd3.out.no t7)
            clear t7 hrd7 hown7 Hrd3
            rw [Hlw.out]
            go_wp2_with fail
            refine (sameIds_eq _ _ _ _ _ _ (Fr.lst S) (Fr.lst S) Hlen.out Hlen.out (by omega) Hrd7.out Hrd8.out).mono ?_
            rintro e w8 ⟨rfl, t8⟩
            have T8 := Lib.hid (T7.out.trans t8)
            clear t8
            have hsame : sameIds (Fr.lst S) (Fr.lst S) = true := by simp [sameIds]
            rw [hsame]
            clear hsame
            go_wp2
            go_ret
            exact ⟨rfl, T8.out⟩
        | succ g =>
          have hlt : (k : Int) < m := by omega
          have hkl : k < xs.length := by have := HM.out; omega
          obtain ⟨c, o, rfl, hc⟩ := (HR.out.no (T3.out.trans T.out)).num hkl
          have M := Lib.hid (M3.out.touch T.out (fun f => f))
          have hy32 := nums_lt (k := k) HX.out
          have HOut := Lib.hid (says_out (S := S) hkl)
          have HIn := Lib.hid (says_in (S := S) hkl)
          obtain ⟨y, hy⟩ : ∃ y, xs.getD k 0 = y := ⟨_, rfl⟩
          rw [hy] at hc hy32 HOut HIn
          have Hy := Lib.hid hy; clear hy
          have Next : Hid (∀ (v1 : Int), ((inMap 7 107 y = false ∧ v1 = 1) ∨ (inMap 7 107 y = true ∧ v1 = v)) →
              (giveSays 7 107 S (xs.take (k + 1)) : Nat) = if v1 = 0 ∧ (S y || (xs.take k).contains y) = true then 9 else v1) := by
            intro v1 h1
            rcases h1 with ⟨h1, rfl⟩ | ⟨h1, rfl⟩
            · rw [HOut.out h1]; simp
            · rw [HIn.out h1, HV.out]
              by_cases hc : giveSays 7 107 S (xs.take k) = 0 ∧ (S y || (xs.take k).contains y) = true
              · rw [if_pos hc, if_pos ⟨by rw [hc.1]; rfl, hc.2⟩]; rfl
              · rw [if_neg hc, if_neg (fun h => hc ⟨by have := h.1; omega, h.2⟩)]
          clear HOut HIn HV
          obtain ⟨v1, hv1, hv13, hcase⟩ : ∃ v1 : Int, ((inMap 7 107 y = false ∧ v1 = 1) ∨ (inMap 7 107 y = true ∧ v1 = v)) ∧ (v1 = 0 ∨ v1 = 1 ∨ v1 = 9) ∧ ((y < 7 ∧ v1 = 1) ∨ (7 ≤ y ∧ 107 ≤ y ∧ v1 = 1) ∨ (7 ≤ y ∧ y < 107 ∧ v1 = v)) := by
            cases hin : inMap 7 107 y
            · have := inMap_false.1 hin
              exact ⟨1, Or.inl ⟨rfl, rfl⟩, Or.inr (Or.inl rfl), by omega⟩
            · have := inMap_true.1 hin
              exact ⟨v, Or.inr ⟨rfl, rfl⟩, hv3, by omega⟩
          have Hv := Lib.hid (Next.out v1 hv1)
          clear Next hv1 hv3
          have Tail : True := trivial
          clear Tail
          rcases hcase with ⟨h7, hvv⟩ | ⟨h7, h107, hvv⟩ | ⟨h7, h107, hvv⟩
          all_goals
            subst hvv
            go_wp2_with fail
            refine (is_at _ b 7 107 y _ _ (S y) M.out rfl hy32 rfl).mono ?_
            rintro e w4 ⟨rfl, rfl⟩
            obtain ⟨w5, rfl⟩ : ∃ w5 : World, w5 = wr := ⟨_, rfl⟩
            have HC := Lib.hid hc; clear hc
            go_wp2
            go_loopg [9, 10] k (fun g' s9 s10 wx => ∃ (j : Nat) (t : Bool), j + g' = k ∧ s10 = .int .i64 ((j : Nat) : Int) ∧ s9 = .bool t ∧ Hid (t = (S y || (xs.take j).contains y)) ∧ Hid (Touch No w5 wx))
            case atStart => exact ⟨0, S y, by omega, rfl, rfl, (by show S y = _; simp), Touch.refl _ _⟩
            case round =>
              obtain ⟨j, t, hjg, rfl, rfl, HT2, T2⟩ := hrel
              cases gk with
              | zero =>
                obtain rfl : j = k := by omega
                have Hv2 := Hv
                rw [← HT2.out] at Hv2
                rcases hv13 with hv1 | hv1 | hv1
                all_goals first | (exfalso; omega) | skip
                all_goals try subst hv1
                all_goals cases t
                all_goals
                  go_wp2
                  go_roundg g
                  case measure => omega
                  case rel => exact ⟨j + 1, _, by omega, by go_num, rfl, (by have := Hv2.out; show _ = _; rw [this]; simp), T.out.trans T2.out⟩
              | succ g' =>
                have hjk : (j : Int) < k := by omega
                have hjl : j < xs.length := by omega
                obtain ⟨c1, o1, e1, hc1⟩ := (HR.out.no ((T3.out.trans T.out).trans T2.out)).num hjl
                simp only [Option.some.injEq, Addr.mk.injEq, and_true] at e1
                obtain ⟨rfl, rfl⟩ := e1
                have hck := T2.out.cell (fun f => f) HC.out
                have Snoc : Hid ((xs.take (j + 1)).contains y = ((xs.take j).contains y || (xs.getD j 0 == y))) := by
                  show _ = _
                  rw [take_getD hjl, contains_snoc]
                generalize xs.getD j 0 = z at *
                cases t
                · by_cases hzy : z = y
                  · subst hzy
                    go_wp2_with fail
                    go_quiet (fail)
                    go_wp2
                    go_roundg g'
                    case measure => omega
                    case rel => exact ⟨j + 1, true, by omega, by go_num, by simp, (by show true = _; rw [Snoc.out]; simp), T2.out.drewN _⟩
                  · have hne : ((z : Int) == (y : Int)) = false := by rw [beq_eq_false_iff_ne]; omega
                    have Hzy := Lib.hid hzy; clear hzy
                    go_wp2_with fail
                    go_quiet (fail)
                    go_wp2
                    go_roundg g'
                    case measure => omega
                    case rel => exact ⟨j + 1, false, by omega, by go_num, rfl, (by show false = _; rw [Snoc.out, ← Bool.or_assoc, ← HT2.out]; simp [Hzy.out]), T2.out.drewN _⟩
                · go_wp2_with fail
                  go_quiet (fail)
                  go_wp2
                  go_roundg g'
                  case measure => omega
                  case rel => exact ⟨j + 1, true, by omega, by go_num, rfl, (by show true = _; rw [Snoc.out, ← Bool.or_assoc, ← HT2.out]; simp), T2.out.drewN _⟩
    · have h100i : (100 : Int) < m := by omega
      go_wp2_with fail
      refine (alive_any _ H1.out.tab).mono ?_
      rintro e w2 ⟨rfl, t2⟩
      have T2 := Lib.hid (T1.out.trans t2)
      clear t2
      go_wp2
      go_ret
      exact ⟨rfl, T2.out⟩
  · go_wp2_with fail
    refine (alive_any _ H1.out.tab).mono ?_
    rintro e w2 ⟨rfl, t2⟩
    have T2 := Lib.hid (T1.out.trans t2)
    clear t2
    go_wp2
    go_ret
    exact ⟨rfl, T2.out⟩
end Go.Proofs.YtjmkfpiahnibkaaDoor
