/-
  The walk of FreesOnes: taken one by one pages are those that are taken together, and given one by one they are all free again.
-/
import Derived.Test.YtjmkfpiahnibkaaDoorFreesTakeW
namespace Go.Proofs.YtjmkfpiahnibkaaDoor
open Go.RowKit

/-- one more is taken -/
theorem one_more {S : Nat → Bool} {i : Nat} (hi : i < (Fr.lst S).length) :
    (Fr.lst (Fr.sub S ((Fr.lst S).take i))).take 1 = [(Fr.lst S).getD i 0] ∧ Fr.sub (Fr.sub S ((Fr.lst S).take i)) [(Fr.lst S).getD i 0] = Fr.sub S ((Fr.lst S).take (i + 1)) ∧ 1 ≤ (Fr.lst (Fr.sub S ((Fr.lst S).take i))).length := by
  rw [Fr.lst_sub_take]
  have hd : (Fr.lst S).drop i = (Fr.lst S).getD i 0 :: (Fr.lst S).drop (i + 1) := by
    rw [List.drop_eq_getElem_cons hi, List.getD_eq_getElem?_getD, List.getElem?_eq_getElem hi]; rfl
  refine ⟨by rw [hd]; rfl, ?_, by rw [List.length_drop]; omega⟩
  rw [take_getD hi]
  funext p
  simp only [Fr.sub, List.contains_eq_mem, List.mem_append, List.mem_singleton, Bool.decide_or]
  cases S p <;> simp
/-- one is given again: those from i on stay taken away but for it -/
theorem one_back {S : Nat → Bool} (hr : ∀ p, S p = true → 7 ≤ p ∧ p < 107) {i k : Nat} (hi : i < k) (hk : k ≤ (Fr.lst S).length) :
    giveSays 7 107 (Fr.sub S ((Fr.lst S).take (i + 1))) [(Fr.lst S).getD i 0] = 0 ∧ Fr.add (Fr.sub S ((Fr.lst S).take (i + 1))) [(Fr.lst S).getD i 0] = Fr.sub S ((Fr.lst S).take i) ∧ (Fr.lst S).getD i 0 < 4294967296 := by
  have hil : i < (Fr.lst S).length := by omega
  have hg : (Fr.lst S).getD i 0 = (Fr.lst S)[i] := by rw [List.getD_eq_getElem?_getD, List.getElem?_eq_getElem hil]; rfl
  have hS : S ((Fr.lst S).getD i 0) = true := by rw [hg]; exact (Fr.mem_lst.1 (List.getElem_mem hil)).2
  have hnot : (Fr.lst S).getD i 0 ∉ (Fr.lst S).take i := by
    intro hm
    have hnd := Fr.lst_nodup S
    rw [← List.take_append_drop i (Fr.lst S)] at hnd
    have hd : (Fr.lst S).drop i = (Fr.lst S).getD i 0 :: (Fr.lst S).drop (i + 1) := by rw [List.drop_eq_getElem_cons hil, hg]
    exact (List.nodup_append.1 hnd).2.2 _ hm _ (by rw [hd]; simp) rfl
  have hin := inMap_true.2 (hr _ hS)
  have ht := take_getD hil
  have hlt := (hr _ hS).2
  rw [ht]
  generalize (Fr.lst S).getD i 0 = y at *
  refine ⟨give1_ok hin (by simp [Fr.sub]), ?_, by omega⟩
  funext p
  simp only [Fr.add, Fr.sub, List.contains_eq_mem, List.mem_append, List.mem_singleton]
  by_cases e : p = y
  · subst e; simp [hS, hnot]
  · simp [e]

/-- all that was taken is given again -/
theorem all_back {S : Nat → Bool} (hr : ∀ p, S p = true → 7 ≤ p ∧ p < 107) {k : Nat} (hkl : k ≤ (Fr.lst S).length) :
    giveSays 7 107 (Fr.sub S ((Fr.lst S).take k)) ((Fr.lst S).take k) = 0 ∧ Fr.add (Fr.sub S ((Fr.lst S).take k)) ((Fr.lst S).take k) = S ∧ ∀ x ∈ (Fr.lst S).take k, x < 4294967296 := by
  by_cases hk : 0 < k
  · have h := turned_facts hr (p := 0) hk hkl
    simp only [List.drop_zero, List.take_zero, List.append_nil] at h
    exact ⟨h.2.1, h.2.2.1, h.2.2.2.2⟩
  · obtain rfl : k = 0 := by omega
    rw [List.take_zero, Fr.sub_nil, Fr.add_nil]
    exact ⟨by simp [giveSays, fresh], rfl, by simp⟩

set_option maxRecDepth 100000 in
set_option maxHeartbeats 4000000 in
theorem freesOnes_walk (w : World) (ad : Option Addr) (n cap num : Nat) (acts : List Deed) (h : Start w ad n acts) (hnum : num < 256) :
    Calls Tryd.prog 7 #[.slice ad n cap, .int .u8 (num : Nat)] w (LawPost w) := by
  obtain ⟨i0, hi, hz0, hz1, hz2⟩ := info_parts info_u32
  have H0 := Lib.hid h; clear h
  have HL : Hid ((n : Int) ≤ 9223372036854775807) := H0.out.max
  go_enter Tryd.func7, Tryd.ntmps7
  go_wp2_with fail
  refine (alive_any w H0.out.tab).mono ?_
  rintro e w1 ⟨rfl, t1⟩
  have T1 := Lib.hid t1; clear t1
  have H1 := Lib.hid (H0.out.touch T1.out); clear H0
  go_wp2_with fail
  refine (great_any _ _ _ _ _ H1.out.len H1.out.max H1.out.acts).mono ?_
  rintro e w2 ⟨rfl, rfl⟩
  cases hg : great acts
  · go_wp2_with fail
    refine (behind_any _ _ _ _ _ H1.out.len H1.out.max H1.out.acts H1.out.tab).mono ?_
    rintro e w2 ⟨b, rfl, hb, t2, m2⟩
    have Hb : Hid (w.heap.size ≤ b) := Nat.le_trans T1.out.size hb
    have T2 := Lib.hid (T1.out.trans t2)
    have M2 := Lib.hid m2
    have H2 := Lib.hid (H1.out.touch t2)
    clear hb t2 m2 hg T1 H1
    go_wp2_with fail
    refine (behind_any _ _ _ _ _ H2.out.len H2.out.max H2.out.acts H2.out.tab).mono ?_
    rintro e w3 ⟨c, rfl, hc, t3, m3⟩
    have Hcb : Hid (c ≠ b) := by have := M2.out.lt; show c ≠ b; omega
    have Hc : Hid (w.heap.size ≤ c) := Nat.le_trans T2.out.size hc
    have T3 := Lib.hid (T2.out.trans t3)
    have M3 := Lib.hid (M2.out.touch t3 (fun f => f))
    have C3 := Lib.hid m3
    have RngS := Lib.hid m3.rng
    have Tab3 := Lib.hid (H2.out.tab.touch t3 (fun f => f))
    clear hc t3 m3 T2 M2 H2
    generalize behindSet (upTo 7 107) acts = S at *
    obtain ⟨lw, hlw⟩ : ∃ lw, (Fr.lst S).length = lw := ⟨_, rfl⟩
    have hlw4 : lw ≤ 4096 := by have := Fr.lst_length_le S; omega
    have Hlw := Lib.hid hlw; clear hlw
    go_wp2_with fail
    refine (free_list _ b _ M3.out).mono ?_
    rintro e w4 ⟨v, rfl, hown, t4⟩
    obtain ⟨a0, cap', rfl, hcap0, hrd, hbase, _⟩ := hown.form' (n := lw) (by rw [nums_length]; exact Hlw.out)
    have T4 := Lib.hid (T3.out.trans t4)
    have M4 := Lib.hid (M3.out.touch t4 (fun f => f))
    have C4 := Lib.hid (C3.out.touch t4 (fun f => f))
    have Tab4 := Lib.hid (Tab3.out.touch t4 (fun f => f))
    have Hrd := Lib.hid hrd
    have Hbase : Hid (∀ x o, a0 = some ⟨x, o, none⟩ → x ≠ b ∧ x ≠ c) := fun x o e => by have := (hbase _ e).1; have := M3.out.lt; have := C3.out.lt; simp at *; omega
    clear t4 hown hrd hbase T3 M3 C3 Tab3
    obtain ⟨k, hk⟩ : ∃ k, num % (lw + 1) = k := ⟨_, rfl⟩
    have hkl : k ≤ lw := by have : k < lw + 1 := by rw [← hk]; exact Nat.mod_lt _ (by omega)
                            omega
    have hki : ((num : Nat) : Int) % (((lw : Nat) : Int) + 1) = (k : Nat) := by
      have := congrArg (fun (x : Nat) => (x : Int)) hk
      simpa using this
    have Hk := Lib.hid hk; clear hk
    have hkli : (k : Int) ≤ lw := by omega
    have Ok := Lib.hid (take_ok w4 b 7 107 S k M4.out Tab4.out (by have := Hlw.out; omega))
    go_wp2_with fail
    refine (Ok.out).mono ?_
    rintro e w5 ⟨v5, rfl, hown5, t5, m5⟩
    obtain ⟨a5, cap5, rfl, hcap5, hrd5, hbase5, _⟩ := hown5.form' (n := k) (by rw [nums_length, List.length_take]; have := Hlw.out; omega)
    have hcapmax5 := hown5.capmax
    have T5 := Lib.hid (One.new T4.out Hb.out t5)
    have M5 := Lib.hid m5
    have C5 := Lib.hid (C4.out.touch t5 (fun e => Hcb.out e))
    have Tab5 := Lib.hid (Tab4.out.touch t5 (fun e => tab_ne M4.out Tab4.out e))
    have Hrd5 := Lib.hid hrd5
    have Hwas5 := Lib.hid (Hrd.out.touch t5 (fun x o e _ => (Hbase.out x o e).1))
    have Hbase5 : Hid (∀ x o, a5 = some ⟨x, o, none⟩ → x ≠ b ∧ x ≠ c) := fun x o e => by have := (hbase5 _ e).1; have := M4.out.lt; have := C4.out.lt; simp at *; omega
    have Hltk : Hid (((Fr.lst S).take k).length = k) := by show _ = _; rw [List.length_take]; have := Hlw.out; omega
    clear t5 m5 hown5 hrd5 hbase5 Ok T4 M4 C4 Tab4 Hrd
    go_wp2_with fail
    have Tabc := Lib.hid (tab_ne C5.out Tab5.out)
    go_loopg [11] k (fun g s11 wr => ∃ i : Nat, i + g = k ∧ s11 = .int .i64 ((i : Nat) : Int) ∧ Hid (Touch (One c) w5 wr) ∧ Hid (MapAt wr c 7 107 (Fr.sub S ((Fr.lst S).take i))))
    case atStart => exact ⟨0, by omega, rfl, Touch.refl _ _, by rw [List.take_zero, Fr.sub_nil]; exact C5⟩
    case round =>
      obtain ⟨i, hik, rfl, T, C⟩ := hrel
      cases gk with
      | succ g =>
        have hlt : (i : Int) < k := by omega
        have hil : i < (Fr.lst S).length := by have := Hlw.out; omega
        have One1 := Lib.hid (one_more hil)
        have hilk : i < ((Fr.lst S).take k).length := by have := Hltk.out; omega
        obtain ⟨x5, o5, rfl, hx5⟩ := Hrd5.out.num hilk
        have hget : ((Fr.lst S).take k).getD i 0 = (Fr.lst S).getD i 0 := by
          rw [List.getD_eq_getElem?_getD, List.getD_eq_getElem?_getD, List.getElem?_take_of_lt (by omega)]
        rw [hget] at hx5
        have hx := T.out.cell (fun e => (Hbase5.out _ _ rfl).2 e) hx5
        clear hx5 hget
        have Ok := Lib.hid (take_ok wr c 7 107 _ 1 C.out (Tab5.out.touch T.out (fun e => Tabc.out e)) One1.out.2.2)
        obtain ⟨y, hy⟩ : ∃ y, (Fr.lst S).getD i 0 = y := ⟨_, rfl⟩
        rw [hy] at hx One1
        have Hy := Lib.hid hy; clear hy
        go_wp2_with fail
        refine (Ok.out).mono ?_
        rintro e w6 ⟨v6, rfl, hown6, t6, m6⟩
        rw [One1.out.1] at hown6 m6
        rw [One1.out.2.1] at m6
        obtain ⟨a6, cap6, rfl, hcap6, hrd6, _, _⟩ := hown6.form' (n := 1) rfl
        obtain ⟨x6, o6, rfl, hx6⟩ := hrd6.num (i := 0) (by simp)
        simp only [Nat.add_zero, List.getD_cons_zero] at hx6
        have T6 := Lib.hid (T.out.trans t6)
        have C6 := Lib.hid m6
        have hx' := t6.cell (fun e => (Hbase5.out _ _ rfl).2 e) hx
        clear t6 m6 hown6 hrd6 Ok hx
        go_wp2
        go_quiet (fail)
        go_wp2
        go_roundg g
        case measure => omega
        case rel => exact ⟨i + 1, by omega, by go_num, T6.out.drewN _, C6.out.touch ((Touch.refl No _).drewN _) (fun f => f)⟩
      | zero =>
        obtain rfl : i = k := by omega
        have T6 := Lib.hid (T5.out.then T.out (fun j hj e => by have := Hc.out; simp only [One] at e; omega))
        have M6 := Lib.hid (M5.out.touch T.out (fun e => Hcb.out e.symm))
        have Hrd6 := Lib.hid (Hrd5.out.touch T.out (fun x o e _ => (Hbase5.out x o e).2))
        have Hwas6 := Lib.hid (Hwas5.out.touch T.out (fun x o e _ => (Hbase.out x o e).2))
        have C6 := C
        have Ld : Hid (Fr.lst (Fr.sub S ((Fr.lst S).take i)) = (Fr.lst S).drop i) := Fr.lst_sub_take S i
        have Lk : Hid ((Fr.lst (Fr.sub S ((Fr.lst S).take i))).length = lw - i) := by show _ = _; rw [Ld.out, List.length_drop, Hlw.out]
        clear T5 T M5 C5 C Hrd5 Hwas5 Tab5 Tabc
        go_wp2_with fail
        refine (free_len _ b _ (lw - i) M6.out Lk.out).mono ?_
        rintro e w7 ⟨a7, cap7, rfl, hrd7, t7⟩
        have T7 := Lib.hid (T6.out.trans t7)
        have M7 := Lib.hid (M6.out.touch t7 (fun f => f))
        have C7 := Lib.hid (C6.out.touch t7 (fun f => f))
        have Hr7 := Lib.hid (Hrd6.out.no t7)
        have Hw7 := Lib.hid (Hwas6.out.no t7)
        have Hrd7 := Lib.hid hrd7
        clear t7 hrd7 T6 M6 C6 Hrd6 Hwas6
        go_wp2_with fail
        refine (free_len _ c _ (lw - i) C7.out Lk.out).mono ?_
        rintro e w8 ⟨a8, cap8, rfl, hrd8, t8⟩
        have T8 := Lib.hid (T7.out.trans t8)
        have M8 := Lib.hid (M7.out.touch t8 (fun f => f))
        have C8 := Lib.hid (C7.out.touch t8 (fun f => f))
        have Hr8 := Lib.hid (Hr7.out.no t8)
        have Hw8 := Lib.hid (Hw7.out.no t8)
        have Hrd78 := Lib.hid (Hrd7.out.no t8)
        have Hrd8 := Lib.hid hrd8
        clear t8 hrd8 T7 M7 C7 Hr7 Hw7 Hrd7
        go_wp2_with fail
        refine (same_self _ a7 a8 (lw - i) cap7 cap8 _ Lk.out (by omega) Hrd78.out Hrd8.out).mono ?_
        rintro e w9 ⟨rfl, t9⟩
        have T9 := Lib.hid (T8.out.trans t9)
        have M9 := Lib.hid (M8.out.touch t9 (fun f => f))
        have C9 := Lib.hid (C8.out.touch t9 (fun f => f))
        have Hr9 := Lib.hid (Hr8.out.no t9)
        have Hw9 := Lib.hid (Hw8.out.no t9)
        clear t9 T8 M8 C8 Hr8 Hw8 Hrd78 Hrd8
        go_wp2
        go_loopg [14] i (fun g s14 wr => g ≤ i ∧ s14 = .int .i64 ((g : Nat) - 1 : Int) ∧ Hid (Touch (One c) w9 wr) ∧ Hid (MapAt wr c 7 107 (Fr.sub S ((Fr.lst S).take g))))
        case atStart => exact ⟨Nat.le_refl _, rfl, Touch.refl _ _, C9⟩
        case round =>
          obtain ⟨hgi, rfl, T, C⟩ := hrel
          cases gk with
          | succ g =>
            have e1 : (((g + 1 : Nat) : Int) - 1) = (g : Nat) := by omega
            rw [e1]
            clear e1
            have hgl : g < ((Fr.lst S).take i).length := by have := Hltk.out; omega
            obtain ⟨x5, o5, rfl, hx5⟩ := Hr9.out.num hgl
            have hget : ((Fr.lst S).take i).getD g 0 = (Fr.lst S).getD g 0 := by
              rw [List.getD_eq_getElem?_getD, List.getD_eq_getElem?_getD, List.getElem?_take_of_lt (by omega)]
            rw [hget] at hx5
            have hx := T.out.cell (fun e => (Hbase5.out _ _ rfl).2 e) hx5
            have Back := Lib.hid (one_back RngS.out (S := S) (i := g) (k := i) (by omega) (by have := Hlw.out; omega))
            clear hx5 hget
            obtain ⟨y, hy⟩ : ∃ y, (Fr.lst S).getD g 0 = y := ⟨_, rfl⟩
            rw [hy] at hx Back
            have Hy := Lib.hid hy; clear hy
            have Hone : Hid (Rd wr (some ⟨x5, o5 + g, none⟩) (nums .u32 [y])) := by
              intro j u hj
              match j, hj with
              | 0, hj => exact ⟨x5, o5 + g, rfl, by rw [Nat.add_zero, hx]; simpa [nums] using hj⟩
            have hne : ¬ cap5 = g := by omega
            have hgi0 : (0 : Int) ≤ (g : Int) := Int.natCast_nonneg _
            have hgc : (g : Int) + 1 ≤ (cap5 : Int) := by omega
            have hcnt : ((lw : Int) - (g : Int)) = ((lw - g : Nat) : Int) := by omega
            have Hcnt := Lib.hid hcnt; clear hcnt
            clear hx
            go_wp2_with fail
            have HX1 : Hid (∀ x ∈ [y], x < 4294967296) := fun z hz => by
              have e : z = y := by simpa using hz
              rw [e]; exact Back.out.2.2
            refine (give_at _ c 7 107 _ (Fr.sub S ((Fr.lst S).take g)) _ 1 _ [y] 0 C.out rfl ?_ ?_ Hone.out (fun x o e _ => by cases e; exact (Hbase5.out _ _ rfl).2) HX1.out (by rw [Back.out.1]; rfl) (by rw [giveSet, Back.out.1]; exact Back.out.2.1)).mono ?_
            · omega
            · omega
            rintro e w10 ⟨rfl, t10, m10⟩
            have T10 := Lib.hid (T.out.trans t10)
            have C10 := Lib.hid m10
            clear t10 m10
            go_wp2_with fail
            refine (free_at _ c 7 107 _ ((lw : Int) - (g : Int)) C10.out (by rw [Fr.lst_sub_take, List.length_drop, Hlw.out]; exact Hcnt.out)).mono ?_
            rintro e w11 ⟨rfl, rfl⟩
            go_wp2
            go_roundg g
            case measure => omega
            case rel => exact ⟨by omega, by go_num, T10.out, C10.out⟩
          | zero =>
            have e1 : (((0 : Nat) : Int) - 1) = -1 := rfl
            rw [e1]
            clear e1
            have T10 := Lib.hid (T9.out.then T.out (fun j hj e => by have := Hc.out; simp only [One] at e; omega))
            have M10 := Lib.hid (M9.out.touch T.out (fun e => Hcb.out e.symm))
            have Hr10 := Lib.hid (Hr9.out.touch T.out (fun x o e _ => (Hbase5.out x o e).2))
            have Hw10 := Lib.hid (Hw9.out.touch T.out (fun x o e _ => (Hbase.out x o e).2))
            have C10 : Hid (MapAt wr c 7 107 S) := by
              have := C.out
              rwa [List.take_zero, Fr.sub_nil] at this
            have Back := Lib.hid (all_back RngS.out (k := i) (by have := Hlw.out; omega))
            clear T M9 C Hr9 Hw9 T9 C9
            go_wp2_with fail
            refine (give_at _ b 7 107 _ S _ _ _ ((Fr.lst S).take i) 0 M10.out Hltk.out hcap5 hcapmax5 Hr10.out (fun x o e _ => (Hbase5.out x o e).1) Back.out.2.2 (by rw [Back.out.1]; rfl) (by rw [giveSet, Back.out.1]; exact Back.out.2.1)).mono ?_
            rintro e w11 ⟨rfl, t11, m11⟩
            have T11 := Lib.hid (One.new T10.out Hb.out t11)
            have M11 := Lib.hid m11
            have C11 := Lib.hid (C10.out.touch t11 (fun e => Hcb.out e))
            have Hw11 := Lib.hid (Hw10.out.touch t11 (fun x o e _ => (Hbase.out x o e).1))
            clear t11 m11 T10 M10 C10 Hw10 Hr10
            go_wp2_with fail
            refine (free_len _ b _ lw M11.out Hlw.out).mono ?_
            rintro e w12 ⟨a12, cap12, rfl, hrd12, t12⟩
            have T12 := Lib.hid (T11.out.trans t12)
            have C12 := Lib.hid (C11.out.touch t12 (fun f => f))
            have Hw12 := Lib.hid (Hw11.out.no t12)
            have Hrd12 := Lib.hid hrd12
            clear t12 hrd12 T11 M11 C11 Hw11
            go_wp2_with fail
            refine (same_self _ a12 a0 lw cap12 cap' _ Hlw.out (by omega) Hrd12.out Hw12.out).mono ?_
            rintro e w13 ⟨rfl, t13⟩
            have T13 := Lib.hid (T12.out.trans t13)
            have C13 := Lib.hid (C12.out.touch t13 (fun f => f))
            have Hw13 := Lib.hid (Hw12.out.no t13)
            clear t13 T12 C12 Hw12 Hrd12
            go_wp2_with fail
            refine (free_len _ c _ lw C13.out Hlw.out).mono ?_
            rintro e w14 ⟨a14, cap14, rfl, hrd14, t14⟩
            have T14 := Lib.hid (T13.out.trans t14)
            have Hw14 := Lib.hid (Hw13.out.no t14)
            have Hrd14 := Lib.hid hrd14
            clear t14 hrd14 T13 C13 Hw13
            go_wp2_with fail
            refine (same_self _ a14 a0 lw cap14 cap' _ Hlw.out (by omega) Hrd14.out Hw14.out).mono ?_
            rintro e w15 ⟨rfl, t15⟩
            have T15 := Lib.hid (T14.out.trans t15)
            clear t15 T14 Hw14 Hrd14
            go_wp2
            go_ret
            exact ⟨rfl, T15.out⟩
  · go_wp2_with fail
    refine (alive_any _ H1.out.tab).mono ?_
    rintro e w2 ⟨rfl, t2⟩
    have T2 := Lib.hid (T1.out.trans t2)
    clear t2
    go_wp2
    go_ret
    exact ⟨rfl, T2.out⟩
end Go.Proofs.YtjmkfpiahnibkaaDoor
