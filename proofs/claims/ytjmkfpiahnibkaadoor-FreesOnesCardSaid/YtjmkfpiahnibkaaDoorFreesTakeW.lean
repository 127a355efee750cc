/-
  The walk of FreesTake: what is taken are the least ones that are free; given again, in any order, they leave the map as it was; more than there are are none.
-/
import Derived.Test.YtjmkfpiahnibkaaDoorFreesWholeW
import Derived.Test.YtjmkfpiahnibkaaDoorBase2
namespace Go.Proofs.YtjmkfpiahnibkaaDoor
open Go.RowKit

theorem nums_take (k : IntKind) (xs : List Nat) (n : Nat) : nums k (xs.take n) = (nums k xs).take n := by simp [nums, List.map_take]
theorem nums_drop (k : IntKind) (xs : List Nat) (n : Nat) : nums k (xs.drop n) = (nums k xs).drop n := by simp [nums, List.map_drop]
theorem same_self (w : World) (a b : Option Addr) (n c d : Nat) (xs : List Nat) (hx : xs.length = n) (hn : (n : Int) ≤ 9223372036854775807) (ha : Rd w a (nums .u32 xs)) (hb : Rd w b (nums .u32 xs)) :
    Calls Tryd.prog 17 #[.slice a n c, .slice b n d] w fun e w' => e = .returned (.bool true) ∧ Touch No w w' :=
  (sameIds_eq w a b n c d xs xs hx hx hn ha hb).mono fun e w' ⟨he, ht⟩ => ⟨by rw [he]; simp [sameIds], ht⟩

/-- free's answer with its length known -/
def FreePost (w : World) (xs : List Nat) (n : Nat) (e : Ending) (w' : World) : Prop :=
  ∃ a cap, e = .returned (.slice a n cap) ∧ Rd w' a (nums .u32 xs) ∧ Touch No w w'
theorem free_len (w : World) (b : Nat) (S : Nat → Bool) (n : Nat) (h : MapAt w b 7 107 S) (hn : (Fr.lst S).length = n) :
    Calls Tryd.prog 16 #[.pointer (some ⟨b, 0, none⟩)] w (FreePost w (Fr.lst S) n) :=
  (free_list w b S h).mono fun e w' ⟨v, he, ho, ht⟩ => by
    obtain ⟨a, cap, hv, _, hr, _, _⟩ := ho.form' (n := n) (by rw [nums_length]; exact hn)
    exact ⟨a, cap, by rw [he, hv], hr, ht⟩

theorem turned_mem {T : List Nat} {p x : Nat} : x ∈ T.drop p ++ T.take p ↔ x ∈ T := by
  rw [List.mem_append]
  constructor
  · rintro (h | h)
    · exact List.mem_of_mem_drop h
    · exact List.mem_of_mem_take h
  · intro h
    rw [← List.take_append_drop p T] at h
    exact (List.mem_append.1 h).symm
/-- what was taken, turned round, can be given: then it is as it was; a second time it can't -/
theorem turned_facts {S : Nat → Bool} (hr : ∀ p, S p = true → 7 ≤ p ∧ p < 107) {k p : Nat} (hk : 0 < k) (hkl : k ≤ (Fr.lst S).length) :
    (((Fr.lst S).take k).drop p ++ ((Fr.lst S).take k).take p).length = k ∧
    giveSays 7 107 (Fr.sub S ((Fr.lst S).take k)) (((Fr.lst S).take k).drop p ++ ((Fr.lst S).take k).take p) = 0 ∧
    Fr.add (Fr.sub S ((Fr.lst S).take k)) (((Fr.lst S).take k).drop p ++ ((Fr.lst S).take k).take p) = S ∧
    giveSays 7 107 S (((Fr.lst S).take k).drop p ++ ((Fr.lst S).take k).take p) = 9 ∧
    ∀ x ∈ ((Fr.lst S).take k).drop p ++ ((Fr.lst S).take k).take p, x < 4294967296 := by
  have hT : ∀ x ∈ (Fr.lst S).take k, S x = true := fun x hx => (Fr.mem_lst.1 (List.mem_of_mem_take hx)).2
  have hlen : ((Fr.lst S).take k).length = k := by rw [List.length_take]; omega
  have hnd : ((Fr.lst S).take k).Nodup := (Fr.lst_nodup S).sublist (List.take_sublist _ _)
  generalize (Fr.lst S).take k = T at *
  have hall : (T.drop p ++ T.take p).all (inMap 7 107) = true := List.all_eq_true.2 (fun x hx => inMap_true.2 (hr x (hT x (turned_mem.1 hx))))
  refine ⟨?_, ?_, ?_, ?_, fun x hx => ?_⟩
  · rw [List.length_append, List.length_drop, List.length_take]; omega
  · have hf : fresh (Fr.sub S T) (T.drop p ++ T.take p) = true := by
      refine fresh_true.2 ⟨?_, fun x hx => ?_⟩
      · have hp : (T.drop p ++ T.take p).Perm T := by
          have := List.perm_append_comm (l₁ := T.drop p) (l₂ := T.take p)
          rwa [List.take_append_drop] at this
        exact hp.nodup_iff.2 hnd
      · have := turned_mem.1 hx
        simp [Fr.sub, this]
    simp [giveSays, hall, hf]
  · exact Fr.add_sub hT (fun x => turned_mem)
  · have hf : fresh S (T.drop p ++ T.take p) = false := by
      cases hf : fresh S (T.drop p ++ T.take p)
      · rfl
      · have h0 : 0 < T.length := by omega
        have h1 := (fresh_true.1 hf).2 T[0] (turned_mem.2 (List.getElem_mem h0))
        rw [hT _ (List.getElem_mem h0)] at h1
        cases h1
    simp [giveSays, hall, hf]
  · have := hr x (hT x (turned_mem.1 hx)); omega

set_option maxRecDepth 100000 in
set_option maxHeartbeats 1600000 in
theorem freesTake_walk (w : World) (ad : Option Addr) (n cap num frm : Nat) (acts : List Deed) (h : Start w ad n acts) (hnum : num < 256) (hfrm : frm < 256) :
    Calls Tryd.prog 4 #[.slice ad n cap, .int .u8 (num : Nat), .int .u8 (frm : Nat)] w (LawPost w) := by
  obtain ⟨i0, hi, hz0, hz1, hz2⟩ := info_parts info_u32
  have H0 := Lib.hid h; clear h
  have HL : Hid ((n : Int) ≤ 9223372036854775807) := H0.out.max
  go_enter Tryd.func4, Tryd.ntmps4
  go_wp2_with fail
  refine (alive_any w H0.out.tab).mono ?_
  rintro e w1 ⟨rfl, t1⟩
  have T1 := Lib.hid t1; clear t1
  have H1 := Lib.hid (H0.out.touch T1.out); clear H0
  go_wp2_with fail
  refine (great_any _ _ _ _ _ H1.out.len H1.out.max H1.out.acts).mono ?_
  rintro e w2 ⟨rfl, rfl⟩
  cases hg : great acts
  · go_wp2_with fail
    refine (behind_any _ _ _ _ _ H1.out.len H1.out.max H1.out.acts H1.out.tab).mono ?_
    rintro e w2 ⟨b, rfl, hb, t2, m2⟩
    have Hb : Hid (w.heap.size ≤ b) := Nat.le_trans T1.out.size hb
    have T2 := Lib.hid (T1.out.trans t2)
    have M2 := Lib.hid m2
    have Tab2 := Lib.hid (H1.out.tab.touch t2 (fun f => f))
    clear hb t2 m2 hg T1 H1
    generalize behindSet (upTo 7 107) acts = S at *
    go_wp2_with fail
    refine (free_list _ _ _ M2.out).mono ?_
    rintro e w3 ⟨v, rfl, hown, t3⟩
    obtain ⟨lw, hlw⟩ : ∃ lw, (Fr.lst S).length = lw := ⟨_, rfl⟩
    have hlw4 : lw ≤ 4096 := by have := Fr.lst_length_le S; omega
    obtain ⟨a0, cap', rfl, hcap0, hrd, hbase, _⟩ := hown.form' (n := lw) (by rw [nums_length]; exact hlw)
    have T3 := Lib.hid (T2.out.trans t3)
    have M3 := Lib.hid (M2.out.touch t3 (fun f => f))
    have Tab3 := Lib.hid (Tab2.out.touch t3 (fun f => f))
    have Hrd := Lib.hid hrd
    have Hbase : Hid (∀ c o, a0 = some ⟨c, o, none⟩ → c ≠ b) := fun c o e => by have := (hbase _ e).1; have := M2.out.lt; simp at *; omega
    have Hlw := Lib.hid hlw
    clear t3 hown hrd hbase T2 M2 Tab2
    go_wp2_with fail
    refine (free_at _ b 7 107 _ (lw : Nat) M3.out (by rw [hlw])).mono ?_
    rintro e w4 ⟨rfl, rfl⟩
    clear hlw
    obtain ⟨k, hk⟩ : ∃ k, num % (lw + 2) = k := ⟨_, rfl⟩
    have hk2 : k < lw + 2 := by rw [← hk]; exact Nat.mod_lt _ (by omega)
    have hki : ((num : Nat) : Int) % (((lw : Nat) : Int) + 2) = (k : Nat) := by
      have := congrArg (fun (x : Nat) => (x : Int)) hk
      simpa using this
    have Hk := Lib.hid hk; clear hk
    by_cases hmore : lw < k
    · have Full := Lib.hid (take_full w3 b 7 107 S k M3.out (by have := Hlw.out; omega))
      go_wp2_with fail
      refine (Full.out).mono ?_
      rintro e w4 ⟨rfl, rfl⟩
      go_wp2_with fail
      refine (free_list _ _ _ M3.out).mono ?_
      rintro e w4 ⟨v4, rfl, hown4, t4⟩
      obtain ⟨a4, cap4, rfl, _, hrd4, _, _⟩ := hown4.form' (n := lw) (by rw [nums_length]; exact Hlw.out)
      have T4 := Lib.hid (T3.out.trans t4)
      have Hrd4 := Lib.hid hrd4
      have Hrd5 := Lib.hid (Hrd.out.no t4)
      clear t4 hrd4 hown4
      go_wp2_with fail
      refine (sameIds_eq _ _ _ _ _ _ (Fr.lst S) (Fr.lst S) Hlw.out Hlw.out (by omega) Hrd4.out Hrd5.out).mono ?_
      rintro e w5 ⟨rfl, t5⟩
      have T5 := Lib.hid (T4.out.trans t5)
      clear t5
      have hsame : sameIds (Fr.lst S) (Fr.lst S) = true := by simp [sameIds]
      rw [hsame]
      clear hsame
      go_wp2
      go_ret
      exact ⟨rfl, T5.out⟩
    · have hkl : k ≤ lw := by omega
      have Ok := Lib.hid (take_ok w3 b 7 107 S k M3.out Tab3.out (by have := Hlw.out; omega))
      go_wp2_with fail
      refine (Ok.out).mono ?_
      rintro e w4 ⟨v4, rfl, hown4, t4, m4⟩
      obtain ⟨a4, cap4, rfl, hcap4, hrd4, hbase4, _⟩ := hown4.form' (n := k) (by rw [nums_length, List.length_take]; have := Hlw.out; omega)
      have T4 := Lib.hid (One.new T3.out Hb.out t4)
      have M4 := Lib.hid m4
      have Hrd4 := Lib.hid hrd4
      have Hrd0 := Lib.hid (Hrd.out.touch t4 (fun c o e _ => Hbase.out c o e))
      have Hbase4 : Hid (∀ c o, a4 = some ⟨c, o, none⟩ → c ≠ b) := fun c o e => by have := (hbase4 _ e).1; have := M3.out.lt; simp at *; omega
      clear t4 m4 hrd4 hown4 hbase4 Ok
      have hki2 : (k : Int) ≤ lw := by omega
      go_wp2_with fail
      have r1 := run_head (P := Tryd.prog) Tryd.underlying23 hi hz1 a0 lw cap' k .i64 (by omega)
      have r2 := run_cut (P := Tryd.prog) Tryd.underlying23 hi hz1 a0 lw cap' k .i64 hkl
      have C1 := Lib.hid (fun (W : World) (r : Rd W a4 (nums .u32 ((Fr.lst S).take k))) (r2 : Rd W a0 (nums .u32 ((Fr.lst S).take k))) => same_self W a4 a0 k cap4 cap' ((Fr.lst S).take k) (by rw [List.length_take]; have := Hlw.out; omega) (by omega) r r2)
      have Hrd0k : Hid (Rd w4 a0 (nums .u32 ((Fr.lst S).take k))) := by
        have := Hrd0.out.take k
        rwa [← nums_take] at this
      have Hrd0d : Hid (Rd w4 (cutAddr a0 cap' k) (nums .u32 ((Fr.lst S).drop k))) := by
        have := Hrd0.out.cut (cap := cap') (l := k) (by rw [nums_length]; have := Hlw.out; omega)
        rwa [← nums_drop] at this
      generalize cutAddr a0 cap' k = a0d at *
      have Hld : Hid (((Fr.lst S).drop k).length = lw - k) := by show _ = _; rw [List.length_drop, Hlw.out]
      have Md : Hid (MapAt w4.drew b 7 107 (Fr.sub S ((Fr.lst S).take k))) := M4.out.touch ((Touch.refl No w4).drew) (fun f => f)
      have Td : Hid (Touch No w w4.drew) := T4.out.drew
      have Ld : Hid (Fr.lst (Fr.sub S ((Fr.lst S).take k)) = (Fr.lst S).drop k) := Fr.lst_sub_take S k
      have hfree : ((lw : Int) - (k : Int)) = ((lw - k : Nat) : Int) := by omega
      have Hfree := Lib.hid hfree; clear hfree
      have Lk : Hid ((Fr.lst (Fr.sub S ((Fr.lst S).take k))).length = lw - k) := by show _ = _; rw [Ld.out]; exact Hld.out
      have tok1 : True := trivial
      have hk0 : (0 : Int) ≤ (k : Int) := Int.natCast_nonneg _
      have hcapi : (lw : Int) ≤ (cap' : Int) := by omega
      have hkc : (k : Int) ≤ (cap' : Int) := by omega
      have hwr : IntKind.i64.wrap ((lw : Int) - (k : Int)) = (lw : Int) - (k : Int) := IntWalk.i64_in _ (by omega)
      go_region_held3 (fun _ => True) (trivial) (first
        | (go_at_call 17; have _t := tok1; refine (C1.out _ (by exact Hrd4.out) (by exact Hrd0k.out)).mono ?_; rintro e w5 ⟨rfl, t5⟩; clear tok1)
        | (go_at_call 16; refine (free_len _ b _ (lw - k) (Md.out.touch t5 (fun f => f)) Lk.out).mono ?_; rintro e w6 ⟨a6, cap6, rfl, hrd6, t6⟩)
        | (go_at_call 17; refine (same_self _ a6 a0d (lw - k) cap6 _ ((Fr.lst S).drop k) Hld.out (by omega) (by rw [← Ld.out]; exact hrd6) ((Hrd0d.out.no ((Touch.refl No w4).drew)).no (t5.trans t6))).mono ?_; rintro e w7 ⟨rfl, t7⟩)
        | (go_at_call 11; refine (free_at _ b 7 107 _ ((lw : Int) - (k : Int)) (Md.out.touch ((t5.trans t6).trans t7) (fun f => f)) (by rw [Ld.out, Hld.out]; exact Hfree.out)).mono ?_; rintro e w8 ⟨rfl, rfl⟩))
      have T7 : Hid (Touch No w w7) := Td.out.trans ((t5.trans t6).trans t7)
      have M7 : Hid (MapAt w7 b 7 107 (Fr.sub S ((Fr.lst S).take k))) := Md.out.touch ((t5.trans t6).trans t7) (fun f => f)
      have Hgot : Hid (Rd w7 a4 (nums .u32 ((Fr.lst S).take k))) := (Hrd4.out.no ((Touch.refl No w4).drew)).no ((t5.trans t6).trans t7)
      have Hwas : Hid (Rd w7 a0 (nums .u32 (Fr.lst S))) := (Hrd0.out.no ((Touch.refl No w4).drew)).no ((t5.trans t6).trans t7)
      clear hwr t5 t6 t7 hrd6 r1 r2 C1 Hrd0k Hrd0d Md Td Hrd4 Hrd0 M4 T4
      by_cases hk00 : k = 0
      · have hkz : ((k : Int) == 0) = true := by rw [beq_iff_eq]; omega
        clear hk00
        go_wp2
        go_ret
        exact ⟨rfl, T7.out⟩
      · have hkz : ((k : Int) == 0) = false := by rw [beq_eq_false_iff_ne]; omega
        have hkpos : 1 ≤ (k : Int) := by omega
        have Hk0 := Lib.hid hk00; clear hk00
        have hltk : ((Fr.lst S).take k).length = k := by rw [List.length_take]; have := Hlw.out; omega
        obtain ⟨c4, o4, rfl, _⟩ := Hgot.out.num (i := 0) (by rw [hltk]; omega)
        obtain ⟨p, hp⟩ : ∃ p, frm % k = p := ⟨_, rfl⟩
        have hpk : p < k := by rw [← hp]; exact Nat.mod_lt _ (by omega)
        have hpi : ((frm : Nat) : Int) % ((k : Nat) : Int) = (p : Nat) := by
          have := congrArg (fun (x : Nat) => (x : Int)) hp
          simpa using this
        have Hp := Lib.hid hp; clear hp
        have Hltk := Lib.hid hltk; clear hltk
        have HgD : Hid (Rd w7 (cutAddr (some ⟨c4, o4, none⟩) cap4 p) (nums .u32 (((Fr.lst S).take k).drop p))) := by
          have := Hgot.out.cut (cap := cap4) (l := p) (by rw [nums_length, Hltk.out]; omega)
          rwa [← nums_drop] at this
        have HgT : Hid (Rd w7 (some ⟨c4, o4, none⟩) (nums .u32 (((Fr.lst S).take k).take p))) := by
          have := Hgot.out.take p
          rwa [← nums_take] at this
        have hcutn : ¬ cap4 = p := by omega
        have hcut : cutAddr (some ⟨c4, o4, none⟩) cap4 p = some ⟨c4, o4 + p, none⟩ := by
          rw [cutAddr, if_neg hcutn]
          simp only [Option.map_some, Go.WideShapes.add_plain]
        rw [hcut] at HgD
        clear hcut
        have hp0 : (0 : Int) ≤ (p : Int) := Int.natCast_nonneg _
        have hpk1 : (p : Int) ≤ (k : Int) := by omega
        have hpc : (p : Int) ≤ (cap4 : Int) := by omega
        have hkc4 : (k : Int) ≤ (cap4 : Int) := by omega
        have tok2 : True := trivial
        have Sz : Hid (w.heap.size ≤ w7.heap.size) := T7.out.size
        go_wp2
        rw [hpi]
        go_region_held3 (fun _ => True) (trivial) (first
          | (go_at_call 18; refine (ids_any _ _).mono ?_; rintro e w8 ⟨rfl, rfl⟩)
          | (have _t := tok2; refine step_appendv rfl _ _ _ rfl w7.heap.size _ i0 _ 4 Tryd.underlying23 hi hz0 hz1 hz2 rfl _ _ (Own.nil _ _ _) rfl _ _ _ _ (by exact HgD.out) rfl (by rw [nums_length, List.length_drop, Hltk.out]) (nums_one _ _) (by simp; unfold maxLen; omega) (by simp; omega) (Nat.le_refl _) ?_; intro v8 w8 own8 t8; clear tok2 _t)
          | (refine step_appendv rfl _ _ _ rfl w7.heap.size _ i0 _ 4 Tryd.underlying23 hi hz0 hz1 hz2 rfl _ _ own8 rfl _ _ _ _ ((HgT.out.no ((Touch.refl No w7).drew)).touch t8 (by intro c o _ _ e; cases e)) rfl (by rw [nums_length, List.length_take, Hltk.out]; omega) (nums_one _ _) (by rw [List.nil_append, nums_length, List.length_drop, Hltk.out]; unfold maxLen; omega) (by rw [List.nil_append, nums_length, List.length_drop, Hltk.out]; omega) t8.size ?_; intro v9 w9 own9 t9))
        have t79 : Touch No w7 w9 := (((Touch.refl No w7).drew).then t8 (by intro i _ e; cases e)).then t9 (fun i hi e => absurd ((own8.block e).1) (by omega))
        have T9 := Lib.hid (T7.out.trans t79)
        have M9 := Lib.hid (M7.out.touch t79 (fun f => f))
        have Hwas9 := Lib.hid (Hwas.out.no t79)
        have F := Lib.hid (turned_facts (p := p) M3.out.rng (k := k) (by omega) (by have := Hlw.out; omega))
        obtain ⟨ao, capo, rfl, hcapo, hrdo, hbaseo, hmaxo⟩ := own9.form' (n := k) (by have := F.out.1; simp only [List.nil_append, List.length_append, nums_length] at this ⊢; exact this)
        have hcapmax := own9.capmax
        rw [List.nil_append, ← nums_append] at hrdo
        have HRo := Lib.hid hrdo
        have HOffo : Hid (∀ c o, ao = some ⟨c, o, none⟩ → 0 < k → c ≠ b) := fun c o e _ => by have := (hbaseo _ e).1; have := M7.out.lt; simp at *; omega
        clear t79 own8 own9 t8 t9 hrdo hbaseo T7 M7 Hwas HgD HgT Hgot
        go_wp2_with fail
        refine (give_at _ b 7 107 _ S _ _ _ _ 0 M9.out F.out.1 hcapo hcapmax HRo.out HOffo.out F.out.2.2.2.2 (by rw [F.out.2.1]; rfl) (by rw [giveSet, F.out.2.1]; exact F.out.2.2.1)).mono ?_
        rintro e w10 ⟨rfl, t10, m10⟩
        have T10 := Lib.hid (One.new T9.out Hb.out t10)
        have M10 := Lib.hid m10
        have HRo10 := Lib.hid (HRo.out.touch t10 (fun c o e _ => HOffo.out c o e (by omega)))
        have Hwas10 := Lib.hid (Hwas9.out.touch t10 (fun c o e _ => Hbase.out c o e))
        clear t10 m10 T9 M9 HRo Hwas9
        go_wp2_with fail
        refine (free_len _ b _ lw M10.out Hlw.out).mono ?_
        rintro e w11 ⟨a11, cap11, rfl, hrd11, t11⟩
        have T11 := Lib.hid (T10.out.trans t11)
        have M11 := Lib.hid (M10.out.touch t11 (fun f => f))
        have HRo11 := Lib.hid (HRo10.out.no t11)
        have Hwas11 := Lib.hid (Hwas10.out.no t11)
        have Hrd11 := Lib.hid hrd11
        clear t11 hrd11 T10 M10 HRo10 Hwas10
        go_wp2_with fail
        refine (same_self _ a11 a0 lw cap11 cap' (Fr.lst S) Hlw.out (by omega) Hrd11.out Hwas11.out).mono ?_
        rintro e w12 ⟨rfl, t12⟩
        have T12 := Lib.hid (T11.out.trans t12)
        have M12 := Lib.hid (M11.out.touch t12 (fun f => f))
        have HRo12 := Lib.hid (HRo11.out.no t12)
        clear t12 T11 M11 HRo11 Hwas11 Hrd11
        go_wp2_with fail
        refine (give_at _ b 7 107 _ S _ _ _ _ 9 M12.out F.out.1 hcapo hcapmax HRo12.out HOffo.out F.out.2.2.2.2 (by rw [F.out.2.2.2.1]; rfl) (by rw [giveSet, F.out.2.2.2.1]; rfl)).mono ?_
        rintro e w13 ⟨rfl, t13, m13⟩
        have T13 := Lib.hid (One.new T12.out Hb.out t13)
        have M13 := Lib.hid m13
        clear t13 m13 T12 M12 HRo12
        go_wp2_with fail
        refine (free_at _ b 7 107 _ (lw : Nat) M13.out (by rw [Hlw.out])).mono ?_
        rintro e w14 ⟨rfl, rfl⟩
        go_wp2
        go_ret
        exact ⟨ret_bool (by simp), T13.out⟩
  · go_wp2_with fail
    refine (alive_any _ H1.out.tab).mono ?_
    rintro e w2 ⟨rfl, t2⟩
    have T2 := Lib.hid (T1.out.trans t2)
    clear t2
    go_wp2
    go_ret
    exact ⟨rfl, T2.out⟩
end Go.Proofs.YtjmkfpiahnibkaaDoor
