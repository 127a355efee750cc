/-
  The walk of FreesAll: each page of a map is free, or may be given, and never both; none beyond is either. For every list of acts and every page.
-/
import Derived.Test.YtjmkfpiahnibkaaDoorAlive15b
namespace Go.Proofs.YtjmkfpiahnibkaaDoor
open Go.RowKit

/-- what every law of this layer is handed -/
structure Start (w : World) (ad : Option Addr) (n : Nat) (acts : List Deed) : Prop where
  len : acts.length = n
  max : (n : Int) ≤ 9223372036854775807
  acts : IsDeeds w ad acts
  tab : TabAt w
theorem Start.touch {w w' : World} {ad : Option Addr} {n : Nat} {acts : List Deed} (h : Start w ad n acts) (t : Touch No w w') : Start w' ad n acts := ⟨h.len, h.max, h.acts.touch t, h.tab.touch t (fun f => f)⟩

def LawPost (w : World) (e : Ending) (w' : World) : Prop := e = .returned (.bool true) ∧ Touch No w w'

theorem rd_one (w : World) (T : TypeId) (x : Nat) : Rd (w.alloc (.cells #[.int .u32 (x : Nat)] T)) (some ⟨w.heap.size, 0, none⟩) (nums .u32 [x]) := by
  intro i v hi
  refine ⟨_, 0, rfl, ?_⟩
  rw [cell_new]
  match i, hi with
  | 0, hi => simpa [nums] using hi
theorem One.new {w w1 w2 : World} {b : Nat} (T : Touch No w w1) (hb : w.heap.size ≤ b) (t : Touch (One b) w1 w2) : Touch No w w2 :=
  T.then t (fun i hi e => by simp only [One] at e; omega)

theorem give1_arg {S : Nat → Bool} {p : Nat} (h : inMap 7 107 p = false) : giveSays 7 107 S [p] = 1 := by simp [giveSays, h]
theorem give1_ok {S : Nat → Bool} {p : Nat} (h : inMap 7 107 p = true) (hS : S p = false) : giveSays 7 107 S [p] = 0 := by simp [giveSays, h, fresh, hS]
theorem give1_state {S : Nat → Bool} {p : Nat} (h : inMap 7 107 p = true) (hS : S p = true) : giveSays 7 107 S [p] = 9 := by simp [giveSays, h, fresh, hS]

set_option maxRecDepth 100000 in
set_option maxHeartbeats 4000000 in
theorem freesAll_walk (w : World) (ad : Option Addr) (n cap num : Nat) (acts : List Deed) (h : Start w ad n acts) (hnum : num < 256) :
    Calls Tryd.prog 5 #[.slice ad n cap, .int .u8 (num : Nat)] w (LawPost w) := by
  have H0 := Lib.hid h; clear h
  have HL : Hid ((n : Int) ≤ 9223372036854775807) := H0.out.max
  go_enter Tryd.func5, Tryd.ntmps5
  go_wp2_with fail
  refine (alive_any w H0.out.tab).mono ?_
  rintro e w1 ⟨rfl, t1⟩
  have T1 := Lib.hid t1; clear t1
  have H1 := Lib.hid (H0.out.touch T1.out); clear H0
  go_wp2_with fail
  refine (great_any _ _ _ _ _ H1.out.len H1.out.max H1.out.acts).mono ?_
  rintro e w2 ⟨rfl, rfl⟩
  cases hg : great acts
  · go_wp2_with fail
    refine (behind_any _ _ _ _ _ H1.out.len H1.out.max H1.out.acts H1.out.tab).mono ?_
    rintro e w2 ⟨b, rfl, hb, t2, m2⟩
    have Hb : Hid (w.heap.size ≤ b) := Nat.le_trans T1.out.size hb
    have T2 := Lib.hid (T1.out.trans t2)
    have M2 := Lib.hid m2
    clear hb t2 m2 hg T1 H1
    generalize behindSet (upTo 7 107) acts = S at *
    have hp32 : num % 120 < 4294967296 := by omega
    obtain ⟨p, hp⟩ : ∃ p, num % 120 = p := ⟨_, rfl⟩
    have hp120 : p < 120 := by omega
    have hpi : ((num : Int) % 120) = (p : Nat) := by omega
    have Hp := Lib.hid hp; clear hp hp32
    go_wp2_with fail
    refine (is_at _ b 7 107 p _ _ (S p) M2.out rfl (by omega) rfl).mono ?_
    rintro e w3 ⟨rfl, rfl⟩
    go_wp2_with fail
    refine (free_list _ _ _ M2.out).mono ?_
    rintro e w3 ⟨v, rfl, hown, t3⟩
    obtain ⟨a, cap', rfl, _, hrd, hbase, _⟩ := hown.form
    have T3 := Lib.hid (T2.out.trans t3)
    have M3 := Lib.hid (M2.out.touch t3 (fun f => f))
    have Hrd := Lib.hid hrd
    have Hbase : Hid (∀ c o, a = some ⟨c, o, none⟩ → c ≠ b) := fun c o e => by have := (hbase _ e).1; have := M2.out.lt; simp at *; omega
    have Hlen : Hid ((Fr.lst S).length = (nums .u32 (Fr.lst S)).length) := (nums_length _ _).symm
    have Hlst := Lib.hid (Fr.lst_length_le S)
    clear t3 hown hrd hbase T2 M2
    cases hin : inMap 7 107 p
    · -- no page of the map
      have hS : S p = false := by
        cases hS : S p
        · rfl
        · exact absurd (M3.out.rng p hS) (inMap_false.1 hin)
      have hge : p < 7 ∨ 107 ≤ p := by have := inMap_false.1 hin; omega
      have Hin := Lib.hid hin; clear hin
      go_wp2_with fail
      refine (mark_at _ b 7 107 p _ S _ 1 M3.out rfl (by omega) (by simp [markSays, Hin.out]) (by simp [markSet, hS])).mono ?_
      rintro e w4 ⟨rfl, t4, m4⟩
      have T4 := Lib.hid (One.new T3.out Hb.out t4)
      have M4 := Lib.hid m4
      have Hrd4 := Lib.hid (Hrd.out.touch t4 (fun c o e _ => Hbase.out c o e))
      clear t4 m4 T3 M3 Hrd
      rcases hge with hge | hge
      all_goals
        go_wp2_with fail
        refine (ids_any _ _).mono ?_
        rintro e w5 ⟨rfl, rfl⟩
        go_wp2_with fail
        refine (give_at _ b 7 107 _ S _ _ _ [p] 1 (M4.out.touch ((Touch.refl No _).alloc _) (fun f => f)) rfl (by simp) (by decide) (rd_one _ _ p)
          (fun c o e _ => by have := M4.out.lt; simp at e; omega) (by simp; omega) (by rw [give1_arg Hin.out]; rfl) (by simp [giveSet, give1_arg Hin.out])).mono ?_
        rintro e w5 ⟨rfl, t5, m5⟩
        have T5 := Lib.hid (One.new (T4.out.alloc _) Hb.out t5)
        have M5 := Lib.hid m5
        have Hrd5 := Lib.hid ((Hrd4.out.no ((Touch.refl No _).alloc _)).touch t5 (fun c o e _ => Hbase.out c o e))
        clear t5 m5 T4 M4 Hrd4
        go_wp2_with fail
        refine (free_list _ _ _ M5.out).mono ?_
        rintro e w6 ⟨v6, rfl, hown6, t6⟩
        obtain ⟨a6, cap6, rfl, _, hrd6, _, _⟩ := hown6.form
        have T6 := Lib.hid (T5.out.trans t6)
        have Hrd6 := Lib.hid hrd6
        have Hrd7 := Lib.hid (Hrd5.out.no t6)
        clear t6 hrd6 hown6 Hrd5
        go_wp2_with fail
        refine (sameIds_eq _ _ _ _ _ _ (Fr.lst S) (Fr.lst S) Hlen.out Hlen.out (by rw [nums_length]; have := Hlst.out; omega) Hrd6.out Hrd7.out).mono ?_
        rintro e w7 ⟨rfl, t7⟩
        have T7 := Lib.hid (T6.out.trans t7)
        clear t7
        have hsame : sameIds (Fr.lst S) (Fr.lst S) = true := by simp [sameIds]
        rw [hsame]
        clear hsame
        go_wp2
        go_ret
        exact ⟨rfl, T7.out⟩
    · -- a page of the map
      have hr := inMap_true.1 hin
      have Hin := Lib.hid hin; clear hin
      have hlo : (7 : Int) ≤ p := by omega
      have hhi : (p : Int) < 107 := by omega
      cases hS : S p
      all_goals
        have HS := Lib.hid hS
        obtain ⟨e0, S1, he0, hS1, hS1p⟩ : ∃ (e0 : Int) (S1 : Nat → Bool), e0 = (markSays 7 107 S p : Nat) ∧ markSet S p = S1 ∧ S1 p = false := by
          refine ⟨_, _, rfl, rfl, ?_⟩
          rw [markSet, hS]; simp [Fr.flip, hS]
        have he1 : e0 = if S p then 0 else 8 := by rw [he0, markSays, Hin.out, hS]; rfl
        rw [hS] at he1
        have HS1 := Lib.hid hS1; clear hS1
        have HS1p := Lib.hid hS1p; clear hS1p
        have He0 := Lib.hid he0; clear he0
        simp only [if_true, Bool.false_eq_true, if_false] at he1
        subst he1
        go_wp2_with fail
        refine (mark_at _ b 7 107 p _ S1 _ _ M3.out rfl (by omega) He0.out HS1.out).mono ?_
        rintro e w4 ⟨rfl, t4, m4⟩
        have T4 := Lib.hid (One.new T3.out Hb.out t4)
        have M4 := Lib.hid m4
        clear t4 m4 T3 M3 Hrd
        go_wp2_with fail
        refine (is_at _ b 7 107 p _ _ false M4.out rfl (by omega) HS1p.out).mono ?_
        rintro e w5 ⟨rfl, rfl⟩
        go_wp2_with fail
        refine (ids_any _ _).mono ?_
        rintro e w5 ⟨rfl, rfl⟩
        go_wp2_with fail
        refine (give_at _ b 7 107 _ (Fr.add S1 [p]) _ _ _ [p] 0 (M4.out.touch ((Touch.refl No _).alloc _) (fun f => f)) rfl (by simp) (by decide) (rd_one _ _ p)
          (fun c o e _ => by have := M4.out.lt; simp at e; omega) (by simp; omega) (by rw [give1_ok Hin.out HS1p.out]; rfl) (by simp [giveSet, give1_ok Hin.out HS1p.out])).mono ?_
        rintro e w5 ⟨rfl, t5, m5⟩
        have T5 := Lib.hid (One.new (T4.out.alloc _) Hb.out t5)
        have M5 := Lib.hid m5
        have HS2 : Hid (Fr.add S1 [p] p = true) := by show _ = _; simp [Fr.add]
        clear t5 m5 T4 M4
        go_wp2_with fail
        refine (is_at _ b 7 107 p _ _ true M5.out rfl (by omega) HS2.out).mono ?_
        rintro e w6 ⟨rfl, rfl⟩
        go_wp2_with fail
        refine (ids_any _ _).mono ?_
        rintro e w6 ⟨rfl, rfl⟩
        go_wp2_with fail
        refine (give_at _ b 7 107 _ (Fr.add S1 [p]) _ _ _ [p] 9 (M5.out.touch ((Touch.refl No _).alloc _) (fun f => f)) rfl (by simp) (by decide) (rd_one _ _ p)
          (fun c o e _ => by have := M5.out.lt; simp at e; omega) (by simp; omega) (by rw [give1_state Hin.out HS2.out]; rfl) (by simp [giveSet, give1_state Hin.out HS2.out])).mono ?_
        rintro e w6 ⟨rfl, t6, m6⟩
        have T6 := Lib.hid (One.new (T5.out.alloc _) Hb.out t6)
        have M6 := Lib.hid m6
        clear t6 m6 T5 M5
        go_wp2_with fail
        refine (mark_at _ b 7 107 p _ _ _ 0 M6.out rfl (by omega) (by simp [markSays, Hin.out, HS2.out]) rfl).mono ?_
        rintro e w7 ⟨rfl, t7, m7⟩
        have T7 := Lib.hid (One.new T6.out Hb.out t7)
        have M7 := Lib.hid m7
        clear t7 m7 T6 M6
        go_wp2_with fail
        refine (is_at _ b 7 107 p _ _ false M7.out rfl (by omega) (by simp [markSet, HS2.out, Fr.flip])).mono ?_
        rintro e w8 ⟨rfl, rfl⟩
        go_wp2
        go_ret
        exact ⟨rfl, T7.out⟩
  · go_wp2_with fail
    refine (alive_any _ H1.out.tab).mono ?_
    rintro e w2 ⟨rfl, t2⟩
    have T2 := Lib.hid (T1.out.trans t2)
    clear t2
    go_wp2
    go_ret
    exact ⟨rfl, T2.out⟩
end Go.Proofs.YtjmkfpiahnibkaaDoor
