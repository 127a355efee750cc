/-
  Extents on both disks, the program's and the reference's, beside each other: Write, Read.
  How much a book holds behind so many lists. No program in sight.
  A store into what reads as a list. No program in sight.
  Package drydocklaw01 by its own text: TwinBytes, LeftBytes.
-/
import Derived.Test.YtkiehoboeiengaaGreatDoorK46
import Derived.Test.YtkiehoboeiengaaGreatDoorK32
import Derived.Test.YtkiehoboeiengaaGreatDoorK25
import Derived.Test.YtkiehoboeiengaaGreatDoorK02
import Derived.Test.YtkiehoboeiengaaGreatDoorK20
import Derived.StillTailTactics
namespace Go.Proofs.YtkiehoboeiengaaGreatDoor
open Go Go.RowKit
set_option linter.unusedVariables false

theorem sl_in {w : World} {T : TypeId} {a : Option Addr} {n cap : Nat} {vs us : List Value} {O : Nat → Prop} (h : (Part.sl T a n cap (vs ++ us)).P w O) {g o : Nat} (e : a = some ⟨g, o, none⟩) (hv : vs ≠ []) : O g := by
  obtain ⟨h1, h2, h3, h4, h5⟩ := h
  have hpos : 0 < cap := by
    have : 0 < vs.length := List.length_pos_iff.2 hv
    rw [List.length_append] at h1
    omega
  rcases h5 with h5 | ⟨g', o', cs, ha, hg, hc, hO, _⟩
  · omega
  · rw [ha] at e; cases e; exact hO
theorem Sl.step2 {w0 w : World} {p : Part} {l : List Part} (h : Sl w0 w (p :: l)) : ∃ A, p.P w A ∧ (∀ k, A k → w0.heap.size ≤ k ∧ k < w.heap.size) ∧ (∀ q ∈ l, ∃ C, q.P w C ∧ ∀ k, A k → ¬ C k) ∧ ∀ w' p', TurnsL w A [p'] w' → Sl w0 w' (p' :: l) := by
  obtain ⟨O, ⟨A, B, ha, hb, hd, h1, h2⟩, h3, t0⟩ := h
  refine ⟨A, ha, fun k hk => h3 k (h1 k hk), fun q hq => ?_, fun w' p' ht => ?_⟩
  · obtain ⟨C, hC, hCB⟩ := hb.mem hq
    exact ⟨C, hC, fun k hk hc => hd k hk (hCB k hc)⟩
  · obtain ⟨t, A', ha', hin⟩ := ht
    have hAl : Al w' ([p'] ++ l) (fun k => A' k ∨ (B k ∧ k < w.heap.size)) := Al.join ha' (Al.stable t hb.cut (fun k hk f => hd k f hk.1)) (fun k hk hB => by
      rcases hin k hk with h | h
      · exact hd k h hB.1
      · have := hB.2
        omega) (fun k => Or.inl) (fun k => Or.inr)
    refine ⟨_, hAl.cut, fun k hk => ⟨?_, hk.2⟩, t0.then t (fun i hi f => absurd hi (Nat.not_lt.2 (h3 i (h1 i f)).1))⟩
    rcases hk.1 with h | h
    · rcases hin k h with h | h
      · exact (h3 k (h1 k h)).1
      · exact Nat.le_trans t0.size h
    · exact (h3 k (h2 k h.1)).1
theorem keep_old {w0 w : World} {A : Nat → Prop} {a : Option Addr} {vs : List Value} (hr : Rd w0 a vs) (t : Touch No w0 w) (hA : ∀ k, A k → w0.heap.size ≤ k ∧ k < w.heap.size) : Keep w A a vs :=
  ⟨hr.no t, fun g o e hv ho => by
    subst e
    have := hr.lt hv
    have := (hA g ho).1
    omega⟩
theorem keep_sl {w : World} {T : TypeId} {A C : Nat → Prop} {a : Option Addr} {n c : Nat} {vs us : List Value} (h : (Part.sl T a n c (vs ++ us)).P w C) (hd : ∀ k, A k → ¬ C k) : Keep w A a vs :=
  ⟨by
    have h1 := (sl_rd h).take vs.length
    rwa [List.take_left] at h1, fun g o e hv ho => hd g ho (sl_in h e hv)⟩
def Ex.zE (D : Dk.Disk) (ep : Nat) (ids : List Nat) (z : Int) : Nat := if 0 ≤ z then Ex.rE D ep ids z.toNat else 1
def Ex.zB (D : Dk.Disk) (ep : Nat) (ids : List Nat) (z : Int) : List Nat := if 0 ≤ z then Ex.rB D ep ids z.toNat else []
theorem Ex.z_no {D : Dk.Disk} {ep : Nat} {ids : List Nat} {z : Int} (h : ¬ (Ex.may D ids z.toNat ∧ 0 ≤ z)) : Ex.zE D ep ids z = 1 ∧ Ex.zB D ep ids z = [] := by
  by_cases hz : 0 ≤ z
  · have hm : ¬ Ex.may D ids z.toNat := fun hm => h ⟨hm, hz⟩
    have e : Ex.rE D ep ids z.toNat = 1 := by rw [Ex.rE, if_neg hm]
    rw [Ex.zE, Ex.zB, if_pos hz, if_pos hz, e, Ex.rB, e]
    exact ⟨rfl, rfl⟩
  · rw [Ex.zE, Ex.zB, if_neg hz, if_neg hz]
    exact ⟨rfl, rfl⟩
theorem Ex.may_small {D : Dk.Disk} {ids : List Nat} {z : Int} (h : Ex.may D ids z.toNat) (hn : (ids.length : Int) ≤ 10000) : z ≤ 100000000000 := by
  have := h.2.2
  unfold Ex.pages at this
  omega
def ExtRead (w0 : World) (d g : Nat) (D R : Dk.Disk) (E : List Part) (er : Nat) (bs : List Nat) (e : Ending) (w' : World) : Prop :=
  ∃ a n, e = .returned (.tuple #[.slice a n n, .int .i64 (er : Nat)]) ∧ bs.length = n ∧ Two w0 w' d g D R (Part.sl 5 a n n (nums .u8 bs) :: E)
section
variable {w0 w : World} {d g : Nat} {D R : Dk.Disk} {E : List Part}
theorem Two.exWriteD (h : Two w0 w d g D R E) (ep : Nat) (hep : ep < 4294967296) (a : Option Addr) (n c : Nat) (ids : List Nat) (hn : ids.length = n) (hnm : (n : Int) ≤ 1000000000000) (hi : Part.sl 48 a (n + 1) c (nums .u32 ids ++ [.int .u32 77]) ∈ E) (hil : ∀ x ∈ ids, x < 4294967296)
    (a' : Option Addr) (m c' : Nat) (bs : List Nat) (hm : bs.length = m) (hcap : m ≤ c') (hmax : (m : Int) ≤ 100000000000) (hb : Part.sl 5 a' (m + 1) c' (nums .u8 bs ++ [.int .u8 77]) ∈ E) (hbl : ∀ x ∈ bs, x < 256) (hw : D.waits.length + 4 * Ex.pages m ≤ 100000) :
    Calls Tryz.prog 27 #[.pointer (some ⟨d, 0, none⟩), .int .u32 (ep : Nat), .slice a n c, .slice a' m c'] w fun e w' => e = .returned (.int .i64 (Ex.wE D ids m : Nat)) ∧ Two w0 w' d g (Ex.wD D ep ids bs) R E := by
  obtain ⟨A, ⟨hp, hl⟩, hA, hq, hf⟩ := Sl.step2 (p := Part.disk d D) (l := Part.rdisk g R :: E) h
  obtain ⟨C1, hC1, hd1⟩ := hq _ (List.mem_cons_of_mem _ hi)
  obtain ⟨C2, hC2, hd2⟩ := hq _ (List.mem_cons_of_mem _ hb)
  exact (exWrite_k w d D 0 A ep hep a n c ids hn hnm (keep_sl hC1 hd1) hil a' m c' bs hm hcap hmax (keep_sl hC2 hd2) hbl (Nat.zero_le _) ⟨hp, hl, fun _ _ => Nat.zero_le _⟩ hw).mono fun e w' ⟨he, ht⟩ => ⟨he, hf w' _ (disk_turn (fun _ h => h) ht)⟩
theorem Two.exWriteR (h : Two w0 w d g D R E) (ep : Nat) (hep : ep < 4294967296) (a : Option Addr) (n c : Nat) (ids : List Nat) (hn : ids.length = n) (hnm : (n : Int) ≤ 1000000000000) (hi : Rd w0 a (nums .u32 ids)) (hil : ∀ x ∈ ids, x < 4294967296)
    (a' : Option Addr) (m c' : Nat) (bs : List Nat) (hm : bs.length = m) (hcap : m ≤ c') (hmax : (c' : Int) ≤ 140737488355328) (hb : Rd w0 a' (nums .u8 bs)) (hbl : ∀ x ∈ bs, x < 256) (hw : R.waits.length + 4 * Ex.pages m ≤ 100000) :
    Calls Tryz.prog 28 #[.pointer (some ⟨g, 0, none⟩), .int .u32 (ep : Nat), .slice a n c, .slice a' m c'] w fun e w' => e = .returned (.int .i64 (Ex.wE R ids m : Nat)) ∧ Two w0 w' d g D (Ex.wD R ep ids bs) E := by
  obtain ⟨A, hp, hA, hq, hf⟩ := Sl.step2 (p := Part.rdisk g R) (l := Part.disk d D :: E) (Sl.perm h (List.Perm.swap _ _ _))
  have hAl : Al w [Part.rdisk g R] A := ⟨A, fun _ => False, hp, trivial, fun _ _ f => f, fun _ h => h, fun _ f => f.elim⟩
  exact (refExWrite_any w g R A hAl ep hep a n c ids hn hnm (keep_old hi h.end hA) hil a' m c' bs hm hcap hmax (keep_old hb h.end hA) hbl hw).mono fun e w' ⟨he, ht⟩ => ⟨he, Sl.perm (hf w' _ ht) (List.Perm.swap _ _ _)⟩
theorem Two.exReadD (h : Two w0 w d g D R E) (ep : Nat) (hep : ep < 4294967296) (a : Option Addr) (n c : Nat) (ids : List Nat) (hn : ids.length = n) (hnm : (n : Int) ≤ 10000) (hi : Part.sl 48 a (n + 1) c (nums .u32 ids ++ [.int .u32 77]) ∈ E) (hil : ∀ x ∈ ids, x < 4294967296) (z : Int) (hz1 : -9223372036854775808 ≤ z) (hz2 : z ≤ 9223372036854775807) :
    Calls Tryz.prog 20 #[.pointer (some ⟨d, 0, none⟩), .int .u32 (ep : Nat), .slice a n c, .int .i64 z] w (ExtRead w0 d g D R E (Ex.zE D ep ids z) (Ex.zB D ep ids z)) := by
  obtain ⟨O, hd⟩ := h.disk
  have hr : Rd w a (nums .u32 ids) := by
    have h1 := (h.rd hi).take (nums .u32 ids).length
    rwa [List.take_left] at h1
  by_cases hM : Ex.may D ids z.toNat ∧ 0 ≤ z
  · obtain ⟨m, rfl⟩ : ∃ m : Nat, z = (m : Nat) := ⟨z.toNat, by omega⟩
    have hs := Ex.may_small hM.1 (by rw [hn]; omega)
    rw [Int.toNat_natCast] at hM
    rw [Ex.zE, Ex.zB, if_pos hM.2, if_pos hM.2, Int.toNat_natCast]
    exact (exRead_k w d D O ep hep a n c ids hn (by omega) hr hil m hs hd).mono fun e w' ⟨b, k, he, hk, ⟨cc, ho⟩, t⟩ => ⟨b, k, he, hk, h.push (born_sl t (Nat.le_refl _) ho (Nat.le_refl _) (by
      have := ho.room
      omega))⟩
  · rw [(Ex.z_no hM).1, (Ex.z_no hM).2]
    exact (exRead_no w d D O ep a n c ids hn (by omega) hr hil z (by omega) hd (by
      by_cases hz : 0 ≤ z
      · exact Or.inr (fun hm => hM ⟨hm, hz⟩)
      · exact Or.inl (by omega))).mono fun e w' ⟨he, t⟩ => ⟨none, 0, he, rfl, h.push (born_sl t (Nat.le_refl _) (Own.nil _ _ _) (Nat.le_refl _) (Nat.le_refl _))⟩
theorem Two.exReadR (h : Two w0 w d g D R E) (ep : Nat) (hep : ep < 4294967296) (a : Option Addr) (n c : Nat) (ids : List Nat) (hn : ids.length = n) (hnm : (n : Int) ≤ 10000) (hi : Rd w0 a (nums .u32 ids)) (hil : ∀ x ∈ ids, x < 4294967296) (z : Int) (hz1 : -9223372036854775808 ≤ z) (hz2 : z ≤ 9223372036854775807) :
    Calls Tryz.prog 21 #[.pointer (some ⟨g, 0, none⟩), .int .u32 (ep : Nat), .slice a n c, .int .i64 z] w fun e w' => ∃ b k q, e = .returned (.tuple #[.slice b k q, .int .i64 (Ex.zE R ep ids z : Nat)]) ∧ (Ex.zB R ep ids z).length = k ∧ Rd w' b (nums .u8 (Ex.zB R ep ids z)) ∧ Touch No w w' := by
  obtain ⟨vs, vn, vw, hR⟩ := h.rdisk
  have hr := hi.no h.end
  by_cases hM : Ex.may R ids z.toNat ∧ 0 ≤ z
  · obtain ⟨m, rfl⟩ : ∃ m : Nat, z = (m : Nat) := ⟨z.toNat, by omega⟩
    have hs := Ex.may_small hM.1 (by rw [hn]; omega)
    rw [Int.toNat_natCast] at hM
    rw [Ex.zE, Ex.zB, if_pos hM.2, if_pos hM.2, Int.toNat_natCast]
    exact refExRead_yes hR ep hep a n c ids hn (by omega) hil hr m hs hM.1
  · rw [(Ex.z_no hM).1, (Ex.z_no hM).2]
    exact (refExRead_no hR ep a n c ids hn (by omega) hil hr z hz1 hz2 hM).mono fun e w' ⟨he, t⟩ => ⟨none, 0, 0, he, rfl, Rd.nil _ _, t⟩
end
end Go.Proofs.YtkiehoboeiengaaGreatDoor
namespace Go.Proofs.YtkiehoboeiengaaGreatDoor
open Go Go.RowKit
set_option linter.unusedVariables false

/-- what a book may hold behind so many lists -/
def BkTo (K nb : Nat) (B : List HE) : Prop := nb ≤ K ∧ B.length ≤ K ∧ ∀ e ∈ B, e.k ≤ K ∧ e.n ≤ 10000000
theorem BkTo.nil : BkTo 0 0 [] := ⟨Nat.le_refl _, Nat.le_refl _, fun e h => by cases h⟩
theorem BkTo.next {K nb : Nat} {B : List HE} (h : BkTo K nb B) {a : Option Addr} {m c : Nat} (hm : m ≤ 10000000) : BkTo (K + 1) (nb + 1) (B ++ [(⟨a, m, c, nb + 1⟩ : HE)]) := by
  obtain ⟨h1, h2, h3⟩ := h
  refine ⟨by omega, by simp; omega, fun e he => ?_⟩
  rcases List.mem_append.1 he with he | he
  · have := h3 e he; omega
  · rw [List.mem_singleton.1 he]
    exact ⟨by show nb + 1 ≤ _; omega, hm⟩
theorem BkTo.more {K K' nb : Nat} {B : List HE} (h : BkTo K nb B) (hk : K ≤ K') : BkTo K' nb B := by
  obtain ⟨h1, h2, h3⟩ := h
  exact ⟨by omega, by omega, fun e he => by have := h3 e he; omega⟩
theorem BkTo.small {K nb : Nat} {B : List HE} (h : BkTo K nb B) (hk : K ≤ 10000) : nb ≤ 1000000 ∧ B.length ≤ 100000 := by
  obtain ⟨h1, h2, _⟩ := h
  omega
theorem BkTo.ok {K nb : Nat} {B : List HE} (h : BkTo K nb B) (hk : K ≤ 10000) : BkOkB B := ⟨by have := h.2.1; omega, fun e he => by have := h.2.2 e he; omega, fun e he => by have := h.2.2 e he; omega⟩
end Go.Proofs.YtkiehoboeiengaaGreatDoor
namespace Go.Proofs.YtkiehoboeiengaaGreatDoor
open Go Go.RowKit

theorem Rd.set {w : World} {g o : Nat} {vs : List Value} (h : Rd w (some ⟨g, o, none⟩) vs) {p : Nat} (hp : p < vs.length) (v : Value) : Rd (w.setCell ⟨g, o + p, none⟩ v) (some ⟨g, o, none⟩) (vs.set p v) := by
  intro i u hi
  refine ⟨g, o, rfl, ?_⟩
  rw [List.getElem?_set] at hi
  by_cases e : p = i
  · subst e
    rw [if_pos rfl, if_pos hp] at hi
    obtain ⟨g', o', e', hc⟩ := h p vs[p] (List.getElem?_eq_getElem hp)
    cases e'
    rw [cell_set hc]; exact hi
  · rw [if_neg e] at hi
    obtain ⟨g', o', e', hc⟩ := h i u hi
    cases e'
    rw [cell_set_ne (Or.inr (by omega))]; exact hc
theorem Own.soft {w : World} {base : Nat} {T : TypeId} {g o n c : Nat} {vs : List Value} (h : Own w base T (.slice (some ⟨g, o, none⟩) n c) vs) (k : Nat) : w.frozen? ⟨g, k, none⟩ = false := by
  obtain ⟨_, h⟩ := h
  rcases h with ⟨h, _⟩ | ⟨g', cap, cur, hv, _, hh, _⟩
  · cases h
  · cases hv
    have hR : Row w g T cur.toList := by rw [Row, Array.toArray_toList]; exact hh
    exact hR.soft k

end Go.Proofs.YtkiehoboeiengaaGreatDoor
namespace Go.Proofs.YtkiehoboeiengaaGreatDoor
open Go Go.RowKit
set_option linter.unusedSimpArgs false

theorem ints_snocB (zs : List Int) (k : Nat) (h : k < zs.length) : ints .u8 (zs.take (k + 1)) = ints .u8 (zs.take k) ++ [.int .u8 (zs.getD k 0)] := by
  rw [List.take_succ_eq_append_getElem h, ints, List.map_append, List.getD_eq_getElem?_getD, List.getElem?_eq_getElem h]; rfl
set_option maxRecDepth 100000 in
set_option maxHeartbeats 2000000 in
theorem twinBytes_any (w : World) (a : Option Addr) (n c : Nat) (zs : List Int) (hz : zs.length = n) (hm : (n : Int) ≤ 140737488351232) (hr : Rd w a (ints .u8 zs)) :
    Calls Tryz.prog 26 #[.slice a n c] w fun e w' => ∃ a' c', e = .returned (.slice a' n c') ∧ n < c' ∧ Own w' w.heap.size 5 (.slice a' (n + 1) c') (ints .u8 zs ++ [.int .u8 77]) ∧ Touch No w w' := by
  have Hz := Lib.hid hz
  have Hr := Lib.hid hr
  obtain ⟨I, hi0, hi1, hi2, hi3⟩ := u8_info
  have HI := Lib.hid (And.intro hi0 (And.intro hi1 (And.intro hi2 hi3)))
  clear hz hr hi0 hi1 hi2 hi3
  go_enter Tryz.func26, Tryz.ntmps26
  go_wp2_with (at_make; refine wpList_make_own _ rfl _ _ _ rfl w.heap.size _ I _ 1 Tryz.underlying49 HI.out.1 HI.out.2.1 HI.out.2.2.1 .i64 .i64 _ (n + 1) rfl rfl (by omega) (by rw [HI.out.2.2.2]; omega) (by unfold maxLen; omega) (Nat.le_refl _) ?_; intro w1 hown hgrow)
  have T1 : Hid (Touch No w w1) := (Touch.refl No w).grown hgrow (fun k hk _ => by cases hk)
  have O1 : Hid (Own w1 w.heap.size 5 (.slice (some ⟨w.heap.size, 0, none⟩) 0 (n + 1)) (ints .u8 (zs.take 0))) := hown
  clear hown hgrow
  go_loopg [3, 4] n (fun g s3 s4 wr => ∃ (k : Nat) (v : Value), k + g = n ∧ s4 = .int .i64 ((k : Nat) : Int) ∧ s3 = v ∧ Hid (Own wr w.heap.size 5 v (ints .u8 (zs.take k))) ∧ Hid (Touch No w wr))
  case atStart => exact ⟨0, _, by omega, rfl, rfl, O1, T1⟩
  case round =>
    obtain ⟨k, v, hkg, rfl, rfl, O, T⟩ := hrel
    cases gk with
    | zero =>
      obtain rfl : k = n := by omega
      have hO := O.out
      rw [List.take_of_length_le (by rw [Hz.out]; exact Nat.le_refl _)] at hO
      have hlk : (ints .u8 zs).length = k := by rw [ints_length, Hz.out]
      obtain ⟨al, cl, rfl, _⟩ := hO.form' hlk
      have HO := Lib.hid hO
      have Hlk := Lib.hid hlk
      clear hO hlk O
      go_wp2_with (at_builtin; refine wpList_append1 rfl _ _ _ rfl w.heap.size _ I _ 1 Tryz.underlying49 HI.out.1 HI.out.2.1 HI.out.2.2.1 HI.out.2.2.2 rfl _ (ints .u8 zs) _ HO.out rfl rfl rfl (by rw [Hlk.out]; unfold maxLen; omega) (by rw [Hlk.out]; omega) T.out.size ?_; intro v' w3 hown3 ht3; obtain ⟨a3, c3, rfl, hc3, _⟩ := hown3.form' (n := k + 1) (by rw [List.length_append, Hlk.out]; rfl); have hhead := fun wx : World => run_head (P := Tryz.prog) Tryz.underlying49 HI.out.1 HI.out.2.2.1 a3 (k + 1) c3 k .i64 (show k ≤ c3 by omega) wx)
      have HF : Hid (Own w3 w.heap.size 5 (.slice a3 (k + 1) c3) (ints .u8 zs ++ [.int .u8 77]) ∧ Touch No w w3 ∧ k < c3) := ⟨hown3, T.out.then ht3 (fun i hi e => absurd ((HO.out.block e).1) (by omega)), by omega⟩
      clear hown3 ht3 hc3
      go_wp2
      go_ret
      exact ⟨a3, c3, rfl, HF.out.2.2, HF.out.1, HF.out.2.1⟩
    | succ g =>
      have hlt : (k : Int) < (n : Nat) := by omega
      have hkl : k < zs.length := by rw [Hz.out]; omega
      have hlk : (ints .u8 (zs.take k)).length = k := by rw [ints_length, List.length_take]; omega
      obtain ⟨al, cl, rfl, _⟩ := O.out.form' hlk
      obtain ⟨ga, oa, rfl, hca⟩ := (Hr.out.no T.out).int hkl
      have HN := Lib.hid (ints_snocB zs k hkl)
      obtain ⟨z, hzz⟩ : ∃ z, zs.getD k 0 = z := ⟨_, rfl⟩
      rw [hzz] at hca HN
      have Hlk := Lib.hid hlk
      clear hlk hzz hkl
      go_wp2_with (at_builtin; refine wpList_append1 rfl _ _ _ rfl w.heap.size _ I _ 1 Tryz.underlying49 HI.out.1 HI.out.2.1 HI.out.2.2.1 HI.out.2.2.2 rfl _ _ _ O.out rfl rfl rfl (by rw [Hlk.out]; unfold maxLen; omega) (by rw [Hlk.out]; omega) T.out.size ?_; intro v' w3 hown3 ht3)
      go_roundg g
      case measure => omega
      case rel => exact ⟨k + 1, v', by omega, by go_num, rfl, by rw [HN.out]; exact hown3, T.out.then ht3 (fun i hi e => absurd ((O.out.block e).1) (by omega))⟩
set_option maxRecDepth 100000 in
set_option maxHeartbeats 2000000 in
theorem leftBytes_any (w : World) (a' : Option Addr) (n c' : Nat) (a : Option Addr) (c : Nat) (zs : List Int) (hz : zs.length = n) (hm : (n : Int) ≤ 140737488351232) (hc : n < c') (hr' : Rd w a' (ints .u8 zs ++ [.int .u8 77])) (hr : Rd w a (ints .u8 zs)) :
    Calls Tryz.prog 29 #[.slice a' n c', .slice a n c] w fun e w' => e = .returned (.bool true) ∧ Touch No w w' := by
  obtain ⟨I, hi0, hi1, hi2, hi3⟩ := u8_info
  have hhead := fun wx : World => run_head (P := Tryz.prog) Tryz.underlying49 hi0 hi2 a' n c' (n + 1) .i64 hc wx
  have Hhead := Lib.hid hhead
  have Hz := Lib.hid hz
  have Hr := Lib.hid hr
  have Hr' := Lib.hid hr'
  have hcd : decide (c' ≤ n) = false := decide_eq_false (by omega)
  clear hz hr hr' hi0 hi1 hi2 hi3 hhead hc
  go_enter Tryz.func29, Tryz.ntmps29
  go_wp2
  clear hcd
  go_loopg [4, 5] n (fun g s4 s5 wr => ∃ k : Nat, k + g = n ∧ s4 = .bool false ∧ s5 = .int .i64 ((k : Nat) : Int) ∧ Hid (Touch No w wr))
  case atStart => exact ⟨0, by omega, rfl, rfl, Touch.refl _ _⟩
  case round =>
    obtain ⟨k, hkg, rfl, rfl, T⟩ := hrel
    cases gk with
    | zero =>
      obtain rfl : k = n := by omega
      obtain ⟨ga, oa, rfl, hca⟩ := (Hr'.out.no T.out) k (.int .u8 77) (by rw [List.getElem?_append_right (by rw [ints_length, Hz.out]; exact Nat.le_refl _), ints_length, Hz.out, Nat.sub_self]; rfl)
      have hhead : ∀ wx : World, (Instr.slice 49 (.slice (some ⟨ga, oa, none⟩) k c') none (some (.int .i64 ((k : Int) + 1))) none).run Tryz.prog wx = .ok (.slice (some ⟨ga, oa, none⟩) (k + 1) c') wx := fun wx => Hhead.out wx
      clear Hhead Hr'
      go_wp2
      go_ret
      exact ⟨rfl, T.out⟩
    | succ g =>
      have hlt : (k : Int) < (n : Nat) := by omega
      have hkl : k < zs.length := by rw [Hz.out]; omega
      obtain ⟨ga, oa, rfl, hca⟩ := (Hr.out.no T.out).int hkl
      obtain ⟨gb, ob, rfl, hcb⟩ := (Hr'.out.no T.out) k (.int .u8 (zs.getD k 0)) (by rw [List.getElem?_append_left (by rw [ints_length]; exact hkl), ints_get hkl])
      obtain ⟨z, hzz⟩ : ∃ z, zs.getD k 0 = z := ⟨_, rfl⟩
      rw [hzz] at hca hcb
      have hzz2 : (z != z) = false := by simp
      have HT := T
      clear hzz hkl T
      go_wp2
      refine wp_region_still_lit (by kernel_rfl) (by kernel_rfl) ?_
      repeat still_step
      refine wpStill_nil ?_
      have HN : Hid (Touch No w wr.drew) := HT.out.drew
      go_wp2
      go_roundg g
      case measure => omega
      case rel => exact ⟨k + 1, by omega, rfl, by go_num, HN⟩
end Go.Proofs.YtkiehoboeiengaaGreatDoor
