/-
  Package drydocklaw03 by its own text: the walk of DisksBad.
-/
import Derived.Test.YtechmboimpbjpaaDFam
namespace Go.Proofs.Ytechmboimpbjpaa
open Go Go.RowKit

theorem St.read {w0 wi : World} {d : Nat} {D : Dk.Disk} (h : St w0 wi d D) (n : Nat) (b : List Nat) (hn : n < D.seen.length) (hb : (Dk.at_ D.seen n).bad = 0) (he : (Dk.at_ D.seen n).b = b) :
    Calls Try.prog 19 #[.pointer (some ⟨d, 0, none⟩), .int .i64 (n : Nat)] wi fun e w' => ∃ g, e = .returned (.tuple #[.slice (some ⟨g, 0, none⟩) 64 64, .int .i64 0]) ∧ Rd w' (some ⟨g, 0, none⟩) (nums .u8 b) ∧ Touch No wi w' := by
  obtain ⟨O, h, t⟩ := h
  subst he
  exact (read_in wi d D O n h.on hn hb).mono fun _ _ ⟨g, he, _, hr, t⟩ => ⟨g, he, hr, t⟩

namespace Dk
theorem at_upd {l : List Sec} {n : Nat} {f : Sec → Sec} (h : n < l.length) : at_ (upd l n f) n = f (at_ l n) := by
  simp [at_, upd, List.getD_eq_getElem?_getD, h]
theorem at_upd_ne {l : List Sec} {n k : Nat} {f : Sec → Sec} (h : n ≠ k) : at_ (upd l n f) k = at_ l k := by
  simp [at_, upd, List.getD_eq_getElem?_getD, List.getElem?_set_ne h]
theorem upd_out {l : List Sec} {n : Nat} {f : Sec → Sec} (h : ¬ n < l.length) : upd l n f = l := by
  simp [upd, List.set_eq_of_length_le (Nat.le_of_not_lt h)]
theorem stuck_step {keep : Nat} {torn : Int} {l : List Sec} {i k : Nat} {y : Wr} (h : (at_ l k).bad = 1) (hy : y.n = k → y.elder = 1) : (at_ (failStep keep torn l i y) k).bad = 1 := by
  have key : ∀ f : Sec → Sec, (y.n = k → (f (at_ l k)).bad = 1) → (at_ (upd l y.n f) k).bad = 1 := fun f hf => by
    by_cases e : y.n = k
    · by_cases hl : y.n < l.length
      · rw [← e, at_upd hl, e]; exact hf e
      · rw [upd_out hl]; exact h
    · rw [at_upd_ne e]; exact h
  unfold failStep
  split
  · exact key _ (fun _ => h)
  · split
    · refine key _ (fun e => ?_)
      simp [keptS, h, hy e]
    · exact h
theorem stuck {keep : Nat} {torn : Int} {k : Nat} : ∀ (ws : List Wr) (l : List Sec) (i : Nat), (at_ l k).bad = 1 → (∀ y ∈ ws, y.n = k → y.elder = 1) → (at_ (failed keep torn l i ws) k).bad = 1
  | [], l, i, h, _ => h
  | y :: r, l, i, h, hw => stuck r _ (i + 1) (stuck_step h (hw y (by simp))) (fun z hz => hw z (by simp [hz]))
theorem bad_stuck {D : Disk} {k : Nat} (h : k < D.sure.length) : (at_ (bad D k).sure k).bad = 1 ∧ ∀ y ∈ (bad D k).waits, y.n = k → y.elder = 1 := by
  refine ⟨by simp only [bad]; rw [at_upd h]; rfl, fun y hy hn => ?_⟩
  obtain ⟨z, hz, rfl⟩ := List.mem_map.1 hy
  unfold badW at hn ⊢
  split
  · rfl
  · rename_i hne
    rw [if_neg hne] at hn
    exact absurd hn hne
theorem bad_fails {D : Disk} (ok : Ok D) {k : Nat} (h : k < D.sure.length) (keep : Nat) (torn : Int) : (if (at_ (fail (bad D k) keep torn).seen k).bad = 1 then 256 else (at_ (fail (bad D k) keep torn).seen k).b.getD 0 0) = 256 := by
  have : (at_ (fail (bad D k) keep torn).seen k).bad = 1 := stuck _ _ _ (bad_stuck h).1 (bad_stuck h).2
  rw [if_pos this]
theorem bad_seen {D : Disk} {k : Nat} (h : k < D.seen.length) : (if (at_ (bad D k).seen k).bad = 1 then 256 else (at_ (bad D k).seen k).b.getD 0 0) = 256 := by
  have : (at_ (bad D k).seen k).bad = 1 := by simp only [bad]; rw [at_upd h]; rfl
  rw [if_pos this]
theorem write_at {D : Disk} {k : Nat} (h : k < D.seen.length) (b : List Nat) : at_ (write D k b).seen k = ⟨pad b, 0⟩ := by
  simp [at_, write, List.getD_eq_getElem?_getD, h]
/-- the last write alone kept -/
theorem last_kept {D : Disk} (ok : Ok D) {k : Nat} (h : k < D.seen.length) (b : List Nat) {at' : Nat} (ha : D.waits.length = at') (h64 : at' < 64) (torn : Int) (ht : torn < 0) : at_ (fail (write D k b) (2 ^ at') torn).seen k = ⟨pad b, 0⟩ := by
  have hl := failed_ok (keep := 2 ^ at') (torn := torn) D.waits D.sure 0 ok.sure (fun y hy => by rw [ok.len]; exact ok.waits y hy)
  show at_ (failed (2 ^ at') torn D.sure 0 (D.waits ++ [⟨k, pad b, 0⟩])) k = _
  rw [failed_snoc, Nat.zero_add, ha, failStep, if_neg (by omega), Nat.mod_eq_of_lt h64, if_pos (by simp [Nat.testBit_two_pow]), at_upd (by rw [hl.2, ok.len]; exact h)]
  simp [keptS]
theorem not_last {D : Disk} (ok : Ok D) {k : Nat} (h : k < D.seen.length) (hs : (at_ D.sure k).bad = 1) (hw : ∀ y ∈ D.waits, y.n = k → y.elder = 1) (b : List Nat) {at' : Nat} (ha : D.waits.length = at') (h64 : at' < 64) (torn : Int) (ht : torn < 0) :
    (if (at_ (fail (write D k b) (2 ^ at' - 1) torn).seen k).bad = 1 then 256 else (at_ (fail (write D k b) (2 ^ at' - 1) torn).seen k).b.getD 0 0) = 256 := by
  have : (at_ (fail (write D k b) (2 ^ at' - 1) torn).seen k).bad = 1 := by
    show (at_ (failed (2 ^ at' - 1) torn D.sure 0 (D.waits ++ [⟨k, pad b, 0⟩])) k).bad = 1
    rw [failed_snoc, Nat.zero_add, ha, failStep, if_neg (by omega), Nat.mod_eq_of_lt h64, if_neg (by rw [Nat.testBit_two_pow_sub_one]; simp)]
    exact stuck _ _ _ hs hw
  rw [if_pos this]
theorem torn_last {D : Disk} (ok : Ok D) {k : Nat} (h : k < D.seen.length) (hs : (at_ D.sure k).bad = 1) (hw : ∀ y ∈ D.waits, y.n = k → y.elder = 1) (b : List Nat) {at' : Nat} (ha : D.waits.length = at') :
    (if (at_ (fail (write D k b) (2 ^ at') (at' : Int)).seen k).bad = 1 then 256 else (at_ (fail (write D k b) (2 ^ at') (at' : Int)).seen k).b.getD 0 0) = 256 := by
  have hl := failed_ok (keep := 2 ^ at') (torn := (at' : Int)) D.waits D.sure 0 ok.sure (fun y hy => by rw [ok.len]; exact ok.waits y hy)
  have : (at_ (fail (write D k b) (2 ^ at') (at' : Int)).seen k).bad = 1 := by
    show (at_ (failed (2 ^ at') (at' : Int) D.sure 0 (D.waits ++ [⟨k, pad b, 0⟩])) k).bad = 1
    rw [failed_snoc, Nat.zero_add, ha, failStep, if_pos rfl, at_upd (by rw [hl.2, ok.len]; exact h)]
    exact stuck _ _ _ hs hw
  rw [if_pos this]
theorem fail_len {D : Disk} (ok : Ok D) (keep : Nat) (torn : Int) : (fail D keep torn).seen.length = D.seen.length := by
  have h1 := failed_ok (keep := keep) (torn := torn) D.waits D.sure 0 ok.sure (fun y hy => by rw [ok.len]; exact ok.waits y hy)
  exact h1.2.trans ok.len
end Dk

set_option maxRecDepth 100000 in
set_option maxHeartbeats 4000000 in
theorem disksBad_walk (w : World) (ad : Option Addr) (n cap : Nat) (acts : List Deed) (hn : acts.length = n) (hmax : (n : Int) ≤ 9223372036854775807) (h : IsDeeds w ad acts)
    (u : Nat) (hu : u < 256) (a : Option Addr) (m c : Nat) (b : List Nat) (hb : b.length = m) (hm : (m : Int) ≤ 9223372036854775807) (hr : Rd w a (nums .u8 b)) (hlt : ∀ x ∈ b, x < 256) :
    Calls Try.prog 6 #[.slice ad n cap, .int .u8 (u : Nat), .slice a m c] w (LawPost w) := by
  have H := Lib.hid h; clear h
  have HN := Lib.hid hn; clear hn
  have Hb := Lib.hid hb; clear hb
  have Hr := Lib.hid hr; clear hr
  have Hlt := Lib.hid hlt; clear hlt
  go_enter Try.func6, Try.ntmps6
  go_wp2_with fail
  refine (alive_is w).mono ?_
  rintro e w1 ⟨rfl, T1⟩
  go_wp2_with fail
  refine (great_any w1 ad n cap acts HN.out hmax (H.out.touch T1)).mono ?_
  rintro e w' ⟨rfl, rfl⟩
  cases hg : great acts with
  | true =>
    clear hg
    go_wp2_with fail
    refine (alive_is w1).mono ?_
    rintro e w2 ⟨rfl, t2⟩
    go_wp2
    go_ret
    exact ⟨rfl, T1.trans t2⟩
  | false =>
  have h150 : n ≤ 150 := by rw [← HN.out]; exact great_not hg
  clear hg
  by_cases h60 : 60 < n
  · have h60' : (60 : Int) < (n : Nat) := by omega
    clear h60 h150
    go_wp2_with fail
    refine (alive_is w1).mono ?_
    rintro e w2 ⟨rfl, t2⟩
    go_wp2
    go_ret
    exact ⟨rfl, T1.trans t2⟩
  have h60' : ¬ (60 : Int) < (n : Nat) := by omega
  by_cases hm64 : 64 < m
  · have hm64' : (64 : Int) < (m : Nat) := by omega
    clear hm64
    go_wp2_with fail
    refine (alive_is w1).mono ?_
    rintro e w2 ⟨rfl, t2⟩
    go_wp2
    go_ret
    exact ⟨rfl, T1.trans t2⟩
  have hm64' : ¬ (64 : Int) < (m : Nat) := by omega
  go_wp2_with fail
  refine (does_any w1 ad n cap acts HN.out h150 (H.out.touch T1)).mono ?_
  obtain ⟨D, hD⟩ : ∃ D, D = Dk.does acts := ⟨_, rfl⟩
  have hDs : D.seen.length = 8 := by rw [hD]; exact Dk.does_seen acts
  have hDw : D.waits.length ≤ 60 := by rw [hD]; have := Dk.does_waits acts; have := HN.out; omega
  have HDs := Lib.hid hDs
  have HDw := Lib.hid hDw
  rw [← hD]
  rintro e w2 ⟨d, rfl, S2⟩
  have Hok : Hid (Dk.Ok D) := by obtain ⟨O, hO, _⟩ := S2; exact hO.ok
  clear hDw hD hDs
  obtain ⟨k, hk⟩ : ∃ k, u % 8 = k := ⟨_, rfl⟩
  have hk1 : (u : Int) % 8 = (k : Nat) := by omega
  have hk8 : k < 8 := by omega
  clear hk
  have hkD : Hid (k < D.seen.length) := by show _ < _; rw [HDs.out]; exact hk8
  have hkS : Hid (k < D.sure.length) := by show _ < _; rw [Hok.out.len]; exact hkD.out
  have HokE := Lib.hid (Dk.bad_ok Hok.out hkD.out)
  obtain ⟨E, hE⟩ : ∃ E, E = Dk.bad D k := ⟨_, rfl⟩
  have hEs : Hid (E.seen.length = 8) := by show _ = _; rw [hE]; simp only [Dk.bad, Dk.upd_length]; exact HDs.out
  obtain ⟨q, hq⟩ : ∃ q, E.waits.length = q := ⟨_, rfl⟩
  have hq60 : q ≤ 60 := by rw [← hq, hE]; simp only [Dk.bad, List.length_map]; exact HDw.out
  have HE := Lib.hid hE
  have Hq := Lib.hid hq
  have hw6 : Hid (D.waits.length ≤ 1000000) := by show _ ≤ _; have := HDw.out; omega
  have hE6 : Hid (E.waits.length ≤ 1000000) := by show _ ≤ _; rw [Hq.out]; omega
  have hEok : Hid (Dk.Ok E) := by show Dk.Ok _; rw [HE.out]; exact HokE.out
  have hkE : Hid (k < E.seen.length) := by show _ < _; rw [hEs.out]; exact hk8
  clear hE hq
  go_wp2_with fail
  refine (S2.bad k hkD.out hw6.out).mono ?_
  rw [← HE.out]
  rintro e w3 ⟨rfl, S3⟩
  go_wp2_with fail
  refine (S3.first k 256 hkE.out (by rw [HE.out]; exact Dk.bad_seen hkD.out)).mono ?_
  rintro e w4 ⟨rfl, t4⟩
  have S4 := S3.no t4
  clear S3 t4 S2
  go_wp2_with fail
  refine (S4.left2 18446744073709551615 (-1) (by decide) hE6.out).mono ?_
  rintro e w5 ⟨x, rfl, X5, t5⟩
  have S5 := S4.no t5
  clear S4 t5
  go_wp2_with fail
  refine (X5.first k 256 (by rw [Dk.fail_len hEok.out]; exact hkE.out) (by rw [HE.out]; exact Dk.bad_fails Hok.out hkS.out _ _)).mono ?_
  rintro e w6 ⟨rfl, t6⟩
  have S6 := S5.no t6
  clear S5 t6 X5
  go_wp2_with fail
  refine (S6.left2 0 (-1) (by decide) hE6.out).mono ?_
  rintro e w7 ⟨y, rfl, X7, t7⟩
  have S7 := S6.no t7
  clear S6 t7
  go_wp2_with fail
  refine (X7.first k 256 (by rw [Dk.fail_len hEok.out]; exact hkE.out) (by rw [HE.out]; exact Dk.bad_fails Hok.out hkS.out _ _)).mono ?_
  rintro e w8 ⟨rfl, t8⟩
  have S8 := S7.no t8
  clear S7 t8 X7
  go_wp2_with fail
  refine (S8.waits q Hq.out).mono ?_
  rintro e w' ⟨rfl, rfl⟩
  go_wp2_with fail
  refine (S8.write k a m c b hkE.out Hb.out (by omega) Hlt.out (Hr.out.no (T1.trans S8.end)) hE6.out).mono ?_
  rintro e w9 ⟨rfl, S9⟩
  obtain ⟨F, hF⟩ : ∃ F, F = Dk.write E k b := ⟨_, rfl⟩
  rw [← hF] at S9
  have HF := Lib.hid hF
  have hFs : Hid (F.seen.length = 8) := by show _ = _; rw [HF.out]; simp only [Dk.write, List.length_set]; exact hEs.out
  have hFw : Hid (F.waits.length ≤ 1000000) := by show _ ≤ _; rw [HF.out]; simp only [Dk.write, List.length_append, List.length_singleton]; rw [Hq.out]; omega
  have hkF : Hid (k < F.seen.length) := by show _ < _; rw [hFs.out]; exact hk8
  have hFok : Hid (Dk.Ok F) := by show Dk.Ok _; rw [HF.out]; exact Dk.write_ok hEok.out hkE.out (by rw [Hb.out]; omega) Hlt.out
  have hFat : Hid (Dk.at_ F.seen k = ⟨Dk.pad b, 0⟩) := by show _ = _; rw [HF.out]; exact Dk.write_at hkE.out b
  have HTW := Lib.hid T1
  clear hF S8
  go_wp2_with fail
  refine (S9.read k (Dk.pad b) hkF.out (by rw [hFat.out]) (by rw [hFat.out])).mono ?_
  rintro e w10 ⟨g1, rfl, R1, t10⟩
  have S10 := S9.no t10
  have HR1 := Lib.hid R1
  clear R1 S9 t10
  obtain ⟨P, hP⟩ : ∃ P, 2 ^ q = P := ⟨_, rfl⟩
  have hP64 : P < 18446744073709551616 := by
    rw [← hP]
    exact Nat.lt_of_le_of_lt (Nat.pow_le_pow_right (by decide) hq60) (by decide)
  have hP1 : 1 ≤ P := by rw [← hP]; exact Nat.one_le_two_pow
  have hw1 : IntKind.u64.wrap (2 ^ q) = (P : Nat) := by
    have e : ((2 : Int) ^ q) = ((2 ^ q : Nat) : Int) := by norm_cast
    rw [e, hP, IntKind.wrap_u64]; omega
  have hw2 : IntKind.u64.wrap ((P : Int) - 1) = ((P - 1 : Nat) : Int) := by rw [IntKind.wrap_u64]; omega
  have HP := Lib.hid hP
  clear hP
  have Hs1 : Hid (Dk.at_ (Dk.fail F P (-1)).seen k = ⟨Dk.pad b, 0⟩) := by
    show _ = _
    rw [HF.out, ← HP.out]; exact Dk.last_kept hEok.out hkE.out b Hq.out (by omega) (-1) (by decide)
  have hst : Hid ((Dk.at_ E.sure k).bad = 1 ∧ ∀ y ∈ E.waits, y.n = k → y.elder = 1) := by
    show _ ∧ _
    rw [HE.out]; exact Dk.bad_stuck hkS.out
  have Hs2 : Hid ((if (Dk.at_ (Dk.fail F (P - 1) (-1)).seen k).bad = 1 then 256 else (Dk.at_ (Dk.fail F (P - 1) (-1)).seen k).b.getD 0 0) = 256) := by
    show _ = _
    rw [HF.out, ← HP.out]; exact Dk.not_last hEok.out hkE.out hst.out.1 hst.out.2 b Hq.out (by omega) (-1) (by decide)
  have Hs3 : Hid ((if (Dk.at_ (Dk.fail F P (q : Int)).seen k).bad = 1 then 256 else (Dk.at_ (Dk.fail F P (q : Int)).seen k).b.getD 0 0) = 256) := by
    show _ = _
    rw [HF.out, ← HP.out]; exact Dk.torn_last hEok.out hkE.out hst.out.1 hst.out.2 b Hq.out
  have lpad : Hid ((Dk.pad b).length = 64) := by show (b ++ List.replicate (64 - b.length) 0).length = 64; rw [List.length_append, List.length_replicate, Hb.out]; omega
  have tpad : Hid ((Dk.pad b).take m = b) := by
    show (b ++ List.replicate (64 - b.length) 0).take m = b
    rw [← Hb.out]; exact List.take_left
  have hsb1 : sameBytes (Dk.pad b) (Dk.pad b) = true := by simp [sameBytes]
  have hsb2 : sameBytes b b = true := by simp [sameBytes]
  go_wp2_with fail
  refine (S10.left2 P (-1) hP64 hFw.out).mono ?_
  rintro e w11 ⟨z, rfl, X11, t11⟩
  have S11 := S10.no t11
  have HR2 := Lib.hid (HR1.out.no t11)
  clear HR1 S10 t11
  go_wp2_with fail
  refine (X11.read k (Dk.pad b) (by rw [Dk.fail_len hFok.out]; exact hkF.out) (by rw [Hs1.out]) (by rw [Hs1.out])).mono ?_
  rintro e w12 ⟨g2, rfl, R3, t12⟩
  have S12 := S11.no t12
  have HR4 := Lib.hid (HR2.out.no t12)
  have HR3 := Lib.hid R3
  clear HR2 S11 t12 X11 R3
  go_wp2_with fail
  refine (sameBytes_eq w12 _ _ 64 64 64 _ _ lpad.out lpad.out (by decide) HR4.out HR3.out).mono ?_
  rintro e w13 ⟨rfl, t13⟩
  rw [hsb1]
  have S13 := S12.no t13
  have HR5 := Lib.hid (HR4.out.no t13)
  have HW13 := Lib.hid ((HTW.out).trans S13.end)
  clear HR4 S12 t13
  go_wp2_with fail
  have hRt : Hid (Rd w13 (some ⟨g1, 0, none⟩) (nums .u8 b)) := by
    have := HR5.out.take m
    rw [nums, ← List.map_take, tpad.out] at this
    exact this
  refine (sameBytes_eq w13 _ _ m 64 c _ _ Hb.out Hb.out hm hRt.out (Hr.out.no HW13.out)).mono ?_
  rintro e w14 ⟨rfl, t14⟩
  rw [hsb2]
  have S14 := S13.no t14
  clear S13 t14
  go_wp2_with fail
  refine (S14.left2 (P - 1) (-1) (by omega) hFw.out).mono ?_
  rintro e w15 ⟨v, rfl, X15, t15⟩
  have S15 := S14.no t15
  clear S14 t15
  go_wp2_with fail
  refine (X15.first k 256 (by rw [Dk.fail_len hFok.out]; exact hkF.out) Hs2.out).mono ?_
  rintro e w16 ⟨rfl, t16⟩
  have S16 := S15.no t16
  clear S15 t16 X15
  go_wp2_with fail
  refine (S16.left2 P (q : Int) hP64 hFw.out).mono ?_
  rintro e w17 ⟨v', rfl, X17, t17⟩
  have S17 := S16.no t17
  clear S16 t17
  go_wp2_with fail
  refine (X17.first k 256 (by rw [Dk.fail_len hFok.out]; exact hkF.out) Hs3.out).mono ?_
  rintro e w18 ⟨rfl, t18⟩
  have S18 := S17.no t18
  clear S17 t18 X17
  go_wp2
  go_ret
  exact ⟨rfl, T1.trans S18.end⟩
end Go.Proofs.Ytechmboimpbjpaa
