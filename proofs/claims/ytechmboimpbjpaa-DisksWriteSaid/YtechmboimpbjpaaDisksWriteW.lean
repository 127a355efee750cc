/-
  Package drydocklaw03 by its own text: the walk of DisksWrite.
-/
import Derived.Test.YtechmboimpbjpaaDFam
import Derived.Test.YtechmboimpbjpaaDRead
import Derived.Test.YtechmboimpbjpaaApp
namespace Go.Proofs.Ytechmboimpbjpaa
open Go Go.RowKit

namespace Dk
theorem write_at {D : Disk} {k : Nat} (h : k < D.seen.length) (b : List Nat) : at_ (write D k b).seen k = ⟨pad b, 0⟩ := by
  simp [at_, write, List.getD_eq_getElem?_getD, h]
theorem write_at_ne {D : Disk} {k i : Nat} (h : k ≠ i) (b : List Nat) : at_ (write D k b).seen i = at_ D.seen i := by
  simp [at_, write, List.getD_eq_getElem?_getD, List.getElem?_set_ne h]
end Dk

set_option maxRecDepth 100000 in
set_option maxHeartbeats 4000000 in
theorem disksWrite_walk (w : World) (ad : Option Addr) (n cap : Nat) (acts : List Deed) (hn : acts.length = n) (hmax : (n : Int) ≤ 9223372036854775807) (h : IsDeeds w ad acts)
    (u : Nat) (hu : u < 256) (a : Option Addr) (m c : Nat) (b : List Nat) (hb : b.length = m) (hm : (m : Int) ≤ 9223372036854775807) (hr : Rd w a (nums .u8 b)) (hlt : ∀ x ∈ b, x < 256) :
    Calls Try.prog 7 #[.slice ad n cap, .int .u8 (u : Nat), .slice a m c] w (LawPost w) := by
  have H := Lib.hid h; clear h
  have HN := Lib.hid hn; clear hn
  have Hb := Lib.hid hb; clear hb
  have Hr := Lib.hid hr; clear hr
  have Hlt := Lib.hid hlt; clear hlt
  go_enter Try.func7, Try.ntmps7
  go_wp2_with fail
  refine (alive_is w).mono ?_
  rintro e w1 ⟨rfl, T1⟩
  go_wp2_with fail
  refine (great_any w1 ad n cap acts HN.out hmax (H.out.touch T1)).mono ?_
  rintro e w' ⟨rfl, rfl⟩
  cases hg : great acts with
  | true =>
    clear hg
    go_wp2_with fail
    refine (alive_is w1).mono ?_
    rintro e w2 ⟨rfl, t2⟩
    go_wp2
    go_ret
    exact ⟨rfl, T1.trans t2⟩
  | false =>
  have h150 : n ≤ 150 := by rw [← HN.out]; exact great_not hg
  clear hg
  by_cases hm64 : 64 < m
  · have hm64' : (64 : Int) < (m : Nat) := by omega
    clear hm64
    go_wp2_with fail
    refine (alive_is w1).mono ?_
    rintro e w2 ⟨rfl, t2⟩
    go_wp2
    go_ret
    exact ⟨rfl, T1.trans t2⟩
  have hm64' : ¬ (64 : Int) < (m : Nat) := by omega
  have F1 : Fam w w1 [] := Fam.nil w w1 T1
  go_wp2_with fail
  refine (F1.does ad n cap acts HN.out h150 (H.out.touch T1)).mono ?_
  obtain ⟨D, hD⟩ : ∃ D, D = Dk.does acts := ⟨_, rfl⟩
  have hDs : D.seen.length = 8 := by rw [hD]; exact Dk.does_seen acts
  obtain ⟨q, hq⟩ : ∃ q, D.waits.length = q := ⟨_, rfl⟩
  have hq150 : q ≤ 150 := by rw [← hq, hD]; have := Dk.does_waits acts; have := HN.out; omega
  have HD := Lib.hid hD
  have HDs := Lib.hid hDs
  have Hq := Lib.hid hq
  have hDw6 : Hid (D.waits.length ≤ 1000000) := by show _ ≤ _; rw [Hq.out]; omega
  clear hD hDs hq
  rw [← HD.out]
  rintro e w2 ⟨d, rfl, F2⟩
  have F2 : Fam w w2 [(d, D)] := F2
  clear F1 T1
  go_wp2_with fail
  refine (F2.does ad n cap acts HN.out h150 (H.out.touch F2.end)).mono ?_
  rw [← HD.out]
  rintro e w3 ⟨x, rfl, F3⟩
  have F3 : Fam w w3 [(d, D), (x, D)] := F3
  clear F2
  obtain ⟨k, hk⟩ : ∃ k, u % 8 = k := ⟨_, rfl⟩
  have hk1 : (u : Int) % 8 = (k : Nat) := by omega
  have hk8 : k < 8 := by omega
  clear hk
  have hkD : Hid (k < D.seen.length) := by show _ < _; rw [HDs.out]; exact hk8
  have hb64 : Hid (b.length ≤ 64) := by show _ ≤ _; rw [Hb.out]; omega
  have hyes : Hid (Dk.writeR D (k : Int) b = 0 ∧ Dk.writeA D (k : Int) b = Dk.write D k b) := by
    show _ ∧ _
    have hc : (0 ≤ (k : Int) ∧ (k : Int) < D.seen.length) ∧ b.length ≤ 64 := ⟨⟨by omega, by have := hkD.out; omega⟩, hb64.out⟩
    rw [Dk.writeR, Dk.writeA, if_pos hc, if_pos hc]
    exact ⟨rfl, rfl⟩
  go_wp2_with fail
  try rw [hk1]
  refine (F3.write 1 rfl (k : Int) a m c b Hb.out Hlt.out (Hr.out.no F3.end) hDw6.out).mono ?_
  rw [hyes.out.1, hyes.out.2]
  rintro e w4 ⟨rfl, F4⟩
  obtain ⟨E, hE⟩ : ∃ E, E = Dk.write D k b := ⟨_, rfl⟩
  rw [← hE] at F4
  have F4 : Fam w w4 [(d, D), (x, E)] := F4
  have HE := Lib.hid hE
  have hEs : Hid (E.seen.length = 8) := by show _ = _; rw [HE.out]; simp only [Dk.write, List.length_set]; exact HDs.out
  have hEw : Hid (E.waits.length = q + 1) := by show _ = _; rw [HE.out]; simp only [Dk.write, List.length_append, List.length_singleton]; rw [Hq.out]
  have hEk : Hid (Dk.at_ E.seen k = ⟨Dk.pad b, 0⟩) := by show _ = _; rw [HE.out]; exact Dk.write_at hkD.out b
  have hEn : Hid (∀ i, k ≠ i → Dk.at_ E.seen i = Dk.at_ D.seen i) := fun i hi => by rw [HE.out]; exact Dk.write_at_ne hi b
  clear hE F3
  go_wp2_with fail
  refine ((F4.st 1 rfl).waits (q + 1) hEw.out).mono ?_
  rintro e w' ⟨rfl, rfl⟩
  go_wp2_with fail
  refine ((F4.st 0 rfl).waits q Hq.out).mono ?_
  rintro e w' ⟨rfl, rfl⟩
  have hqq : (((q + 1 : Nat) : Int) != (q : Int) + 1) = false := by simp
  go_wp2_with fail
  try simp only [hk1]
  clear hk1
  go_loopg [10] 8 (fun g s10 wr => ∃ (i : Nat), i + g = 8 ∧ s10 = .int .i64 ((i : Nat) : Int) ∧ Fam w wr [(d, D), (x, E)])
  case atStart => exact ⟨0, by omega, rfl, F4⟩
  case round =>
    clear F4
    obtain ⟨i, hig, rfl, F⟩ := hrel
    cases gk with
    | zero =>
      obtain rfl : i = 8 := by omega
      go_wp2
      go_ret
      exact ⟨rfl, F.end⟩
    | succ g =>
      have hlt : (i : Int) < 8 := by omega
      have hiD : Hid (i < D.seen.length) := by show _ < _; rw [HDs.out]; omega
      have hiE : Hid (i < E.seen.length) := by show _ < _; rw [hEs.out]; omega
      by_cases hik : i = k
      · subst hik
        go_wp2_with fail
        refine ((F.st 0 rfl).read_any i hiD.out).mono ?_
        rintro e w5 ⟨a5, l5, r5, rfl, R5, L5, E5, t5⟩
        have F5 := F.no t5
        clear F t5 R5 L5 E5
        go_wp2_with fail
        refine ((F5.st 1 rfl).read_any i hiE.out).mono ?_
        rw [hEk.out]
        rintro e w6 ⟨a6, l6, r6, rfl, R6, L6, E6, t6⟩
        have F6 := F5.no t6
        have e6 : r6 = 0 := E6
        have l6' : l6 = 64 := by rw [← L6]; show (b ++ List.replicate (64 - b.length) 0).length = 64; rw [List.length_append, List.length_replicate, Hb.out]; omega
        subst e6 l6'
        have R6 : Rd w6 a6 (nums .u8 (Dk.pad b)) := R6
        have L6 : (Dk.pad b).length = 64 := L6
        have HR6 := Lib.hid R6
        have HL6 := Lib.hid L6
        clear F5 t6 R6 L6 E6
        obtain ⟨I, z, hI⟩ := byte_is
        have HI := Lib.hid hI
        clear hI
        have hsub : IntKind.i64.wrap (64 - (m : Int)) = ((64 - m : Nat) : Int) := by rw [IntWalk.i64_in _ (by omega)]; omega
        have hsub2 : (64 : Int) - (m : Int) = ((64 - m : Nat) : Int) := by omega
        have Hsub2 := Lib.hid hsub2
        clear hsub2
        have Hrb := Lib.hid (Hr.out.no F6.end)
        go_wp2_with (first
          | (refine wpList_append_rd rfl _ _ _ rfl w6.heap.size 5 I z 1 Try.underlying28 HI.out.info HI.out.zero HI.out.size HI.out.bytes (by rw [HI.out.cells]; rfl) _ [] (Own.nil _ _ _) rfl a m c (nums .u8 b) rfl (by rw [nums_length, Hb.out]) Hrb.out (nums_one _ _) (by simp; unfold maxLen; omega) (by simp; omega) (Nat.le_refl _) ?_; intro v7 w7 own7 t7; have O7 := Lib.hid own7; have T7 := Lib.hid t7; clear own7 t7)
          | ((try rw [Hsub2.out]); refine wpList_append_zeros rfl _ _ _ _ rfl w6.heap.size 5 I z (.int .u8 0) 1 Try.underlying28 Try.underlying3 HI.out.info HI.out.zero HI.out.size HI.out.bytes (by rw [HI.out.cells]) rfl _ _ O7.out rfl (64 - m) rfl (by rw [List.nil_append, nums_length, Hb.out]; unfold maxLen; omega) (by rw [List.nil_append, nums_length, Hb.out]; omega) T7.out.size ?_; intro v8 w8 own8 t8; have O8 := Lib.hid own8; have T8 := Lib.hid t8; clear own8 t8))
        have hlen : ([] ++ nums .u8 b ++ List.replicate (64 - m) (Value.int .u8 0)).length = 64 := by
          rw [List.nil_append, List.length_append, nums_length, List.length_replicate, Hb.out]; omega
        have hpd : [] ++ nums .u8 b ++ List.replicate (64 - m) (Value.int .u8 0) = nums .u8 (Dk.pad b) := by
          rw [List.nil_append, Dk.pad, nums_append, Hb.out]
          simp [nums]
        obtain ⟨a8, c8, rfl, _, R8, _, _⟩ := O8.out.form' (n := 64) hlen
        rw [hpd] at R8
        have HR8 := Lib.hid R8
        have t78 : Touch No w6 w8 := (T7.out.mono (G := No) (fun k _ e => by cases e)).then T8.out (fun i hi e => by
          have := (O7.out.block e).1; omega)
        have F8 := F6.no t78
        have HR68 := Lib.hid (HR6.out.no t78)
        clear hlen hpd R8 t78 F6
        refine (sameBytes_eq w8 _ _ 64 64 c8 _ _ HL6.out HL6.out (by decide) HR68.out HR8.out).mono ?_
        rintro e w9 ⟨rfl, t9⟩
        have hsb : sameBytes (Dk.pad b) (Dk.pad b) = true := by simp [sameBytes]
        rw [hsb]
        have F9 := F8.no t9
        clear F8 t9
        go_wp2
        go_roundg g
        case measure => omega
        case rel => exact ⟨i + 1, by omega, by go_num, F9⟩
      · have hik' : ((i : Int) == (k : Nat)) = false := by simp; omega
        have Hs : Hid (Dk.at_ E.seen i = Dk.at_ D.seen i) := hEn.out i (fun h => hik h.symm)
        clear hik
        go_wp2_with fail
        refine ((F.st 0 rfl).read_any i hiD.out).mono ?_
        rintro e w5 ⟨a5, l5, r5, rfl, R5, L5, E5, t5⟩
        have F5 := F.no t5
        have HR5 := Lib.hid R5
        have HE5 := Lib.hid E5
        have HL5 := Lib.hid L5
        clear F t5 R5 E5 L5
        go_wp2_with fail
        refine ((F5.st 1 rfl).read_any i hiE.out).mono ?_
        rw [Hs.out]
        rintro e w6 ⟨a6, l6, r6, rfl, R6, L6, E6, t6⟩
        obtain rfl : l6 = l5 := L6.symm.trans HL5.out
        obtain rfl : r6 = r5 := E6.trans HE5.out.symm
        have F6 := F5.no t6
        have HR5' := Lib.hid (HR5.out.no t6)
        have HR6 := Lib.hid R6
        have HL6 := Lib.hid L6
        have l64 : Hid ((l6 : Int) ≤ 9223372036854775807) := by
          show _ ≤ _
          have := Dk.bytes_le ((F6.st 0 rfl).ok.seen _ (Dk.at_mem hiD.out))
          rw [HL6.out] at this; omega
        clear F5 t6 R6 L6 E6 HL5 HE5 HR5
        have hne : ((r6 : Int) != (r6 : Nat)) = false := by simp
        have hsb : sameBytes (Dk.bytesOf (Dk.at_ D.seen i)) (Dk.bytesOf (Dk.at_ D.seen i)) = true := by simp [sameBytes]
        go_wp2_with fail
        refine (sameBytes_eq w6 _ _ l6 l6 l6 _ _ HL6.out HL6.out l64.out HR6.out HR5'.out).mono ?_
        rintro e w7 ⟨rfl, t7⟩
        rw [hsb]
        have F7 := F6.no t7
        clear F6 t7
        go_wp2
        go_roundg g
        case measure => omega
        case rel => exact ⟨i + 1, by omega, by go_num, F7⟩
end Go.Proofs.Ytechmboimpbjpaa
